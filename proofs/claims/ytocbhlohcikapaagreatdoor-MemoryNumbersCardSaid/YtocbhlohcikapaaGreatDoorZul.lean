/-
  Words, plain lemmas and walks, merged: Mp, Mq, Mr, Ms, Mu.
-/
import Derived.Test.YtocbhlohcikapaaGreatDoorZuk
import Derived.Test.YtocbhlohcikapaaGreatDoorZuc
set_option linter.unusedVariables false
set_option linter.unusedSimpArgs false
namespace Go.Proofs.YtocbhlohcikapaaGreatDoor
section
open Go.RowKit Go.Sort Go.Shelf
theorem enc2_len (x : Nat × Nat) : (enc2 x).length = 2 := rfl
theorem encD_len (l : List (Nat × Nat)) : (encD l).length = l.length * 2 := by
 induction l with
 | nil => rfl
 | cons a l ih => unfold encD at ih ⊢; rw [List.flatMap_cons, List.length_append, ih, enc2_len, List.length_cons]; omega
theorem encD_get : ∀ (l : List (Nat × Nat)) (i : Nat) (hi : i < l.length) (j : Nat), j < 2 → (encD l)[i * 2 + j]? = (enc2 l[i])[j]?
 | [], i, hi, _, _ => by simp at hi
 | x :: l, 0, _, j, hj => by
  unfold encD
  rw [List.flatMap_cons, Nat.zero_mul, Nat.zero_add, List.getElem?_append_left (by rw [enc2_len]; exact hj)]; rfl
 | x :: l, i + 1, hi, j, hj => by
  unfold encD
  rw [List.flatMap_cons, List.getElem?_append_right (by rw [enc2_len]; omega), enc2_len, show (i + 1) * 2 + j - 2 = i * 2 + j by omega]
  exact encD_get l i (by simpa using hi) j hj
theorem own_sg2 {B e n : Nat} {w : World} {v : Value} {l : List (Nat × Nat)} (h : w.ownsRow B e 2 v n (encD l)) : ∃ p cap, v = .slice p l.length cap ∧ Sg 2 w enc2 p l := by
 have hn : l.length = n := by have := h.1; rw [encD_len] at this; omega
 rcases h.2 with ⟨rfl, h0⟩ | ⟨g, cap, cur, rfl, hg, hh, hc, hm, hs, ht⟩
 ·subst h0
  have : l = [] := List.length_eq_zero_iff.1 hn
  subst this
  exact ⟨none, 0, rfl, Sg.nil _ _ _ _⟩
 ·refine ⟨some ⟨g, 0, none⟩, cap, by rw [hn], .inr ⟨g, 0, rfl, (Array.getElem?_eq_some_iff.1 hh).1, fun i hi j hj => ?_⟩⟩
  have hij : i * 2 + j < n * 2 := by omega
  rw [Nat.zero_add, ← encD_get l i hi j hj, ← ht, List.getElem?_take, if_pos hij]
  simp [World.cell?, hh]
theorem Sg.get2 {w : World} {p : Option Addr} {l : List (Nat × Nat)} (h : Sg 2 w enc2 p l) (k : Nat) (hk : k < l.length) :
  ∃ b off, p = some ⟨b, off, none⟩ ∧ b < w.heap.size ∧ w.cell? ⟨b, off + k * 2, none⟩ = some (.int .i64 l[k].1) ∧ w.cell? ⟨b, off + k * 2 + 1, none⟩ = some (.int .i64 l[k].2) := by
 obtain ⟨b, off, hp, hb, hc⟩ := h.get k hk
 exact ⟨b, off, hp, hb, by simpa [enc2] using hc k hk 0 (by omega), by simpa [enc2] using hc k hk 1 (by omega)⟩
def DbM (W : World) (bn M : Nat) (R : Nat → List (Nat × Nat)) : Prop :=
 ∃ vs, VRow W bn 148 vs ∧ vs.length = M ∧ ∀ s (h : s < vs.length), ∃ q c, vs[s] = .slice q (R s).length c ∧ Sg 2 W enc2 q (R s)
theorem DbM.below {W W' : World} {bn M : Nat} {R : Nat → List (Nat × Nat)} (h : DbM W bn M R) (hB : RowKit.Below W.heap.size W W') : DbM W' bn M R := by
 obtain ⟨vs, h1, h2, h3⟩ := h
 refine ⟨vs, h1.below hB h1.lt, h2, fun s hs => ?_⟩
 obtain ⟨q, c, h4, h5⟩ := h3 s hs
 exact ⟨q, c, h4, h5.below hB⟩
theorem DbM.at {W : World} {bn M s : Nat} {R : Nat → List (Nat × Nat)} (h : DbM W bn M R) (hs : s < M) : ∃ q c, W.cell? ⟨bn, s, none⟩ = some (.slice q (R s).length c) ∧ Sg 2 W enc2 q (R s) := by
 obtain ⟨vs, h1, h2, h3⟩ := h
 have hs' : s < vs.length := by omega
 obtain ⟨q, c, h4, h5⟩ := h3 s hs'
 exact ⟨q, c, h1.at s (by rw [List.getElem?_eq_getElem hs', h4]), h5⟩
theorem DxR.mem {W : World} {H bn n : Nat} {vs : List Value} {R : Nat → List (Nat × Nat)} (h : DxR W H bn n vs R n) : DbM W bn n R :=
 ⟨vs, h.hd, h.len, fun s hs => own_sg2 (h.own s hs (by have := h.len; omega))⟩
theorem dend_lt {G : Gr} {N M i k : Nat} (hv : Vg G) (hN : G.n = N) (hM : M = N * N) (hi : i < G.es.length) (hk : k < G.es.length) : dend N G.es (i, k) < M := by
 have k1 := hv.ins _ (Gr.at_ hi); have k2 := hv.ins _ (Gr.at_ hk)
 rw [hM]
 show pix N (eget G.es i).t (eget G.es k).t < N * N
 exact pix_lt (by omega) (by omega) (by omega) (by omega)
set_option maxRecDepth 100000 in
set_option maxHeartbeats 1000000 in
theorem mmEnd_any (G : Gr) (p : Option Addr) (c : Nat) (vb : Value) (N : Nat) (hv : Vg G) (hN : G.n = N) (i k : Nat) (hi : i < G.es.length) (hk : k < G.es.length) (w : World) (hin : Sg 3 w edE p G.es) :
  Calls Tryz.prog 143 #[(.agg #[.int .i64 G.q, .int .i64 G.n, .slice p G.es.length c, vb]), .agg #[.int .i64 i, .int .i64 k]] w fun e w' => e = .returned (.int .i64 ((dend N G.es (i, k) : Nat) : Int)) ∧ RowKit.Below w.heap.size w w' := by
 obtain ⟨w0, hw0⟩ : ∃ w0, w0 = (w.alloc (.cells #[.int .i64 G.q, .int .i64 G.n, .slice p G.es.length c, vb] 103)).alloc (.cells #[.int .i64 i, .int .i64 k] 149) := ⟨_, rfl⟩
 have b0 : VRow w0 w.heap.size 103 [.int .i64 G.q, .int .i64 G.n, .slice p G.es.length c, vb] := by subst hw0; exact (VRow.new w _ _).alloc _
 have b1 : VRow w0 (w.heap.size + 1) 149 [.int .i64 i, .int .i64 k] := by subst hw0; exact VRow.new1 w _ _ _
 have hB0 : RowKit.Below w.heap.size w w0 := by subst hw0; exact ((RowKit.Below.refl _ _).alloc (Nat.le_refl _) _).alloc (by simp) _
 have f1 := b0.at 1 rfl; have f2 := b0.at 2 rfl
 have g0 := b1.at 0 rfl; have g1 := b1.at 1 rfl
 rw [hN] at f1
 have hin0 := hin.below hB0
 obtain ⟨b4, o4, rfl, hb4, e0, e1, e2⟩ := hin0.get3 i hi rfl
 obtain ⟨b5, o5, e', hb5, d0, d1, d2⟩ := hin0.get3 k hk rfl
 cases e'
 have vx := hv.ins _ (Gr.at_ hi); have vy := hv.ins _ (Gr.at_ hk)
 have hxe := eget_eq G.es i hi; have hye := eget_eq G.es k hk
 rw [← hxe] at e2
 rw [← hye] at d2
 have hn := hv.n2
 have hbd := pix_bd (N := N) (by omega) (show 0 ≤ (eget G.es i).t by omega) (show (eget G.es i).t < N by omega) (show 0 ≤ (eget G.es k).t by omega) (show (eget G.es k).t < N by omega)
 have HD : Hid (((dend N G.es (i, k) : Nat) : Int) = (eget G.es i).t * (N : Int) + (eget G.es k).t) := pix_at (N := N) (s := (eget G.es i).t) (t := (eget G.es k).t) (by omega) (by omega)
 have q0 : IntKind.i64.wrap ((eget G.es i).t * (N : Int)) = (eget G.es i).t * (N : Int) := IntWalk.i64_in _ (by omega)
 have q1 : IntKind.i64.wrap ((eget G.es i).t * (N : Int) + (eget G.es k).t) = (eget G.es i).t * (N : Int) + (eget G.es k).t := IntWalk.i64_in _ (by omega)
 generalize dend N G.es (i, k) = D at *
 generalize eget G.es i = x at *
 generalize eget G.es k = y at *
 have hl := hv.len
 have hiI : (i : Int) < (G.es.length : Int) := by omega
 have hkI : (k : Int) < (G.es.length : Int) := by omega
 have z0 := b0.lt; have z1 := b1.lt
 clear hxe hye vx vy hbd hv hin hin0 b0 b1 e0 e1 d0 d1 hb5 hN hn
 go_enter Tryz.func143, Tryz.ntmps143
 go_upto_region 1 with fail
 rw [← hw0]
 clear hw0
 refine region_detW (by kernel_rfl) 22 [(some 5, some (.pointer (some ⟨w.heap.size, 0, none⟩))), (some 6, some (.pointer (some ⟨w.heap.size, 2, none⟩))), (some 7, some (.slice (some ⟨b4, o4, none⟩) G.es.length c)), (some 8, some (.pointer (some ⟨w.heap.size + 1, 0, none⟩))), (some 9, some (.int .i64 (i : Int))), (some 10, some (.pointer (some ⟨b4, o4 + i * 3, none⟩))), (some 11, some (.pointer (some ⟨b4, o4 + i * 3 + 2, none⟩))), (some 12, some (.int .i64 x.t)), (some 13, some (.pointer (some ⟨w.heap.size, 0, none⟩))), (some 14, some (.pointer (some ⟨w.heap.size, 1, none⟩))), (some 15, some (.int .i64 (N : Int))), (some 16, some (.int .i64 (x.t * (N : Int)))), (some 17, some (.pointer (some ⟨w.heap.size, 0, none⟩))), (some 18, some (.pointer (some ⟨w.heap.size, 2, none⟩))), (some 19, some (.slice (some ⟨b4, o4, none⟩) G.es.length c)), (some 20, some (.pointer (some ⟨w.heap.size + 1, 1, none⟩))), (some 21, some (.int .i64 (k : Int))), (some 22, some (.pointer (some ⟨b4, o4 + k * 3, none⟩))), (some 23, some (.pointer (some ⟨b4, o4 + k * 3 + 2, none⟩))), (some 24, some (.int .i64 y.t)), (some 25, some (.int .i64 (x.t * (N : Int) + y.t))), (some 4, some (.int .i64 (x.t * (N : Int) + y.t)))]
  (fun _ _ W => RowKit.Below w0.heap.size w0 W) (by kernel_rfl) (by kernel_rfl) (by kernel_rfl) (by kernel_rfl) (below_dN (RowKit.Below.refl _ _) 1) ?_ ?_
 focus
  intro j o ho a d g W hS hdi hdn hnd hdep hout hold K hK
  have hil : j < 22 := (Array.getElem?_eq_some_iff.1 ho).1
  have hcases : j = 0 ∨ j = 1 ∨ j = 2 ∨ j = 3 ∨ j = 4 ∨ j = 5 ∨ j = 6 ∨ j = 7 ∨ j = 8 ∨ j = 9 ∨ j = 10 ∨ j = 11 ∨ j = 12 ∨ j = 13 ∨ j = 14 ∨ j = 15 ∨ j = 16 ∨ j = 17 ∨ j = 18 ∨ j = 19 ∨ j = 20 ∨ j = 21 := by omega
  clear hil
  have u2 := hout 2 (by kernel_rfl)
  have u3 := hout 3 (by kernel_rfl)
  simp at u2 u3
  clear hout
  have h1 := (hS.cell (p := ⟨w.heap.size, 1, none⟩) z0).trans f1
  have h2 := (hS.cell (p := ⟨w.heap.size, 2, none⟩) z0).trans f2
  have h3 := (hS.cell (p := ⟨w.heap.size + 1, 0, none⟩) z1).trans g0
  have h4 := (hS.cell (p := ⟨w.heap.size + 1, 1, none⟩) z1).trans g1
  have h5 := (hS.cell (p := ⟨b4, o4 + i * 3 + 2, none⟩) hb4).trans e2
  have h6 := (hS.cell (p := ⟨b4, o4 + k * 3 + 2, none⟩) hb4).trans d2
  clear f1 f2 g0 g1 e2 d2
  rcases hcases with rfl | rfl | rfl | rfl | rfl | rfl | rfl | rfl | rfl | rfl | rfl | rfl | rfl | rfl | rfl | rfl | rfl | rfl | rfl | rfl | rfl | rfl
  all_goals (simp only [List.getElem?_toArray, List.getElem?_cons_succ, List.getElem?_cons_zero, Option.some.injEq] at ho; subst ho; simp [Region.binds] at hdep; (try go_split_ands))
  all_goals (go_simp; exact hK _ _ (fun u hu => Option.some.inj hu) hS)
 intro d g W9 hS hall hf
 have hfin := hB0.trans (hS.mono hB0.size)
 simp only [putsD, List.filterMap_cons, List.filterMap_nil, Option.map_some, Option.map_none, Option.getD_some, Option.getD_none, List.foldl_cons, List.foldl_nil, Act.put, List.setIfInBounds_toArray, List.set_cons_zero, List.set_cons_succ]
 clear hf hall hS
 go_wp2_with fail
 go_ret
 exact ⟨ret_int HD.out.symm, hfin⟩
end
section
open Go.RowKit Go.Sort Go.Shelf
def inN (l : List Nat) : List Value := l.map fun (q : Nat) => Value.int .i64 (q : Int)
theorem inN_snoc (l : List Nat) (q : Nat) : inN (l ++ [q]) = inN l ++ [.int .i64 (q : Int)] := by simp [inN]
def LvM (bs : Nat) (W : World) (p : Option Addr) (l : List Nat) : Prop := l = [] ∨ ∃ b off, p = some ⟨b, off, none⟩ ∧ b ≠ bs ∧ b < W.heap.size ∧ ∀ i (h : i < l.length), W.cell? ⟨b, off + i, none⟩ = some (.int .i64 (l[i] : Int))
theorem LvM.kx {bs : Nat} {W W' : World} {p : Option Addr} {l : List Nat} (h : LvM bs W p l) (hk : KX bs W.heap.size W W') (hs : W.heap.size ≤ W'.heap.size) : LvM bs W' p l := by
 rcases h with h | ⟨b, off, h1, h2, h3, h4⟩
 ·exact .inl h
 ·exact .inr ⟨b, off, h1, h2, by omega, fun i hi => (World.cell?_of_block (w := W) (a := ⟨b, off + i, none⟩) (hk b h3 h2)).trans (h4 i hi)⟩
theorem LvM.get {bs : Nat} {W : World} {p : Option Addr} {l : List Nat} (h : LvM bs W p l) {i : Nat} (hi : i < l.length) : ∃ b off, p = some ⟨b, off, none⟩ ∧ W.cell? ⟨b, off + i, none⟩ = some (.int .i64 (l[i] : Int)) := by
 rcases h with h | ⟨b, off, h1, _, _, h4⟩
 ·subst h; simp at hi
 ·exact ⟨b, off, h1, h4 i hi⟩
theorem LvM.of_own {bs B : Nat} {W : World} {v : Value} {l : List Nat} {F : List Value} (h : W.ownsRow B 3 1 v l.length (inN l)) (hb : VRow W bs 4 F) : ∃ p c, v = .slice p l.length c ∧ LvM bs W p l := by
 have hne := own_not2 h hb (by decide)
 rcases h.2 with ⟨rfl, h0⟩ | ⟨g, cap, cur, rfl, hg, hh, hc, hm, hs, ht⟩
 ·have : l = [] := List.length_eq_zero_iff.1 h0
  subst this
  exact ⟨none, 0, rfl, .inl rfl⟩
 ·refine ⟨some ⟨g, 0, none⟩, cap, rfl, .inr ⟨g, 0, rfl, fun e => hne (by rw [← e]; rfl), (Array.getElem?_eq_some_iff.1 hh).1, fun i hi => ?_⟩⟩
  have h1 : (inN l)[i]? = some (.int .i64 (l[i] : Int)) := by simp [inN, hi]
  rw [Nat.zero_add, ← h1, ← ht, List.getElem?_take, if_pos (by omega)]
  simp [World.cell?, hh]
theorem flat_take {R : Nat → List (Nat × Nat)} {l : List Nat} {i : Nat} (h : i < l.length) : (l.take (i + 1)).flatMap R = (l.take i).flatMap R ++ R l[i] := by
 rw [List.take_succ_eq_append_getElem h, List.flatMap_append]; simp
theorem flat_split {R : Nat → List (Nat × Nat)} {l : List Nat} {i j : Nat} (h : i < l.length) (hj : j < (R l[i]).length) : ∃ m, l.flatMap R = ((l.take i).flatMap R ++ (R l[i]).take j) ++ (R l[i])[j] :: m := by
 refine ⟨(R l[i]).drop (j + 1) ++ (l.drop (i + 1)).flatMap R, ?_⟩
 have e1 : l = l.take i ++ l[i] :: l.drop (i + 1) := by rw [← List.drop_eq_getElem_cons h, List.take_append_drop]
 have e2 : R l[i] = (R l[i]).take j ++ (R l[i])[j] :: (R l[i]).drop (j + 1) := by rw [← List.drop_eq_getElem_cons hj, List.take_append_drop]
 have e3 : l.flatMap R = (l.take i).flatMap R ++ (R l[i] ++ (l.drop (i + 1)).flatMap R) := by
  have := congrArg (List.flatMap R) e1
  rw [List.flatMap_append, List.flatMap_cons] at this
  exact this
 rw [e3]
 have e4 := congrArg (fun z => (l.take i).flatMap R ++ (z ++ (l.drop (i + 1)).flatMap R)) e2
 rw [e4]; simp only [List.append_assoc, List.cons_append]
structure ShL (M : Nat) (st : List Bool × List Nat) : Prop where
 len : st.1.length = M
 lt : ∀ q ∈ st.2, q < M
 sz : st.2.length ≤ M
theorem ShI.lvl {M : Nat} {st : List Bool × List Nat} (h : ShI M st) : ShL M st := ⟨h.len, h.lt, by have := h.sz; omega⟩
structure ShM (M N : Nat) (es : List Ed) (s bs : Nat) (w0 wo : World) (se : List Bool) (pre : List (Nat × Nat)) (st' : List Bool × List Nat) (xv : Value) (wx : World) : Prop where
 own : wx.ownsRow wo.heap.size 3 1 xv st'.2.length (inN st'.2)
 row : VRow wx bs 4 (st'.1.map Value.bool)
 inv : ShI M st'
 sh : shE N es s pre (se, []) = some st'
 kx : KX bs wo.heap.size wo wx
 b : RowKit.Below w0.heap.size w0 wx
 sz : wo.heap.size ≤ wx.heap.size
section
variable {M N : Nat} {es : List Ed} {s bs : Nat} {w0 wo wx W : World} {se : List Bool} {pre : List (Nat × Nat)} {st' : List Bool × List Nat} {xv v' : Value} {e : Nat × Nat}
theorem ShM.below (h : ShM M N es s bs w0 wo se pre st' xv wx) (hB : RowKit.Below wx.heap.size wx W) : ShM M N es s bs w0 wo se pre st' xv W :=
 ⟨h.own.below hB, h.row.below hB h.row.lt, h.inv, h.sh, fun i h1 h2 => (hB.block i (by have := h.sz; omega)).trans (h.kx i h1 h2), h.b.trans (hB.mono h.b.size), Nat.le_trans h.sz hB.size⟩
theorem ShM.old (h : ShM M N es s bs w0 wo se pre st' xv wx) (he : dend N es e ≠ s) (hl : lkB st'.1 (dend N es e) = true) : ShM M N es s bs w0 wo se (pre ++ [e]) st' xv wx :=
 ⟨h.own, h.row, h.inv, shE_old h.sh he hl, h.kx, h.b, h.sz⟩
theorem ShM.push (h : ShM M N es s bs w0 wo se pre st' xv wx) (hbs : w0.heap.size ≤ bs) (hbo : bs < wo.heap.size) (he : dend N es e ≠ s) (hq : dend N es e < M) (hl : lkB st'.1 (dend N es e) = false)
  (ho : W.ownsRow wo.heap.size 3 1 v' (st'.2.length + 1) (inN st'.2 ++ [.int .i64 ((dend N es e : Nat) : Int)])) (hg : ((wx.setCell ⟨bs, dend N es e, none⟩ (.bool true)).alloc (.cells #[.int .i64 ((dend N es e : Nat) : Int)] 3)).grownBy W xv.ownBlock) :
  ShM M N es s bs w0 wo se (pre ++ [e]) (st'.1.set (dend N es e) true, st'.2 ++ [dend N es e]) v' W := by
 have hne : ∀ j, xv.ownBlock = some j → wo.heap.size ≤ j := fun j e => (h.own.lt j e).1
 have r1 : VRow (wx.setCell ⟨bs, dend N es e, none⟩ (.bool true)) bs 4 ((st'.1.map Value.bool).set (dend N es e) (.bool true)) := VRow.set (i := dend N es e) (.bool true) h.row
 refine ⟨?_, ?_, h.inv.push hq hl, shE_new h.sh he hl, fun i h1 h2 => ?_, ?_, ?_⟩
 ·show W.ownsRow _ _ _ _ (st'.2 ++ [_]).length (inN (st'.2 ++ [_]))
  rw [List.length_append, inN_snoc]; exact ho
 ·show VRow W bs 4 ((st'.1.set (dend N es e) true).map Value.bool)
  rw [List.map_set]
  exact (r1.alloc _).grown hg (fun e' => by have := hne _ e'.symm; omega)
 ·have hs := h.sz
  refine (hg.block i (by rw [World.size_alloc, World.size_setCell]; omega) (fun e' => by have := hne _ e'.symm; omega)).trans ?_
  refine (Below.heap_alloc _ _ i (by rw [World.size_setCell]; omega)).trans ?_
  exact (Below.heap_setCell _ _ _ _ h2).trans (h.kx i h1 h2)
 ·have hs := h.b.size
  refine ((h.b.setCell (p := ⟨bs, dend N es e, none⟩) hbs _).alloc (by rw [World.size_setCell]; exact hs) _).grown hg (by rw [World.size_alloc, World.size_setCell]; omega) (fun j e' => ?_)
  have := hne j e'; omega
 ·have hs := h.sz
  have := hg.size
  rw [World.size_alloc, World.size_setCell] at this; omega
end
set_option maxRecDepth 100000 in
set_option maxHeartbeats 4000000 in
theorem mmShortest_any (G : Gr) (p : Option Addr) (c M N bn s lim : Nat) (hv : Vg G) (hN : G.n = N) (hM : M = N * N) (hs : s < M) (hl1 : 1 ≤ lim) (hl2 : lim ≤ 4097) (w : World) (hin : Sg 3 w edE p G.es) (hD : DbM w bn M (dnx N G.es)) :
  Calls Tryz.prog 87 #[(.agg #[.int .i64 G.q, .int .i64 G.n, .slice p G.es.length c, .slice (some ⟨bn, 0, none⟩) M M]), .int .i64 s, .int .i64 lim] w fun e w' => e = .returned (.int .i64 ((shA N G.es s lim : Nat) : Int)) ∧ RowKit.Below w.heap.size w w' := by
 obtain ⟨i1, hi1, hy0, hy1, hy3⟩ := info_parts infoIg
 obtain ⟨i2, hi2, hx0, hx1, hx3⟩ := info_parts infoBg
 have hN64 : N ≤ 64 := by have := hv.n2; omega
 have hM4 : M ≤ 4096 := by rw [hM]; exact Nat.mul_le_mul hN64 hN64
 have hlen := hv.len
 obtain ⟨w0, hw0⟩ : ∃ w0, w0 = w.alloc (.cells #[.int .i64 G.q, .int .i64 G.n, .slice p G.es.length c, .slice (some ⟨bn, 0, none⟩) M M] 103) := ⟨_, rfl⟩
 have b0 : VRow w0 w.heap.size 103 [.int .i64 G.q, .int .i64 G.n, .slice p G.es.length c, .slice (some ⟨bn, 0, none⟩) M M] := by subst hw0; exact VRow.new w _ _
 have hB0 : RowKit.Below w.heap.size w w0 := by subst hw0; exact (RowKit.Below.refl _ _).alloc (Nat.le_refl _) _
 have HX := hidI (fun W (h : RowKit.Below w0.heap.size w0 W) => hB0.trans (h.mono hB0.size))
 have HB := hidI (fun W (h : RowKit.Below w0.heap.size w0 W) => b0.below h b0.lt)
 have HD0 := hidI (hD.below hB0)
 have HDL := hidI (fun i k (hi : i < G.es.length) (hk : k < G.es.length) => dend_lt hv hN hM hi hk)
 have HRL := hidI (fun n => dnx_len N G.es n hlen)
 have HRM := hidI (fun n x (h : x ∈ dnx N G.es n) => mem_dnx h)
 have HEND := hidI (fun i k (hi : i < G.es.length) (hk : k < G.es.length) W (h : RowKit.Below w0.heap.size w0 W) => mmEnd_any G p c (.slice (some ⟨bn, 0, none⟩) M M) N hv hN i k hi hk W ((hin.below hB0).below h))
 have f3 := b0.at 3 rfl
 have HMM := hidI hM
 clear hv hN hM hin hD
 go_enter Tryz.func87, Tryz.ntmps87
 go_upto_region 1 with fail
 rw [← hw0]
 clear hw0
 go_upto_region 2 with (at_make; refine wpList_make_full _ rfl _ _ 90 rfl w0.heap.size 4 i2 (.bool false) 1 Tryz.underlying90 hi2 hx0 hx1 .i64 .i64 _ _ M rfl rfl (by omega) (by omega) (by rw [hx3]; omega) (by unfold maxLen; omega) (Nat.le_refl _) ?_; intro w1 hown hgrow)
 have hr1 := made_rowZ (z := .bool false) rfl hown
 have hB1 : RowKit.Below w0.heap.size w0 w1 := (RowKit.Below.refl _ _).grown hgrow (Nat.le_refl _) (by simp)
 clear hown hgrow f3 b0 hB0
 obtain ⟨w2, hw2⟩ : ∃ w2, w2 = w1.alloc (.cells #[.int .i64 (s : Int)] 3) := ⟨_, rfl⟩
 have hr2 : VRow w2 w0.heap.size 4 ((List.replicate M false).map Value.bool) := by rw [List.map_replicate]; subst hw2; exact hr1.alloc _
 have hl2' : VRow w2 w1.heap.size 3 [.int .i64 (s : Int)] := by subst hw2; exact VRow.new w1 _ _
 have hB2 : RowKit.Below w0.heap.size w0 w2 := by subst hw2; exact hB1.alloc hB1.size _
 have hlv : LvM w0.heap.size w2 (some ⟨w1.heap.size, 0, none⟩) [s] := .inr ⟨_, 0, rfl, by have := hr1.lt; omega, hl2'.lt, fun i hi => by
  have : i = 0 := by simp at hi; exact hi
  subst this; exact hl2'.at 0 rfl⟩
 obtain ⟨bs, hbs⟩ : ∃ bs, bs = w0.heap.size := ⟨_, rfl⟩
 obtain ⟨bl, hbl⟩ : ∃ bl, bl = w1.heap.size := ⟨_, rfl⟩
 go_upto_region 3 with fail
 rw [← hw2, ← hbs, ← hbl]
 rw [← hbs] at hr2 hlv
 rw [← hbl] at hlv
 have HBS : Hid (w0.heap.size ≤ bs) := by unfold Hid; omega
 clear hw2 hr1 hB1 hl2' hbl hbs
 go_wp2_with fail
 go_loopw [8, 9] (fun lv nv wr => ∃ (n : Nat) (st : List Bool × List Nat) (lq : Option Addr) (lc f : Nat), 1 ≤ n ∧ n ≤ lim ∧ nv = .int .i64 n ∧ lv = .slice lq st.2.length lc ∧ LvM bs wr lq st.2 ∧ Hid (ShL M st) ∧ VRow wr bs 4 (st.1.map Value.bool) ∧ RowKit.Below w0.heap.size w0 wr ∧ Hid (lim ≤ f + n ∧ shN N G.es s lim f n st = shA N G.es s lim)) (fun _ nv _ => lim - (intOf nv).toNat)
 case atStart => exact ⟨1, (List.replicate M false, [s]), _, _, lim, by omega, by omega, rfl, rfl, hlv, ⟨by simp, fun q hq => by rw [List.mem_singleton.1 hq]; exact hs, by show 1 ≤ M; omega⟩, hr2, hB2, by omega, by unfold shA; rw [HMM.out]⟩
 case round =>
  clear hlv hr2 hB2
  obtain ⟨n, st, lq, lc, f, hn1, hnl, rfl, rfl, hlv, HL, hrow, hB, HS⟩ := hrel
  have z2 := HL.out.sz
  have hbw := hrow.lt
  by_cases hgo : n < lim ∧ st.2 ≠ []
  ·obtain ⟨hg1, hg2⟩ := hgo
   have hlp : 0 < st.2.length := List.length_pos_iff.2 hg2
   have hb1 : (n : Int) < (lim : Int) := by omega
   have hb2 : (0 : Int) < (st.2.length : Int) := by omega
   have HMET := hidI (fun h => shN_met (N := N) (es := G.es) (s := s) HS.out.1 hg1 hg2 h)
   have HSTEP := hidI (fun st' h => shN_step (N := N) (es := G.es) (s := s) (st' := st') HS.out.1 hg1 hg2 h)
   have HFN : Hid (lim ≤ (f - 1) + (n + 1)) := by have := HS.out.1; unfold Hid; omega
   rw [HS.out.2] at HMET
   have HS2 := hidI (fun st' h => (HSTEP.out st' h).symm.trans HS.out.2)
   clear HS HSTEP hg2
   obtain ⟨wo, rfl⟩ : ∃ wo : World, wo = wr := ⟨_, rfl⟩
   have hst : ShM M N G.es s bs w0 wo st.1 ((st.2.take 0).flatMap (dnx N G.es)) (st.1, []) (.slice none 0 0) wo :=
    ⟨World.ownsRow_nil _ _ _ _, hrow, ShI.start HL.out.len, rfl, KX.refl _ _ _, hB, Nat.le_refl _⟩
   have HLV := hidI hlv
   have HBW := hidI hbw
   clear hlv hrow hB hbw
   go_wp2_with fail
   go_loopw [10, 34] (fun xv iv wx => ∃ (i : Nat) (st' : List Bool × List Nat), i ≤ st.2.length ∧ iv = .int .i64 i ∧ ShM M N G.es s bs w0 wo st.1 ((st.2.take i).flatMap (dnx N G.es)) st' xv wx) (fun _ iv _ => st.2.length - (intOf iv).toNat)
   case atStart => exact ⟨0, _, by omega, rfl, hst⟩
   case round =>
    clear hst
    obtain ⟨i, st', hi, rfl, hS⟩ := hrel
    by_cases hlt : i < st.2.length
    ·have hltI : (i : Int) < (st.2.length : Int) := by omega
     obtain ⟨b4, o4, e', k4⟩ := ((HLV.out.kx hS.kx hS.sz).get hlt)
     have HLV' := HLV
     have HFT := hidI (flat_take (R := dnx N G.es) hlt)
     have HFS := hidI (fun j (hj : j < (dnx N G.es st.2[i]).length) => flat_split (R := dnx N G.es) hlt hj)
     have hqM : st.2[i] < M := HL.out.lt _ (List.getElem_mem hlt)
     obtain ⟨q, hq⟩ : ∃ q, q = st.2[i] := ⟨_, rfl⟩
     rw [← hq] at k4 HFT HFS hqM
     clear hq
     have hqI : (q : Int) < (M : Int) := by omega
     obtain ⟨r, c', hcell, hsg⟩ := HD0.out.at hqM
     obtain ⟨vs, hvs, _, _⟩ := HD0.out
     have hc1 := (hS.b.cell (p := ⟨bn, q, none⟩) hvs.lt).trans hcell
     have HSG := hidI (fun W (h : RowKit.Below w0.heap.size w0 W) => hsg.below h)
     have f3 := (HB.out wr hS.b).at 3 rfl
     have HQL := hidI (HRL.out q)
     have HQM := hidI (fun x h => HRM.out q x h)
     clear hcell hsg hvs
     generalize dnx N G.es q = Rq at *
     have hRl := HQL.out
     have hst3 : ShM M N G.es s bs w0 wo st.1 ((st.2.take i).flatMap (dnx N G.es) ++ Rq.take 0) st' u10 wr := by rw [List.take_zero, List.append_nil]; exact hS
     clear hS
     cases e'
     go_wp2_with fail
     clear k4 hc1 f3
     go_loopw [10, 44] (fun xv jv wx => ∃ (j : Nat) (st' : List Bool × List Nat), j ≤ Rq.length ∧ jv = .int .i64 j ∧ ShM M N G.es s bs w0 wo st.1 ((st.2.take i).flatMap (dnx N G.es) ++ Rq.take j) st' xv wx) (fun _ jv _ => Rq.length - (intOf jv).toNat)
     case atStart => exact ⟨0, st', by omega, rfl, hst3⟩
     case round =>
      clear hst3
      obtain ⟨j, st2, hj, rfl, hS⟩ := hrel
      by_cases hlt2 : j < Rq.length
      ·have hlt2I : (j : Int) < (Rq.length : Int) := by omega
       have hxm := HQM.out Rq[j] (List.getElem_mem hlt2)
       obtain ⟨mm, hpf⟩ := HFS.out j hlt2
       have htk : Rq.take (j + 1) = Rq.take j ++ [Rq[j]] := List.take_succ_eq_append_getElem hlt2
       obtain ⟨b6, o6, e', hb6, d0, d1⟩ := (HSG.out wr hS.b).get2 j hlt2
       cases e'
       obtain ⟨⟨xa, xb⟩, hx⟩ : ∃ x : Nat × Nat, x = Rq[j] := ⟨_, rfl⟩
       rw [← hx] at hxm hpf htk d0 d1
       have HTK := hidI htk; have HPF := hidI hpf
       clear hx htk hpf
       have HC := hidI (HEND.out xa xb hxm.1 hxm.2)
       have hdl := HDL.out xa xb hxm.1 hxm.2
       obtain ⟨W1, hW1⟩ : ∃ W1, W1 = wr.alloc (.cells #[.int .i64 (xa : Int), .int .i64 (xb : Int)] 149) := ⟨_, rfl⟩
       obtain ⟨yb, hyb⟩ : ∃ yb, yb = wr.heap.size := ⟨_, rfl⟩
       have r1 : VRow W1 yb 149 [.int .i64 (xa : Int), .int .i64 (xb : Int)] := by rw [hW1, hyb]; exact VRow.new wr _ _
       have hS1 := hS.below (W := W1) (by rw [hW1]; exact (RowKit.Below.refl _ _).alloc (Nat.le_refl _) _)
       have p0 := (HB.out W1 hS1.b).at 0 rfl; have p1 := (HB.out W1 hS1.b).at 1 rfl; have p2 := (HB.out W1 hS1.b).at 2 rfl; have p3 := (HB.out W1 hS1.b).at 3 rfl
       have r10 := r1.at 0 rfl; have r11 := r1.at 1 rfl
       clear hS hb6 hxm
       go_upto_region 13 with fail
       rw [← hW1, ← hyb]
       clear hW1 hyb d0 d1 r1
       go_wp2_with fail
       refine (HC.out W1 hS1.b).mono ?_
       rintro e w3 ⟨rfl, hB3⟩
       have hS3 := hS1.below hB3
       clear hS1 hB3 p0 p1 p2 p3 r10 r11
       have HME : Hid (dend N G.es (xa, xb) = s → shA N G.es s lim = n) := fun h => HMET.out (by rw [HPF.out]; exact shE_met hS3.sh h)
       have HOLD := hidI (fun h1 h2 => hS3.old (e := (xa, xb)) h1 h2)
       have HPSH := hidI (fun h1 h2 v' W h3 h4 => hS3.push (e := (xa, xb)) (v' := v') (W := W) HBS.out HBW.out h1 hdl h2 h3 h4)
       have hX := HX.out w3 hS3.b
       have hrow := hS3.row
       have hown := hS3.own
       have hszo := hS3.sz
       have hsz := hS3.inv.sz
       have hln := hS3.inv.len
       clear hS3
       obtain ⟨D, hD⟩ : ∃ D, D = dend N G.es (xa, xb) := ⟨_, rfl⟩
       rw [← hD] at hdl HME HOLD HPSH
       rw [← hD]
       have hDI : (D : Int) < (M : Int) := by omega
       by_cases hds : D = s
       ·have hb3 : ((D : Int) == (s : Int)) = true := by simp [hds]
        have HR := hidI (HME.out hds)
        clear HME HOLD HPSH hds hD
        go_wp2_with fail
        go_ret
        exact ⟨ret_int (by rw [HR.out]), hX⟩
       ·have hb3 : ((D : Int) == (s : Int)) = false := by simpa using (fun e : (D : Int) = (s : Int) => hds (by omega))
        have hcb := hrow.at D (v := .bool (lkB st2.1 D)) (by
         have hDl : D < st2.1.length := by omega
         rw [List.getElem?_map, List.getElem?_eq_getElem hDl, lkB_get hDl]; rfl)
        have hzb := hrow.frozen D
        have HDS := hidI hds
        clear hds HME hD
        obtain ⟨ob, hob⟩ : ∃ ob, ob = lkB st2.1 D := ⟨_, rfl⟩
        rw [← hob] at hcb
        cases ob
        ·have hnew := cell_one_at (w3.setCell ⟨bs, D, none⟩ (.bool true)) (.int .i64 (D : Int)) 3 w3.heap.size (by rw [World.size_setCell])
         have hoB : ((w3.setCell ⟨bs, D, none⟩ (.bool true)).alloc (.cells #[.int .i64 (D : Int)] 3)).ownsRow wo.heap.size 3 1 u10 st2.2.length (inN st2.2) := (ownsRow_setCell_other hown (a := ⟨bs, D, none⟩) (fun e => own_not2 hown hrow (by decide) e.symm) _).alloc _
         clear hown hrow
         have HPS := hidI (HPSH.out HDS.out hob.symm)
         clear HPSH HOLD hob
         go_upto_region 18 with fail
         clear hcb hzb
         obtain ⟨w4, hw4⟩ : ∃ w4, w4 = w3.setCell ⟨bs, D, none⟩ (.bool true) := ⟨_, rfl⟩
         have hs4 : w4.heap.size = w3.heap.size := by rw [hw4, World.size_setCell]
         rw [← hw4] at hnew hoB HPS
         rw [← hw4]
         clear hw4
         rw [← hs4] at hnew hszo
         clear hs4
         go_wp2_with (at_builtin; refine wpList_append_own _ rfl _ _ 30 rfl wo.heap.size 3 i1 (.int .i64 0) 1 8 Tryz.underlying30 hi1 hy0 hy1 hy3 rfl (by decide) _ _ _ rfl hoB ⟨w4.heap.size, 0, none⟩ 1 1 [.int .i64 (D : Int)] rfl rfl hnew (by simp [Value.oneCell']) (by simp [maxLen]; omega) (by omega) (by simp; omega) ?_; intro v' w9 hown' hgrow _)
         have hS9 := HPS.out v' w9 hown' hgrow
         go_roundw
         case rel => exact ⟨j + 1, _, by omega, by go_num, by rw [HTK.out, ← List.append_assoc]; exact hS9⟩
         case measure => simp [intOf]; omega
        ·have hS9 := HOLD.out HDS.out hob.symm
         clear HPSH hown hrow HOLD hob
         go_wp2_with fail
         go_roundw
         case rel => exact ⟨j + 1, _, by omega, by go_num, by rw [HTK.out, ← List.append_assoc]; exact hS9⟩
         case measure => simp [intOf]; omega
      ·obtain rfl : j = Rq.length := by omega
       have hlt2I : ¬ (Rq.length : Int) < (Rq.length : Int) := by omega
       rw [List.take_length, ← HFT.out] at hS
       go_wp2_with fail
       go_roundw
       case rel => exact ⟨i + 1, st2, by omega, by go_num, hS⟩
       case measure => simp [intOf]; omega
    ·obtain rfl : i = st.2.length := by omega
     have hltI : ¬ (st.2.length : Int) < (st.2.length : Int) := by omega
     rw [List.take_length] at hS
     have hB9 := hS.b
     have hr9 := hS.row
     have HLN : Hid (ShL M st') := hS.inv.lvl
     have HSN := hidI (HS2.out st' hS.sh)
     obtain ⟨lq2, lc2, rfl, hlv2⟩ := LvM.of_own hS.own hS.row
     clear hS
     go_wp2_with fail
     go_roundw
     case rel => exact ⟨n + 1, st', lq2, lc2, f - 1, by omega, by omega, by go_num, rfl, hlv2, HLN, hr9, hB9, HFN.out, HSN.out⟩
     case measure => simp [intOf]; omega
  ·have HR : Hid (shA N G.es s lim = lim) := HS.out.2.symm.trans (shN_stop hgo)
   have hX := HX.out wr hB
   by_cases hg1 : n < lim
   ·have hb1 : (n : Int) < (lim : Int) := by omega
    have hl0 : st.2.length = 0 := by
     rcases Nat.eq_zero_or_pos st.2.length with e | e
     ·exact e
     ·exact absurd ⟨hg1, List.length_pos_iff.1 e⟩ hgo
    have hb2 : ¬ (0 : Int) < (st.2.length : Int) := by omega
    clear hl0 hgo
    go_wp2_with fail
    go_ret
    exact ⟨ret_int (by rw [HR.out]), hX⟩
   ·have hb1 : ¬ (n : Int) < (lim : Int) := by omega
    clear hgo
    go_wp2_with fail
    go_ret
    exact ⟨ret_int (by rw [HR.out]), hX⟩
end
section
open Go.RowKit Go.Sort Go.Shelf
theorem isAggP (w : World) : (isAgg 149).run Tryz.prog w = .ok true w := by kernel_rfl
theorem sizeOfP (w : World) : (Go.sizeOf 149).run Tryz.prog w = .ok 2 w := by kernel_rfl
theorem idx_find {α β : Type} [Inhabited α] (g : α → β) (f : β → Bool) (d : α) (e : β) : ∀ (zs : List α) (i : Nat), (zs.map g).find? f = some e → ∃ k, (zs.map g)[k]? = some e ∧ Lib.idxByFrom (fun _ y => f (g y)) d zs i = ((i + k : Nat) : Int)
 | [], _, h => by simp at h
 | z :: zs, i, h => by
  rw [List.map_cons] at h ⊢
  by_cases hz : f (g z) = true
  ·rw [List.find?_cons_of_pos hz] at h
   cases h
   exact ⟨0, rfl, by rw [Lib.idxByFrom, if_pos hz]; rfl⟩
  ·rw [List.find?_cons_of_neg hz] at h
   obtain ⟨k, h1, h2⟩ := idx_find g f d e zs (i + 1) h
   exact ⟨k + 1, by simpa using h1, by rw [Lib.idxByFrom, if_neg hz, h2]; congr 1; omega⟩
theorem attach_bang {l : List (Nat × Nat)} [Inhabited {x // x ∈ l}] {j : Nat} (hj : j < l.length) : (l.attach[j]!).1 = l[j] := by
 rw [getElem!_pos l.attach j (by simpa using hj)]; simp
theorem pairs_bang {w : World} {b off : Nat} {l : List (Nat × Nat)} [Inhabited {x // x ∈ l}] (hc : ∀ i (h : i < l.length) j, j < 2 → w.cell? ⟨b, off + i * 2 + j, none⟩ = (enc2 l[i])[j]?) :
  ∀ j, j < l.attach.length → ∀ i v, (enc2 (l.attach[j]!).1)[i]? = some v → w.cell? ⟨b, off + j * 2 + i, none⟩ = some v := fun j hj i v hv => by
 have hj' : j < l.length := by simpa using hj
 rw [attach_bang hj'] at hv
 have hi : i < 2 := by
  have := (List.getElem?_eq_some_iff.1 hv).1
  simpa [enc2] using this
 rw [hc j hj' i hi, hv]
theorem any_attach (l : List (Nat × Nat)) (f : Nat × Nat → Bool) : l.attach.any (fun x => f x.1) = l.any f := by
 have := List.any_map (f := Subtype.val) (p := f) (l := l.attach)
 rw [List.attach_map_subtype_val] at this
 exact this.symm
set_option maxHeartbeats 1000000 in
theorem indexW_nil (p : Option Addr) (c : Nat) (fv : Value) (w : World) : Calls Tryz.prog 146 #[.slice p 0 c, fv] w fun e w' => e = .returned (.int .i64 (-1)) ∧ w' = w := by
 go_enter Tryz.func146, Tryz.ntmps146
 go_wp2
 go_loopw [8] (fun iv wr => iv = .int .i64 0 ∧ wr = w) (fun _ _ => 0)
 case atStart => exact ⟨rfl, rfl⟩
 case round =>
  obtain ⟨rfl, rfl⟩ := hrel
  go_wp2
  go_ret
  exact ⟨rfl, rfl⟩
set_option maxHeartbeats 1000000 in
theorem containsW_any (f : Nat × Nat → Bool) (g : Nat) (lb : Array Value) (eg : ∀ args w, (callFunc g args).run Tryz.prog w = .ok (.enter g args) w) (l : List (Nat × Nat)) (p : Option Addr) (c : Nat) (w : World)
  (hp : ∀ (W : World) (x : Nat × Nat), x ∈ l → RowKit.Below w.heap.size w W → Calls Tryz.prog g (#[.agg #[.int .i64 x.1, .int .i64 x.2]] ++ lb) W fun e w' => e = .returned (.bool (f x)) ∧ RowKit.Below W.heap.size W w')
  (hl : Sg 2 w enc2 p l) (hb : l.length ≤ 1048576) :
  Calls Tryz.prog 144 #[.slice p l.length c, .func (.func g) #[] lb] w fun e w' => e = .returned (.bool (l.any f)) ∧ RowKit.Below w.heap.size w w' := by
 by_cases h0 : 0 < l.length
 ·obtain ⟨b, off, rfl, hlt, hc⟩ := hl.get 0 h0
  letI : Inhabited {x // x ∈ l} := ⟨⟨l[0], List.getElem_mem h0⟩⟩
  have h := Tryz.slices_ContainsFunc_f144 (α := {x // x ∈ l}) 2 isAggP sizeOfP (fun x => enc2 x.1) (fun _ => rfl) (fun x => f x.1) g lb eg b off l.length c l.attach w
   (fun W x hB => (hp W x.1 x.2 hB).mono (fun e w' h => ⟨h.1, hB.trans (h.2.mono hB.size)⟩)) (by simp) (by omega) hlt (pairs_bang hc)
  refine Calls.mono h ?_
  rintro e w' ⟨rfl, hB⟩
  rw [List.take_of_length_le (by simp), any_attach]
  exact ⟨rfl, hB⟩
 ·have hl0 : l = [] := List.length_eq_zero_iff.1 (by omega)
  subst hl0
  go_enter Tryz.func144, Tryz.ntmps144
  go_wp2_with fail
  refine (indexW_nil p c _ w).mono ?_
  rintro e w' ⟨rfl, rfl⟩
  go_wp2
  go_ret
  exact ⟨rfl, RowKit.Below.refl _ _⟩
theorem indexW_any (f : Nat × Nat → Bool) (g : Nat) (lb : Array Value) (eg : ∀ args w, (callFunc g args).run Tryz.prog w = .ok (.enter g args) w) (l : List (Nat × Nat)) (p : Option Addr) (c : Nat) (w : World) (e0 : Nat × Nat) (he : l.find? f = some e0)
  (hp : ∀ (W : World) (x : Nat × Nat), x ∈ l → RowKit.Below w.heap.size w W → Calls Tryz.prog g (#[.agg #[.int .i64 x.1, .int .i64 x.2]] ++ lb) W fun e w' => e = .returned (.bool (f x)) ∧ RowKit.Below W.heap.size W w')
  (hl : Sg 2 w enc2 p l) (hb : l.length ≤ 1048576) :
  Calls Tryz.prog 146 #[.slice p l.length c, .func (.func g) #[] lb] w fun e w' => ∃ k : Nat, l[k]? = some e0 ∧ e = .returned (.int .i64 (k : Int)) ∧ RowKit.Below w.heap.size w w' := by
 have h0 : 0 < l.length := List.length_pos_iff.2 (fun e => by subst e; simp at he)
 obtain ⟨b, off, rfl, hlt, hc⟩ := hl.get 0 h0
 letI : Inhabited {x // x ∈ l} := ⟨⟨l[0], List.getElem_mem h0⟩⟩
 have h := Tryz.slices_IndexFunc (α := {x // x ∈ l}) 2 isAggP sizeOfP (fun x => enc2 x.1) (fun _ => rfl) (fun x => f x.1) g lb eg b off l.length c l.attach w
  (fun W x hB => (hp W x.1 x.2 hB).mono (fun e w' h => ⟨h.1, hB.trans (h.2.mono hB.size)⟩)) (by simp) (by omega) hlt (pairs_bang hc)
 refine Calls.mono h ?_
 rintro e w' ⟨rfl, hB⟩
 rw [List.take_of_length_le (by simp)]
 obtain ⟨k, h1, h2⟩ := idx_find (Subtype.val : {x // x ∈ l} → Nat × Nat) f default e0 l.attach 0 (by rw [List.attach_map_subtype_val]; exact he)
 rw [List.attach_map_subtype_val] at h1
 exact ⟨k, h1, by unfold Lib.idxBy; rw [h2, Nat.zero_add], hB⟩
set_option maxRecDepth 100000 in
set_option maxHeartbeats 1000000 in
theorem mmCycle1_any (G : Gr) (p : Option Addr) (c M N bn : Nat) (hv : Vg G) (hN : G.n = N) (hM : M = N * N) (B8 B9 B3 bc br K k : Nat) (rows : List Value) (F : List Bool) (hK : K ≤ 5000) (hkK : k < K) (hF : F.length = M) (w : World) (hin : Sg 3 w edE p G.es)
  (h8 : VRow w B8 94 [.slice (some ⟨bc, 0, none⟩) K K]) (h9 : VRow w B9 3 [.int .i64 ((k : Int) + 1)]) (h3 : VRow w B3 103 [.int .i64 G.q, .int .i64 G.n, .slice p G.es.length c, .slice (some ⟨bn, 0, none⟩) M M]) (hc : VRow w bc 90 rows) (hr : rows[k]? = some (.slice (some ⟨br, 0, none⟩) M M)) (hb : VRow w br 4 (F.map Value.bool))
  (x : Nat × Nat) (hx1 : x.1 < G.es.length) (hx2 : x.2 < G.es.length) :
  Calls Tryz.prog 145 (#[.agg #[.int .i64 x.1, .int .i64 x.2]] ++ #[.pointer (some ⟨B8, 0, none⟩), .pointer (some ⟨B9, 0, none⟩), .pointer (some ⟨B3, 0, none⟩)]) w fun e w' => e = .returned (.bool (lkB F (dend N G.es x))) ∧ RowKit.Below w.heap.size w w' := by
 obtain ⟨w0, hw0⟩ : ∃ w0, w0 = w.alloc (.cells #[.int .i64 (x.1 : Int), .int .i64 (x.2 : Int)] 149) := ⟨_, rfl⟩
 have b1 : VRow w0 w.heap.size 149 [.int .i64 (x.1 : Int), .int .i64 (x.2 : Int)] := by subst hw0; exact VRow.new w _ _
 have hB0 : RowKit.Below w.heap.size w w0 := by subst hw0; exact (RowKit.Below.refl _ _).alloc (Nat.le_refl _) _
 have HEND := hidI (fun W (h : RowKit.Below w0.heap.size w0 W) => mmEnd_any G p c (.slice (some ⟨bn, 0, none⟩) M M) N hv hN x.1 x.2 hx1 hx2 W ((hin.below hB0).below h))
 have hdl := dend_lt hv hN hM hx1 hx2
 rw [show dend N G.es x = dend N G.es (x.1, x.2) from rfl]
 generalize dend N G.es (x.1, x.2) = D at *
 have hDI : (D : Int) < (M : Int) := by omega
 have hkI : (k : Int) < (K : Int) := by omega
 have q0 : IntKind.i64.wrap ((k : Int) + 1 - 1) = (k : Int) := by rw [IntWalk.i64_in _ (by omega)]; omega
 have q1 : IntKind.i64.wrap (k : Int) = (k : Int) := IntWalk.i64_in _ (by omega)
 have a8 := h8.below hB0 h8.lt; have a9 := h9.below hB0 h9.lt; have a3 := h3.below hB0 h3.lt; have ac := hc.below hB0 hc.lt; have ab := hb.below hB0 hb.lt
 have hrD : (F.map Value.bool)[D]? = some (.bool (lkB F D)) := by
  have hDl : D < F.length := by omega
  rw [List.getElem?_map, List.getElem?_eq_getElem hDl, lkB_get hDl]; rfl
 have HRD := hidI hrD; have HR := hidI hr
 generalize lkB F D = ans at *
 clear hv hN hM hin h8 h9 h3 hc hb hrD hr hF hdl hx1 hx2
 go_enter Tryz.func145, Tryz.ntmps145
 go_upto_region 1 with fail
 rw [← hw0]
 clear hw0
 refine region_detW (by kernel_rfl) 11 [(some 6, some (.slice (some ⟨bc, 0, none⟩) K K)), (some 7, some (.int .i64 ((k : Int) + 1))), (some 8, some (.int .i64 (k : Int))), (some 9, some (.pointer (some ⟨bc, k, none⟩))), (some 10, some (.slice (some ⟨br, 0, none⟩) M M)), (some 11, some (.agg #[.int .i64 G.q, .int .i64 G.n, .slice p G.es.length c, .slice (some ⟨bn, 0, none⟩) M M])), (some 12, some (.agg #[.int .i64 (x.1 : Int), .int .i64 (x.2 : Int)])), (some 13, some (.int .i64 (D : Int))), (some 14, some (.pointer (some ⟨br, D, none⟩))), (some 15, some (.bool ans)), (some 5, some (.bool ans))]
  (fun _ _ W => RowKit.Below w0.heap.size w0 W) (by kernel_rfl) (by kernel_rfl) (by kernel_rfl) (by kernel_rfl) (below_dN (RowKit.Below.refl _ _) 1) ?_ ?_
 focus
  intro j o ho a d g W hS hdi hdn hnd hdep hout hold KK hK
  have hil : j < 11 := (Array.getElem?_eq_some_iff.1 ho).1
  have hcases : j = 0 ∨ j = 1 ∨ j = 2 ∨ j = 3 ∨ j = 4 ∨ j = 5 ∨ j = 6 ∨ j = 7 ∨ j = 8 ∨ j = 9 ∨ j = 10 := by omega
  clear hil
  have u1 := hout 1 (by kernel_rfl)
  have u2 := hout 2 (by kernel_rfl)
  have u3 := hout 3 (by kernel_rfl)
  have u4 := hout 4 (by kernel_rfl)
  simp at u1 u2 u3 u4
  clear hout
  have c8 := (a8.below hS a8.lt).at 0 rfl
  have c9 := (a9.below hS a9.lt).at 0 rfl
  have d0 := (a3.below hS a3.lt).at 0 rfl; have d1 := (a3.below hS a3.lt).at 1 rfl; have d2 := (a3.below hS a3.lt).at 2 rfl; have d3 := (a3.below hS a3.lt).at 3 rfl
  have cc := (ac.below hS ac.lt).at k HR.out
  have cb := (ab.below hS ab.lt).at D HRD.out
  have f0 := (b1.below hS b1.lt).at 0 rfl; have f1 := (b1.below hS b1.lt).at 1 rfl
  clear a8 a9 a3 ac ab b1
  rcases hcases with rfl | rfl | rfl | rfl | rfl | rfl | rfl | rfl | rfl | rfl | rfl
  all_goals (simp only [List.getElem?_toArray, List.getElem?_cons_succ, List.getElem?_cons_zero, Option.some.injEq] at ho; subst ho; simp [Region.binds] at hdep; (try go_split_ands))
  ·go_simp; exact hK _ _ (fun u hu => Option.some.inj hu) hS
  ·go_simp; exact hK _ _ (fun u hu => Option.some.inj hu) hS
  ·go_simp; exact hK _ _ (fun u hu => Option.some.inj hu) hS
  ·go_simp; exact hK _ _ (fun u hu => Option.some.inj hu) hS
  ·go_simp; exact hK _ _ (fun u hu => Option.some.inj hu) hS
  ·go_simp; exact hK _ _ (fun u hu => Option.some.inj hu) hS
  ·go_simp; exact hK _ _ (fun u hu => Option.some.inj hu) hS
  ·go_simp
   refine (HEND.out W hS).mono ?_
   rintro e wk ⟨rfl, hBk⟩
   exact hK _ _ (fun u hu => by rw [← Option.some.inj hu]) (hS.trans (hBk.mono hS.size))
  ·go_simp; exact hK _ _ (fun u hu => Option.some.inj hu) hS
  ·go_simp; exact hK _ _ (fun u hu => Option.some.inj hu) hS
  ·go_simp; exact hK _ _ (fun u hu => Option.some.inj hu) hS
 intro d g W9 hS hall hf
 have hfin := hB0.trans (hS.mono hB0.size)
 simp only [putsD, List.filterMap_cons, List.filterMap_nil, Option.map_some, Option.map_none, Option.getD_some, Option.getD_none, List.foldl_cons, List.foldl_nil, Act.put, List.setIfInBounds_toArray, List.set_cons_zero, List.set_cons_succ]
 clear hf hall hS
 go_wp2_with fail
 go_ret
 exact ⟨rfl, hfin⟩
set_option maxRecDepth 100000 in
set_option maxHeartbeats 1000000 in
theorem mmCycle2_any (G : Gr) (p : Option Addr) (c M N bn : Nat) (hv : Vg G) (hN : G.n = N) (hM : M = N * N) (B8 B9 B3 bc br K k : Nat) (rows : List Value) (F : List Bool) (hK : K ≤ 5000) (hkK : k < K) (hF : F.length = M) (w : World) (hin : Sg 3 w edE p G.es)
  (h8 : VRow w B8 94 [.slice (some ⟨bc, 0, none⟩) K K]) (h9 : VRow w B9 3 [.int .i64 (k : Int)]) (h3 : VRow w B3 103 [.int .i64 G.q, .int .i64 G.n, .slice p G.es.length c, .slice (some ⟨bn, 0, none⟩) M M]) (hc : VRow w bc 90 rows) (hr : rows[k]? = some (.slice (some ⟨br, 0, none⟩) M M)) (hb : VRow w br 4 (F.map Value.bool))
  (x : Nat × Nat) (hx1 : x.1 < G.es.length) (hx2 : x.2 < G.es.length) :
  Calls Tryz.prog 147 (#[.agg #[.int .i64 x.1, .int .i64 x.2]] ++ #[.pointer (some ⟨B8, 0, none⟩), .pointer (some ⟨B9, 0, none⟩), .pointer (some ⟨B3, 0, none⟩)]) w fun e w' => e = .returned (.bool (lkB F (dend N G.es x))) ∧ RowKit.Below w.heap.size w w' := by
 obtain ⟨w0, hw0⟩ : ∃ w0, w0 = w.alloc (.cells #[.int .i64 (x.1 : Int), .int .i64 (x.2 : Int)] 149) := ⟨_, rfl⟩
 have b1 : VRow w0 w.heap.size 149 [.int .i64 (x.1 : Int), .int .i64 (x.2 : Int)] := by subst hw0; exact VRow.new w _ _
 have hB0 : RowKit.Below w.heap.size w w0 := by subst hw0; exact (RowKit.Below.refl _ _).alloc (Nat.le_refl _) _
 have HEND := hidI (fun W (h : RowKit.Below w0.heap.size w0 W) => mmEnd_any G p c (.slice (some ⟨bn, 0, none⟩) M M) N hv hN x.1 x.2 hx1 hx2 W ((hin.below hB0).below h))
 have hdl := dend_lt hv hN hM hx1 hx2
 rw [show dend N G.es x = dend N G.es (x.1, x.2) from rfl]
 generalize dend N G.es (x.1, x.2) = D at *
 have hDI : (D : Int) < (M : Int) := by omega
 have hkI : (k : Int) < (K : Int) := by omega
 have q0 : IntKind.i64.wrap ((k : Int) + 1 - 1) = (k : Int) := by rw [IntWalk.i64_in _ (by omega)]; omega
 have q1 : IntKind.i64.wrap (k : Int) = (k : Int) := IntWalk.i64_in _ (by omega)
 have a8 := h8.below hB0 h8.lt; have a9 := h9.below hB0 h9.lt; have a3 := h3.below hB0 h3.lt; have ac := hc.below hB0 hc.lt; have ab := hb.below hB0 hb.lt
 have hrD : (F.map Value.bool)[D]? = some (.bool (lkB F D)) := by
  have hDl : D < F.length := by omega
  rw [List.getElem?_map, List.getElem?_eq_getElem hDl, lkB_get hDl]; rfl
 have HRD := hidI hrD; have HR := hidI hr
 generalize lkB F D = ans at *
 clear hv hN hM hin h8 h9 h3 hc hb hrD hr hF hdl hx1 hx2
 go_enter Tryz.func147, Tryz.ntmps147
 go_upto_region 1 with fail
 rw [← hw0]
 clear hw0
 refine region_detW (by kernel_rfl) 10 [(some 6, some (.slice (some ⟨bc, 0, none⟩) K K)), (some 7, some (.int .i64 (k : Int))), (some 8, some (.pointer (some ⟨bc, k, none⟩))), (some 9, some (.slice (some ⟨br, 0, none⟩) M M)), (some 10, some (.agg #[.int .i64 G.q, .int .i64 G.n, .slice p G.es.length c, .slice (some ⟨bn, 0, none⟩) M M])), (some 11, some (.agg #[.int .i64 (x.1 : Int), .int .i64 (x.2 : Int)])), (some 12, some (.int .i64 (D : Int))), (some 13, some (.pointer (some ⟨br, D, none⟩))), (some 14, some (.bool ans)), (some 5, some (.bool ans))]
  (fun _ _ W => RowKit.Below w0.heap.size w0 W) (by kernel_rfl) (by kernel_rfl) (by kernel_rfl) (by kernel_rfl) (below_dN (RowKit.Below.refl _ _) 1) ?_ ?_
 focus
  intro j o ho a d g W hS hdi hdn hnd hdep hout hold KK hK
  have hil : j < 10 := (Array.getElem?_eq_some_iff.1 ho).1
  have hcases : j = 0 ∨ j = 1 ∨ j = 2 ∨ j = 3 ∨ j = 4 ∨ j = 5 ∨ j = 6 ∨ j = 7 ∨ j = 8 ∨ j = 9 := by omega
  clear hil
  have u1 := hout 1 (by kernel_rfl)
  have u2 := hout 2 (by kernel_rfl)
  have u3 := hout 3 (by kernel_rfl)
  have u4 := hout 4 (by kernel_rfl)
  simp at u1 u2 u3 u4
  clear hout
  have c8 := (a8.below hS a8.lt).at 0 rfl
  have c9 := (a9.below hS a9.lt).at 0 rfl
  have d0 := (a3.below hS a3.lt).at 0 rfl; have d1 := (a3.below hS a3.lt).at 1 rfl; have d2 := (a3.below hS a3.lt).at 2 rfl; have d3 := (a3.below hS a3.lt).at 3 rfl
  have cc := (ac.below hS ac.lt).at k HR.out
  have cb := (ab.below hS ab.lt).at D HRD.out
  have f0 := (b1.below hS b1.lt).at 0 rfl; have f1 := (b1.below hS b1.lt).at 1 rfl
  clear a8 a9 a3 ac ab b1
  rcases hcases with rfl | rfl | rfl | rfl | rfl | rfl | rfl | rfl | rfl | rfl
  all_goals (simp only [List.getElem?_toArray, List.getElem?_cons_succ, List.getElem?_cons_zero, Option.some.injEq] at ho; subst ho; simp [Region.binds] at hdep; (try go_split_ands))
  ·go_simp; exact hK _ _ (fun u hu => Option.some.inj hu) hS
  ·go_simp; exact hK _ _ (fun u hu => Option.some.inj hu) hS
  ·go_simp; exact hK _ _ (fun u hu => Option.some.inj hu) hS
  ·go_simp; exact hK _ _ (fun u hu => Option.some.inj hu) hS
  ·go_simp; exact hK _ _ (fun u hu => Option.some.inj hu) hS
  ·go_simp; exact hK _ _ (fun u hu => Option.some.inj hu) hS
  ·go_simp
   refine (HEND.out W hS).mono ?_
   rintro e wk ⟨rfl, hBk⟩
   exact hK _ _ (fun u hu => by rw [← Option.some.inj hu]) (hS.trans (hBk.mono hS.size))
  ·go_simp; exact hK _ _ (fun u hu => Option.some.inj hu) hS
  ·go_simp; exact hK _ _ (fun u hu => Option.some.inj hu) hS
  ·go_simp; exact hK _ _ (fun u hu => Option.some.inj hu) hS
 intro d g W9 hS hall hf
 have hfin := hB0.trans (hS.mono hB0.size)
 simp only [putsD, List.filterMap_cons, List.filterMap_nil, Option.map_some, Option.map_none, Option.getD_some, Option.getD_none, List.foldl_cons, List.foldl_nil, Act.put, List.setIfInBounds_toArray, List.set_cons_zero, List.set_cons_succ]
 clear hf hall hS
 go_wp2_with fail
 go_ret
 exact ⟨rfl, hfin⟩
end
section
open Go.RowKit Go.Sort Go.Shelf
theorem infoCb : (Tryz.prog.info? 90).map (fun i => (i.zero, i.size, i.bytes)) = some (some (.slice none 0 0), 1, 24) := by kernel_rfl
def parF (F : List Bool) (p : Nat) : List Bool := F.take p ++ List.replicate (F.length - p) false
theorem parF_len {F : List Bool} {p : Nat} (h : p ≤ F.length) : (parF F p).length = F.length := by unfold parF; simp; omega
theorem parF_zero (F : List Bool) : parF F 0 = List.replicate F.length false := by unfold parF; simp
theorem parF_all (F : List Bool) : parF F F.length = F := by unfold parF; simp
theorem parF_set {F : List Bool} {p : Nat} (h : p < F.length) : (parF F p).set p (lkB F p) = parF F (p + 1) := by
 unfold parF
 have e : F.length - p = (F.length - (p + 1)) + 1 := by omega
 have hl : (F.take p).length = p := by rw [List.length_take]; omega
 rw [e, List.replicate_succ, List.set_append_right _ _ (by omega), hl, Nat.sub_self, List.set_cons_zero, lkB_get h, List.take_succ_eq_append_getElem h, List.append_assoc]; rfl
structure CyM (w0 : World) (B8 B9 bc K M : Nat) (kv : Int) (rows : List Value) (br : Nat → Nat) (F : Nat → List Bool) (m : Nat) (W : World) : Prop where
 b : RowKit.Below w0.heap.size w0 W
 b8 : VRow W B8 94 [.slice (some ⟨bc, 0, none⟩) K K]
 b9 : VRow W B9 3 [.int .i64 kv]
 hd : VRow W bc 90 rows
 len : rows.length = K
 row : ∀ i, i < m → rows[i]? = some (.slice (some ⟨br i, 0, none⟩) M M)
 mem : ∀ i, i < m → VRow W (br i) 4 ((F i).map Value.bool)
 ne : ∀ i j, i < m → j < m → i ≠ j → br i ≠ br j
 hle : ∀ i, i < m → w0.heap.size ≤ br i
 hc : w0.heap.size ≤ bc
 h9 : w0.heap.size ≤ B9
section
variable {w0 W W' : World} {B8 B9 bc K M : Nat} {kv : Int} {rows : List Value} {br : Nat → Nat} {F : Nat → List Bool} {m : Nat}
theorem CyM.below (h : CyM w0 B8 B9 bc K M kv rows br F m W) (hB : RowKit.Below W.heap.size W W') : CyM w0 B8 B9 bc K M kv rows br F m W' :=
 ⟨h.b.trans (hB.mono h.b.size), h.b8.below hB h.b8.lt, h.b9.below hB h.b9.lt, h.hd.below hB h.hd.lt, h.len, h.row, fun i hi => (h.mem i hi).below hB (h.mem i hi).lt, h.ne, h.hle, h.hc, h.h9⟩
theorem CyM.add {b : Nat} {F0 : List Bool} (h : CyM w0 B8 B9 bc K M kv rows br F m W) (hm : m < K) (hb : ∀ i, i < m → br i ≠ b) (hb0 : w0.heap.size ≤ b) (hr : VRow W b 4 (F0.map Value.bool)) :
  CyM w0 B8 B9 bc K M kv (rows.set m (.slice (some ⟨b, 0, none⟩) M M)) (fun i => if i = m then b else br i) (fun i => if i = m then F0 else F i) (m + 1) (W.setCell ⟨bc, m, none⟩ (.slice (some ⟨b, 0, none⟩) M M)) where
 b := h.b.setCell (p := ⟨bc, m, none⟩) h.hc _
 b8 := h.b8.other _ (row_ne h.b8 h.hd (by decide))
 b9 := h.b9.other _ (row_ne h.b9 h.hd (by decide))
 hd := h.hd.set (i := m) _
 len := by rw [List.length_set]; exact h.len
 row := fun i hi => by
  by_cases e : i = m
  ·subst e; rw [if_pos rfl, List.getElem?_set_self (by rw [h.len]; exact hm)]
  ·rw [if_neg e, List.getElem?_set_ne (fun e' => e e'.symm)]; exact h.row i (by omega)
 mem := fun i hi => by
  by_cases e : i = m
  ·subst e; rw [if_pos rfl, if_pos rfl]; exact hr.other _ (row_ne hr h.hd (by decide))
  ·rw [if_neg e, if_neg e]; exact (h.mem i (by omega)).other _ (row_ne (h.mem i (by omega)) h.hd (by decide))
 ne := fun i j hi hj hij => by
  by_cases e : i = m
  ·subst e
   rw [if_pos rfl, if_neg (fun e' => hij e'.symm)]
   exact fun e' => hb j (by omega) e'.symm
  ·rw [if_neg e]
   by_cases e2 : j = m
   ·subst e2; rw [if_pos rfl]; exact hb i (by omega)
   ·rw [if_neg e2]; exact h.ne i j (by omega) (by omega) hij
 hle := fun i hi => by
  by_cases e : i = m
  ·rw [if_pos e]; exact hb0
  ·rw [if_neg e]; exact h.hle i (by omega)
 hc := h.hc
 h9 := h.h9
theorem CyM.put {j i : Nat} {v : Bool} (h : CyM w0 B8 B9 bc K M kv rows br F m W) (hi : i < m) :
  CyM w0 B8 B9 bc K M kv rows br (fun k => if k = i then (F i).set j v else F k) m (W.setCell ⟨br i, j, none⟩ (.bool v)) where
 b := h.b.setCell (p := ⟨br i, j, none⟩) (h.hle i hi) _
 b8 := h.b8.other _ (row_ne h.b8 (h.mem i hi) (by decide))
 b9 := h.b9.other _ (row_ne h.b9 (h.mem i hi) (by decide))
 hd := h.hd.other _ (row_ne h.hd (h.mem i hi) (by decide))
 len := h.len
 row := h.row
 mem := fun k hk => by
  by_cases e : k = i
  ·subst e; rw [if_pos rfl, List.map_set]; exact VRow.set (i := j) (.bool v) (h.mem k hk)
  ·rw [if_neg e]; exact (h.mem k hk).other _ (h.ne k i hk hi e)
 ne := h.ne
 hle := h.hle
 hc := h.hc
 h9 := h.h9
theorem CyM.num (h : CyM w0 B8 B9 bc K M kv rows br F m W) (kv' : Int) : CyM w0 B8 B9 bc K M kv' rows br F m (W.setCell ⟨B9, 0, none⟩ (.int .i64 kv')) where
 b := h.b.setCell (p := ⟨B9, 0, none⟩) h.h9 _
 b8 := h.b8.other _ (row_ne h.b8 h.b9 (by decide))
 b9 := VRow.set (i := 0) (.int .i64 kv') h.b9
 hd := h.hd.other _ (row_ne h.hd h.b9 (by decide))
 len := h.len
 row := h.row
 mem := fun k hk => (h.mem k hk).other _ (row_ne (h.mem k hk) h.b9 (by decide))
 ne := h.ne
 hle := h.hle
 hc := h.hc
 h9 := h.h9
theorem CyM.box {kv' : Int} {B : Nat} (h : CyM w0 B8 B9 bc K M kv rows br F m W) (hb : VRow W B 3 [.int .i64 kv']) (h0 : w0.heap.size ≤ B) : CyM w0 B8 B bc K M kv' rows br F m W :=
 ⟨h.b, h.b8, hb, h.hd, h.len, h.row, h.mem, h.ne, h.hle, h.hc, h0⟩
theorem CyM.cong {F' : Nat → List Bool} (h : CyM w0 B8 B9 bc K M kv rows br F m W) (e : ∀ i, i < m → F' i = F i) : CyM w0 B8 B9 bc K M kv rows br F' m W :=
 ⟨h.b, h.b8, h.b9, h.hd, h.len, h.row, fun i hi => by rw [e i hi]; exact h.mem i hi, h.ne, h.hle, h.hc, h.h9⟩
end
structure Kp4 (W0 : World) (bc k M : Nat) (dn : Bool) (fr : Option Value) (W : World) : Prop where
 p : dn = false → RowKit.Below W0.heap.size W0 W
 m : dn = false → ∀ v, fr = some v → ∃ b, v = .slice (some ⟨b, 0, none⟩) M M ∧ W0.heap.size ≤ b ∧ VRow W b 4 (List.replicate M (.bool false))
 q : dn = true → ∃ V b, RowKit.Below W0.heap.size W0 V ∧ W0.heap.size ≤ b ∧ VRow V b 4 (List.replicate M (.bool false)) ∧ W = V.setCell ⟨bc, k, none⟩ (.slice (some ⟨b, 0, none⟩) M M)
theorem Kp4.start (W0 : World) (bc k M : Nat) : Kp4 W0 bc k M false none { W0 with drawn := W0.drawn + 1 } :=
 ⟨fun _ => below_dN (RowKit.Below.refl _ _) 1, (fun _ _ e => by cases e), (fun e => by cases e)⟩
theorem Kp4.make {W0 W : World} {bc k M : Nat} {cs : Array Value} (h : Kp4 W0 bc k M false none W) (hc : cs = (List.replicate M (Value.bool false)).toArray) : Kp4 W0 bc k M false (some (.slice (some ⟨W.heap.size, 0, none⟩) M M)) (W.alloc (.cells cs 4)) := by
 subst hc
 exact ⟨fun _ => (h.p rfl).alloc (h.p rfl).size _, fun _ v hv => ⟨W.heap.size, by cases hv; rfl, (h.p rfl).size, VRow.new W _ _⟩, (fun e => by cases e)⟩
theorem Kp4.store {W0 W : World} {bc k M b : Nat} (h : Kp4 W0 bc k M false (some (.slice (some ⟨b, 0, none⟩) M M)) W) : Kp4 W0 bc k M true (some (.slice (some ⟨b, 0, none⟩) M M)) (W.setCell ⟨bc, k, none⟩ (.slice (some ⟨b, 0, none⟩) M M)) := by
 obtain ⟨b', e, h1, h2⟩ := h.m rfl _ rfl
 cases e
 exact ⟨(fun e => by cases e), (fun e => by cases e), fun _ => ⟨W, b, h.p rfl, h1, h2, rfl⟩⟩
def Kp5 (W2 : World) (bo j : Nat) (v dn : Bool) (W' : World) : Prop := ∃ W3, RowKit.Below W2.heap.size W2 W3 ∧ W' = if dn = true then W3.setCell ⟨bo, j, none⟩ (.bool v) else W3
end
section
open Go.RowKit Go.Sort Go.Shelf
structure ApS (H S B : Nat) (v : Value) (A : List Value) (n : Nat) (x : Int) (fB fA : Option Value) (W : World) : Prop where
 bl : ∀ u, fB = some u → ∃ b, u = .slice (some ⟨b, 0, none⟩) 1 1 ∧ S ≤ b ∧ VRow W b 3 [.int .i64 x]
 pre : fA = none → W.ownsRow H 3 1 v n A
 post : ∀ u, fA = some u → ∃ g cap, u = .slice (some ⟨g, 0, none⟩) (n + 1) cap ∧ W.ownsRow H 3 1 u (n + 1) (A ++ [.int .i64 x]) ∧ (v.ownBlock = some g ∨ S ≤ g)
section
variable {H S B n : Nat} {v : Value} {A : List Value} {x : Int} {fB fA : Option Value} {W W' : World}
theorem ApS.below (h : ApS H S B v A n x fB fA W) (hB : RowKit.Below W.heap.size W W') : ApS H S B v A n x fB fA W' :=
 ⟨fun u hu => let ⟨b, h1, h2, h3⟩ := h.bl u hu; ⟨b, h1, h2, h3.below hB h3.lt⟩, fun e => (h.pre e).below hB, fun u hu => let ⟨g, cap, h1, h2, h3⟩ := h.post u hu; ⟨g, cap, h1, h2.below hB, h3⟩⟩
theorem ApS.grown {r : Option Nat} (h : ApS H S B v A n x fB fA W) (hg : W.grownBy W' r) (hr : ∀ j, r = some j → j < S ∧ v.ownBlock ≠ some j) : ApS H S B v A n x fB fA W' := by
 refine ⟨fun u hu => ?_, fun e => ?_, fun u hu => ?_⟩
 ·obtain ⟨b, h1, h2, h3⟩ := h.bl u hu
  exact ⟨b, h1, h2, h3.grown hg (fun e => by have := (hr b e.symm).1; omega)⟩
 ·refine (h.pre e).kept hg ?_
  cases hr' : v.ownBlock with
  | none => exact .inl rfl
  | some j => exact .inr (fun e2 => (hr j e2.symm).2 hr')
 ·obtain ⟨g, cap, h1, h2, h3⟩ := h.post u hu
  refine ⟨g, cap, h1, h2.kept hg ?_, h3⟩
  subst h1
  refine .inr (fun e2 => ?_)
  have e3 : r = some g := e2.symm
  rcases h3 with h3 | h3
  ·exact (hr g e3).2 h3
  ·have := (hr g e3).1; omega
theorem ApS.build (h : ApS H S B v A n x none fA W) (hS : S ≤ W.heap.size) : ApS H S B v A n x (some (.slice (some ⟨W.heap.size, 0, none⟩) 1 1)) fA (W.alloc (.cells #[.int .i64 x] 3)) :=
 ⟨fun u hu => ⟨W.heap.size, by cases hu; rfl, hS, VRow.new W _ _⟩, fun e => (h.pre e).alloc _, fun u hu => let ⟨g, cap, h1, h2, h3⟩ := h.post u hu; ⟨g, cap, h1, h2.alloc _, h3⟩⟩
theorem ApS.app {g cap : Nat} (h : ApS H S B v A n x fB none W) (hS : S ≤ W.heap.size) (hv : ∀ j, v.ownBlock = some j → j < S) (ho : W'.ownsRow H 3 1 (.slice (some ⟨g, 0, none⟩) (n + 1) cap) (n + 1) (A ++ [.int .i64 x])) (hg : W.grownBy W' v.ownBlock) (hat : v.ownBlock = some g ∨ g = W.heap.size) :
  ApS H S B v A n x fB (some (.slice (some ⟨g, 0, none⟩) (n + 1) cap)) W' := by
 refine ⟨fun u hu => ?_, (fun e => by cases e), fun u hu => ⟨g, cap, by cases hu; rfl, by cases hu; exact ho, by rcases hat with e | e; exact .inl e; exact .inr (by omega)⟩⟩
 obtain ⟨b, h1, h2, h3⟩ := h.bl u hu
 exact ⟨b, h1, h2, h3.grown hg (fun e => by have := hv b e.symm; omega)⟩
end
structure Kp6 (H B Be : Nat) (z : Int) (ev : List Value) (W0 : World) (va vb : Value) (A C : List Value) (n : Nat) (x y : Int) (f96 f97 f101 f102 : Option Value) (W : World) : Prop where
 b : RowKit.Below H W0 W
 sz : W0.heap.size ≤ W.heap.size
 z : VRow W B 3 [.int .i64 z]
 e : VRow W Be 149 ev
 a : ApS H W0.heap.size B va A n x f96 f97 W
 c : ApS H W0.heap.size B vb C n y f101 f102 W
 ne : ∀ u t, f97 = some u → f102 = some t → NEI u t
structure Kq6 (H B : Nat) (W0 : World) (va vb : Value) : Prop where
 a : ∀ j, va.ownBlock = some j → j < W0.heap.size ∧ j ≠ B ∧ vb.ownBlock ≠ some j
 c : ∀ j, vb.ownBlock = some j → j < W0.heap.size ∧ j ≠ B ∧ va.ownBlock ≠ some j
 bb : B < W0.heap.size
 h : H ≤ W0.heap.size
section
variable {H B Be n : Nat} {z x y : Int} {ev : List Value} {W0 W W' : World} {va vb : Value} {A C : List Value} {f96 f97 f101 f102 : Option Value}
theorem Kp6.below (h : Kp6 H B Be z ev W0 va vb A C n x y f96 f97 f101 f102 W) (hq : Kq6 H B W0 va vb) (hB : RowKit.Below W.heap.size W W') : Kp6 H B Be z ev W0 va vb A C n x y f96 f97 f101 f102 W' :=
 ⟨h.b.trans (hB.mono (by have := h.sz; have := hq.h; omega)), Nat.le_trans h.sz hB.size, h.z.below hB h.z.lt, h.e.below hB h.e.lt, h.a.below hB, h.c.below hB, h.ne⟩
theorem Kp6.buildA (h : Kp6 H B Be z ev W0 va vb A C n x y none f97 f101 f102 W) (hq : Kq6 H B W0 va vb) : Kp6 H B Be z ev W0 va vb A C n x y (some (.slice (some ⟨W.heap.size, 0, none⟩) 1 1)) f97 f101 f102 (W.alloc (.cells #[.int .i64 x] 3)) := by
 have hB : RowKit.Below W.heap.size W (W.alloc (.cells #[.int .i64 x] 3)) := (RowKit.Below.refl _ _).alloc (Nat.le_refl _) _
 exact ⟨h.b.trans (hB.mono (by have := h.sz; have := hq.h; omega)), Nat.le_trans h.sz hB.size, h.z.below hB h.z.lt, h.e.below hB h.e.lt, h.a.build h.sz, h.c.below hB, h.ne⟩
theorem Kp6.buildC (h : Kp6 H B Be z ev W0 va vb A C n x y f96 f97 none f102 W) (hq : Kq6 H B W0 va vb) : Kp6 H B Be z ev W0 va vb A C n x y f96 f97 (some (.slice (some ⟨W.heap.size, 0, none⟩) 1 1)) f102 (W.alloc (.cells #[.int .i64 y] 3)) := by
 have hB : RowKit.Below W.heap.size W (W.alloc (.cells #[.int .i64 y] 3)) := (RowKit.Below.refl _ _).alloc (Nat.le_refl _) _
 exact ⟨h.b.trans (hB.mono (by have := h.sz; have := hq.h; omega)), Nat.le_trans h.sz hB.size, h.z.below hB h.z.lt, h.e.below hB h.e.lt, h.a.below hB, h.c.build h.sz, h.ne⟩
theorem Kp6.appA {g cap : Nat} (h : Kp6 H B Be z ev W0 va vb A C n x y f96 none f101 f102 W) (hq : Kq6 H B W0 va vb) (hH : ∀ j, va.ownBlock = some j → H ≤ j)
  (ho : W'.ownsRow H 3 1 (.slice (some ⟨g, 0, none⟩) (n + 1) cap) (n + 1) (A ++ [.int .i64 x])) (hg : W.grownBy W' va.ownBlock) (hat : va.ownBlock = some g ∨ g = W.heap.size) :
  Kp6 H B Be z ev W0 va vb A C n x y f96 (some (.slice (some ⟨g, 0, none⟩) (n + 1) cap)) f101 f102 W' := by
 refine ⟨h.b.grown hg (by have := h.sz; have := hq.h; omega) hH, Nat.le_trans h.sz hg.size, h.z.grown hg (fun e => (hq.a B e.symm).2.1 rfl), h.e.grown hg (own_not2 (h.a.pre rfl) h.e (by decide)), h.a.app h.sz (fun j e => (hq.a j e).1) ho hg hat, h.c.grown hg (fun j e => ⟨(hq.a j e).1, (hq.a j e).2.2⟩), fun u t hu ht => ?_⟩
 cases hu
 obtain ⟨g2, cap2, rfl, h2, h3⟩ := h.c.post t ht
 intro j hj hj2
 have e1 : g = j := by simpa [Value.ownBlock] using hj
 have e2 : g2 = j := by simpa [Value.ownBlock] using hj2
 rw [e1] at hat
 rw [e2] at h3 h2
 have hlt := (h2.lt j (by rfl)).2
 rcases hat with e | e
 ·rcases h3 with e3 | e3
  ·exact (hq.a j e).2.2 e3
  ·have := (hq.a j e).1; omega
 ·omega
theorem Kp6.appC {g cap : Nat} (h : Kp6 H B Be z ev W0 va vb A C n x y f96 f97 f101 none W) (hq : Kq6 H B W0 va vb) (hH : ∀ j, vb.ownBlock = some j → H ≤ j)
  (ho : W'.ownsRow H 3 1 (.slice (some ⟨g, 0, none⟩) (n + 1) cap) (n + 1) (C ++ [.int .i64 y])) (hg : W.grownBy W' vb.ownBlock) (hat : vb.ownBlock = some g ∨ g = W.heap.size) :
  Kp6 H B Be z ev W0 va vb A C n x y f96 f97 f101 (some (.slice (some ⟨g, 0, none⟩) (n + 1) cap)) W' := by
 refine ⟨h.b.grown hg (by have := h.sz; have := hq.h; omega) hH, Nat.le_trans h.sz hg.size, h.z.grown hg (fun e => (hq.c B e.symm).2.1 rfl), h.e.grown hg (own_not2 (h.c.pre rfl) h.e (by decide)), h.a.grown hg (fun j e => ⟨(hq.c j e).1, (hq.c j e).2.2⟩), h.c.app h.sz (fun j e => (hq.c j e).1) ho hg hat, fun u t hu ht => ?_⟩
 cases ht
 obtain ⟨g2, cap2, rfl, h2, h3⟩ := h.a.post u hu
 intro j hj hj2
 have e1 : g = j := by simpa [Value.ownBlock] using hj2
 have e2 : g2 = j := by simpa [Value.ownBlock] using hj
 rw [e1] at hat
 rw [e2] at h3 h2
 have hlt := (h2.lt j (by rfl)).2
 rcases hat with e | e
 ·rcases h3 with e3 | e3
  ·exact (hq.c j e).2.2 e3
  ·have := (hq.c j e).1; omega
 ·omega
end
structure Kr6 (H B Be : Nat) (z : Int) (ev : List Value) (W0 : World) (va vb : Value) (A C : List Value) (n : Nat) (x y : Int) (f12 f13 f96 f97 f101 f102 : Option Value) (W : World) : Prop where
 k : Kp6 H B Be z ev W0 va vb A C n x y f96 f97 f101 f102 W
 l : ∀ v, f12 = some v → f97 = some v
 r : ∀ v, f13 = some v → f102 = some v
end
end Go.Proofs.YtocbhlohcikapaaGreatDoor
