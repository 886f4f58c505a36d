/-
  Words, plain lemmas and walks, merged: Ik, ShelfR, Hr, Il, Np, Nx, Hk, Hs, Mk, Hy, Hj, Ny, Nu, Nz, Ob, Sa, Ic, Td, Ta.
-/
import Derived.Test.YtocbhlohcikapaaGreatDoorZuh
import Derived.Ground.SlgqProg
import Derived.Ground.SlgfProg
import Derived.Shelf.SlicesQ.IndexFunc
import Derived.Shelf.SlicesQ.Contains
import Derived.Test.YtocbhlohcikapaaGreatDoorProg
import Derived.Test.YtocbhlohcikapaaGreatDoorZua
import Derived.Test.YtocbhlohcikapaaGreatDoorZuc
import Derived.Test.YtocbhlohcikapaaGreatDoorZud
import Derived.Test.YtocbhlohcikapaaGreatDoorZub
import Derived.Sort.OwnSortedInts
import Derived.Lib.SlicesCompact
import Derived.RangeFuncLeaves
import Derived.Test.YtocbhlohcikapaaGreatDoorZue
import Derived.Shelf.Strconv.Itoa3
set_option linter.unusedVariables false
set_option linter.unusedSimpArgs false
namespace Go.Proofs.YtocbhlohcikapaaGreatDoor
section
open Go.RowKit Go.Shelf
attribute [local go_sem] Oper.semAt_some
def KCs (W W' : World) : Prop := ∀ (i : Nat) (cur : Array Value) (t : TypeId) (fz : Nat × Nat), W.heap[i]? = some (.cells cur t fz) → W'.heap[i]? = some (.cells cur t fz)
theorem KCs.below {X Y : World} (h : RowKit.Below X.heap.size X Y) : KCs X Y := fun i _ _ _ e => (h.block i (Array.getElem?_eq_some_iff.1 e).1).trans e
theorem KCs.grown {X Y : World} {row : Option Nat} (hg : X.grownBy Y row) (hr : ∀ r, row = some r → ∃ o : Obj, X.heap[r]? = some o ∧ o.isCells = false) : KCs X Y := fun i c t f e =>
 (hg.block i (Array.getElem?_eq_some_iff.1 e).1 (fun er => by
  obtain ⟨o, ho, hc⟩ := hr i er.symm
  rw [e] at ho; cases ho; cases hc)).trans e
theorem KCs.vrow {X Y : World} {B : Nat} {t : TypeId} {l : List Value} (h : KCs X Y) (r : VRow X B t l) : VRow Y B t l := h _ _ _ _ r
theorem KCs.own {X Y : World} {B e s n : Nat} {v : Value} {xs : List Value} (h : KCs X Y) (ho : X.ownsRow B e s v n xs) : Y.ownsRow B e s v n xs := by
 refine ⟨ho.1, ho.2.imp id ?_⟩
 rintro ⟨g, cap, cur, e1, e2, e3, e4⟩
 exact ⟨g, cap, cur, e1, e2, h _ _ _ _ e3, e4⟩
theorem slj_ty {X Y : World} {p : Option Addr} {l : List Int} (h : ∀ (i : Nat) (cur : Array Value) (fz : Nat × Nat), X.heap[i]? = some (.cells cur 3 fz) → Y.heap[i]? = some (.cells cur 3 fz)) (hs : SlJ X p l) : SlJ Y p l := by
 obtain ⟨h1, h2⟩ := hs
 refine ⟨h1.imp id ?_, fun b o z hp => by obtain ⟨c, f, hb⟩ := h2 b o z hp; exact ⟨c, f, h _ _ _ hb⟩⟩
 rintro ⟨b, o, rfl, hb, hc⟩
 obtain ⟨c, f, hb'⟩ := h2 b o none rfl
 have e' := (h _ _ _ hb').trans hb'.symm
 exact ⟨b, o, rfl, (Array.getElem?_eq_some_iff.1 (h _ _ _ hb')).1, fun i hi => (World.cell?_of_block (w := X) (a := ⟨b, o + i, none⟩) e').trans (hc i hi)⟩
theorem KCs.slj {X Y : World} {p : Option Addr} {l : List Int} (h : KCs X Y) (hs : SlJ X p l) : SlJ Y p l := slj_ty (fun i c f e => h i c _ f e) hs
def lcV (x : LEc) : Value := .slice x.2.1 x.1.length x.2.2
def LLj (W : World) (p : Option Addr) (L : List (List Int)) : Prop := ∃ X : List LEc, X.map (·.1) = L ∧ Sl W lcV p X ∧ ∀ x ∈ X, SlJ W x.2.1 x.1
theorem LLj.below {W W' : World} {p : Option Addr} {L : List (List Int)} (h : LLj W p L) (hB : RowKit.Below W.heap.size W W') : LLj W' p L := by
 obtain ⟨X, h1, h2, h3⟩ := h
 exact ⟨X, h1, h2.below hB, fun x hx => (KCs.below hB).slj (h3 x hx)⟩
theorem LLj.get {W : World} {p : Option Addr} {L : List (List Int)} (h : LLj W p L) (k : Nat) (hk : k < L.length) : ∃ b o q d, p = some ⟨b, o, none⟩ ∧ b < W.heap.size ∧ W.cell? ⟨b, o + k, none⟩ = some (.slice q L[k].length d) ∧ SlJ W q L[k] := by
 obtain ⟨X, rfl, h2, h3⟩ := h
 have hX : k < X.length := by simpa using hk
 obtain ⟨b, o, rfl, hb, hc⟩ := h2.get k hX
 refine ⟨b, o, X[k].2.1, X[k].2.2, rfl, hb, ?_, ?_⟩
 ·rw [hc k hX, List.getElem_map]; rfl
 ·rw [List.getElem_map]; exact h3 _ (List.getElem_mem hX)
def RetLL (L : List (List Int)) (k : Int) (w : World) (e : Ending) (w' : World) : Prop := ∃ p c, e = .returned (.tuple #[.slice p L.length c, .int .i64 k]) ∧ LLj w' p L ∧ RowKit.Below w.heap.size w w'
theorem RetLL.nil {L : List (List Int)} {k : Int} {w w' : World} (h : L = []) (hB : RowKit.Below w.heap.size w w') : RetLL L k w (.returned (.tuple #[.slice none 0 0, .int .i64 k])) w' := by
 subst h; exact ⟨none, 0, rfl, ⟨[], rfl, Sl.nil _ _ _, fun x hx => by cases hx⟩, hB⟩
theorem comps_in (F : Fence) (n : Nat) (hf : F.fn 171) (hro : F.round = none) (g : Value) (q m : Int) (p : Option Addr) (k c : Nat) (hg : g = .agg #[.int .i64 q, .int .i64 m, .slice p k c]) (w : World) :
  CallsIn F n Tryz.prog 171 #[g] w fun e w' => e = .returned (.func (.func 204) #[] #[.pointer (some ⟨w.heap.size, 0, none⟩)]) ∧ w' = w.alloc (.cells #[.int .i64 q, .int .i64 m, .slice p k c] 24) := by
 subst hg
 refine callsIn_of_wp Tryz.func171 rfl hf ?_ hro
 simp only [Tryz.ntmps171, List.size_toArray, List.length_cons, List.length_nil, Nat.reduceAdd, Nat.reduceSub, Array.replicate_succ, Array.replicate_zero, List.push_toArray, List.append_toArray, List.nil_append, List.cons_append]
 gi_wp2
 go_ret
 exact ⟨rfl, rfl⟩
theorem comps_seq (n : Nat) (hn : 1 ≤ n) (G : Gr) (p : Option Addr) (c Bg : Nat) (hv : Vg G) (w : World) (hg : VRow w Bg 24 [.int .i64 G.q, .int .i64 G.n, .slice p G.es.length c]) (hin : Sg 3 w edE p G.es) :
  SeqRows Fence.wide n Tryz.prog 204 #[.pointer (some ⟨Bg, 0, none⟩)] encC (PxC 64) KpC (fun xs => xs.map (·.1) = compsA G) 64 w := fun l J W hW hJ hY h0 =>
 comps1_in n hn l G p c Bg hv J hJ hY W (hg.below hW hg.lt) (hin.below hW) h0
def fltC (hp : List Int → Bool) (pre : List LEc) : List LEc := pre.filter (fun x => hp x.1)
structure SomI (w w1 : World) (hp : List Int → Bool) (hv : Value) (pre : List LEc) (W : World) : Prop where
 b3 : VRow W (w.heap.size + 1) 51 [hv]
 bo : ∃ v, VRow W w1.heap.size 47 [v] ∧ W.ownsRow (w1.heap.size + 1) 30 1 v (fltC hp pre).length ((fltC hp pre).map lcV)
 el : ∀ x ∈ pre, SlJ W x.2.1 x.1
 b : RowKit.Below w.heap.size w W
theorem SomI.kc {w w1 : World} {hp : List Int → Bool} {hv : Value} {pre : List LEc} {W W' : World} (h : SomI w w1 hp hv pre W) (k : KCs W W') (hb : RowKit.Below w.heap.size w W') : SomI w w1 hp hv pre W' := by
 obtain ⟨v, h1, h2⟩ := h.bo
 exact ⟨k.vrow h.b3, ⟨v, k.vrow h1, k.own h2⟩, fun x hx => k.slj (h.el x hx), hb⟩
set_option maxRecDepth 100000 in
set_option maxHeartbeats 4000000 in
theorem some_in (G : Gr) (p : Option Addr) (c hi : Nat) (hb : Array Value) (hp : List Int → Bool) (w : World) (hin : Sg 3 w edE p G.es) (hv : Vg G) (eg : ∀ args w, (callFunc hi args).run Tryz.prog w = .ok (.enter hi args) w)
  (hH : ∀ (x : LEc) W, RowKit.Below w.heap.size w W → PxC 64 x W → Calls Tryz.prog hi (#[lcV x] ++ hb) W fun e W' => e = .returned (.bool (hp x.1)) ∧ RowKit.Below W.heap.size W W') :
  CallsIn Fence.wide 9 Tryz.prog 115 #[(.agg #[.int .i64 G.q, .int .i64 G.n, .slice p G.es.length c]), .func (.func hi) #[] hb] w (RetLL ((compsA G).filter hp) 0 w) := by
 have HIN := hidI hin; have HV := hidI hv; have HH := hidI hH
 have hl := hv.len
 have infoLs : (Tryz.prog.info? 30).map (fun i => (i.zero, i.size, i.bytes)) = some (some (.slice none 0 0), 1, 24) := by kernel_rfl
 obtain ⟨i0, hi0, hz0, hz1, hz3⟩ := info_parts infoLs
 clear infoLs hin hv hH
 obtain ⟨w0, hw0⟩ : ∃ w0, w0 = (w.alloc (.cells #[.int .i64 G.q, .int .i64 G.n, .slice p G.es.length c] 24)).alloc (.cells #[(.func (.func hi) #[] hb)] 51) := ⟨_, rfl⟩
 have b0 : VRow w0 w.heap.size 24 [.int .i64 G.q, .int .i64 G.n, .slice p G.es.length c] := by subst hw0; exact (VRow.new w _ _).alloc _
 have b3 : VRow w0 (w.heap.size + 1) 51 [(.func (.func hi) #[] hb)] := by subst hw0; exact VRow.new1 w _ _ _
 have hB0 : RowKit.Below w.heap.size w w0 := by subst hw0; exact ((RowKit.Below.refl _ _).alloc (Nat.le_refl _) _).alloc (by simp) _
 refine callsIn_of_wp_marks Tryz.func115 rfl trivial ?_ rfl
 simp only [Tryz.ntmps115, List.size_toArray, List.length_cons, List.length_nil, Nat.reduceAdd, Nat.reduceSub, Array.replicate_succ, Array.replicate_zero, List.push_toArray, List.append_toArray, List.nil_append, List.cons_append]
 have HW0 := hidI hw0.symm
 clear hw0
 have c0 : VRow ((w.alloc (.cells #[.int .i64 G.q, .int .i64 G.n, .slice p G.es.length c] 24)).alloc (.cells #[(.func (.func hi) #[] hb)] 51)) w.heap.size 24 [.int .i64 G.q, .int .i64 G.n, .slice p G.es.length c] := (VRow.new w _ _).alloc _
 have f0 := c0.at 0 rfl; have f1 := c0.at 1 rfl; have f2 := c0.at 2 rfl
 gi_wp2_with (refine ⟨trivial, ?_⟩; gi_at_call 73)
 rw [HW0.out]
 refine (callsIn_wide.2 (gCheck_r G p c _ 0 (chkG_ok.2 HV.out) (HIN.out.below hB0) (by omega))).mono ?_
 rintro e w1 ⟨rfl, hB1⟩
 have x1 := hB0.trans (hB1.mono hB0.size)
 have d0 := b0.below hB1 b0.lt
 have d3 := b3.below hB1 b3.lt
 clear f0 f1 f2 c0 b0 b3 hB1 HW0
 have da := d0.alloc (.cells #[.slice none 0 0] 47)
 have f0 := da.at 0 rfl; have f1 := da.at 1 rfl; have f2 := da.at 2 rfl
 gi_wp2_with (refine ⟨trivial, ?_⟩; gi_at_call 171)
 refine (comps_in Fence.wide 8 trivial rfl _ G.q G.n p G.es.length c rfl _).mono ?_
 rintro e w' ⟨rfl, rfl⟩
 clear f0 f1 f2
 gi_wp2
 obtain ⟨W0, hW0⟩ : ∃ W0, W0 = (w1.alloc (.cells #[.slice none 0 0] 47)).alloc (.cells #[.int .i64 G.q, .int .i64 G.n, .slice p G.es.length c] 24) := ⟨_, rfl⟩
 have a0 : VRow W0 w1.heap.size 47 [.slice none 0 0] := by subst hW0; exact (VRow.new w1 _ _).alloc _
 have a1 : VRow W0 (w1.heap.size + 1) 24 [.int .i64 G.q, .int .i64 G.n, .slice p G.es.length c] := by subst hW0; exact VRow.new1 w1 _ _ _
 have a3 : VRow W0 (w.heap.size + 1) 51 [(.func (.func hi) #[] hb)] := by subst hW0; exact (d3.alloc _).alloc _
 have hxw := x1.size
 have x2 : RowKit.Below w.heap.size w W0 := by subst hW0; exact (x1.alloc x1.size _).alloc (by simp; omega) _
 have hsz : W0.heap.size = w1.heap.size + 2 := by subst hW0; simp
 have hsg := HIN.out.below x2
 rw [← hW0]
 clear hW0
 refine' wpIn_rows rfl (by omega) (gf := 204) (lb := #[.pointer (some ⟨w1.heap.size + 1, 0, none⟩)]) rfl trivial (enters_of Tryz.func204 (by kernel_rfl) rfl)
  (comps_seq 8 (by omega) G p c (w1.heap.size + 1) HV.out W0 a1 hsg) (fun _ => rfl) KpC.trans (fun W l o o' _ hl ho => KpC.put W l o o' hl ho)
  (SomI w w1 hp (.func (.func hi) #[] hb)) (fun s X Y row h hg hr => ?_) (fun s X Y row h hg hr => ?_) (fun xs V V' h hB => ?_) ?_ _ ?assign ?body ?done
 ·refine h.kc (KCs.grown hg (fun r e => (hr r e).2)) ?_
  exact ownFrom_below (β := Unit) (Nat.le_refl w.heap.size) (Nat.le_refl _) () X Y row h.b hg (fun r e => ⟨by have := (hr r e).1; omega, (hr r e).2⟩)
 ·exact ⟨(KCs.grown hg (fun r e => (hr r e).2)).slj h.1, h.2⟩
 ·exact h.kc (KCs.below hB) (h.b.trans (hB.mono h.b.size))
 ·exact ⟨a3, ⟨_, a0, World.ownsRow_nil _ _ _ _⟩, (fun x hx => by cases hx), x2⟩
 case assign =>
  intro l x W K hK
  unfold encC
  gi_wp2
  exact hK
 case body =>
  rintro l pre x W hll ⟨k3, ⟨v, ko, hown⟩, hel, hB⟩ hPx hlen
  have c3 := k3.at 0 rfl
  have HC := hidI (HH.out x W hB hPx)
  unfold lcV at HC
  gi_wp2_with fail
  refine ⟨trivial, ?_⟩
  refine ((callsIn_wide.2 HC.out).inRound l).mono ?_
  rintro e W2 ⟨rfl, hB2⟩
  have e3 := k3.below hB2 k3.lt
  have eo := ko.below hB2 ko.lt
  have hx2 := hB.trans (hB2.mono hB.size)
  have hown2 := hown.below hB2
  have hel2 : ∀ y ∈ pre ++ [x], SlJ W2 y.2.1 y.1 := fun y hy => by
   rcases List.mem_append.1 hy with hy | hy
   ·exact (KCs.below hB2).slj (hel y hy)
   ·rw [List.mem_singleton.1 hy]; exact (KCs.below hB2).slj hPx.1
  have hk2 : KeepsFrom W0.heap.size W W2 := ⟨hB2.size, fun k o _ hk _ => (hB2.block k (Array.getElem?_eq_some_iff.1 hk).1).trans hk⟩
  have hkp2 : KpC W W2 := KpC.below hB2
  have hfl : (fltC hp pre).length ≤ 64 := Nat.le_trans (List.length_filter_le _ _) (by omega)
  cases hpx : hp x.1
  ·have HF : Hid (fltC hp (pre ++ [x]) = fltC hp pre) := by unfold Hid fltC; rw [List.filter_append, List.filter_cons_of_neg (by simp [hpx])]; simp
   have HI : Hid (SomI w w1 hp (.func (.func hi) #[] hb) (pre ++ [x]) W2) := ⟨e3, ⟨v, eo, by rw [HF.out]; exact hown2⟩, hel2, hx2⟩
   clear c3 k3 ko hown hel hB HC
   gi_wp2
   exact ⟨hk2, hkp2, HI.out⟩
  ·have HF : Hid (fltC hp (pre ++ [x]) = fltC hp pre ++ [x]) := by unfold Hid fltC; rw [List.filter_append, List.filter_cons_of_pos (by simp [hpx])]; simp
   have hq2 : ∀ j, v.ownBlock = some j → w1.heap.size + 1 ≤ j := fun j e => (hown2.lt j e).1
   have hcl : ∀ (j : Nat) (o : Obj), v.ownBlock = some j → (W2.alloc (.cells #[.slice x.2.1 x.1.length x.2.2] 30)).heap[j]? = some o → o.isCells = true := fun j o e h => own_cells (hown2.alloc _) e h
   have hnew := cell_one_at W2 (.slice x.2.1 x.1.length x.2.2) 30 W2.heap.size rfl
   have hW2 : w1.heap.size + 1 ≤ W2.heap.size := eo.lt
   have d6 := eo.at 0 rfl; have z6 := eo.frozen 0
   have hL1 : (fltC hp pre ++ [x]).length = (fltC hp pre).length + 1 := by simp
   have hown3 := hown2.alloc (.cells #[.slice x.2.1 x.1.length x.2.2] 30)
   clear c3 k3 ko hown hel hB HC
   gi_wp2_with (gi_at_builtin; refine wpListIn_append_own _ rfl _ _ 47 rfl (w1.heap.size + 1) 30 i0 (.slice none 0 0) 1 24 Tryz.underlying47 hi0 hz0 hz1 hz3 rfl (by decide) _ _ _ rfl hown3 ⟨W2.heap.size, 0, none⟩ 1 1 [.slice x.2.1 x.1.length x.2.2] rfl rfl hnew (by simp [Value.oneCell']) (by simp [maxLen]; omega) (by omega) (by simp; omega) ?_; intro v' w3 hown' hgrow _; obtain ⟨pv, mv, cv, rfl⟩ := own_shI hown'; have r6 := (eo.alloc (.cells #[.slice x.2.1 x.1.length x.2.2] 30)).grown hgrow (fun e => by have := hq2 _ e.symm; omega); have s6 := r6.at 0 rfl; have t6 := r6.frozen 0)
   gi_wp2
   have hkc : ∀ (B : Nat) (t : TypeId) (c : Array Value) (f : Nat × Nat), t ≠ 30 → t ≠ 47 → W2.heap[B]? = some (.cells c t f) → (w3.setCell ⟨w1.heap.size, 0, none⟩ (.slice pv mv cv)).heap[B]? = some (.cells c t f) := fun B t c f h1 h2 h => by
    have e1 : (W2.alloc (.cells #[.slice x.2.1 x.1.length x.2.2] 30)).heap[B]? = some (.cells c t f) := (Below.heap_alloc W2 _ B (Array.getElem?_eq_some_iff.1 h).1).trans h
    have e2 : w3.heap[B]? = some (.cells c t f) := (hgrow.block B (Array.getElem?_eq_some_iff.1 e1).1 (own_not hown3 e1 h1)).trans e1
    have hne' : B ≠ w1.heap.size := typed_ne e2 (show w3.heap[w1.heap.size]? = _ from r6) h2
    exact (Below.heap_setCell _ _ _ _ hne').trans e2
   refine ⟨hk2.trans ((((KeepsOthers.alloc W2 _).trans (KeepsOthers.of_grownBy hgrow hcl)).trans (KeepsOthers.setCell _ _ _)).from _), ?_, ⟨hkc _ _ _ _ (by decide) (by decide) e3, ⟨_, VRow.set (i := 0) _ r6, ?_⟩, fun y hy => ?_, ?_⟩⟩
   ·exact fun i c t f ht h => hkc i t c f (by rcases ht with rfl | rfl | rfl <;> decide) (by rcases ht with rfl | rfl | rfl <;> decide) (hkp2 i c t f ht h)
   ·rw [HF.out, hL1, List.map_append]
    exact ownsRow_setCell_below (a := ⟨w1.heap.size, 0, none⟩) hown' (show w1.heap.size < w1.heap.size + 1 by omega) _
   ·exact slj_ty (fun i c f h => hkc i _ c f (by decide) (by decide) h) (hel2 y hy)
   ·exact ((hx2.alloc hx2.size _).grown hgrow (Nat.le_trans hx2.size (by simp)) (fun j e => by have := hq2 _ e; omega)).setCell (show w.heap.size ≤ w1.heap.size from hxw) _
 case done =>
  rintro D xs W hD hxs ⟨k3, ⟨v, ko, hown⟩, hel, hB⟩ hK
  have HL : Hid ((fltC hp xs).map (·.1) = (compsA G).filter hp) := by
   unfold Hid fltC
   rw [← hxs, List.filter_map]; rfl
  obtain ⟨pv, cv, rfl, hsl⟩ := own_sl hown
  have hlen : (fltC hp xs).length = ((compsA G).filter hp).length := by rw [← HL.out, List.length_map]
  have d6 := ko.at 0 rfl
  gi_wp2
  refine ⟨by simp, .inl ⟨_, _, rfl, run_takeDeferred hK, ?_⟩⟩
  refine ⟨_, results_tmp2 (t := 4) (u := 5) rfl _ _ _, ?_⟩
  have hkc : KCs W (W.putObj D (.deferred none)) := fun i c t f e => by
   have hne : i ≠ D := by rintro rfl; rw [hK] at e; cases e
   exact (World.putObj_heap_other hne).trans e
  refine ⟨pv, cv, rfl, ⟨fltC hp xs, HL.out, ?_, fun x hx => hkc.slj (hel x (List.mem_filter.1 hx).1)⟩, below_put hB (by omega) hK _⟩
  obtain ⟨pv', cv', e', hs'⟩ := own_sl (hkc.own hown)
  cases e'; exact hs'
end
end Go.Proofs.YtocbhlohcikapaaGreatDoor
namespace Go.Proofs
open Go.Shelf
def Tryz.layContainsFE_ren : Go.Shelf.Ren := ⟨fun | 8 => 117 | 6 => 172 | n => n, fun | 22 => 22 | 23 => 44 | 25 => 136 | 4 => 4 | 3 => 3 | 0 => 0 | n => n, fun | n => n⟩
theorem Tryz.layContainsFE : Go.Proofs.SlLaysH0.n8 Tryz.prog Tryz.layContainsFE_ren := {
 mixed := by kernel_rfl
 f6 := ⟨Tryz.f172.name, by decide, Tryz.func172.trans (congrArg some (by kernel_rfl))⟩
 f8 := ⟨Tryz.f117.name, by decide, Tryz.func117.trans (congrArg some (by kernel_rfl))⟩
 t0 := Tryz.underlying0
 a0 := Tryz.isAgg0
 z0 := Tryz.sizeOf0
 v0 := Tryz.zeroValue0
 t3 := Tryz.underlying3
 a3 := Tryz.isAgg3
 z3 := Tryz.sizeOf3
 v3 := Tryz.zeroValue3
 t4 := Tryz.underlying4
 a4 := Tryz.isAgg4
 z4 := Tryz.sizeOf4
 v4 := Tryz.zeroValue4
 t22 := Tryz.underlying22
 a22 := Tryz.isAgg22
 z22 := Tryz.sizeOf22
 v22 := Tryz.zeroValue22
 t25 := Tryz.underlying136
 a25 := Tryz.isAgg136
 z25 := Tryz.sizeOf136
 v25 := Tryz.zeroValue136 }
end Go.Proofs
namespace Go.Proofs.YtocbhlohcikapaaGreatDoor
section
open Go.RowKit Go.Sort Go.Shelf Go.Lib
theorem sg_bang {w : World} {b off : Nat} {l : List Ed} (hc : ∀ i (h : i < l.length) j, j < 3 → w.cell? ⟨b, off + i * 3 + j, none⟩ = (edE l[i])[j]?) :
  ∀ j, j < l.length → ∀ i v, (edE l[j]!)[i]? = some v → w.cell? ⟨b, off + j * 3 + i, none⟩ = some v := fun j hj i v hv => by
 rw [getElem!_pos l j hj] at hv
 have hi : i < 3 := by
  have := (List.getElem?_eq_some_iff.1 hv).1
  simpa [edE] using this
 rw [hc j hj i hi, hv]
theorem containsFE_any (f : Ed → Bool) (g : Nat) (lb : Array Value) (eg : ∀ args w, (callFunc g args).run Tryz.prog w = .ok (.enter g args) w) (l : List Ed) (p : Option Addr) (c : Nat) (w : World)
  (hp : ∀ (W : World) (x : Ed), RowKit.Below w.heap.size w W → Calls Tryz.prog g (#[.agg #[.int .i64 x.f, .int .i64 x.l, .int .i64 x.t]] ++ lb) W fun e w' => e = .returned (.bool (f x)) ∧ RowKit.Below w.heap.size w w')
  (hl : Sg 3 w edE p l) (h0 : 0 < l.length) (hb : l.length ≤ 100000) :
  Calls Tryz.prog 117 #[.slice p l.length c, .func (.func g) #[] lb] w fun e w' => e = .returned (.bool (l.any f)) ∧ RowKit.Below w.heap.size w w' := by
 obtain ⟨b, off, rfl, hlt, hc⟩ := hl.get 0 h0
 have h := AnyQ.slices_ContainsFunc Tryz.layContainsFE 3 isAggE sizeOfE edE (fun _ => rfl) f g lb eg b off l.length c l w hp (Nat.le_refl _) (by omega) hlt (sg_bang hc)
 rw [List.take_length] at h
 exact h
end
section
open Go.RowKit Go.Shelf
theorem indexFE_empty (a : Option Addr) (c : Nat) (fv : Value) (w : World) : Calls Tryz.prog 172 #[.slice a 0 c, fv] w fun e w' => e = .returned (.int .i64 (-1)) ∧ w' = w := by
 go_enter Tryz.func172, Tryz.ntmps172
 go_wp2
 go_loop [8] (fun i => i = .int .i64 0) (fun _ => 0)
 case atStart => rfl
 case round =>
  obtain rfl := hrel
  go_wp2
  go_ret
  exact ⟨rfl, rfl⟩
theorem containsFE_empty (a : Option Addr) (c : Nat) (fv : Value) (w : World) : Calls Tryz.prog 117 #[.slice a 0 c, fv] w fun e w' => e = .returned (.bool false) ∧ w' = w := by
 have HI := hidI (indexFE_empty a c fv w)
 go_enter Tryz.func117, Tryz.ntmps117
 go_wp2_with fail
 refine HI.out.mono ?_
 rintro e w1 ⟨rfl, rfl⟩
 go_wp2
 go_ret
 exact ⟨rfl, rfl⟩
theorem containsI_any (l : List Int) (p : Option Addr) (c : Nat) (x : Int) (w : World) (hs : Sl w (Value.int .i64) p l) (hl : l.length ≤ 9223372036854775807) :
  Calls Tryz.prog 56 #[.slice p l.length c, .int .i64 x] w fun e w' => e = .returned (.bool (decide (x ∈ l))) ∧ w' = w := by
 by_cases h0 : l.length = 0
 ·obtain rfl : l = [] := List.eq_nil_of_length_eq_zero h0
  refine (Tryz.slices_Contains_int_empty p c x w).mono ?_
  rintro e w' ⟨rfl, rfl⟩
  exact ⟨by simp, rfl⟩
 ·obtain ⟨b, off, rfl, _, hc⟩ := hs.get 0 (by omega)
  refine (Tryz.slices_Contains_int b off l.length c l x w (Nat.le_refl _) hl (fun j hj => by rw [hc j hj]; simp [List.getD, hj])).mono ?_
  rintro e w' ⟨rfl, rfl⟩
  refine ⟨?_, rfl⟩
  rw [List.take_length]
  congr 2
  rw [Bool.eq_iff_iff, List.contains_iff_mem, decide_eq_true_eq]
def somA (G : Gr) (hp : List Int → Bool) : List (List Int) × Int := if chkG G = 0 then ((compsA G).filter hp, 0) else ([], 1)
set_option maxRecDepth 100000 in
theorem some_any (G : Gr) (p : Option Addr) (c hi : Nat) (hb : Array Value) (hp : List Int → Bool) (w : World) (hin : Sg 3 w edE p G.es) (hl : G.es.length ≤ 9223372036854775807) (eg : ∀ args w, (callFunc hi args).run Tryz.prog w = .ok (.enter hi args) w)
  (hH : chkG G = 0 → ∀ (x : LEc) W, RowKit.Below w.heap.size w W → PxC 64 x W → Calls Tryz.prog hi (#[lcV x] ++ hb) W fun e W' => e = .returned (.bool (hp x.1)) ∧ RowKit.Below W.heap.size W W') :
  Calls Tryz.prog 115 #[(.agg #[.int .i64 G.q, .int .i64 G.n, .slice p G.es.length c]), .func (.func hi) #[] hb] w (RetLL (somA G hp).1 (somA G hp).2 w) := by
 obtain ⟨r, hr⟩ : ∃ r, chkG G = r := ⟨_, rfl⟩
 by_cases hr0 : r = 0
 ·subst hr0
  have : somA G hp = ((compsA G).filter hp, 0) := if_pos hr
  rw [this]
  exact callsIn_wide.1 (some_in G p c hi hb hp w hin (chkG_ok.1 hr) eg (hH hr))
 ·have HK : Hid (somA G hp = ([], 1)) := if_neg (by rw [hr]; exact hr0)
  rw [HK.out]
  obtain ⟨w0, hw0⟩ : ∃ w0, w0 = (w.alloc (.cells #[.int .i64 G.q, .int .i64 G.n, .slice p G.es.length c] 24)).alloc (.cells #[.func (.func hi) #[] hb] 51) := ⟨_, rfl⟩
  have b0 : VRow w0 w.heap.size 24 [.int .i64 G.q, .int .i64 G.n, .slice p G.es.length c] := by subst hw0; exact (VRow.new w _ _).alloc _
  have hB0 : RowKit.Below w.heap.size w w0 := by subst hw0; exact ((RowKit.Below.refl _ _).alloc (Nat.le_refl _) _).alloc (by simp) _
  have HCK := hidI (gCheck_r G p c w0 r hr (hin.below hB0) hl)
  have hrb : (r != 0) = true := by simpa using hr0
  have f0 := b0.at 0 rfl; have f1 := b0.at 1 rfl; have f2 := b0.at 2 rfl
  clear hr hin b0
  go_enter Tryz.func115, Tryz.ntmps115
  go_upto_region 1 with fail
  rw [← hw0]
  clear hw0
  go_wp2_with fail
  refine HCK.out.mono ?_
  rintro e w1 ⟨rfl, hB1⟩
  have x1 := hB0.trans (hB1.mono hB0.size)
  clear f0 f1 f2
  go_wp2
  go_ret2
  exact RetLL.nil rfl x1
theorem of1_any (x : LEc) (W : World) : Calls Tryz.prog 159 #[lcV x] W fun e W' => e = .returned (.bool true) ∧ RowKit.Below W.heap.size W W' := by
 unfold lcV
 go_enter Tryz.func159, Tryz.ntmps159
 go_wp2
 go_ret
 exact ⟨rfl, RowKit.Below.refl _ _⟩
def ofA (G : Gr) : List (List Int) × Int := if chkG G = 0 then (compsA G, 0) else ([], 1)
theorem som_of (G : Gr) : somA G (fun _ => true) = ofA G := by unfold somA ofA; rw [List.filter_eq_self.2 (fun _ _ => rfl)]
set_option maxRecDepth 100000 in
theorem of_any (G : Gr) (p : Option Addr) (c : Nat) (w : World) (hin : Sg 3 w edE p G.es) (hl : G.es.length ≤ 9223372036854775807) :
  Calls Tryz.prog 107 #[(.agg #[.int .i64 G.q, .int .i64 G.n, .slice p G.es.length c])] w (RetLL (ofA G).1 (ofA G).2 w) := by
 obtain ⟨w0, hw0⟩ : ∃ w0, w0 = w.alloc (.cells #[.int .i64 G.q, .int .i64 G.n, .slice p G.es.length c] 24) := ⟨_, rfl⟩
 have b0 : VRow w0 w.heap.size 24 [.int .i64 G.q, .int .i64 G.n, .slice p G.es.length c] := by subst hw0; exact VRow.new w _ _
 have hB0 : RowKit.Below w.heap.size w w0 := by subst hw0; exact (RowKit.Below.refl _ _).alloc (Nat.le_refl _) _
 have HS := hidI (some_any G p c 159 #[] (fun _ => true) w0 (hin.below hB0) hl (enters_of Tryz.func159 (by kernel_rfl) rfl) (fun _ x W _ _ => of1_any x W))
 rw [som_of] at HS
 have f0 := b0.at 0 rfl; have f1 := b0.at 1 rfl; have f2 := b0.at 2 rfl
 generalize ofA G = r at *
 clear hin b0
 go_enter Tryz.func107, Tryz.ntmps107
 go_upto_region 1 with fail
 rw [← hw0]
 clear hw0
 go_wp2_with fail
 refine HS.out.mono ?_
 rintro e w1 ⟨q, d, rfl, hs, hB1⟩
 clear f0 f1 f2
 go_wp2
 go_ret2
 exact ⟨q, d, rfl, hs, hB0.trans (hB1.mono hB0.size)⟩
set_option maxRecDepth 100000 in
theorem sinks11_any (x : Ed) (l : List Int) (q : Option Addr) (d B : Nat) (W : World) (hB : VRow W B 30 [.slice q l.length d]) (hs : Sl W (Value.int .i64) q l) (hl : l.length ≤ 64) :
  Calls Tryz.prog 118 #[.agg #[.int .i64 x.f, .int .i64 x.l, .int .i64 x.t], .pointer (some ⟨B, 0, none⟩)] W fun e W' => e = .returned (.bool (decide (x.f ∈ l) && !decide (x.t ∈ l))) ∧ RowKit.Below W.heap.size W W' := by
 obtain ⟨w0, hw0⟩ : ∃ w0, w0 = W.alloc (.cells #[.int .i64 x.f, .int .i64 x.l, .int .i64 x.t] 44) := ⟨_, rfl⟩
 have b0 : VRow w0 W.heap.size 44 [.int .i64 x.f, .int .i64 x.l, .int .i64 x.t] := by subst hw0; exact VRow.new W _ _
 have hB0 : RowKit.Below W.heap.size W w0 := by subst hw0; exact (RowKit.Below.refl _ _).alloc (Nat.le_refl _) _
 have hc := (hB.below hB0 hB.lt).at 0 rfl
 have H1 := hidI (containsI_any l q d x.f w0 (hs.below hB0) (by omega))
 have H2 := hidI (containsI_any l q d x.t w0 (hs.below hB0) (by omega))
 have f0 := b0.at 0 rfl; have f2 := b0.at 2 rfl
 generalize decide (x.f ∈ l) = a at *
 generalize decide (x.t ∈ l) = b at *
 clear hs hB b0
 cases a
 ·go_enter Tryz.func118, Tryz.ntmps118
  go_upto_region 1 with fail
  rw [← hw0]
  clear hw0
  go_wp2_with fail
  refine H1.out.mono ?_
  rintro e w1 ⟨rfl, hw1⟩
  have hB1 : RowKit.Below W.heap.size W w1 := by rw [hw1]; exact hB0
  clear f0 f2 hc hw1
  go_wp2
  go_ret
  exact ⟨rfl, hB1⟩
 ·go_enter Tryz.func118, Tryz.ntmps118
  go_upto_region 1 with fail
  rw [← hw0]
  clear hw0
  go_wp2_with fail
  refine H1.out.mono ?_
  rintro e w1 ⟨rfl, hw1⟩
  replace hw1 := hw1.symm
  subst hw1
  go_wp2_with fail
  refine H2.out.mono ?_
  rintro e w2 ⟨rfl, hw2⟩
  have hB1 : RowKit.Below W.heap.size W w2 := by rw [hw2]; exact hB0
  clear f0 f2 hc hw2
  go_wp2
  go_ret
  exact ⟨by cases b <;> rfl, hB1⟩
set_option maxRecDepth 100000 in
theorem sinks1_any (G : Gr) (p : Option Addr) (c Bg : Nat) (x : LEc) (W : World) (hg : VRow W Bg 24 [.int .i64 G.q, .int .i64 G.n, .slice p G.es.length c]) (hin : Sg 3 W edE p G.es) (hl : G.es.length ≤ 1024) (hx : PxC 64 x W) :
  Calls Tryz.prog 116 #[lcV x, .pointer (some ⟨Bg, 0, none⟩)] W fun e W' => e = .returned (.bool (sinkB G x.1)) ∧ RowKit.Below W.heap.size W W' := by
 obtain ⟨⟨hsl, _⟩, hx64⟩ := hx
 obtain ⟨l, q, d⟩ := x
 change Sl W (Value.int .i64) q l at hsl
 change l.length ≤ 64 at hx64
 obtain ⟨w0, hw0⟩ : ∃ w0, w0 = W.alloc (.cells #[.slice q l.length d] 30) := ⟨_, rfl⟩
 have b0 : VRow w0 W.heap.size 30 [.slice q l.length d] := by subst hw0; exact VRow.new W _ _
 have hB0 : RowKit.Below W.heap.size W w0 := by subst hw0; exact (RowKit.Below.refl _ _).alloc (Nat.le_refl _) _
 have f2 := (hg.below hB0 hg.lt).at 2 rfl
 have HS : Hid (sinkB G l = !G.es.any (fun x => decide (x.f ∈ l) && !decide (x.t ∈ l))) := rfl
 have HP : ∀ (V : World) (y : Ed), RowKit.Below w0.heap.size w0 V → Calls Tryz.prog 118 (#[.agg #[.int .i64 y.f, .int .i64 y.l, .int .i64 y.t]] ++ #[.pointer (some ⟨W.heap.size, 0, none⟩)]) V fun e w' => e = .returned (.bool (decide (y.f ∈ l) && !decide (y.t ∈ l))) ∧ RowKit.Below w0.heap.size w0 w' := fun V y hV =>
  (sinks11_any y l q d W.heap.size V (b0.below hV b0.lt) ((hsl.below hB0).below hV) hx64).mono fun _ _ ⟨h1, h2⟩ => ⟨h1, hV.trans (h2.mono hV.size)⟩
 have HC : Hid (Calls Tryz.prog 117 #[.slice p G.es.length c, .func (.func 118) #[] #[.pointer (some ⟨W.heap.size, 0, none⟩)]] w0 fun e w' => e = .returned (.bool (G.es.any (fun x => decide (x.f ∈ l) && !decide (x.t ∈ l)))) ∧ RowKit.Below w0.heap.size w0 w') := by
  by_cases h0 : G.es.length = 0
  ·have he : G.es = [] := List.eq_nil_of_length_eq_zero h0
   rw [he]
   refine (containsFE_empty p c _ w0).mono ?_
   rintro e w' ⟨rfl, rfl⟩
   exact ⟨rfl, RowKit.Below.refl _ _⟩
  ·exact containsFE_any (fun x => decide (x.f ∈ l) && !decide (x.t ∈ l)) 118 #[.pointer (some ⟨W.heap.size, 0, none⟩)] (enters_of Tryz.func118 (by kernel_rfl) rfl) G.es p c w0 HP (hin.below hB0) (by omega) (by omega)
 show Calls Tryz.prog 116 #[.slice q l.length d, .pointer (some ⟨Bg, 0, none⟩)] W fun e W' => e = .returned (.bool (sinkB G l)) ∧ RowKit.Below W.heap.size W W'
 generalize G.es.any (fun x => decide (x.f ∈ l) && !decide (x.t ∈ l)) = r at *
 clear HP hsl hin hg b0
 go_enter Tryz.func116, Tryz.ntmps116
 go_upto_region 1 with fail
 rw [← hw0]
 clear hw0
 go_wp2_with fail
 refine HC.out.mono ?_
 rintro e w1 ⟨rfl, hB1⟩
 have x1 := hB0.trans (hB1.mono hB0.size)
 clear f2
 go_wp2
 go_ret
 exact ⟨ret_bool HS.out.symm, x1⟩
def snkA (G : Gr) : List (List Int) × Int := if chkG G = 0 then (sinksA G, 0) else ([], 1)
set_option maxRecDepth 100000 in
theorem sinks_any (G : Gr) (p : Option Addr) (c : Nat) (w : World) (hin : Sg 3 w edE p G.es) (hl : G.es.length ≤ 9223372036854775807) :
  Calls Tryz.prog 53 #[(.agg #[.int .i64 G.q, .int .i64 G.n, .slice p G.es.length c])] w (RetLL (snkA G).1 (snkA G).2 w) := by
 obtain ⟨w0, hw0⟩ : ∃ w0, w0 = w.alloc (.cells #[.int .i64 G.q, .int .i64 G.n, .slice p G.es.length c] 24) := ⟨_, rfl⟩
 have b0 : VRow w0 w.heap.size 24 [.int .i64 G.q, .int .i64 G.n, .slice p G.es.length c] := by subst hw0; exact VRow.new w _ _
 have hB0 : RowKit.Below w.heap.size w w0 := by subst hw0; exact (RowKit.Below.refl _ _).alloc (Nat.le_refl _) _
 have HS := hidI (some_any G p c 116 #[.pointer (some ⟨w.heap.size, 0, none⟩)] (sinkB G) w0 (hin.below hB0) hl (enters_of Tryz.func116 (by kernel_rfl) rfl)
  (fun hc x W hW hx => sinks1_any G p c w.heap.size x W (b0.below hW b0.lt) ((hin.below hB0).below hW) (chkG_ok.1 hc).len hx))
 have e : somA G (sinkB G) = snkA G := rfl
 rw [e] at HS
 have f0 := b0.at 0 rfl; have f1 := b0.at 1 rfl; have f2 := b0.at 2 rfl
 generalize snkA G = r at *
 clear hin b0 e
 go_enter Tryz.func53, Tryz.ntmps53
 go_upto_region 1 with fail
 rw [← hw0]
 clear hw0
 go_wp2_with fail
 refine HS.out.mono ?_
 rintro e w1 ⟨q, d, rfl, hs, hB1⟩
 clear f0 f1 f2
 go_wp2
 go_ret2
 exact ⟨q, d, rfl, hs, hB0.trans (hB1.mono hB0.size)⟩
set_option maxRecDepth 100000 in
theorem irr_any (G : Gr) (p : Option Addr) (c : Nat) (w : World) (hin : Sg 3 w edE p G.es) (hl : G.es.length ≤ 9223372036854775807) :
  Calls Tryz.prog 45 #[(.agg #[.int .i64 G.q, .int .i64 G.n, .slice p G.es.length c])] w fun e w' => e = .returned (.tuple #[.bool (decide (chkG G = 0) && irrA G), .int .i64 (ofA G).2]) ∧ RowKit.Below w.heap.size w w' := by
 obtain ⟨w0, hw0⟩ : ∃ w0, w0 = w.alloc (.cells #[.int .i64 G.q, .int .i64 G.n, .slice p G.es.length c] 24) := ⟨_, rfl⟩
 have b0 : VRow w0 w.heap.size 24 [.int .i64 G.q, .int .i64 G.n, .slice p G.es.length c] := by subst hw0; exact VRow.new w _ _
 have hB0 : RowKit.Below w.heap.size w w0 := by subst hw0; exact (RowKit.Below.refl _ _).alloc (Nat.le_refl _) _
 have HO := hidI (of_any G p c w0 (hin.below hB0) hl)
 have f0 := b0.at 0 rfl; have f1 := b0.at 1 rfl; have f2 := b0.at 2 rfl
 have HB0 := hidI b0
 by_cases hc : chkG G = 0
 ·have e1 : ofA G = (compsA G, 0) := if_pos hc
  rw [e1] at HO ⊢
  have HI : Hid ((decide (chkG G = 0) && irrA G) = (decide ((compsA G).length = 1) && decide (0 < G.es.length))) := by unfold Hid irrA; rw [decide_eq_true hc, Bool.true_and]
  rw [HI.out]
  generalize compsA G = L at *
  by_cases h1 : L.length = 1
  ·have d1 : ((L.length : Int) == 1) = true := by simp [h1]
   have d2 : decide (L.length = 1) = true := decide_eq_true h1
   rw [d2, Bool.true_and]
   clear hc h1 hin b0 e1 d2
   go_enter Tryz.func45, Tryz.ntmps45
   go_upto_region 1 with fail
   rw [← hw0]
   clear hw0
   go_wp2_with fail
   refine HO.out.mono ?_
   rintro e w1 ⟨q, d, rfl, hs, hB1⟩
   have g2 := (HB0.out.below hB1 HB0.out.lt).at 2 rfl
   have x1 := hB0.trans (hB1.mono hB0.size)
   clear f0 f1 f2 hs
   go_wp2
   go_ret2
   exact ⟨rfl, x1⟩
  ·have d1 : ((L.length : Int) == 1) = false := by simp; omega
   have d2 : decide (L.length = 1) = false := decide_eq_false h1
   rw [d2, Bool.false_and]
   clear hc h1 hin b0 e1 d2
   go_enter Tryz.func45, Tryz.ntmps45
   go_upto_region 1 with fail
   rw [← hw0]
   clear hw0
   go_wp2_with fail
   refine HO.out.mono ?_
   rintro e w1 ⟨q, d, rfl, hs, hB1⟩
   have x1 := hB0.trans (hB1.mono hB0.size)
   clear f0 f1 f2 hs
   go_wp2
   go_ret2
   exact ⟨rfl, x1⟩
 ·have e1 : ofA G = ([], 1) := if_neg hc
  rw [e1] at HO ⊢
  rw [decide_eq_false hc, Bool.false_and]
  clear hc hin b0 e1
  go_enter Tryz.func45, Tryz.ntmps45
  go_upto_region 1 with fail
  rw [← hw0]
  clear hw0
  go_wp2_with fail
  refine HO.out.mono ?_
  rintro e w1 ⟨q, d, rfl, hs, hB1⟩
  have x1 := hB0.trans (hB1.mono hB0.size)
  clear f0 f1 f2 hs
  go_wp2
  go_ret2
  exact ⟨rfl, x1⟩
end
section
open Go.RowKit Go.Sort Go.Shelf Go.Lib
theorem sortI_any (l : List Int) (B n : Nat) (v : Value) (w : World) (h : w.ownsRow B 3 1 v n (l.map (Value.int .i64))) (hn : n ≤ 100000) :
  Calls Tryz.prog 102 #[v] w fun e w' => e = .returned (.tuple #[]) ∧ w'.ownsRow B 3 1 v n ((l.mergeSort fun x y => decide (x ≤ y)).map (Value.int .i64)) ∧ w.grownBy w' v.ownBlock := by
 have hl : l.length = n := by have := h.1; simpa using this
 subst hl
 rcases h.2 with ⟨rfl, h0⟩ | ⟨g, cap, cur, rfl, hg, hh, hc, hm, hs, ht⟩
 ·have : l = [] := List.length_eq_zero_iff.1 h0
  subst this
  refine (Tryz.slices_Sort_int_none none 0 w).mono ?_
  rintro e w' ⟨rfl, rfl⟩
  exact ⟨rfl, by simpa using h, rfl, rfl, rfl, Nat.le_refl _, fun _ _ _ => rfl⟩
 ·refine (Tryz.slices_Sort_int g 0 cap l w (holds_of_blockI hh (by simpa using ht)) (Array.getElem?_eq_some_iff.1 hh).1 (by omega)).mono ?_
  rintro e w' ⟨rfl, q, os, rfl⟩
  exact ⟨rfl, ownsRow_sortedI (List.length_mergeSort _) hg hh hc hm hs, grownBy_sortedI _⟩
theorem compactI_any (l : List Int) (B n : Nat) (v : Value) (w : World) (h : w.ownsRow B 3 1 v n (l.map (Value.int .i64))) (hn : n ≤ 100000) (hk : (Lib.compact l).length ≤ l.length) :
  Calls Tryz.prog 103 #[v] w fun e w' => ∃ v', e = .returned v' ∧ w'.ownsRow B 3 1 v' (Lib.compact l).length ((Lib.compact l).map (Value.int .i64)) ∧ w.grownBy w' v.ownBlock := by
 have hl : l.length = n := by have := h.1; simpa using this
 subst hl
 rcases h.2 with ⟨rfl, h0⟩ | ⟨g, cap, cur, rfl, hg, hh, hc, hm, hs, ht⟩
 ·have : l = [] := List.length_eq_zero_iff.1 h0
  subst this
  refine (Tryz.slices_Compact_int_empty none 0 w).mono ?_
  rintro e w' ⟨rfl, rfl⟩
  have e : Lib.compact ([] : List Int) = [] := rfl
  rw [e]
  exact ⟨_, rfl, by simpa using h, rfl, rfl, rfl, Nat.le_refl _, fun _ _ _ => rfl⟩
 ·refine (Tryz.slices_Compact_int g 0 cap l w (holds_of_blockI hh (by simpa using ht)) (by omega) hc).mono ?_
  rintro e w' ⟨rfl, q, rfl⟩
  have hb := grownBy_sortedI (w := w) (g := g) (n := q) (os := #[]) (Lib.compact l ++ List.replicate (l.length - (Lib.compact l).length) 0).toArray
  have hp := heap_sortedI (g := g) (n := q) (os := #[]) (Lib.compact l ++ List.replicate (l.length - (Lib.compact l).length) 0).toArray hh
  rw [grow_empty] at hb hp
  refine ⟨_, rfl, ⟨by simp, .inr ⟨g, cap, _, rfl, hg, hp, by omega, hm, by simp [putCells, hs], ?_⟩⟩, hb⟩
  have h1 := take_putCellsI cur (Lib.compact l ++ List.replicate (l.length - (Lib.compact l).length) 0) (by simp; omega)
  have h2 := congrArg (List.take (Lib.compact l).length) h1
  rw [List.take_take, List.map_append, List.take_append_of_le_length (by simp), Nat.min_eq_left (by simp)] at h2
  rw [Nat.mul_one, h2, ← List.length_map (Value.int .i64), List.take_length]
end
section
open Go.RowKit
theorem cmpt_inv (d : Array Int) (hs : ∀ i j, i ≤ j → j < d.size → d[i]! ≤ d[j]!) : ∀ m, m ≤ d.size → (Lib.compactUpTo d m).Pairwise (· < ·) ∧ ∀ x, x ∈ Lib.compactUpTo d m ↔ ∃ i, i < m ∧ d[i]! = x
 | 0, _ => ⟨by simp [Lib.compactUpTo], by simp [Lib.compactUpTo]⟩
 | m + 1, hm => by
  obtain ⟨h1, h2⟩ := cmpt_inv d hs m (by omega)
  rw [Lib.compactUpTo_succ]
  by_cases hk : Lib.keeps d m = true
  ·rw [if_pos hk]
   refine ⟨List.pairwise_append.2 ⟨h1, by simp, fun a ha b hb => ?_⟩, fun x => ?_⟩
   ·rw [List.mem_singleton] at hb
    subst hb
    obtain ⟨i, hi, rfl⟩ := (h2 a).1 ha
    have hne : m = 0 ∨ d[m]! ≠ d[m - 1]! := by simpa [Lib.keeps] using hk
    have hne : d[m]! ≠ d[m - 1]! := hne.resolve_left (by omega)
    have a1 := hs i (m - 1) (by omega) (by omega)
    have a2 := hs (m - 1) m (by omega) (by omega)
    omega
   ·rw [List.mem_append, h2, List.mem_singleton]
    constructor
    ·rintro (⟨i, hi, e⟩ | e)
     ·exact ⟨i, by omega, e⟩
     ·exact ⟨m, by omega, e.symm⟩
    ·rintro ⟨i, hi, e⟩
     by_cases him : i = m
     ·subst him; exact .inr e.symm
     ·exact .inl ⟨i, by omega, e⟩
  ·rw [if_neg hk, List.append_nil]
   have hne : ¬ (m = 0 ∨ d[m]! ≠ d[m - 1]!) := by simpa [Lib.keeps] using hk
   have h0 : m ≠ 0 := fun e => hne (.inl e)
   have he : d[m]! = d[m - 1]! := Classical.byContradiction (fun e => hne (.inr e))
   refine ⟨h1, fun x => ?_⟩
   rw [h2]
   constructor
   ·rintro ⟨i, hi, e⟩; exact ⟨i, by omega, e⟩
   ·rintro ⟨i, hi, e⟩
    by_cases him : i = m
    ·subst him; exact ⟨i - 1, by omega, by rw [← he]; exact e⟩
    ·exact ⟨i, by omega, e⟩
theorem sort_compact (l : List Int) : (Lib.compact (l.mergeSort fun x y => decide (x ≤ y))).Pairwise (· < ·) ∧ ∀ x, x ∈ Lib.compact (l.mergeSort fun x y => decide (x ≤ y)) ↔ x ∈ l := by
 have hsrt : (l.mergeSort fun x y => decide (x ≤ y)).Pairwise (fun x y => x ≤ y) := by
  have := List.pairwise_mergeSort (le := fun (x y : Int) => decide (x ≤ y)) (fun a b c h1 h2 => by simp at *; omega) (fun a b => by simp; omega) l
  exact this.imp (fun h => by simpa using h)
 have hmem : ∀ x, x ∈ (l.mergeSort fun x y => decide (x ≤ y)) ↔ x ∈ l := fun x => List.mem_mergeSort
 generalize (l.mergeSort fun x y => decide (x ≤ y)) = z at *
 have hs : ∀ i j, i ≤ j → j < z.toArray.size → z.toArray[i]! ≤ z.toArray[j]! := by
  intro i j hij hj
  have hj' : j < z.length := by simpa using hj
  rw [getElem!_pos z.toArray i (by simp; omega), getElem!_pos z.toArray j hj]
  by_cases e : i = j
  ·subst e; exact Int.le_refl _
  ·have := List.pairwise_iff_getElem.1 hsrt i j (by omega) hj' (by omega)
   simpa using this
 obtain ⟨h1, h2⟩ := cmpt_inv z.toArray hs z.length (by simp)
 refine ⟨h1, fun x => ?_⟩
 rw [← hmem x]
 show x ∈ Lib.compactUpTo z.toArray z.length ↔ _
 rw [h2]
 constructor
 ·rintro ⟨i, hi, rfl⟩
  rw [getElem!_pos z.toArray i (by simpa using hi)]
  simp
 ·intro hx
  obtain ⟨i, hi, e⟩ := List.mem_iff_getElem.1 hx
  exact ⟨i, hi, by rw [getElem!_pos z.toArray i (by simpa using hi)]; simpa using e⟩
theorem step_sorted {G : Gr} {st : List Int} {b : Int} (hv : Vg G) : Lib.compact ((stepL G.es st b).mergeSort fun x y => decide (x ≤ y)) = nextA G st b :=
 step_law hv (sort_compact _).1 (sort_compact _).2
end
section
open Go.RowKit
structure KC (B : Nat) (W W' : World) : Prop where
 below : Below B W W'
 cells : ∀ (k : Nat) (o : Obj), W.heap[k]? = some o → o.isCells = true → W'.heap[k]? = some o
theorem KC.refl (B : Nat) (W : World) : KC B W W := ⟨Below.refl _ _, fun _ _ h _ => h⟩
theorem KC.trans {B : Nat} {X Y Z : World} (h : KC B X Y) (k : KC B Y Z) : KC B X Z := ⟨h.below.trans k.below, fun i o hi ho => k.cells i o (h.cells i o hi ho) ho⟩
theorem KC.sl {α : Type} {B : Nat} {W W' : World} {enc : α → Value} {p : Option Addr} {l : List α} (h : KC B W W') (hs : Sl W enc p l) : Sl W' enc p l := by
 rcases hs with hs | ⟨b, off, hp, hb, hc⟩
 ·exact .inl hs
 ·by_cases hl : l = []
  ·exact .inl hl
  ·refine .inr ⟨b, off, hp, Nat.lt_of_lt_of_le hb h.below.size, fun i hi => ?_⟩
   obtain ⟨o, ho, hk⟩ := cells_of_cell (hc i hi)
   exact (World.cell?_of_block (w := W) (a := ⟨b, off + i, none⟩) ((h.cells b o ho hk).trans ho.symm)).trans (hc i hi)
def Marks (B : Nat) (W : World) : List Deferred → Prop
 | [] => True
 | d :: ds => (∃ D, d = { target := .collected D, args := #[] } ∧ B ≤ D ∧ W.heap[D]? = some (.deferred (some [])) ∧ ∀ d' ∈ ds, d'.target ≠ .collected D) ∧ Marks B W ds
theorem Marks.lt {B : Nat} {W : World} : ∀ {ds : List Deferred}, Marks B W ds → ∀ d ∈ ds, ∃ D, d.target = .collected D ∧ D < W.heap.size
 | [], _, _, h => by cases h
 | _ :: _, ⟨⟨D, hd, _, hk, _⟩, hr⟩, d', h => by
  rcases List.mem_cons.1 h with h | h
  ·subst h; subst hd; exact ⟨D, rfl, (Array.getElem?_eq_some_iff.1 hk).1⟩
  ·exact Marks.lt hr d' h
theorem Marks.keep {B : Nat} {W W' : World} : ∀ {ds : List Deferred}, Marks B W ds → (∀ D, B ≤ D → W.heap[D]? = some (.deferred (some [])) → (∃ d ∈ ds, d.target = .collected D) → W'.heap[D]? = some (.deferred (some []))) → Marks B W' ds
 | [], _, _ => trivial
 | _ :: _, ⟨⟨D, hd, hB, hk, hn⟩, hr⟩, h =>
  ⟨⟨D, hd, hB, h D hB hk ⟨_, List.mem_cons_self, by rw [hd]⟩, hn⟩, hr.keep (fun D' h1 h2 ⟨d, hd', ht⟩ => h D' h1 h2 ⟨d, List.mem_cons_of_mem _ hd', ht⟩)⟩
theorem Marks.others {B : Nat} {W W' : World} {ds : List Deferred} (h : Marks B W ds) (k : KeepsOthers W W') : Marks B W' ds := h.keep (fun D _ hk _ => k.same D _ hk rfl)
theorem Marks.cons {B D : Nat} {W : World} {ds : List Deferred} (h : Marks B W ds) (hB : B ≤ D) (hk : W.heap[D]? = some (.deferred (some []))) (hn : ∀ d ∈ ds, ∃ D', d.target = .collected D' ∧ D' < D) :
  Marks B W ({ target := .collected D, args := #[] } :: ds) :=
 ⟨⟨D, rfl, hB, hk, fun d hd e => by
  obtain ⟨D', h1, h2⟩ := hn d hd
  rw [h1] at e; cases e; omega⟩, h⟩
theorem leaves_marks {F : Fence} {n : Nat} {P : Program} {fn : Func} {tmps : Array Value} {R : Ending → World → Prop} {B : Nat} :
  ∀ (ds : List Deferred) (W : World), Marks B W ds → (∀ W', KC B W W' → LeavesInM F n P fn tmps R [] .returning W') → LeavesInM F n P fn tmps R ds .returning W
 | [], W, _, h => h W (KC.refl _ _)
 | d :: ds, W, ⟨⟨D, hd, hB, hk, hn⟩, hr⟩, h => by
  subst hd
  have hp : KC B W (W.putObj D (.deferred none)) := by
   refine ⟨⟨rfl, rfl, rfl, by simp, fun i hi => World.putObj_heap_other (by omega)⟩, fun i o hi ho => ?_⟩
   rw [World.putObj_heap_other (by rintro rfl; rw [hk] at hi; cases hi; cases ho)]
   exact hi
  refine ⟨by simp, .inl ⟨D, _, rfl, run_takeDeferred hk, ?_⟩⟩
  refine leaves_marks ds _ (hr.keep (fun D' _ hk' hm => ?_)) (fun W' hW' => h W' (hp.trans hW'))
  obtain ⟨d', hd', ht⟩ := hm
  rw [World.putObj_heap_other (by rintro rfl; exact hn d' hd' ht)]
  exact hk'
theorem Marks.grown {B c : Nat} {W W' : World} {ds : List Deferred} {o : Obj} (h : Marks B W ds) (hg : W.grownBy W' (some c)) (hc : W.heap[c]? = some o) (ho : o.isCells = true) : Marks B W' ds :=
 h.keep (fun D _ hk _ => by
  rw [hg.block D (Array.getElem?_eq_some_iff.1 hk).1 (by rintro ⟨rfl⟩; rw [hk] at hc; cases hc; cases ho)]; exact hk)
end
section
open Go.RowKit Go.Shelf
attribute [local go_sem] Oper.semAt_some
theorem cmp_len (l : List Int) : (Lib.compact l).length ≤ l.length := by
 have key : ∀ m, (Lib.compactUpTo l.toArray m).length ≤ m := by
  intro m
  induction m with
  | zero => simp [Lib.compactUpTo]
  | succ m ih => rw [Lib.compactUpTo_succ, List.length_append]; split <;> simp <;> omega
 exact key l.length
theorem KC.own {B B' e n size : Nat} {W W' : World} {v : Value} {xs : List Value} (h : KC B W W') (ho : W.ownsRow B' e size v n xs) : W'.ownsRow B' e size v n xs :=
 ⟨ho.1, ho.2.imp id (fun ⟨g, cap, cur, a, b, hh, z⟩ => ⟨g, cap, cur, a, b, h.cells g _ hh rfl, z⟩)⟩
def labL (b : Int) (l : List (Nat × Ed)) : List Int := (l.filter (fun x => decide (x.2.l = b))).map (fun x => x.2.t)
theorem labL_hit {b : Int} {l : List (Nat × Ed)} {i : Nat} {x : Ed} (h : x.l = b) : labL b (l ++ [(i, x)]) = labL b l ++ [x.t] := by simp [labL, h]
theorem labL_miss {b : Int} {l : List (Nat × Ed)} {i : Nat} {x : Ed} (h : ¬ x.l = b) : labL b (l ++ [(i, x)]) = labL b l := by simp [labL, h]
theorem labL_le (b : Int) (l : List (Nat × Ed)) : (labL b l).length ≤ l.length := by unfold labL; rw [List.length_map]; exact List.length_filter_le _ _
theorem labL_lv (es : List Ed) (s b : Int) : ∀ k, k ≤ es.length → labL b (lvL es s k) = (((es.take k).filter (fun x => decide (x.f = s) && decide (x.l = b))).map Ed.t)
 | 0, _ => rfl
 | k + 1, h => by
  rw [lvL_succ (by omega), List.take_succ_eq_append_getElem (by omega : k < es.length), List.filter_append, List.map_append, ← labL_lv es s b k (by omega)]
  by_cases h1 : es[k].f = s
  ·rw [if_pos h1]
   by_cases h2 : es[k].l = b
   ·rw [labL_hit h2]; simp [h1, h2]
   ·rw [labL_miss h2]; simp [h2]
  ·rw [if_neg h1, List.append_nil]; simp [h1]
theorem stepL_succ (es : List Ed) (st : List Int) (b : Int) (k : Nat) (h : k < st.length) : stepL es (st.take (k + 1)) b = stepL es (st.take k) b ++ labL b (lvL es st[k] es.length) := by
 rw [labL_lv _ _ _ _ (Nat.le_refl _), List.take_length]
 unfold stepL
 rw [List.take_succ_eq_append_getElem h, List.flatMap_append, List.flatMap_cons, List.flatMap_nil, List.append_nil]
theorem stepL_len (es : List Ed) (st : List Int) (b : Int) : (stepL es st b).length ≤ st.length * es.length := by
 unfold stepL
 induction st with
 | nil => simp
 | cons s st ih =>
  rw [List.flatMap_cons, List.length_append, List.length_map, List.length_cons, Nat.add_mul, Nat.one_mul]
  have := List.length_filter_le (fun x => decide (x.f = s) && decide (x.l = b)) es
  omega
def OutS (B b : Nat) (l : List Int) (W : World) : Prop := ∃ v, VRow W b 30 [v] ∧ W.ownsRow B 3 1 v l.length (l.map (Value.int .i64)) ∧ v.ownBlock ≠ some b ∧ (l = [] → v = .slice none 0 0)
def SInv (G : Gr) (p : Option Addr) (c : Nat) (st : List Int) (q : Option Addr) (d : Nat) (b : Int) (w : World) (bx k : Nat) (a : Act) (W : World) : Prop :=
 ∃ (ds : List Deferred) (u4 u8 u10 u11 u12 u13 u14 u15 u16 u17 u18 u19 u20 u21 u22 u23 u24 u25 u26 u27 u28 u29 u30 u34 u35 u36 u37 u38 u39 u40 u41 u42 u43 u44 u45 u46 u47 u48 u49 u50 u51 u52 u53 u54 u55 : Value), a = { tmps := #[(.agg #[.int .i64 G.q, .int .i64 G.n, .slice p G.es.length c]), (.slice q st.length d), (.int .i64 b), (.pointer (some ⟨w.heap.size, 0, none⟩)), u4, (.pointer (some ⟨w.heap.size + 1, 0, none⟩)), (.slice none 0 0), (.int .i64 0), u8, (.pointer (some ⟨bx, 0, none⟩)), u10, u11, u12, u13, u14, u15, u16, u17, u18, u19, u20, u21, u22, u23, u24, u25, u26, u27, u28, u29, u30, (.slice q st.length d), (.int .i64 st.length), (.int .i64 k), u34, u35, u36, u37, u38, u39, u40, u41, u42, u43, u44, u45, u46, u47, u48, u49, u50, u51, u52, u53, u54, u55], defers := ds } ∧
  k ≤ st.length ∧ OutS (bx + 1) bx (stepL G.es (st.take k) b) W ∧ Marks (bx + 1) W ds ∧ VRow W w.heap.size 24 [.int .i64 G.q, .int .i64 G.n, .slice p G.es.length c] ∧ VRow W (w.heap.size + 1) 3 [.int .i64 b] ∧ RowKit.Below w.heap.size w W ∧ bx + 1 ≤ W.heap.size
def smu (st : List Int) (a : Act) : Nat := st.length - (intOf (a.tmps.getD 33 undef)).toNat
def KL (n : Nat) (W W' : World) : Prop := n ≤ W'.heap.size ∧ ∀ i, i < n → W'.heap[i]? = W.heap[i]?
theorem ownFrom_kl {β : Type} {n B : Nat} (W0 : World) (h : n ≤ B) : OwnFrom B (fun (_ : β) W => KL n W0 W) := fun _ X Y row hs hg hr =>
 ⟨Nat.le_trans hs.1 hg.size, fun i hi => (hg.block i (by have := hs.1; omega) (fun e => by have := (hr i e.symm).1; omega)).trans (hs.2 i hi)⟩
theorem ownFrom_keepsO {β : Type} (W0 : World) : OwnFrom W0.heap.size (fun (_ : β) W => KeepsOthers W0 W) := fun _ X Y row hs hg hr =>
 ⟨Nat.le_trans hs.size hg.size, fun i o hi ho => by
  have hlt := (Array.getElem?_eq_some_iff.1 hi).1
  exact (hg.block i (Nat.lt_of_lt_of_le hlt hs.size) (fun e => by have := (hr i e.symm).1; omega)).trans (hs.same i o hi ho)⟩
def OutT (B b Bs : Nat) (l : List Int) (W : World) : Prop := ∃ v, VRow W b 30 [v] ∧ W.ownsRow B 3 1 v l.length (l.map (Value.int .i64)) ∧ v.ownBlock ≠ some b ∧ (l = [] → v = .slice none 0 0) ∧ v.ownBlock ≠ some Bs
theorem OutT.own {β : Type} (B b Bs : Nat) (f : β → List Int) : Own (fun s W => OutT B b Bs (f s) W) := by
 rintro s X Y row ⟨v, h1, h2, h3, h4⟩ hg hrow
 refine ⟨v, VRow.own b 30 (fun _ : Unit => [v]) () X Y row h1 hg hrow, ?_, h3, h4⟩
 refine h2.kept hg ?_
 rcases h2.2 with ⟨rfl, _⟩ | ⟨g, cap, cur, rfl, _, hh, _⟩
 ·exact .inl rfl
 ·refine .inr (fun e => ?_)
  obtain ⟨o, ho, hc⟩ := hrow g (by rw [← e]; rfl)
  rw [hh] at ho; cases ho; cases hc
theorem sgB_mono {n m : Nat} {w : World} {p : Option Addr} {l : List Ed} (h : SgB n w p l) (hm : n ≤ m) : SgB m w p l := by
 rcases h with h | ⟨b, off, h1, h2, h3, h4⟩
 ·exact .inl h
 ·exact .inr ⟨b, off, h1, by omega, h3, h4⟩
theorem own_start {W : World} {B n : Nat} {v : Value} {xs : List Value} (h : W.ownsRow B 3 1 v n xs) (hB : B ≤ W.heap.size) (hn : n = 0 → v = .slice none 0 0) :
  ∃ B', B ≤ B' ∧ B' ≤ W.heap.size ∧ W.ownsRow B' 3 1 v n xs ∧ (n = 0 → B' = W.heap.size) := by
 by_cases h0 : n = 0
 ·have hv := hn h0
  subst h0; subst hv
  exact ⟨W.heap.size, hB, Nat.le_refl _, ⟨h.1, .inl ⟨rfl, rfl⟩⟩, fun _ => rfl⟩
 ·exact ⟨B, Nat.le_refl _, hB, h, fun e => absurd e h0⟩
theorem own_apart {W : World} {B' n : Nat} {v v' : Value} {x : Value} {xs : List Value} {W' : World} {Bs : Nat} (hs : VRow W Bs 3 [x]) (hg : W.grownBy W' v.ownBlock) (hne : v.ownBlock ≠ some Bs) (h : W'.ownsRow B' 3 1 v' (n + 1) xs)
  (hB : n = 0 → Bs < B') : v'.ownBlock ≠ some Bs := by
 intro e
 rcases h.2 with ⟨rfl, _⟩ | ⟨g, cap, cur, rfl, hgB, hh, hc, _, hsz, _⟩
 ·simp [Value.ownBlock] at e
 ·obtain rfl : g = Bs := by simpa [Value.ownBlock] using e
  by_cases h0 : n = 0
  ·have := hB h0; omega
  ·rw [hg.block g hs.lt (fun e => hne e.symm), show W.heap[g]? = _ from hs] at hh
   cases hh
   simp at hsz
   omega
set_option maxRecDepth 100000 in
set_option maxHeartbeats 4000000 in
theorem gStep_in (G : Gr) (p : Option Addr) (c : Nat) (st : List Int) (q : Option Addr) (d : Nat) (b : Int) (w : World) (hin : Sg 3 w edE p G.es) (hst : Sl w (Value.int .i64) q st) (hv : Vg G) (hs : st.length ≤ 64) (hc : chkS G.n none st = 0) (h0 : 0 ≤ b) (h1 : b < G.q) :
  CallsIn Fence.wide 9 Tryz.prog 43 #[(.agg #[.int .i64 G.q, .int .i64 G.n, .slice p G.es.length c]), .slice q st.length d, .int .i64 b] w (RetLi (nextA G st b) 0 w) := by
 have HIN := hidI hin; have HST := hidI hst; have HV := hidI hv; have HC := hidI hc
 have hl := hv.len
 clear hin hst hv hc
 obtain ⟨i0, hi0, hz0, hz1, hz3⟩ := info_parts infoIn
 obtain ⟨w0, hw0⟩ : ∃ w0, w0 = (w.alloc (.cells #[.int .i64 G.q, .int .i64 G.n, .slice p G.es.length c] 24)).alloc (.cells #[.int .i64 b] 3) := ⟨_, rfl⟩
 have b0 : VRow w0 w.heap.size 24 [.int .i64 G.q, .int .i64 G.n, .slice p G.es.length c] := by subst hw0; exact (VRow.new w _ _).alloc _
 have b1 : VRow w0 (w.heap.size + 1) 3 [.int .i64 b] := by subst hw0; exact VRow.new1 w _ _ _
 have hB0 : RowKit.Below w.heap.size w w0 := by subst hw0; exact ((RowKit.Below.refl _ _).alloc (Nat.le_refl _) _).alloc (by simp) _
 refine callsIn_of_wp_marks Tryz.func43 rfl trivial ?_ rfl
 simp only [Tryz.ntmps43, List.size_toArray, List.length_cons, List.length_nil, Nat.reduceAdd, Nat.reduceSub, Array.replicate_succ, Array.replicate_zero, List.push_toArray, List.append_toArray, List.nil_append, List.cons_append]
 gi_wp2_with (refine ⟨trivial, ?_⟩; gi_at_call 73)
 rw [← hw0]
 clear hw0
 refine (callsIn_wide.2 (gCheck_r G p c _ 0 (chkG_ok.2 HV.out) (HIN.out.below hB0) (by omega))).mono ?_
 rintro e w1 ⟨rfl, hB1⟩
 have x1 := hB0.trans (hB1.mono hB0.size)
 have c0 := b0.below hB1 b0.lt
 have c1 := b1.below hB1 b1.lt
 clear hB1 b0 b1 hB0
 have f0 := c0.at 0 rfl; have f1 := c0.at 1 rfl; have f2 := c0.at 2 rfl
 gi_wp2_with (refine ⟨trivial, ?_⟩; gi_at_call 100)
 refine (callsIn_wide.2 (gCheckSet_any G p c st q d _ (HST.out.below x1) (by omega))).mono ?_
 rw [HC.out]
 rintro e w2 ⟨rfl, hB2⟩
 have x2 := x1.trans (hB2.mono x1.size)
 have d0 := c0.below hB2 c0.lt
 have d1 := c1.below hB2 c1.lt
 clear f0 f1 f2 hB2 c0 c1 x1
 have f0 := d0.at 0 rfl; have g0 := d1.at 0 rfl
 have hz : w.heap.size + 1 < w2.heap.size := d1.lt
 gi_wp2
 have e0 := d0.alloc (.cells #[.slice none 0 0] 30)
 have e1 := d1.alloc (.cells #[.slice none 0 0] 30)
 have e9 : VRow (w2.alloc (.cells #[.slice none 0 0] 30)) w2.heap.size 30 [.slice none 0 0] := VRow.new w2 _ _
 have x3 := x2.alloc x2.size (.cells #[.slice none 0 0] 30)
 clear d0 d1 f0 g0
 refine wpIn_loop (fun a W => ∃ k, SInv G p c st q d b w w2.heap.size k a W) (fun a _ => smu st a) ⟨0, _, _, _, _, _, _, _, _, _, _, _, _, _, _, _, _, _, _, _, _, _, _, _, _, _, _, _, _, _, _, _, _, _, _, _, _, _, _, _, _, _, _, _, _, _, _, rfl, by omega, ⟨_, e9, World.ownsRow_nil _ _ _ _, by simp [Value.ownBlock], fun _ => rfl⟩, trivial, e0, e1, x3, by simp⟩ ?_
 clear e0 e1 e9 x3
 rintro a W ⟨k, ds, u4, u8, u10, u11, u12, u13, u14, u15, u16, u17, u18, u19, u20, u21, u22, u23, u24, u25, u26, u27, u28, u29, u30, u34, u35, u36, u37, u38, u39, u40, u41, u42, u43, u44, u45, u46, u47, u48, u49, u50, u51, u52, u53, u54, u55, rfl, hk, ⟨v, c9, hown, hn9, hnil⟩, hM, c0, c1, hB, hge⟩
 have HBM : Hid (RowKit.Below w.heap.size w W) := hB
 have hmu : smu st { tmps := #[(.agg #[.int .i64 G.q, .int .i64 G.n, .slice p G.es.length c]), (.slice q st.length d), (.int .i64 b), (.pointer (some ⟨w.heap.size, 0, none⟩)), u4, (.pointer (some ⟨w.heap.size + 1, 0, none⟩)), (.slice none 0 0), (.int .i64 0), u8, (.pointer (some ⟨w2.heap.size, 0, none⟩)), u10, u11, u12, u13, u14, u15, u16, u17, u18, u19, u20, u21, u22, u23, u24, u25, u26, u27, u28, u29, u30, (.slice q st.length d), (.int .i64 st.length), (.int .i64 k), u34, u35, u36, u37, u38, u39, u40, u41, u42, u43, u44, u45, u46, u47, u48, u49, u50, u51, u52, u53, u54, u55], defers := ds } = st.length - (intOf (.int .i64 (k : Int))).toNat := rfl
 have HMU := hidI hmu
 clear hmu
 have hbz := hB.size
 have hbx := c9.lt
 by_cases hlt : k < st.length
 ·obtain ⟨bs1, os1, rfl, hbs1, hcs1⟩ := (HST.out.below hB).get k hlt
  have e1 := hcs1 k hlt
  clear hcs1
  have HSN := hidI (stepL_succ G.es st b k hlt)
  have HSL : Hid ((stepL G.es (st.take k) b).length ≤ 64 * 1024) := by
   unfold Hid
   have h1 := stepL_len G.es (st.take k) b
   have h2 : (st.take k).length * G.es.length ≤ 64 * 1024 := Nat.mul_le_mul (by rw [List.length_take]; omega) hl
   omega
  generalize st[k] = s at *
  generalize stepL G.es (st.take k) b = L at *
  have f0 := c0.at 0 rfl; have f1 := c0.at 1 rfl; have f2 := c0.at 2 rfl
  gi_wp2_with (refine ⟨trivial, ?_⟩; gi_at_call 101)
  refine (leaving_in Fence.wide 8 trivial rfl _ s G.q G.n p G.es.length c rfl _).mono ?_
  rintro e w' ⟨rfl, rfl⟩
  gi_wp2
  obtain ⟨V0, hV0⟩ : ∃ V0, V0 = (W.alloc (.cells #[.int .i64 G.q, .int .i64 G.n, .slice p G.es.length c] 24)).alloc (.cells #[.int .i64 s] 3) := ⟨_, rfl⟩
  have y1 : VRow V0 W.heap.size 24 [.int .i64 G.q, .int .i64 G.n, .slice p G.es.length c] := by subst hV0; exact (VRow.new W _ _).alloc _
  have y2 : VRow V0 (W.heap.size + 1) 3 [.int .i64 s] := by subst hV0; exact VRow.new1 W _ _ _
  have y9 : VRow V0 w2.heap.size 30 [v] := by subst hV0; exact (c9.alloc _).alloc _
  have yown : V0.ownsRow (w2.heap.size + 1) 3 1 v L.length (L.map (Value.int .i64)) := by subst hV0; exact (hown.alloc _).alloc _
  have z0 : VRow V0 w.heap.size 24 [.int .i64 G.q, .int .i64 G.n, .slice p G.es.length c] := by subst hV0; exact (c0.alloc _).alloc _
  have z1 : VRow V0 (w.heap.size + 1) 3 [.int .i64 b] := by subst hV0; exact (c1.alloc _).alloc _
  have hBV : RowKit.Below w.heap.size w V0 := by subst hV0; exact (hB.alloc hbz _).alloc (by simp; omega) _
  have hsz : V0.heap.size = W.heap.size + 2 := by subst hV0; simp
  have hKV : KeepsOthers W V0 := by subst hV0; exact (KeepsOthers.alloc _ _).trans (KeepsOthers.alloc _ _)
  have hvb : ∀ j, v.ownBlock = some j → w2.heap.size + 1 ≤ j ∧ j < W.heap.size := fun j e => hown.lt j e
  have hsg : SgB w2.heap.size V0 p G.es := sgB_mono ((SgB.of HIN.out (Nat.le_refl _)).kept (fun i hi => hBV.block i hi)) (by omega)
  rw [← hV0]
  clear hV0 hown c9 c0 c1 f0 f1 f2 e1 hB
  refine' wpIn_rangeFunc_ownH rfl (by omega) (gf := 153) (lb := #[.pointer (some ⟨W.heap.size, 0, none⟩), .pointer (some ⟨W.heap.size + 1, 0, none⟩)]) rfl trivial (enters_of Tryz.func153 (by kernel_rfl) rfl)
   (leavingS_stops Fence.wide 8 trivial rfl (by omega) w2.heap.size W.heap.size (W.heap.size + 1) G s p c hl V0 (by omega) y1 y2 hsg) KS.trans (KS_b (by omega) (by omega)) (RowKit.Below.refl _ _) (fun _ => rfl)
   (fun pre V => (((OutT (w2.heap.size + 1) w2.heap.size (W.heap.size + 1) (L ++ labL b pre) V ∧ RowKit.Below w.heap.size w V) ∧ KeepsOthers V0 V) ∧ KL w2.heap.size V0 V) ∧ VRow V (W.heap.size + 1) 3 [.int .i64 s])
   (fun _ _ _ => False)
   (OwnFrom.and (OwnFrom.and (OwnFrom.and (OwnFrom.and ((OutT.own _ _ _ (fun pre => L ++ labL b pre)).from _) (ownFrom_below (Nat.le_refl _) (by omega))) (ownFrom_keepsO _)) (ownFrom_kl _ (by omega))) ((VRow.own _ _ (fun _ => [.int .i64 s])).from _))
   (fun _ _ _ _ _ hs _ _ => hs)
   ⟨⟨⟨⟨⟨v, y9, by simpa [labL] using yown, hn9, fun h => hnil (by simpa [labL] using h), fun e => by have := (hvb _ e).2; omega⟩, hBV⟩, KeepsOthers.refl _⟩, by omega, fun _ _ => rfl⟩, y2⟩
   (fun x a' V => ∃ Bx, V0.heap.size ≤ Bx ∧ VRow V Bx 44 [.int .i64 x.2.f, .int .i64 x.2.l, .int .i64 x.2.t] ∧ a' = { tmps := #[(.agg #[.int .i64 G.q, .int .i64 G.n, .slice p G.es.length c]), (.slice (some ⟨bs1, os1, none⟩) st.length d), (.int .i64 b), (.pointer (some ⟨w.heap.size, 0, none⟩)), u4, (.pointer (some ⟨w.heap.size + 1, 0, none⟩)), (.slice none 0 0), (.int .i64 0), u8, (.pointer (some ⟨w2.heap.size, 0, none⟩)), u10, (.int .i64 s), u12, (.pointer (some ⟨Bx, 0, none⟩)), u14, u15, u16, u17, u18, u19, u20, u21, u22, u23, u24, u25, u26, u27, u28, u29, u30, (.slice (some ⟨bs1, os1, none⟩) st.length d), (.int .i64 st.length), (.int .i64 k), (.bool true), (.pointer (some ⟨bs1, os1 + k, none⟩)), (.int .i64 s), (.agg #[.int .i64 G.q, .int .i64 G.n, .slice p G.es.length c]), (.int .i64 s), (.func (.func 153) #[] #[.pointer (some ⟨W.heap.size, 0, none⟩), .pointer (some ⟨W.heap.size + 1, 0, none⟩)]), (.int .i64 (x.1 : Int)), (.agg #[.int .i64 x.2.f, .int .i64 x.2.l, .int .i64 x.2.t]), u42, u43, u44, u45, u46, u47, u48, u49, u50, u51, u52, u53, u54, u55], defers := [] })
   (fun x a' _ X Y row hs hg hr => by
    obtain ⟨Bx, h1, h2, h3⟩ := hs
    exact ⟨Bx, h1, VRow.own Bx 44 (fun _ : Unit => [.int .i64 x.2.f, .int .i64 x.2.l, .int .i64 x.2.t]) () X Y row h2 hg (fun r e => (hr r e).2), h3⟩)
   ?assign ?body ?done ?stop
  case assign =>
   rintro l pre x V K ⟨⟨⟨⟨hT, hB1⟩, hK1⟩, hL1⟩, ly⟩ hK
   have hsV := hK1.size
   unfold encL
   gi_wp2
   obtain ⟨v', t1, t2, t3, t4, t5⟩ := hT
   exact hK _ _ ((KeepsOthers.alloc _ _).from _) (fun i hi => Below.heap_alloc _ _ i (by omega)) ⟨⟨⟨⟨⟨v', t1.alloc _, t2.alloc _, t3, t4, t5⟩, hB1.alloc hB1.size _⟩, hK1.trans (KeepsOthers.alloc _ _)⟩, Nat.le_trans hL1.1 (by simp), fun i hi => (Below.heap_alloc _ _ i (by have := hL1.1; omega)).trans (hL1.2 i hi)⟩, ly.alloc _⟩
    ⟨V.heap.size, hsV, VRow.new V 44 [.int .i64 x.2.f, .int .i64 x.2.l, .int .i64 x.2.t], rfl⟩
  case body =>
   rintro l pre ⟨i, x⟩ a' V hl' ⟨r, hr⟩ ⟨⟨⟨⟨⟨v', t1, t2, t3, t4, t5⟩, hB1⟩, hK1⟩, hL1⟩, ly⟩ ⟨Bx, hBx, hx, rfl⟩ hlen
   have hsV := hK1.size
   have hlb : (L ++ labL b pre).length ≤ 70000 := by rw [List.length_append]; have := labL_le b pre; have := HSL.out; omega
   have lb : VRow V (w.heap.size + 1) 3 [.int .i64 b] := (hL1.2 _ hz).trans z1
   have k1 := hx.at 1 rfl; have k2 := hx.at 2 rfl
   have k0 := lb.at 0 rfl
   by_cases he : x.l = b
   ·have hb : (x.l == b) = true := by simpa using he
    have HS : Hid (L ++ labL b (pre ++ [(i, x)]) = L ++ labL b pre ++ [x.t]) := by rw [Hid, labL_hit he, List.append_assoc]
    clear he
    generalize L ++ labL b pre = M at *
    have d6 := t1.at 0 rfl; have z6 := t1.frozen 0
    have hnew := cell_one_at V (.int .i64 x.t) 3 V.heap.size rfl
    have hV1 : V.heap.size + 1 = (V.alloc (.cells #[.int .i64 x.t] 3)).heap.size := (World.size_alloc _ _).symm
    obtain ⟨B', hb1, hb2, hownB, hb3⟩ := own_start (t2.alloc (.cells #[.int .i64 x.t] 3)) (by omega) (fun e => t4 (List.length_eq_zero_iff.1 e))
    have hcl : ∀ (j : Nat) (o : Obj), v'.ownBlock = some j → (V.alloc (.cells #[.int .i64 x.t] 3)).heap[j]? = some o → o.isCells = true := fun j o e h => own_cells hownB e h
    have hvb' : ∀ j, v'.ownBlock = some j → w2.heap.size + 1 ≤ j := fun j e => (t2.lt j e).1
    have lyA := ly.alloc (.cells #[.int .i64 x.t] 3)
    gi_wp2_with (gi_at_builtin; refine wpListIn_append_own _ rfl _ _ 30 rfl B' 3 i0 (.int .i64 0) 1 8 Tryz.underlying30 hi0 hz0 hz1 hz3 rfl (by decide) _ _ _ rfl hownB ⟨V.heap.size, 0, none⟩ 1 1 [.int .i64 x.t] rfl rfl hnew (by simp [Value.oneCell']) (by simp [maxLen]; omega) (by omega) (by omega) ?_; intro v2 W2 hown' hgrow0 _; have hgrow : (V.alloc (.cells #[.int .i64 x.t] 3)).grownBy W2 v'.ownBlock := hgrow0; have hap := own_apart lyA hgrow t5 hown' (fun e => by have := hb3 e; omega); obtain ⟨pv, mv, cv, rfl⟩ := own_shI hown'; have r6 := (t1.alloc (.cells #[.int .i64 x.t] 3)).grown hgrow (fun e => t3 e.symm); have s6 := r6.at 0 rfl; have t6 := r6.frozen 0)
    have hn2 : (Value.slice pv mv cv).ownBlock ≠ some w2.heap.size := fun e => by have := (hown'.lt _ e).1; omega
    have hgz := hgrow.size
    have hks : KS w2.heap.size (W.heap.size + 1) V (W2.setCell ⟨w2.heap.size, 0, none⟩ (.slice pv mv cv)) := fun j h1 => by
     rw [Below.heap_setCell _ _ _ _ (show j ≠ w2.heap.size by omega), hgrow.block j (by omega) (fun e => by
      rcases h1 with h1 | h1
      ·have := hvb' _ e.symm; omega
      ·exact t5 (by rw [← e, h1])), Below.heap_alloc V _ j (by omega)]
    have hko : KeepsOthers V (W2.setCell ⟨w2.heap.size, 0, none⟩ (.slice pv mv cv)) := ((KeepsOthers.alloc V _).trans (KeepsOthers.of_grownBy hgrow hcl)).trans (KeepsOthers.setCell _ _ _)
    refine ⟨hko.from _, hks, ⟨⟨⟨⟨_, VRow.set (i := 0) _ r6, ?_, hn2, fun e => ?_, hap⟩, ?_⟩, hK1.trans hko⟩, ?_, fun j hj => (hks j (.inl hj)).trans (hL1.2 j hj)⟩, (hks _ (.inr rfl)).trans ly⟩
    ·rw [HS.out, List.length_append, List.map_append]
     exact ownsRow_setCell_below (a := ⟨w2.heap.size, 0, none⟩) (own_baseI hown' hb1) (show w2.heap.size < w2.heap.size + 1 by omega) _
    ·rw [HS.out] at e; simp at e
    ·exact ((hB1.alloc hB1.size _).grown hgrow (Nat.le_trans hB1.size (by simp)) (fun j e => by have := hvb' _ e; omega)).setCell (show w.heap.size ≤ w2.heap.size by omega) _
    ·rw [World.size_setCell]; have := hL1.1; omega
   ·have hb : (x.l == b) = false := by simpa using he
    have HS : Hid (L ++ labL b (pre ++ [(i, x)]) = L ++ labL b pre) := by rw [Hid, labL_miss he]
    clear he
    gi_wp2
    exact ⟨(KeepsOthers.refl _).from _, KS.refl _ _ _, ⟨⟨⟨⟨v', t1, by rw [HS.out]; exact t2, t3, by rw [HS.out]; exact t4, t5⟩, hB1⟩, hK1⟩, hL1⟩, ly⟩
  case done =>
   rintro D ys V hD' hys ⟨⟨⟨⟨⟨v', t1, t2, t3, t4, t5⟩, hB1⟩, hK1⟩, hL1⟩, ly⟩ hK
   subst hys
   rw [← HSN.out] at t2 t4
   have hMV : Marks (w2.heap.size + 1) V ({ target := .collected D, args := #[] } :: ds) :=
    (hM.others (hKV.trans hK1)).cons (by omega) hK (fun d hd => by obtain ⟨D', h1, h2⟩ := hM.lt d hd; exact ⟨D', h1, by omega⟩)
   have l0 : VRow V w.heap.size 24 [.int .i64 G.q, .int .i64 G.n, .slice p G.es.length c] := (hL1.2 _ (by omega)).trans z0
   have l1 : VRow V (w.heap.size + 1) 3 [.int .i64 b] := (hL1.2 _ hz).trans z1
   have hV2 := hK1.size
   gi_wp2
   refine ⟨⟨k + 1, _, _, _, _, _, _, _, _, _, _, _, _, _, _, _, _, _, _, _, _, _, _, _, _, _, _, _, _, _, _, _, _, _, _, _, _, _, _, _, _, _, _, _, _, _, _, rfl, by omega, ⟨v', t1, t2, t3, t4⟩, hMV, l0, l1, hB1, by omega⟩, ?_⟩
   rw [HMU.out]
   refine Nat.lt_of_le_of_lt (Nat.le_of_eq (show smu _ _ = st.length - (intOf (.int .i64 ((k : Int) + 1))).toNat from rfl)) ?_
   simp [intOf]; omega
  case stop =>
   rintro D c pre W _ _ h _
   exact h.elim
 ·obtain rfl : k = st.length := by omega
  rw [List.take_length] at hown hnil
  have HSR : Hid (Lib.compact ((stepL G.es st b).mergeSort fun x y => decide (x ≤ y)) = nextA G st b) := step_sorted HV.out
  have hLl : (stepL G.es st b).length ≤ 64 * 1024 := Nat.le_trans (stepL_len G.es st b) (Nat.mul_le_mul hs hl)
  generalize stepL G.es st b = L at *
  have d9 := c9.at 0 rfl
  have hn9' : some w2.heap.size ≠ v.ownBlock := fun e => hn9 e.symm
  have hcW : ∀ (j : Nat) (o : Obj), v.ownBlock = some j → W.heap[j]? = some o → o.isCells = true := fun j o e h => own_cells hown e h
  have hvb : ∀ j, v.ownBlock = some j → w2.heap.size + 1 ≤ j := fun j e => (hown.lt j e).1
  gi_wp2_with (refine ⟨trivial, ?_⟩; gi_at_call 102)
  refine (callsIn_wide.2 (sortI_any L (w2.heap.size + 1) L.length v W hown (by omega))).mono ?_
  rintro e w3 ⟨rfl, hown3, G3⟩
  have c9' := c9.grown G3 hn9'
  have d9' := c9'.at 0 rfl
  have hM3 := hM.others (KeepsOthers.of_grownBy G3 hcW)
  have hB3 := hB.grown G3 hB.size (fun j e => by have := hvb _ e; omega)
  have hcl := cmp_len (L.mergeSort fun x y => decide (x ≤ y))
  have hml : (L.mergeSort fun x y => decide (x ≤ y)).length = L.length := List.length_mergeSort _
  have hc3 : ∀ (j : Nat) (o : Obj), v.ownBlock = some j → w3.heap[j]? = some o → o.isCells = true := fun j o e h => own_cells hown3 e h
  clear d9 c9 hown c0 c1
  gi_wp2_with (refine ⟨trivial, ?_⟩; gi_at_call 103)
  refine (callsIn_wide.2 (compactI_any (L.mergeSort fun x y => decide (x ≤ y)) (w2.heap.size + 1) L.length v w3 hown3 (by omega) hcl)).mono ?_
  rw [HSR.out]
  rintro e w4 ⟨v4, rfl, hown4, G4⟩
  have hM4 := hM3.others (KeepsOthers.of_grownBy G4 hc3)
  have hB4 := hB3.grown G4 hB3.size (fun j e => by have := hvb _ e; omega)
  gi_wp2
  refine leaves_marks ds w4 hM4 (fun W' hW' => ?_)
  refine ⟨_, results_tmp2 (t := 6) (u := 7) rfl _ _ _, ?_⟩
  obtain ⟨pv, mv, cv, rfl⟩ := own_shI hown4
  exact ⟨pv, mv, cv, rfl, own_baseI (hW'.own hown4) (by omega), hB4.trans (hW'.below.mono (by omega))⟩
end
section
open Go.RowKit Go.Sort Go.Shelf Go.Lib
set_option maxRecDepth 100000 in
set_option maxHeartbeats 2000000 in
theorem gStep_any (G : Gr) (p : Option Addr) (c : Nat) (st : List Int) (q : Option Addr) (d : Nat) (b : Int) (w : World) (hin : Sg 3 w edE p G.es) (hst : Sl w (Value.int .i64) q st) (hl : G.es.length ≤ 10000) (hs : st.length ≤ 100000) :
  Calls Tryz.prog 43 #[(.agg #[.int .i64 G.q, .int .i64 G.n, .slice p G.es.length c]), .slice q st.length d, .int .i64 b] w (RetLi (stepA G st b).1 (stepA G st b).2 w) := by
 have HIN := hidI hin; have HST := hidI hst
 clear hin hst
 obtain ⟨w0, hw0⟩ : ∃ w0, w0 = (w.alloc (.cells #[.int .i64 G.q, .int .i64 G.n, .slice p G.es.length c] 24)).alloc (.cells #[.int .i64 b] 3) := ⟨_, rfl⟩
 have b0 : VRow w0 w.heap.size 24 [.int .i64 G.q, .int .i64 G.n, .slice p G.es.length c] := by subst hw0; exact (VRow.new w _ _).alloc _
 have b1 : VRow w0 (w.heap.size + 1) 3 [.int .i64 b] := by subst hw0; exact VRow.new1 w _ _ _
 have hB0 : RowKit.Below w.heap.size w w0 := by subst hw0; exact ((RowKit.Below.refl _ _).alloc (Nat.le_refl _) _).alloc (by simp) _
 obtain ⟨r, hr⟩ : ∃ r, chkG G = r := ⟨_, rfl⟩
 by_cases hr0 : r = 0
 ·subst hr0
  obtain ⟨r2, hr2⟩ : ∃ r2, chkS G.n none st = r2 := ⟨_, rfl⟩
  by_cases hok : r2 = 0 ∧ 0 ≤ b ∧ b < G.q
  ·obtain ⟨rfl, h0, h1⟩ := hok
   have hv := chkG_ok.1 hr
   have : stepA G st b = (nextA G st b, 0) := by unfold stepA; rw [if_pos hr, if_pos hr2, if_neg (by omega)]
   rw [this]
   have hso := chkS_ok hr2
   have hlen := (St.mk hso.1 hso.2.1 : St G.n st).len hv.n1
   exact callsIn_wide.1 (gStep_in G p c st q d b w HIN.out HST.out hv (by have := hv.n2; omega) hr2 h0 h1)
  ·have HR := hidI hr; have HR2 := hidI hr2
   clear hr
   go_enter Tryz.func43, Tryz.ntmps43
   go_wp2_with fail
   rw [← hw0]
   clear hw0
   refine (gCheck_r G p c _ 0 HR.out (HIN.out.below hB0) (by omega)).mono ?_
   rintro e w1 ⟨rfl, hB1⟩
   have x1 := hB0.trans (hB1.mono hB0.size)
   have c0 := b0.below hB1 b0.lt
   have c1 := b1.below hB1 b1.lt
   clear hB1 hB0 b0 b1
   have f0 := c0.at 0 rfl; have f1 := c0.at 1 rfl; have f2 := c0.at 2 rfl
   go_wp2_with fail
   refine (gCheckSet_any G p c st q d _ (HST.out.below x1) (by omega)).mono ?_
   rw [hr2]
   rintro e w2 ⟨rfl, hB2⟩
   have x2 := x1.trans (hB2.mono x1.size)
   have d0 := c0.below hB2 c0.lt
   have d1 := c1.below hB2 c1.lt
   clear f0 f1 f2 hB2 c0 c1
   have f0 := d0.at 0 rfl; have g0 := d1.at 0 rfl
   by_cases h2 : r2 = 0
   ·subst h2
    clear hr2
    by_cases h0 : b < 0
    ·have HK : Hid (stepA G st b = ([], 2)) := by unfold Hid stepA; rw [if_pos HR.out, if_pos HR2.out, if_pos (.inl h0)]
     go_wp2
     go_ret2
     exact RetLi.nil HK.out x2
    ·have h1 : G.q ≤ b := by omega
     have HK : Hid (stepA G st b = ([], 2)) := by unfold Hid stepA; rw [if_pos HR.out, if_pos HR2.out, if_pos (.inr h1)]
     go_wp2
     go_ret2
     exact RetLi.nil HK.out x2
   ·have HK : Hid (stepA G st b = ([], r2)) := by unfold Hid stepA; rw [if_pos HR.out, HR2.out, if_neg h2]
    have hrb : (r2 == 0) = false := by simpa using h2
    clear hr2 hok
    go_wp2
    go_ret2
    exact RetLi.nil HK.out x2
 ·have HK : Hid (stepA G st b = ([], 1)) := by unfold Hid stepA; rw [if_neg (by rw [hr]; exact hr0)]
  have hrb : (r == 0) = false := by simpa using hr0
  have HR := hidI hr
  clear hr
  go_enter Tryz.func43, Tryz.ntmps43
  go_wp2_with fail
  rw [← hw0]
  clear hw0
  refine (gCheck_r G p c _ r HR.out (HIN.out.below hB0) (by omega)).mono ?_
  rintro e w1 ⟨rfl, hB1⟩
  have x1 := hB0.trans (hB1.mono hB0.size)
  go_wp2
  go_ret2
  exact RetLi.nil HK.out x1
end
section
open Go.RowKit Go.Sort Go.Shelf Go.Lib
theorem norm_lenN (l : List Ed) : (norm l).length ≤ l.length := by
 have h1 : ∀ (x : Ed) (a : List Ed), (insE x a).length ≤ a.length + 1 := by
  intro x a
  induction a with
  | nil => simp [insE]
  | cons y a ih =>
   unfold insE
   split
   ·simp
   ·split
    ·simp
    ·simp only [List.length_cons]; omega
 have h2 : ∀ (l a : List Ed), (l.foldl (fun a x => insE x a) a).length ≤ a.length + l.length := by
  intro l
  induction l with
  | nil => intro a; simp
  | cons x l ih =>
   intro a
   have := ih (insE x a)
   have := h1 x a
   simp only [List.foldl_cons, List.length_cons]; omega
 simpa [norm] using h2 l []
end
section
open Go.RowKit
theorem mxC_ge : ∀ {l : List Int} {x : Int}, x ∈ l → x + 1 ≤ mxC l := by
 have key : ∀ (l : List Int) (a : Int), a ≤ l.foldl (fun n x => max n (x + 1)) a ∧ ∀ x ∈ l, x + 1 ≤ l.foldl (fun n x => max n (x + 1)) a := by
  intro l
  induction l with
  | nil => intro a; exact ⟨Int.le_refl _, fun x hx => by cases hx⟩
  | cons y l ih =>
   intro a
   obtain ⟨h1, h2⟩ := ih (max a (y + 1))
   refine ⟨by simp only [List.foldl_cons]; omega, fun x hx => ?_⟩
   simp only [List.foldl_cons]
   rcases List.mem_cons.1 hx with rfl | hx
   ·omega
   ·exact h2 x hx
 intro l x hx
 exact (key l 0).2 x hx
theorem mxC_le {l : List Int} {b : Int} (hb : 0 ≤ b) (h : ∀ x ∈ l, x + 1 ≤ b) : mxC l ≤ b := by
 have key : ∀ (l : List Int) (a : Int), a ≤ b → (∀ x ∈ l, x + 1 ≤ b) → l.foldl (fun n x => max n (x + 1)) a ≤ b := by
  intro l
  induction l with
  | nil => intro a h _; exact h
  | cons y l ih =>
   intro a ha h
   have := h y (by simp)
   exact ih _ (show max a (y + 1) ≤ b by omega) (fun x hx => h x (by simp [hx]))
 exact key l 0 hb h
theorem mxC_nn (l : List Int) : 0 ≤ mxC l := by
 cases l with
 | nil => exact Int.le_refl _
 | cons x l =>
  have key : ∀ (l : List Int) (a : Int), a ≤ l.foldl (fun n x => max n (x + 1)) a := by
   intro l
   induction l with
   | nil => intro a; exact Int.le_refl _
   | cons y l ih => intro a; have := ih (max a (y + 1)); simp only [List.foldl_cons]; omega
  exact key _ 0
theorem cl_mem {G : Gr} {s : Nat} (hs : s < G.n.toNat) : cg (clA G) s ∈ clA G := by
 have hl : (clA G).length = G.n.toNat := clsN_len _
 have e : cg (clA G) s = (clA G)[s]'(by omega) := by unfold cg; simp [List.getD, hl, hs]
 rw [e]; exact List.getElem_mem _
theorem cl_lt {G : Gr} {s : Nat} (hs : s < G.n.toNat) : 0 ≤ cg (clA G) s ∧ cg (clA G) s < mxC (clA G) := by
 have h1 := cl_bd _ (cl_mem hs)
 have h2 := mxC_ge (cl_mem hs)
 omega
theorem cl_le {G : Gr} : mxC (clA G) ≤ G.n.toNat := mxC_le (by omega) (fun x hx => by have := cl_bd x hx; omega)
theorem cl_step {G : Gr} {r s a : Nat} (hr : r < G.n.toNat) (hs : s < G.n.toNat) (ha : a < G.q.toNat) (h : cg (clA G) r = cg (clA G) s) :
  (tgt G.es r a < 0 ↔ tgt G.es s a < 0) ∧ (0 ≤ tgt G.es r a → cg (clA G) (tgt G.es r a) = cg (clA G) (tgt G.es s a)) := by
 have h2 : relA G.q.toNat G.es (clA G) r s = true := by
  have := eqA_succ (q := G.q.toNat) (n := G.n.toNat) (es := G.es) G.n.toNat hr hs
  rw [cls_fix] at this
  show relA G.q.toNat G.es (clsN G.q.toNat G.n.toNat G.es G.n.toNat) r s = true
  rw [← this]
  unfold eqA
  rw [decide_eq_true_iff]; exact h
 exact (relA_iff.1 h2).2 a ha
def mgG (G : Gr) : Gr := ⟨G.q, mxC (clA G), norm (G.es.map (mgE (clA G)))⟩
theorem mem_mg {G : Gr} {y : Ed} : y ∈ (mgG G).es ↔ ∃ x ∈ G.es, mgE (clA G) x = y := by
 show y ∈ norm _ ↔ _
 rw [mem_norm, List.mem_map]
theorem nat_of {z : Int} (h : 0 ≤ z) : ∃ n : Nat, z = n := ⟨z.toNat, by omega⟩
section
variable {G : Gr}
theorem mg_vg (hv : Vg G) : Vg (mgG G) where
 q1 := hv.q1
 q2 := hv.q2
 n1 := mxC_nn _
 n2 := by
  have := cl_le (G := G); have := hv.n2; have := hv.n1
  show mxC (clA G) ≤ 64
  omega
 len := by
  have h := norm_lenN (G.es.map (mgE (clA G)))
  rw [List.length_map] at h
  exact Nat.le_trans h hv.len
 ins := fun y hy => by
  obtain ⟨x, hx, rfl⟩ := mem_mg.1 hy
  obtain ⟨h1, h2, h3, h4, h5, h6⟩ := hv.ins x hx
  obtain ⟨f, hf⟩ := nat_of h1
  obtain ⟨t, ht⟩ := nat_of h3
  have e1 := cl_lt (G := G) (s := f) (by omega)
  have e2 := cl_lt (G := G) (s := t) (by omega)
  show 0 ≤ cg (clA G) x.f ∧ 0 ≤ x.l ∧ 0 ≤ cg (clA G) x.t ∧ cg (clA G) x.f < mxC (clA G) ∧ cg (clA G) x.t < mxC (clA G) ∧ x.l < G.q
  rw [hf, ht]
  exact ⟨e1.1, h2, e2.1, e1.2, e2.2, h6⟩
 srt := norm_srt _
theorem mg_eq (hv : Vg G) : mgA G = (mgG G, 0) := makeA_ok (chkG_ok.2 (mg_vg hv))
theorem mg_edge (hv : Vg G) (hu : Uq G.es) {x : Ed} (hx : x ∈ G.es) {s : Nat} (hs : s < G.n.toNat) (h : cg (clA G) x.f = cg (clA G) s) : 0 ≤ tgt G.es s x.l ∧ cg (clA G) x.t = cg (clA G) (tgt G.es s x.l) := by
 obtain ⟨h1, h2, h3, h4, h5, h6⟩ := hv.ins x hx
 obtain ⟨f, hf⟩ := nat_of h1
 obtain ⟨a, ha⟩ := nat_of h2
 have e := tgt_at hu hx
 rw [hf, ha] at e
 rw [hf] at h
 obtain ⟨k1, k2⟩ := cl_step (G := G) (r := f) (s := s) (a := a) (by omega) hs (by omega) h
 rw [e] at k1 k2
 rw [ha]
 refine ⟨?_, k2 h3⟩
 by_cases h0 : tgt G.es (s : Int) (a : Int) < 0
 ·have := k1.2 h0; omega
 ·omega
theorem mg_uq (hv : Vg G) (hu : Uq G.es) {x y : Ed} (hx : x ∈ (mgG G).es) (hy : y ∈ (mgG G).es) (hf : x.f = y.f) (hl : x.l = y.l) : x = y := by
 obtain ⟨a, ha, rfl⟩ := mem_mg.1 hx
 obtain ⟨b, hb, rfl⟩ := mem_mg.1 hy
 have hf : cg (clA G) a.f = cg (clA G) b.f := hf
 have hl : a.l = b.l := hl
 obtain ⟨h1, h2, h3, h4, h5, h6⟩ := hv.ins b hb
 obtain ⟨f, hf2⟩ := nat_of h1
 rw [hf2] at hf
 have e := mg_edge hv hu ha (s := f) (by omega) hf
 have e2 := tgt_at hu hb
 rw [hf2] at e2
 rw [hl, e2] at e
 show (⟨cg (clA G) a.f, a.l, cg (clA G) a.t⟩ : Ed) = ⟨cg (clA G) b.f, b.l, cg (clA G) b.t⟩
 rw [hf, hf2, hl, e.2]
theorem mg_det (hv : Vg G) (hu : Uq G.es) : detB (mgG G).es = true := detB_t (fun k hk ⟨h1, h2⟩ => by
 have e := mg_uq hv hu (List.getElem_mem (by omega : k < (mgG G).es.length)) (List.getElem_mem hk) h1 h2
 have h := List.pairwise_iff_getElem.1 (mg_vg hv).srt k (k + 1) (by omega) hk (by omega)
 rw [e, ltE_irrefl] at h; cases h)
theorem mg_uq' (hv : Vg G) (hu : Uq G.es) : Uq (mgG G).es := uq_det (mg_vg hv) (mg_det hv hu)
end
end
section
open Go.RowKit
abbrev Sst := List (List Int) × List Ed
def sbAdd (G : Gr) (set : List Int) (i : Nat) (st : Sst) (a : Nat) : Sst :=
 if nextA G set a = [] then st
 else if nextA G set a ∈ st.1 then (st.1, st.2 ++ [⟨(i : Int), (a : Int), ((st.1.idxOf (nextA G set a) : Nat) : Int)⟩])
 else (st.1 ++ [nextA G set a], st.2 ++ [⟨(i : Int), (a : Int), (st.1.length : Int)⟩])
def sbTo (G : Gr) (set : List Int) (i : Nat) (st : Sst) (L : Nat) : Sst := (List.range L).foldl (sbAdd G set i) st
theorem sbTo_succ (G : Gr) (set : List Int) (i : Nat) (st : Sst) (L : Nat) : sbTo G set i st (L + 1) = sbAdd G set i (sbTo G set i st L) L := by
 unfold sbTo; rw [List.range_succ, List.foldl_append]; rfl
theorem sbAdd_none {G : Gr} {set : List Int} {i : Nat} {st : Sst} {a : Nat} (h : nextA G set a = []) : sbAdd G set i st a = st := if_pos h
theorem sbAdd_old {G : Gr} {set : List Int} {i : Nat} {st : Sst} {a : Nat} (h : nextA G set a ≠ []) (h2 : nextA G set a ∈ st.1) : sbAdd G set i st a = (st.1, st.2 ++ [⟨(i : Int), (a : Int), ((st.1.idxOf (nextA G set a) : Nat) : Int)⟩]) := by
 unfold sbAdd; rw [if_neg h, if_pos h2]
theorem sbAdd_new {G : Gr} {set : List Int} {i : Nat} {st : Sst} {a : Nat} (h : nextA G set a ≠ []) (h2 : nextA G set a ∉ st.1) : sbAdd G set i st a = (st.1 ++ [nextA G set a], st.2 ++ [⟨(i : Int), (a : Int), (st.1.length : Int)⟩]) := by
 unfold sbAdd; rw [if_neg h, if_neg h2]
def sbGo (G : Gr) : Nat → Nat → Sst → Option Sst
 | 0, _, _ => none
 | m + 1, i, st => match st.1[i]? with
  | none => some st
  | some set => if 64 < (sbTo G set i st G.q.toNat).1.length ∨ 1024 < (sbTo G set i st G.q.toNat).2.length then none else sbGo G m (i + 1) (sbTo G set i st G.q.toNat)
def ltFL (x y : Ed) : Prop := x.f < y.f ∨ (x.f = y.f ∧ x.l < y.l)
structure Sb (G : Gr) (i a : Nat) (st : Sst) : Prop where
 ins : ∀ x ∈ st.2, 0 ≤ x.f ∧ (x.f < i ∨ (x.f = i ∧ x.l < a)) ∧ 0 ≤ x.l ∧ x.l < G.q ∧ 0 ≤ x.t ∧ x.t < st.1.length
 srt : st.2.Pairwise ltFL
 nd : st.1.Nodup
 ne : ∀ s ∈ st.1, s ≠ []
theorem Sb.snoc {G : Gr} {i a : Nat} {st : Sst} (h : Sb G i a st) (ha : (a : Int) < G.q) (l : List (List Int)) (t : Nat) (ht : t < l.length) (hl : st.1.length ≤ l.length) (hn : l.Nodup) (hne : ∀ s ∈ l, s ≠ []) :
  Sb G i (a + 1) (l, st.2 ++ [⟨(i : Int), (a : Int), (t : Int)⟩]) where
 ins := fun x hx => by
  rcases List.mem_append.1 hx with hx | hx
  ·obtain ⟨h1, h2, h3, h4, h5, h6⟩ := h.ins x hx
   refine ⟨h1, ?_, h3, h4, h5, ?_⟩
   ·rcases h2 with h2 | h2
    ·exact .inl h2
    ·exact .inr ⟨h2.1, by omega⟩
   ·show x.t < (l.length : Int)
    omega
  ·obtain rfl := List.mem_singleton.1 hx
   refine ⟨by simp, .inr ⟨rfl, by simp; omega⟩, by simp, ha, by simp, ?_⟩
   show (t : Int) < (l.length : Int)
   omega
 srt := by
  rw [List.pairwise_append]
  refine ⟨h.srt, by simp, fun x hx y hy => ?_⟩
  obtain rfl := List.mem_singleton.1 hy
  rcases (h.ins x hx).2.1 with h2 | h2
  ·exact .inl h2
  ·exact .inr h2
 nd := hn
 ne := hne
theorem Sb.add {G : Gr} {i a : Nat} {st : Sst} (h : Sb G i a st) (set : List Int) (ha : (a : Int) < G.q) : Sb G i (a + 1) (sbAdd G set i st a) := by
 by_cases h1 : nextA G set a = []
 ·rw [sbAdd_none h1]
  refine ⟨fun x hx => ?_, h.srt, h.nd, h.ne⟩
  obtain ⟨h1, h2, h3⟩ := h.ins x hx
  refine ⟨h1, ?_, h3⟩
  rcases h2 with h2 | h2
  ·exact .inl h2
  ·exact .inr ⟨h2.1, by omega⟩
 ·by_cases h2 : nextA G set a ∈ st.1
  ·rw [sbAdd_old h1 h2]
   exact h.snoc ha st.1 _ (List.idxOf_lt_length_iff.2 h2) (Nat.le_refl _) h.nd h.ne
  ·rw [sbAdd_new h1 h2]
   refine h.snoc ha _ st.1.length (by simp) (by simp) ?_ ?_
   ·rw [List.nodup_append]
    refine ⟨h.nd, by simp, fun x hx y hy => ?_⟩
    obtain rfl := List.mem_singleton.1 hy
    intro e; subst e; exact h2 hx
   ·intro s hs
    rcases List.mem_append.1 hs with hs | hs
    ·exact h.ne s hs
    ·obtain rfl := List.mem_singleton.1 hs; exact h1
theorem Sb.row {G : Gr} {i : Nat} {st : Sst} (h : Sb G i 0 st) (set : List Int) : ∀ L : Nat, (L : Int) ≤ G.q → Sb G i L (sbTo G set i st L)
 | 0, _ => h
 | L + 1, hL => by rw [sbTo_succ]; exact (h.row set L (by omega)).add set (by omega)
theorem Sb.next {G : Gr} {i a : Nat} {st : Sst} (h : Sb G i a st) : Sb G (i + 1) 0 st where
 ins := fun x hx => by
  obtain ⟨h1, h2, h3⟩ := h.ins x hx
  refine ⟨h1, .inl ?_, h3⟩
  rcases h2 with h2 | h2 <;> omega
 srt := h.srt
 nd := h.nd
 ne := h.ne
theorem sbTo_len {G : Gr} {set : List Int} {i : Nat} {st : Sst} : ∀ L : Nat, st.1.length ≤ (sbTo G set i st L).1.length
 | 0 => Nat.le_refl _
 | L + 1 => by
  rw [sbTo_succ]
  refine Nat.le_trans (sbTo_len (G := G) (set := set) (i := i) (st := st) L) ?_
  unfold sbAdd
  split
  ·exact Nat.le_refl _
  ·split
   ·exact Nat.le_refl _
   ·simp
theorem sbGo_ok {G : Gr} (hq : 0 ≤ G.q) : ∀ (m i : Nat) (st r : Sst), Sb G i 0 st → i ≤ st.1.length → st.1.length ≤ 64 → st.2.length ≤ 1024 → sbGo G m i st = some r → Sb G r.1.length 0 r ∧ r.1.length ≤ 64 ∧ r.2.length ≤ 1024 ∧ st.1.length ≤ r.1.length
 | 0, i, st, r, _, _, _, _, h => by cases h
 | m + 1, i, st, r, hS, hi, h64, h1k, h => by
  unfold sbGo at h
  cases hx : st.1[i]? with
  | none =>
   rw [hx] at h
   cases h
   have : i = st.1.length := by have := List.getElem?_eq_none_iff.1 hx; omega
   subst this
   exact ⟨hS, h64, h1k, Nat.le_refl _⟩
  | some set =>
   rw [hx] at h
   simp only at h
   split at h
   ·cases h
   ·rename_i hlim
    have hr := (hS.row set G.q.toNat (by omega)).next
    have hle := sbTo_len (G := G) (set := set) (i := i) (st := st) G.q.toNat
    have hi2 : i < st.1.length := (List.getElem?_eq_some_iff.1 hx).1
    obtain ⟨a, b, c, d⟩ := sbGo_ok hq m (i + 1) _ r hr (by omega) (by omega) (by omega) h
    exact ⟨a, b, c, Nat.le_trans hle d⟩
def sbA (G : Gr) : Gr × List (List Int) × Int :=
 if chkG G = 0 then (if G.n = 0 then (⟨G.q, 0, []⟩, [], 0) else match sbGo G 66 0 ([upto G.n.toNat], []) with
  | none => (⟨0, 0, []⟩, [], 4)
  | some r => (⟨G.q, (r.1.length : Int), r.2⟩, r.1, 0)) else (⟨0, 0, []⟩, [], 1)
theorem Sb.graph {G : Gr} (hv : Vg G) {r : Sst} (h : Sb G r.1.length 0 r) (h64 : r.1.length ≤ 64) (h1k : r.2.length ≤ 1024) : Vg ⟨G.q, (r.1.length : Int), r.2⟩ ∧ Uq r.2 := by
 refine ⟨⟨hv.q1, hv.q2, by simp, by simp; omega, h1k, fun x hx => ?_, ?_⟩, ?_⟩
 ·obtain ⟨h1, h2, h3, h4, h5, h6⟩ := h.ins x hx
  refine ⟨h1, h3, h5, ?_, h6, h4⟩
  show x.f < (r.1.length : Int)
  rcases h2 with h2 | h2 <;> omega
 ·refine h.srt.imp (fun {x y} hxy => ?_)
  rw [ltE_iff]
  rcases hxy with h | h
  ·exact .inl h
  ·exact .inr ⟨h.1, .inl h.2⟩
 ·refine h.srt.imp (fun {x y} hxy hh => ?_)
  rcases hxy with h | h <;> omega
theorem sbA_ok {G : Gr} (h : (sbA G).2.2 = 0) : Vg (sbA G).1 ∧ Uq (sbA G).1.es := by
 unfold sbA at h ⊢
 by_cases hc : chkG G = 0
 ·rw [if_pos hc] at h ⊢
  have hv := chkG_ok.1 hc
  by_cases hn : G.n = 0
  ·rw [if_pos hn]
   exact ⟨⟨hv.q1, hv.q2, by simp, by simp, by simp, (fun x hx => by cases hx), List.Pairwise.nil⟩, List.Pairwise.nil⟩
  ·rw [if_neg hn] at h ⊢
   cases hg : sbGo G 66 0 ([upto G.n.toNat], []) with
   | none => rw [hg] at h; cases h
   | some r =>
    have hs : Sb G 0 0 ([upto G.n.toNat], []) := ⟨(fun x hx => by cases hx), List.Pairwise.nil, by simp, fun s hs => by
     obtain rfl := List.mem_singleton.1 hs
     intro e
     have e2 := congrArg List.length e
     rw [upto_len, List.length_nil] at e2
     have := hv.n1
     omega⟩
    have hq := hv.q1
    obtain ⟨a, b, c, _⟩ := sbGo_ok (by omega) _ _ _ r hs (by simp) (by simp) (by simp) hg
    exact a.graph hv b c
 ·rw [if_neg hc] at h; cases h
end
section
open Go.RowKit
def ord1 (es : List Ed) (s : Int) (o : List Int) (a : Nat) : List Int := if tgt es s (a : Int) ≠ -1 ∧ tgt es s (a : Int) ∉ o then o ++ [tgt es s (a : Int)] else o
def ordT (es : List Ed) (s : Int) (o : List Int) : Nat → List Int
 | 0 => o
 | L + 1 => ord1 es s (ordT es s o L) L
def ordGo (es : List Ed) (L : Nat) : Nat → Nat → List Int → List Int
 | 0, _, o => o
 | f + 1, i, o => match o[i]? with
  | none => o
  | some s => ordGo es L f (i + 1) (ordT es s o L)
def ordA (G : Gr) : List Int := ordGo G.es G.q.toNat (G.n.toNat + 1) 0 [0]
def renE (o : List Int) (x : Ed) : Ed := ⟨((o.idxOf x.f : Nat) : Int), x.l, ((o.idxOf x.t : Nat) : Int)⟩
def renG (G : Gr) : Gr := ⟨G.q, G.n, norm (G.es.map (renE (ordA G)))⟩
def cov4 (M : Gr) : Gr := match sinksA M with
 | [] => ⟨0, 0, []⟩
 | l :: _ => renG (partA M l)
def covA (G : Gr) : Gr × Int :=
 if chkG G ≠ 0 then (⟨0, 0, []⟩, 1) else if irrA G = false then (⟨0, 0, []⟩, 8)
 else if (sbA G).2.2 ≠ 0 then (⟨0, 0, []⟩, (sbA G).2.2) else (cov4 (mgG (sbA G).1), 0)
theorem ordT_succ (es : List Ed) (s : Int) (o : List Int) (L : Nat) : ordT es s o (L + 1) = ord1 es s (ordT es s o L) L := rfl
theorem ord1_old {es : List Ed} {s : Int} {o : List Int} {a : Nat} (h : tgt es s (a : Int) = -1 ∨ tgt es s (a : Int) ∈ o) : ord1 es s o a = o := if_neg (fun k => h.elim k.1 k.2)
theorem ord1_new {es : List Ed} {s : Int} {o : List Int} {a : Nat} (h : tgt es s (a : Int) ≠ -1) (k : tgt es s (a : Int) ∉ o) : ord1 es s o a = o ++ [tgt es s (a : Int)] := if_pos ⟨h, k⟩
theorem nd_le2 : ∀ {l m : List Int}, l.Nodup → (∀ x ∈ l, x ∈ m) → l.length ≤ m.length
 | [], _, _, _ => Nat.zero_le _
 | x :: l, m, hn, hs => by
  rw [List.nodup_cons] at hn
  have hx : x ∈ m := hs x (by simp)
  have h := nd_le2 (l := l) (m := m.erase x) hn.2 (fun y hy => (List.mem_erase_of_ne (fun e => hn.1 (by rw [← e]; exact hy))).2 (hs y (by simp [hy])))
  have h2 := List.length_erase_of_mem hx
  have h3 := List.length_pos_of_mem hx
  rw [List.length_cons]; omega
structure Ord (G : Gr) (i : Nat) (o : List Int) : Prop where
 nd : o.Nodup
 bd : ∀ x ∈ o, 0 ≤ x ∧ x < G.n
 zero : (0 : Int) ∈ o
 le : i ≤ o.length
 cls : ∀ j (h : j < o.length), j < i → ∀ a : Nat, a < G.q.toNat → tgt G.es o[j] a = -1 ∨ tgt G.es o[j] a ∈ o
theorem Ord.len {G : Gr} {i : Nat} {o : List Int} (h : Ord G i o) : o.length ≤ G.n.toNat := by
 have := nd_le2 (m := upto G.n.toNat) h.nd (fun x hx => mem_upto.2 (by have := h.bd x hx; omega))
 rwa [upto_len] at this
theorem ord1_app (es : List Ed) (s : Int) (o : List Int) (a : Nat) : ∃ r, ord1 es s o a = o ++ r := by
 unfold ord1
 split
 ·exact ⟨_, rfl⟩
 ·exact ⟨[], by simp⟩
theorem ordT_app (es : List Ed) (s : Int) (o : List Int) : ∀ L, ∃ r, ordT es s o L = o ++ r
 | 0 => ⟨[], by simp [ordT]⟩
 | L + 1 => by
  obtain ⟨r, hr⟩ := ordT_app es s o L
  obtain ⟨r', hr'⟩ := ord1_app es s (ordT es s o L) L
  exact ⟨r ++ r', by rw [ordT_succ, hr', hr, List.append_assoc]⟩
theorem ord1_ok {G : Gr} (hv : Vg G) {i : Nat} {o : List Int} {s : Int} (h : Ord G i o) (a : Nat) : Ord G i (ord1 G.es s o a) := by
 by_cases h1 : tgt G.es s (a : Int) = -1 ∨ tgt G.es s (a : Int) ∈ o
 ·rw [ord1_old h1]; exact h
 ·have hn : tgt G.es s (a : Int) ≠ -1 := fun e => h1 (.inl e)
  have hm : tgt G.es s (a : Int) ∉ o := fun e => h1 (.inr e)
  have hb := tgt_bd hv s a
  rw [ord1_new hn hm]
  refine ⟨?_, fun x hx => ?_, by simp [h.zero], by have := h.le; simp; omega, fun j hj hji b hb2 => ?_⟩
  ·rw [List.nodup_append]
   refine ⟨h.nd, by simp, fun x hx y hy => ?_⟩
   obtain rfl := List.mem_singleton.1 hy
   exact fun e => hm (e ▸ hx)
  ·rcases List.mem_append.1 hx with hx | hx
   ·exact h.bd x hx
   ·obtain rfl := List.mem_singleton.1 hx; omega
  ·have hjl : j < o.length := by have := h.le; omega
   rw [List.getElem_append_left hjl]
   rcases h.cls j hjl hji b hb2 with e | e
   ·exact .inl e
   ·exact .inr (List.mem_append_left _ e)
theorem ordT_ok {G : Gr} (hv : Vg G) {i : Nat} {o : List Int} {s : Int} (h : Ord G i o) : ∀ L, Ord G i (ordT G.es s o L)
 | 0 => h
 | L + 1 => ord1_ok hv (ordT_ok hv h L) L
theorem ordT_in {es : List Ed} {s : Int} {o : List Int} : ∀ {L a : Nat}, a < L → tgt es s (a : Int) = -1 ∨ tgt es s (a : Int) ∈ ordT es s o L
 | L + 1, a, ha => by
  rw [ordT_succ]
  obtain ⟨r, hr⟩ := ord1_app es s (ordT es s o L) L
  by_cases h : a = L
  ·subst h
   by_cases h1 : tgt es s (a : Int) = -1 ∨ tgt es s (a : Int) ∈ ordT es s o a
   ·rw [ord1_old h1]; exact h1
   ·rw [ord1_new (fun e => h1 (.inl e)) (fun e => h1 (.inr e))]; exact .inr (by simp)
  ·rcases ordT_in (es := es) (s := s) (o := o) (L := L) (a := a) (by omega) with e | e
   ·exact .inl e
   ·exact .inr (by rw [hr]; exact List.mem_append_left _ e)
theorem Ord.row {G : Gr} (hv : Vg G) {i : Nat} {o : List Int} {s : Int} (h : Ord G i o) (hs : o[i]? = some s) : Ord G (i + 1) (ordT G.es s o G.q.toNat) := by
 have k := ordT_ok hv (s := s) h G.q.toNat
 obtain ⟨hi, he⟩ := List.getElem?_eq_some_iff.1 hs
 obtain ⟨r, hr⟩ := ordT_app G.es s o G.q.toNat
 have hlen : o.length ≤ (ordT G.es s o G.q.toNat).length := by rw [hr]; simp
 refine ⟨k.nd, k.bd, k.zero, by omega, fun j hj hji a ha => ?_⟩
 by_cases e : j = i
 ·subst e
  have : (ordT G.es s o G.q.toNat)[j] = s := by simp only [hr]; rw [List.getElem_append_left hi]; exact he
  rw [this]
  exact ordT_in ha
 ·exact k.cls j hj (by omega) a ha
theorem ordGo_ok {G : Gr} (hv : Vg G) : ∀ (f i : Nat) (o : List Int), Ord G i o → G.n.toNat + 1 ≤ f + i → Ord G (ordGo G.es G.q.toNat f i o).length (ordGo G.es G.q.toNat f i o)
 | 0, i, o, h, hf => by have := h.le; have := h.len; omega
 | f + 1, i, o, h, hf => by
  unfold ordGo
  cases hs : o[i]? with
  | none =>
   have : o.length = i := by have := List.getElem?_eq_none_iff.1 hs; have := h.le; omega
   show Ord G o.length o
   rw [this]; exact h
  | some s => exact ordGo_ok hv f (i + 1) _ (h.row hv hs) (by omega)
theorem ordA_ok {G : Gr} (hv : Vg G) (hn : 0 < G.n) : Ord G (ordA G).length (ordA G) :=
 ordGo_ok hv _ 0 [0] ⟨by simp, fun x hx => by obtain rfl := List.mem_singleton.1 hx; omega, by simp, by simp, fun j _ h => by omega⟩ (by omega)
theorem ord_all {G : Gr} (hv : Vg G) (hu : Uq G.es) (hn : 0 < G.n) (hr : ∀ t : Int, 0 ≤ t → t < G.n → Rch G.es 0 t) {x : Int} (h0 : 0 ≤ x) (h1 : x < G.n) : x ∈ ordA G := by
 have h := ordA_ok hv hn
 refine (hr x h0 h1).keep (P := fun u => u ∈ ordA G) (fun y hy hf => ?_) h.zero
 obtain ⟨j, hj, e⟩ := List.mem_iff_getElem.1 hf
 have hb := hv.ins y hy
 have := h.cls j hj hj y.l.toNat (by omega)
 rw [e, show ((y.l.toNat : Nat) : Int) = y.l by omega, tgt_at hu hy] at this
 rcases this with k | k
 ·omega
 ·exact k
theorem part_uq {G : Gr} (hu : Uq G.es) (st : List Int) : Uq (partA G st).es := by
 refine List.Pairwise.filterMap _ (fun x x' h y hy y' hy' => ?_) hu
 obtain ⟨a, b, rfl⟩ := partE_some hy
 obtain ⟨a', b', rfl⟩ := partE_some hy'
 rintro ⟨e1, e2⟩
 refine h ⟨iof_inj a a' ?_, e2⟩
 have e1' : ((st.idxOf x.f : Nat) : Int) = ((st.idxOf x'.f : Nat) : Int) := e1
 omega
theorem part_stp {G : Gr} {st : List Int} (hc : ∀ x ∈ G.es, x.f ∈ st → x.t ∈ st) : ∀ {n : Nat} {s t : Int}, s ∈ st → stpI G.es n s t → Rch (partA G st).es ((st.idxOf s : Nat) : Int) ((st.idxOf t : Nat) : Int)
 | 0, s, t, _, h => by cases h; exact Rch.refl _
 | n + 1, s, t, hs, ⟨x, hx, hf, h⟩ => by
  subst hf
  have ht := hc x hx hs
  have he : (⟨((st.idxOf x.f : Nat) : Int), x.l, ((st.idxOf x.t : Nat) : Int)⟩ : Ed) ∈ (partA G st).es := List.mem_filterMap.2 ⟨x, hx, by unfold partE; rw [if_pos ⟨hs, ht⟩]⟩
  exact (Rch.edge he).trans (part_stp hc ht h)
theorem sink_part {G : Gr} (hv : Vg G) {l : List Int} {ls : List (List Int)} (h : sinksA G = l :: ls) : St G.n l ∧ 0 < l.length ∧ ∀ t : Int, 0 ≤ t → t < (partA G l).n → Rch (partA G l).es 0 t := by
 have hm : l ∈ sinksA G := by rw [h]; simp
 obtain ⟨h1, h2⟩ := List.mem_filter.1 hm
 obtain ⟨s, hs, rfl, _⟩ := comps_mem hv h1
 have hst := cmp_st hv hs
 have hself := cmp_self hv hs
 have hpos := List.length_pos_of_mem hself
 refine ⟨hst, hpos, fun t h0 ht => ?_⟩
 have ht2 : t < ((cmpA G s).length : Int) := ht
 have hc : ∀ x ∈ G.es, x.f ∈ cmpA G s → x.t ∈ cmpA G s := fun x hx hf => sink_keep h2 (Rch.edge hx) hf
 have idx : ∀ k (hk : k < (cmpA G s).length), (cmpA G s).idxOf ((cmpA G s)[k]) = k := fun k hk => by
  have hmem := List.getElem_mem hk
  have e := iof_get hmem
  have hl := iof_lt hmem
  rcases Nat.lt_trichotomy ((cmpA G s).idxOf ((cmpA G s)[k])) k with h | h | h
  ·have := List.pairwise_iff_getElem.1 hst.srt _ _ hl hk h; omega
  ·exact h
  ·have := List.pairwise_iff_getElem.1 hst.srt _ _ hk hl h; omega
 have k0 := List.getElem_mem hpos
 have k1 := List.getElem_mem (show t.toNat < (cmpA G s).length by omega)
 have r0 := ((mem_cmp hv hs).1 k0).2.2
 have r1 := ((mem_cmp hv hs).1 k1).2.1
 obtain ⟨n, hn⟩ := r0.trans r1
 have := part_stp hc k0 hn
 rw [idx 0 hpos, idx t.toNat (by omega), Int.toNat_of_nonneg h0] at this
 exact this
theorem ren_vg {G : Gr} (hv : Vg G) (hn : 0 < G.n) (ha : ∀ x : Int, 0 ≤ x → x < G.n → x ∈ ordA G) : Vg (renG G) where
 q1 := hv.q1
 q2 := hv.q2
 n1 := hv.n1
 n2 := hv.n2
 len := by have := norm_le (G.es.map (renE (ordA G))); rw [List.length_map] at this; exact Nat.le_trans this hv.len
 ins := fun y hy => by
  obtain ⟨x, hx, rfl⟩ := List.mem_map.1 (mem_norm.1 hy)
  have hb := hv.ins x hx
  have hl := (ordA_ok hv hn).len
  have h1 := iof_lt (ha x.f hb.1 hb.2.2.2.1)
  have h2 := iof_lt (ha x.t hb.2.2.1 hb.2.2.2.2.1)
  show (0 : Int) ≤ (((ordA G).idxOf x.f : Nat) : Int) ∧ 0 ≤ x.l ∧ (0 : Int) ≤ (((ordA G).idxOf x.t : Nat) : Int) ∧ (((ordA G).idxOf x.f : Nat) : Int) < G.n ∧ (((ordA G).idxOf x.t : Nat) : Int) < G.n ∧ x.l < G.q
  omega
 srt := norm_srt _
theorem ren_eq {G : Gr} (hv : Vg G) (hn : 0 < G.n) (ha : ∀ x : Int, 0 ≤ x → x < G.n → x ∈ ordA G) : makeA G.q G.n (G.es.map (renE (ordA G))) = (renG G, 0) := makeA_ok (chkG_ok.2 (ren_vg hv hn ha))
theorem cov4_ok {M : Gr} (hv : Vg M) (hu : Uq M.es) (hn : 0 < M.n) : ∃ l ls, sinksA M = l :: ls ∧ St M.n l ∧ Vg (partA M l) ∧ Uq (partA M l).es ∧ 0 < (partA M l).n ∧ (∀ x : Int, 0 ≤ x → x < (partA M l).n → x ∈ ordA (partA M l)) ∧ cov4 M = renG (partA M l) := by
 obtain ⟨l, ls, h⟩ := sinks_ne hv hn
 obtain ⟨h1, h2, h3⟩ := sink_part hv h
 have hp : 0 < (partA M l).n := by show (0 : Int) < (l.length : Int); omega
 exact ⟨l, ls, h, h1, part_vg hv h1, part_uq hu l, hp, fun x h0 hx => ord_all (part_vg hv h1) (part_uq hu l) hp h3 h0 hx, by unfold cov4; rw [h]⟩
end
section
open Go.RowKit Go.Sort Go.Shelf Go.Lib
theorem stepA_next {G : Gr} {st : List Int} {b : Int} (hv : Vg G) (hc : chkS G.n none st = 0) (h0 : 0 ≤ b) (h1 : b < G.q) : stepA G st b = (nextA G st b, 0) := by
 unfold stepA; rw [if_pos (chkG_ok.2 hv), if_pos hc, if_neg (by omega)]
theorem own_len {w : World} {B e n : Nat} {p : Option Addr} {m c : Nat} {xs : List Value} (h : w.ownsRow B e 1 (.slice p m c) n xs) : m = n := by
 rcases h.2 with ⟨e, rfl⟩ | ⟨g, cap, cur, e, _⟩
 ·cases e; rfl
 ·cases e; rfl
theorem retLi_own {r : List Int} {k : Int} {w : World} {e : Ending} {w' : World} (h : RetLi r k w e w') : ∃ p c, e = .returned (.tuple #[.slice p r.length c, .int .i64 k]) ∧ w'.ownsRow w.heap.size 3 1 (.slice p r.length c) r.length (r.map (Value.int .i64)) ∧ RowKit.Below w.heap.size w w' := by
 obtain ⟨p, m, c, rfl, ho, hB⟩ := h
 obtain rfl := own_len ho
 exact ⟨p, c, rfl, ho, hB⟩
set_option maxRecDepth 100000 in
set_option maxHeartbeats 2000000 in
theorem ssteps_any (G : Gr) (p : Option Addr) (c : Nat) (st : List Int) (q : Option Addr) (d : Nat) (gi : Nat) (lb : Array Value) (J : Nat → World → Prop) (w : World)
  (hv : Vg G) (hc : chkS G.n none st = 0) (hs : st.length ≤ 64) (eg : ∀ args w, (callFunc gi args).run Tryz.prog w = .ok (.enter gi args) w)
  (hJs : ∀ a W, J a W → Sg 3 W edE p G.es ∧ Sl W (Value.int .i64) q st)
  (hJb : ∀ a W W', J a W → RowKit.Below W.heap.size W W' → J a W')
  (hJn : ∀ (a : Nat) W, (a : Int) < G.q → nextA G st a = [] → J a W → J (a + 1) W)
  (hJe : ∀ (a : Nat) W pn cn, (a : Int) < G.q → nextA G st a ≠ [] → w.heap.size < W.heap.size → J a W →
   W.ownsRow w.heap.size 3 1 (.slice pn (nextA G st a).length cn) (nextA G st a).length ((nextA G st a).map (Value.int .i64)) →
   Calls Tryz.prog gi (#[.int .i64 a, .slice pn (nextA G st a).length cn] ++ lb) W fun e W' => e = .returned (.tuple #[]) ∧ J (a + 1) W' ∧ (∀ l, VRow W w.heap.size 24 l → VRow W' w.heap.size 24 l))
  (h0 : J 0 w) :
  Calls Tryz.prog 167 #[(.agg #[.int .i64 G.q, .int .i64 G.n, .slice p G.es.length c]), .slice q st.length d, .func (.func gi) #[] lb] w fun e w' => e = .returned (.tuple #[]) ∧ J G.q.toNat w' := by
 obtain ⟨w0, hw0⟩ : ∃ w0, w0 = w.alloc (.cells #[.int .i64 G.q, .int .i64 G.n, .slice p G.es.length c] 24) := ⟨_, rfl⟩
 have b0 : VRow w0 w.heap.size 24 [.int .i64 G.q, .int .i64 G.n, .slice p G.es.length c] := by subst hw0; exact VRow.new w _ _
 have hB0 : RowKit.Below w.heap.size w w0 := by subst hw0; exact (RowKit.Below.refl _ _).alloc (Nat.le_refl _) _
 have J0 := hJb 0 w w0 h0 hB0
 obtain ⟨Q, hQ⟩ : ∃ Q : Nat, G.q = Q := ⟨G.q.toNat, by have := hv.q1; omega⟩
 have HQ : Hid (G.q.toNat = Q) := by rw [Hid, hQ]; rfl
 have HQ2 := hidI hQ
 have hq2 : Q ≤ 256 := by have := hv.q2; omega
 have HV := hidI hv; have HC := hidI hc
 have hlen := HV.out.len
 have g0 := b0.at 0 rfl
 clear hv hc hQ h0 hB0
 rw [HQ.out]
 go_enter Tryz.func167, Tryz.ntmps167
 go_wp2
 rw [← hw0]
 clear hw0 g0
 go_loopw [11] (fun iv wr => ∃ k : Nat, k ≤ Q ∧ iv = .int .i64 k ∧ J k wr ∧ VRow wr w.heap.size 24 [.int .i64 G.q, .int .i64 G.n, .slice p G.es.length c]) (fun iv _ => Q - (intOf iv).toNat)
 case atStart => exact ⟨0, by omega, rfl, J0, b0⟩
 case round =>
  clear J0 b0
  obtain ⟨k, hk, rfl, hJ, br⟩ := hrel
  by_cases hlt : k < Q
  ·have hltk : (k : Int) < G.q := by rw [HQ2.out]; omega
   have f0 := br.at 0 rfl; have f1 := br.at 1 rfl; have f2 := br.at 2 rfl
   have hlt0 := br.lt
   obtain ⟨hsg, hsl⟩ := hJs k wr hJ
   have HG := hidI (gStep_any G p c st q d k wr hsg hsl (by omega) (by omega))
   rw [stepA_next HV.out HC.out (by omega) hltk] at HG
   have HN := hidI (hJn k); have HE := hidI (hJe k)
   generalize nextA G st (k : Int) = nx at *
   have HLT := hidI hltk
   go_wp2_with fail
   refine HG.out.mono ?_
   rintro e w1 hret
   obtain ⟨pn, cn, rfl, hown, hB1⟩ := retLi_own hret
   have J1 := hJb k wr w1 hJ hB1
   have b1 := br.below hB1 hlt0
   clear hJ br f0 f1 f2 hret
   by_cases hn : nx = []
   ·have J2 := HN.out w1 HLT.out hn J1
    have hl0 : nx.length = 0 := by rw [hn]; rfl
    go_wp2
    go_roundw
    case rel => exact ⟨k + 1, by omega, by go_num, J2, b1⟩
    case measure => simp [intOf]; omega
   ·have hl0 : (0 : Int) < (nx.length : Int) := by have := List.length_pos_iff.2 hn; omega
    have hw1 : w.heap.size < w1.heap.size := b1.lt
    have HE2 := hidI (HE.out w1 pn cn HLT.out hn hw1 J1 (own_downN hown (by omega)))
    go_wp2_with fail
    go_at_fn gi
    refine HE2.out.mono ?_
    rintro e w2 ⟨rfl, J2, hk2⟩
    have b2 := hk2 _ b1
    go_wp2
    go_roundw
    case rel => exact ⟨k + 1, by omega, by go_num, J2, b2⟩
    case measure => simp [intOf]; omega
  ·have hltk : ¬ (k : Int) < G.q := by rw [HQ2.out]; omega
   obtain rfl : k = Q := by omega
   go_wp2
   go_end0
   exact ⟨rfl, hJ⟩
end
section
open Go.RowKit
def keyL : List Int → List UInt8
 | [] => []
 | s :: l => Lib.decDigits s.toNat ++ 32 :: keyL l
theorem dg_no : ∀ i, i < 100 → (32 : UInt8) ∉ Lib.decDigits i := by decide +kernel
theorem dg_inj : ∀ i, i < 100 → ∀ j, j < 100 → Lib.decDigits i = Lib.decDigits j → i = j := by decide +kernel
theorem sep_inj {c : UInt8} : ∀ {a b r r' : List UInt8}, c ∉ a → c ∉ b → a ++ c :: r = b ++ c :: r' → a = b ∧ r = r'
 | [], [], r, r', _, _, h => by simp at h; exact ⟨rfl, h⟩
 | [], y :: b, r, r', _, hb, h => by simp at h; exact absurd (by simp [h.1]) hb
 | x :: a, [], r, r', ha, _, h => by simp at h; exact absurd (by simp [h.1]) ha
 | x :: a, y :: b, r, r', ha, hb, h => by
  simp only [List.cons_append, List.cons.injEq] at h
  obtain ⟨h1, h2⟩ := sep_inj (fun hm => ha (List.mem_cons_of_mem _ hm)) (fun hm => hb (List.mem_cons_of_mem _ hm)) h.2
  exact ⟨by rw [h.1, h1], h2⟩
theorem keyL_inj : ∀ {l m : List Int}, (∀ x ∈ l, 0 ≤ x ∧ x < 100) → (∀ x ∈ m, 0 ≤ x ∧ x < 100) → keyL l = keyL m → l = m
 | [], [], _, _, _ => rfl
 | [], y :: m, _, _, h => by simp [keyL] at h
 | x :: l, [], _, _, h => by simp [keyL] at h
 | x :: l, y :: m, hl, hm, h => by
  have h1 := hl x (by simp)
  have h2 := hm y (by simp)
  obtain ⟨k1, k2⟩ := sep_inj (dg_no x.toNat (by omega)) (dg_no y.toNat (by omega)) h
  have e := dg_inj x.toNat (by omega) y.toNat (by omega) k1
  have e2 : x = y := by omega
  rw [e2, keyL_inj (fun z hz => hl z (by simp [hz])) (fun z hz => hm z (by simp [hz])) k2]
theorem keyL_snoc : ∀ (l : List Int) (s : Int), keyL (l ++ [s]) = keyL l ++ (Lib.decDigits s.toNat ++ [32])
 | [], s => by simp [keyL]
 | x :: l, s => by simp [keyL, keyL_snoc l s]
theorem dit_small : ∀ i, i < 100 → (Lib.decDigits i).length ≤ 2 := by decide +kernel
theorem keyL_len : ∀ {l : List Int}, (∀ x ∈ l, 0 ≤ x ∧ x < 100) → (keyL l).length ≤ 3 * l.length
 | [], _ => Nat.le_refl _
 | x :: l, h => by
  have h1 := dit_small x.toNat (by have := h x (by simp); omega)
  have h2 := keyL_len (l := l) (fun y hy => h y (by simp [hy]))
  simp only [keyL, List.length_append, List.length_cons]
  omega
end
end Go.Proofs.YtocbhlohcikapaaGreatDoor
