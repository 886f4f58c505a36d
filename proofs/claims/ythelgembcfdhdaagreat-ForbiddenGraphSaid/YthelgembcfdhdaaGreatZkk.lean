/-
  Words, plain lemmas and walks, merged: Hy, Ci, Cj, Ka, Kb.
-/
import Derived.Test.YthelgembcfdhdaaGreatZkj
import Derived.Test.YthelgembcfdhdaaGreatZkg
import Derived.Test.YthelgembcfdhdaaGreatZki
import Derived.Test.YthelgembcfdhdaaGreatZka
import Derived.Test.YthelgembcfdhdaaGreatZkc
import Derived.Lib.IndexMore
set_option linter.unusedVariables false
set_option linter.unusedSimpArgs false
namespace Go.Proofs.YthelgembcfdhdaaGreat
open Go.RowKit Go.Shelf
attribute [local go_sem] Oper.semAt_some

theorem cmp_len (l : List Int) : (Lib.compact l).length ≤ l.length := by
  have key : ∀ m, (Lib.compactUpTo l.toArray m).length ≤ m := by
    intro m
    induction m with
    | zero => simp [Lib.compactUpTo]
    | succ m ih => rw [Lib.compactUpTo_succ, List.length_append]; split <;> simp <;> omega
  exact key l.length
theorem KC.own {B B' e n size : Nat} {W W' : World} {v : Value} {xs : List Value} (h : KC B W W') (ho : W.ownsRow B' e size v n xs) : W'.ownsRow B' e size v n xs :=
  ⟨ho.1, ho.2.imp id (fun ⟨g, cap, cur, a, b, hh, z⟩ => ⟨g, cap, cur, a, b, h.cells g _ hh rfl, z⟩)⟩
/-- The ends of those edges that bear the label. -/
def labL (b : Int) (l : List (Nat × Ed)) : List Int := (l.filter (fun x => decide (x.2.l = b))).map (fun x => x.2.t)
theorem labL_hit {b : Int} {l : List (Nat × Ed)} {i : Nat} {x : Ed} (h : x.l = b) : labL b (l ++ [(i, x)]) = labL b l ++ [x.t] := by simp [labL, h]
theorem labL_miss {b : Int} {l : List (Nat × Ed)} {i : Nat} {x : Ed} (h : ¬ x.l = b) : labL b (l ++ [(i, x)]) = labL b l := by simp [labL, h]
theorem labL_le (b : Int) (l : List (Nat × Ed)) : (labL b l).length ≤ l.length := by unfold labL; rw [List.length_map]; exact List.length_filter_le _ _
theorem labL_lv (es : List Ed) (s b : Int) : ∀ k, k ≤ es.length → labL b (lvL es s k) = (((es.take k).filter (fun x => decide (x.f = s) && decide (x.l = b))).map Ed.t)
  | 0, _ => rfl
  | k + 1, h => by
    rw [lvL_succ (by omega), List.take_succ_eq_append_getElem (by omega : k < es.length), List.filter_append, List.map_append, ← labL_lv es s b k (by omega)]
    by_cases h1 : es[k].f = s
    · rw [if_pos h1]
      by_cases h2 : es[k].l = b
      · rw [labL_hit h2]; simp [h1, h2]
      · rw [labL_miss h2]; simp [h2]
    · rw [if_neg h1, List.append_nil]; simp [h1]
theorem stepL_succ (es : List Ed) (st : List Int) (b : Int) (k : Nat) (h : k < st.length) : stepL es (st.take (k + 1)) b = stepL es (st.take k) b ++ labL b (lvL es st[k] es.length) := by
  rw [labL_lv _ _ _ _ (Nat.le_refl _), List.take_length]
  unfold stepL
  rw [List.take_succ_eq_append_getElem h, List.flatMap_append, List.flatMap_cons, List.flatMap_nil, List.append_nil]
theorem stepL_len (es : List Ed) (st : List Int) (b : Int) : (stepL es st b).length ≤ st.length * es.length := by
  unfold stepL
  induction st with
  | nil => simp
  | cons s st ih =>
    rw [List.flatMap_cons, List.length_append, List.length_map, List.length_cons, Nat.add_mul, Nat.one_mul]
    have := List.length_filter_le (fun x => decide (x.f = s) && decide (x.l = b)) es
    omega
/-- A row of numbers that is no block of the sequence's. -/
def OutS (B b : Nat) (l : List Int) (W : World) : Prop := ∃ v, VRow W b 57 [v] ∧ W.ownsRow B 3 1 v l.length (l.map (Value.int .i64)) ∧ v.ownBlock ≠ some b ∧ (l = [] → v = .slice none 0 0)
/-- Where the rounds of Step stand. -/
def SInv (G : Gr) (p : Option Addr) (c : Nat) (st : List Int) (q : Option Addr) (d : Nat) (b : Int) (w : World) (bx k : Nat) (a : Act) (W : World) : Prop :=
  ∃ (ds : List Deferred) (u4 u8 u10 u11 u12 u13 u14 u15 u16 u17 u18 u19 u20 u21 u22 u23 u24 u25 u26 u27 u28 u29 u30 u34 u35 u36 u37 u38 u39 u40 u41 u42 u43 u44 u45 u46 u47 u48 u49 u50 u51 u52 u53 u54 u55 : Value), a = { tmps := #[(.agg #[.int .i64 G.q, .int .i64 G.n, .slice p G.es.length c]), (.slice q st.length d), (.int .i64 b), (.pointer (some ⟨w.heap.size, 0, none⟩)), u4, (.pointer (some ⟨w.heap.size + 1, 0, none⟩)), (.slice none 0 0), (.int .i64 0), u8, (.pointer (some ⟨bx, 0, none⟩)), u10, u11, u12, u13, u14, u15, u16, u17, u18, u19, u20, u21, u22, u23, u24, u25, u26, u27, u28, u29, u30, (.slice q st.length d), (.int .i64 st.length), (.int .i64 k), u34, u35, u36, u37, u38, u39, u40, u41, u42, u43, u44, u45, u46, u47, u48, u49, u50, u51, u52, u53, u54, u55], defers := ds } ∧
    k ≤ st.length ∧ OutS (bx + 1) bx (stepL G.es (st.take k) b) W ∧ Marks (bx + 1) W ds ∧ VRow W w.heap.size 27 [.int .i64 G.q, .int .i64 G.n, .slice p G.es.length c] ∧ VRow W (w.heap.size + 1) 3 [.int .i64 b] ∧ RowKit.Below w.heap.size w W ∧ bx + 1 ≤ W.heap.size
def smu (st : List Int) (a : Act) : Nat := st.length - (intOf (a.tmps.getD 33 undef)).toNat
/-- All blocks below n are as they were. -/
def KL (n : Nat) (W W' : World) : Prop := n ≤ W'.heap.size ∧ ∀ i, i < n → W'.heap[i]? = W.heap[i]?
theorem ownFrom_kl {β : Type} {n B : Nat} (W0 : World) (h : n ≤ B) : OwnFrom B (fun (_ : β) W => KL n W0 W) := fun _ X Y row hs hg hr =>
  ⟨Nat.le_trans hs.1 hg.size, fun i hi => (hg.block i (by have := hs.1; omega) (fun e => by have := (hr i e.symm).1; omega)).trans (hs.2 i hi)⟩
theorem ownFrom_keepsO {β : Type} (W0 : World) : OwnFrom W0.heap.size (fun (_ : β) W => KeepsOthers W0 W) := fun _ X Y row hs hg hr =>
  ⟨Nat.le_trans hs.size hg.size, fun i o hi ho => by
    have hlt := (Array.getElem?_eq_some_iff.1 hi).1
    exact (hg.block i (Nat.lt_of_lt_of_le hlt hs.size) (fun e => by have := (hr i e.symm).1; omega)).trans (hs.same i o hi ho)⟩
/-- The same, and no block of the sequence's that is at hand. -/
def OutT (B b Bs : Nat) (l : List Int) (W : World) : Prop := ∃ v, VRow W b 57 [v] ∧ W.ownsRow B 3 1 v l.length (l.map (Value.int .i64)) ∧ v.ownBlock ≠ some b ∧ (l = [] → v = .slice none 0 0) ∧ v.ownBlock ≠ some Bs
theorem OutT.own {β : Type} (B b Bs : Nat) (f : β → List Int) : Own (fun s W => OutT B b Bs (f s) W) := by
  rintro s X Y row ⟨v, h1, h2, h3, h4⟩ hg hrow
  refine ⟨v, VRow.own b 57 (fun _ : Unit => [v]) () X Y row h1 hg hrow, ?_, h3, h4⟩
  refine h2.kept hg ?_
  rcases h2.2 with ⟨rfl, _⟩ | ⟨g, cap, cur, rfl, _, hh, _⟩
  · exact .inl rfl
  · refine .inr (fun e => ?_)
    obtain ⟨o, ho, hc⟩ := hrow g (by rw [← e]; rfl)
    rw [hh] at ho; cases ho; cases hc
theorem sgB_mono {n m : Nat} {w : World} {p : Option Addr} {l : List Ed} (h : SgB n w p l) (hm : n ≤ m) : SgB m w p l := by
  rcases h with h | ⟨b, off, h1, h2, h3, h4⟩
  · exact .inl h
  · exact .inr ⟨b, off, h1, by omega, h3, h4⟩
/-- Where a row begins: behind all that lies, if it is nil. -/
theorem own_start {W : World} {B n : Nat} {v : Value} {xs : List Value} (h : W.ownsRow B 3 1 v n xs) (hB : B ≤ W.heap.size) (hn : n = 0 → v = .slice none 0 0) :
    ∃ B', B ≤ B' ∧ B' ≤ W.heap.size ∧ W.ownsRow B' 3 1 v n xs ∧ (n = 0 → B' = W.heap.size) := by
  by_cases h0 : n = 0
  · have hv := hn h0
    subst h0; subst hv
    exact ⟨W.heap.size, hB, Nat.le_refl _, ⟨h.1, .inl ⟨rfl, rfl⟩⟩, fun _ => rfl⟩
  · exact ⟨B, Nat.le_refl _, hB, h, fun e => absurd e h0⟩
/-- Behind an append a row is no cell that another row's was not. -/
theorem own_apart {W : World} {B' n : Nat} {v v' : Value} {x : Value} {xs : List Value} {W' : World} {Bs : Nat} (hs : VRow W Bs 3 [x]) (hg : W.grownBy W' v.ownBlock) (hne : v.ownBlock ≠ some Bs) (h : W'.ownsRow B' 3 1 v' (n + 1) xs)
    (hB : n = 0 → Bs < B') : v'.ownBlock ≠ some Bs := by
  intro e
  rcases h.2 with ⟨rfl, _⟩ | ⟨g, cap, cur, rfl, hgB, hh, hc, _, hsz, _⟩
  · simp [Value.ownBlock] at e
  · obtain rfl : g = Bs := by simpa [Value.ownBlock] using e
    by_cases h0 : n = 0
    · have := hB h0; omega
    · rw [hg.block g hs.lt (fun e => hne e.symm), show W.heap[g]? = _ from hs] at hh
      cases hh
      simp at hsz
      omega

set_option maxRecDepth 100000 in
set_option maxHeartbeats 4000000 in
theorem gStep_in (G : Gr) (p : Option Addr) (c : Nat) (st : List Int) (q : Option Addr) (d : Nat) (b : Int) (w : World) (hin : Sg 3 w edE p G.es) (hst : Sl w (Value.int .i64) q st) (hv : Vg G) (hs : st.length ≤ 64) (hc : chkS G.n none st = 0) (h0 : 0 ≤ b) (h1 : b < G.q) :
    CallsIn Fence.wide 9 Tryz.prog 100 #[(.agg #[.int .i64 G.q, .int .i64 G.n, .slice p G.es.length c]), .slice q st.length d, .int .i64 b] w (RetLi (nextA G st b) 0 w) := by
  have HIN := hidI hin; have HST := hidI hst; have HV := hidI hv; have HC := hidI hc
  have hl := hv.len
  clear hin hst hv hc
  obtain ⟨i0, hi0, hz0, hz1, hz3⟩ := info_parts infoIn
  obtain ⟨w0, hw0⟩ : ∃ w0, w0 = (w.alloc (.cells #[.int .i64 G.q, .int .i64 G.n, .slice p G.es.length c] 27)).alloc (.cells #[.int .i64 b] 3) := ⟨_, rfl⟩
  have b0 : VRow w0 w.heap.size 27 [.int .i64 G.q, .int .i64 G.n, .slice p G.es.length c] := by subst hw0; exact (VRow.new w _ _).alloc _
  have b1 : VRow w0 (w.heap.size + 1) 3 [.int .i64 b] := by subst hw0; exact VRow.new1 w _ _ _
  have hB0 : RowKit.Below w.heap.size w w0 := by subst hw0; exact ((RowKit.Below.refl _ _).alloc (Nat.le_refl _) _).alloc (by simp) _
  refine callsIn_of_wp_marks Tryz.func100 rfl trivial ?_ rfl
  simp only [Tryz.ntmps100, List.size_toArray, List.length_cons, List.length_nil, Nat.reduceAdd, Nat.reduceSub, Array.replicate_succ, Array.replicate_zero, List.push_toArray, List.append_toArray, List.nil_append, List.cons_append]
  gi_wp2_with (refine ⟨trivial, ?_⟩; gi_at_call 60)
  rw [← hw0]
  clear hw0
  refine (callsIn_wide.2 (gCheck_r G p c _ 0 (chkG_ok.2 HV.out) (HIN.out.below hB0) (by omega))).mono ?_
  rintro e w1 ⟨rfl, hB1⟩
  have x1 := hB0.trans (hB1.mono hB0.size)
  have c0 := b0.below hB1 b0.lt
  have c1 := b1.below hB1 b1.lt
  clear hB1 b0 b1 hB0
  have f0 := c0.at 0 rfl; have f1 := c0.at 1 rfl; have f2 := c0.at 2 rfl
  gi_wp2_with (refine ⟨trivial, ?_⟩; gi_at_call 119)
  refine (callsIn_wide.2 (gCheckSet_any G p c st q d _ (HST.out.below x1) (by omega))).mono ?_
  rw [HC.out]
  rintro e w2 ⟨rfl, hB2⟩
  have x2 := x1.trans (hB2.mono x1.size)
  have d0 := c0.below hB2 c0.lt
  have d1 := c1.below hB2 c1.lt
  clear f0 f1 f2 hB2 c0 c1 x1
  have f0 := d0.at 0 rfl; have g0 := d1.at 0 rfl
  have hz : w.heap.size + 1 < w2.heap.size := d1.lt
  gi_wp2
  have e0 := d0.alloc (.cells #[.slice none 0 0] 57)
  have e1 := d1.alloc (.cells #[.slice none 0 0] 57)
  have e9 : VRow (w2.alloc (.cells #[.slice none 0 0] 57)) w2.heap.size 57 [.slice none 0 0] := VRow.new w2 _ _
  have x3 := x2.alloc x2.size (.cells #[.slice none 0 0] 57)
  clear d0 d1 f0 g0
  refine wpIn_loop (fun a W => ∃ k, SInv G p c st q d b w w2.heap.size k a W) (fun a _ => smu st a) ⟨0, _, _, _, _, _, _, _, _, _, _, _, _, _, _, _, _, _, _, _, _, _, _, _, _, _, _, _, _, _, _, _, _, _, _, _, _, _, _, _, _, _, _, _, _, _, _, rfl, by omega, ⟨_, e9, World.ownsRow_nil _ _ _ _, by simp [Value.ownBlock], fun _ => rfl⟩, trivial, e0, e1, x3, by simp⟩ ?_
  clear e0 e1 e9 x3
  rintro a W ⟨k, ds, u4, u8, u10, u11, u12, u13, u14, u15, u16, u17, u18, u19, u20, u21, u22, u23, u24, u25, u26, u27, u28, u29, u30, u34, u35, u36, u37, u38, u39, u40, u41, u42, u43, u44, u45, u46, u47, u48, u49, u50, u51, u52, u53, u54, u55, rfl, hk, ⟨v, c9, hown, hn9, hnil⟩, hM, c0, c1, hB, hge⟩
  have HBM : Hid (RowKit.Below w.heap.size w W) := hB
  have hmu : smu st { tmps := #[(.agg #[.int .i64 G.q, .int .i64 G.n, .slice p G.es.length c]), (.slice q st.length d), (.int .i64 b), (.pointer (some ⟨w.heap.size, 0, none⟩)), u4, (.pointer (some ⟨w.heap.size + 1, 0, none⟩)), (.slice none 0 0), (.int .i64 0), u8, (.pointer (some ⟨w2.heap.size, 0, none⟩)), u10, u11, u12, u13, u14, u15, u16, u17, u18, u19, u20, u21, u22, u23, u24, u25, u26, u27, u28, u29, u30, (.slice q st.length d), (.int .i64 st.length), (.int .i64 k), u34, u35, u36, u37, u38, u39, u40, u41, u42, u43, u44, u45, u46, u47, u48, u49, u50, u51, u52, u53, u54, u55], defers := ds } = st.length - (intOf (.int .i64 (k : Int))).toNat := rfl
  have HMU := hidI hmu
  clear hmu
  have hbz := hB.size
  have hbx := c9.lt
  by_cases hlt : k < st.length
  · obtain ⟨bs1, os1, rfl, hbs1, hcs1⟩ := (HST.out.below hB).get k hlt
    have e1 := hcs1 k hlt
    clear hcs1
    have HSN := hidI (stepL_succ G.es st b k hlt)
    have HSL : Hid ((stepL G.es (st.take k) b).length ≤ 64 * 1024) := by
      unfold Hid
      have h1 := stepL_len G.es (st.take k) b
      have h2 : (st.take k).length * G.es.length ≤ 64 * 1024 := Nat.mul_le_mul (by rw [List.length_take]; omega) hl
      omega
    generalize st[k] = s at *
    generalize stepL G.es (st.take k) b = L at *
    have f0 := c0.at 0 rfl; have f1 := c0.at 1 rfl; have f2 := c0.at 2 rfl
    gi_wp2_with (refine ⟨trivial, ?_⟩; gi_at_call 120)
    refine (leaving_in Fence.wide 8 trivial rfl _ s G.q G.n p G.es.length c rfl _).mono ?_
    rintro e w' ⟨rfl, rfl⟩
    gi_wp2
    obtain ⟨V0, hV0⟩ : ∃ V0, V0 = (W.alloc (.cells #[.int .i64 G.q, .int .i64 G.n, .slice p G.es.length c] 27)).alloc (.cells #[.int .i64 s] 3) := ⟨_, rfl⟩
    have y1 : VRow V0 W.heap.size 27 [.int .i64 G.q, .int .i64 G.n, .slice p G.es.length c] := by subst hV0; exact (VRow.new W _ _).alloc _
    have y2 : VRow V0 (W.heap.size + 1) 3 [.int .i64 s] := by subst hV0; exact VRow.new1 W _ _ _
    have y9 : VRow V0 w2.heap.size 57 [v] := by subst hV0; exact (c9.alloc _).alloc _
    have yown : V0.ownsRow (w2.heap.size + 1) 3 1 v L.length (L.map (Value.int .i64)) := by subst hV0; exact (hown.alloc _).alloc _
    have z0 : VRow V0 w.heap.size 27 [.int .i64 G.q, .int .i64 G.n, .slice p G.es.length c] := by subst hV0; exact (c0.alloc _).alloc _
    have z1 : VRow V0 (w.heap.size + 1) 3 [.int .i64 b] := by subst hV0; exact (c1.alloc _).alloc _
    have hBV : RowKit.Below w.heap.size w V0 := by subst hV0; exact (hB.alloc hbz _).alloc (by simp; omega) _
    have hsz : V0.heap.size = W.heap.size + 2 := by subst hV0; simp
    have hKV : KeepsOthers W V0 := by subst hV0; exact (KeepsOthers.alloc _ _).trans (KeepsOthers.alloc _ _)
    have hvb : ∀ j, v.ownBlock = some j → w2.heap.size + 1 ≤ j ∧ j < W.heap.size := fun j e => hown.lt j e
    have hsg : SgB w2.heap.size V0 p G.es := sgB_mono ((SgB.of HIN.out (Nat.le_refl _)).kept (fun i hi => hBV.block i hi)) (by omega)
    rw [← hV0]
    clear hV0 hown c9 c0 c1 f0 f1 f2 e1 hB
    refine' wpIn_rangeFunc_ownH rfl (by omega) (gf := 128) (lb := #[.pointer (some ⟨W.heap.size, 0, none⟩), .pointer (some ⟨W.heap.size + 1, 0, none⟩)]) rfl trivial (enters_of Tryz.func128 (by kernel_rfl) rfl)
      (leavingS_stops Fence.wide 8 trivial rfl (by omega) w2.heap.size W.heap.size (W.heap.size + 1) G s p c hl V0 (by omega) y1 y2 hsg) KS.trans (KS_b (by omega) (by omega)) (RowKit.Below.refl _ _) (fun _ => rfl)
      (fun pre V => (((OutT (w2.heap.size + 1) w2.heap.size (W.heap.size + 1) (L ++ labL b pre) V ∧ RowKit.Below w.heap.size w V) ∧ KeepsOthers V0 V) ∧ KL w2.heap.size V0 V) ∧ VRow V (W.heap.size + 1) 3 [.int .i64 s])
      (fun _ _ _ => False)
      (OwnFrom.and (OwnFrom.and (OwnFrom.and (OwnFrom.and ((OutT.own _ _ _ (fun pre => L ++ labL b pre)).from _) (ownFrom_below (Nat.le_refl _) (by omega))) (ownFrom_keepsO _)) (ownFrom_kl _ (by omega))) ((VRow.own _ _ (fun _ => [.int .i64 s])).from _))
      (fun _ _ _ _ _ hs _ _ => hs)
      ⟨⟨⟨⟨⟨v, y9, by simpa [labL] using yown, hn9, fun h => hnil (by simpa [labL] using h), fun e => by have := (hvb _ e).2; omega⟩, hBV⟩, KeepsOthers.refl _⟩, by omega, fun _ _ => rfl⟩, y2⟩
      (fun x a' V => ∃ Bx, V0.heap.size ≤ Bx ∧ VRow V Bx 47 [.int .i64 x.2.f, .int .i64 x.2.l, .int .i64 x.2.t] ∧ a' = { tmps := #[(.agg #[.int .i64 G.q, .int .i64 G.n, .slice p G.es.length c]), (.slice (some ⟨bs1, os1, none⟩) st.length d), (.int .i64 b), (.pointer (some ⟨w.heap.size, 0, none⟩)), u4, (.pointer (some ⟨w.heap.size + 1, 0, none⟩)), (.slice none 0 0), (.int .i64 0), u8, (.pointer (some ⟨w2.heap.size, 0, none⟩)), u10, (.int .i64 s), u12, (.pointer (some ⟨Bx, 0, none⟩)), u14, u15, u16, u17, u18, u19, u20, u21, u22, u23, u24, u25, u26, u27, u28, u29, u30, (.slice (some ⟨bs1, os1, none⟩) st.length d), (.int .i64 st.length), (.int .i64 k), (.bool true), (.pointer (some ⟨bs1, os1 + k, none⟩)), (.int .i64 s), (.agg #[.int .i64 G.q, .int .i64 G.n, .slice p G.es.length c]), (.int .i64 s), (.func (.func 128) #[] #[.pointer (some ⟨W.heap.size, 0, none⟩), .pointer (some ⟨W.heap.size + 1, 0, none⟩)]), (.int .i64 (x.1 : Int)), (.agg #[.int .i64 x.2.f, .int .i64 x.2.l, .int .i64 x.2.t]), u42, u43, u44, u45, u46, u47, u48, u49, u50, u51, u52, u53, u54, u55], defers := [] })
      (fun x a' _ X Y row hs hg hr => by
        obtain ⟨Bx, h1, h2, h3⟩ := hs
        exact ⟨Bx, h1, VRow.own Bx 47 (fun _ : Unit => [.int .i64 x.2.f, .int .i64 x.2.l, .int .i64 x.2.t]) () X Y row h2 hg (fun r e => (hr r e).2), h3⟩)
      ?assign ?body ?done ?stop
    case assign =>
      rintro l pre x V K ⟨⟨⟨⟨hT, hB1⟩, hK1⟩, hL1⟩, ly⟩ hK
      have hsV := hK1.size
      unfold encL
      gi_wp2
      obtain ⟨v', t1, t2, t3, t4, t5⟩ := hT
      exact hK _ _ ((KeepsOthers.alloc _ _).from _) (fun i hi => Below.heap_alloc _ _ i (by omega)) ⟨⟨⟨⟨⟨v', t1.alloc _, t2.alloc _, t3, t4, t5⟩, hB1.alloc hB1.size _⟩, hK1.trans (KeepsOthers.alloc _ _)⟩, Nat.le_trans hL1.1 (by simp), fun i hi => (Below.heap_alloc _ _ i (by have := hL1.1; omega)).trans (hL1.2 i hi)⟩, ly.alloc _⟩
        ⟨V.heap.size, hsV, VRow.new V 47 [.int .i64 x.2.f, .int .i64 x.2.l, .int .i64 x.2.t], rfl⟩
    case body =>
      rintro l pre ⟨i, x⟩ a' V hl' ⟨r, hr⟩ ⟨⟨⟨⟨⟨v', t1, t2, t3, t4, t5⟩, hB1⟩, hK1⟩, hL1⟩, ly⟩ ⟨Bx, hBx, hx, rfl⟩ hlen
      have hsV := hK1.size
      have hlb : (L ++ labL b pre).length ≤ 70000 := by rw [List.length_append]; have := labL_le b pre; have := HSL.out; omega
      have lb : VRow V (w.heap.size + 1) 3 [.int .i64 b] := (hL1.2 _ hz).trans z1
      have k1 := hx.at 1 rfl; have k2 := hx.at 2 rfl
      have k0 := lb.at 0 rfl
      by_cases he : x.l = b
      · have hb : (x.l == b) = true := by simpa using he
        have HS : Hid (L ++ labL b (pre ++ [(i, x)]) = L ++ labL b pre ++ [x.t]) := by rw [Hid, labL_hit he, List.append_assoc]
        clear he
        generalize L ++ labL b pre = M at *
        have d6 := t1.at 0 rfl; have z6 := t1.frozen 0
        have hnew := cell_one_at V (.int .i64 x.t) 3 V.heap.size rfl
        have hV1 : V.heap.size + 1 = (V.alloc (.cells #[.int .i64 x.t] 3)).heap.size := (World.size_alloc _ _).symm
        obtain ⟨B', hb1, hb2, hownB, hb3⟩ := own_start (t2.alloc (.cells #[.int .i64 x.t] 3)) (by omega) (fun e => t4 (List.length_eq_zero_iff.1 e))
        have hcl : ∀ (j : Nat) (o : Obj), v'.ownBlock = some j → (V.alloc (.cells #[.int .i64 x.t] 3)).heap[j]? = some o → o.isCells = true := fun j o e h => own_cells hownB e h
        have hvb' : ∀ j, v'.ownBlock = some j → w2.heap.size + 1 ≤ j := fun j e => (t2.lt j e).1
        have lyA := ly.alloc (.cells #[.int .i64 x.t] 3)
        gi_wp2_with (gi_at_builtin; refine wpListIn_append_own _ rfl _ _ 57 rfl B' 3 i0 (.int .i64 0) 1 8 Tryz.underlying57 hi0 hz0 hz1 hz3 rfl (by decide) _ _ _ rfl hownB ⟨V.heap.size, 0, none⟩ 1 1 [.int .i64 x.t] rfl rfl hnew (by simp [Value.oneCell']) (by simp [maxLen]; omega) (by omega) (by omega) ?_; intro v2 W2 hown' hgrow0 _; have hgrow : (V.alloc (.cells #[.int .i64 x.t] 3)).grownBy W2 v'.ownBlock := hgrow0; have hap := own_apart lyA hgrow t5 hown' (fun e => by have := hb3 e; omega); obtain ⟨pv, mv, cv, rfl⟩ := own_shI hown'; have r6 := (t1.alloc (.cells #[.int .i64 x.t] 3)).grown hgrow (fun e => t3 e.symm); have s6 := r6.at 0 rfl; have t6 := r6.frozen 0)
        have hn2 : (Value.slice pv mv cv).ownBlock ≠ some w2.heap.size := fun e => by have := (hown'.lt _ e).1; omega
        have hgz := hgrow.size
        have hks : KS w2.heap.size (W.heap.size + 1) V (W2.setCell ⟨w2.heap.size, 0, none⟩ (.slice pv mv cv)) := fun j h1 => by
          rw [Below.heap_setCell _ _ _ _ (show j ≠ w2.heap.size by omega), hgrow.block j (by omega) (fun e => by
            rcases h1 with h1 | h1
            · have := hvb' _ e.symm; omega
            · exact t5 (by rw [← e, h1])), Below.heap_alloc V _ j (by omega)]
        have hko : KeepsOthers V (W2.setCell ⟨w2.heap.size, 0, none⟩ (.slice pv mv cv)) := ((KeepsOthers.alloc V _).trans (KeepsOthers.of_grownBy hgrow hcl)).trans (KeepsOthers.setCell _ _ _)
        refine ⟨hko.from _, hks, ⟨⟨⟨⟨_, VRow.set (i := 0) _ r6, ?_, hn2, fun e => ?_, hap⟩, ?_⟩, hK1.trans hko⟩, ?_, fun j hj => (hks j (.inl hj)).trans (hL1.2 j hj)⟩, (hks _ (.inr rfl)).trans ly⟩
        · rw [HS.out, List.length_append, List.map_append]
          exact ownsRow_setCell_below (a := ⟨w2.heap.size, 0, none⟩) (own_baseI hown' hb1) (show w2.heap.size < w2.heap.size + 1 by omega) _
        · rw [HS.out] at e; simp at e
        · exact ((hB1.alloc hB1.size _).grown hgrow (Nat.le_trans hB1.size (by simp)) (fun j e => by have := hvb' _ e; omega)).setCell (show w.heap.size ≤ w2.heap.size by omega) _
        · rw [World.size_setCell]; have := hL1.1; omega
      · have hb : (x.l == b) = false := by simpa using he
        have HS : Hid (L ++ labL b (pre ++ [(i, x)]) = L ++ labL b pre) := by rw [Hid, labL_miss he]
        clear he
        gi_wp2
        exact ⟨(KeepsOthers.refl _).from _, KS.refl _ _ _, ⟨⟨⟨⟨v', t1, by rw [HS.out]; exact t2, t3, by rw [HS.out]; exact t4, t5⟩, hB1⟩, hK1⟩, hL1⟩, ly⟩
    case done =>
      rintro D ys V hD' hys ⟨⟨⟨⟨⟨v', t1, t2, t3, t4, t5⟩, hB1⟩, hK1⟩, hL1⟩, ly⟩ hK
      subst hys
      rw [← HSN.out] at t2 t4
      have hMV : Marks (w2.heap.size + 1) V ({ target := .collected D, args := #[] } :: ds) :=
        (hM.others (hKV.trans hK1)).cons (by omega) hK (fun d hd => by obtain ⟨D', h1, h2⟩ := hM.lt d hd; exact ⟨D', h1, by omega⟩)
      have l0 : VRow V w.heap.size 27 [.int .i64 G.q, .int .i64 G.n, .slice p G.es.length c] := (hL1.2 _ (by omega)).trans z0
      have l1 : VRow V (w.heap.size + 1) 3 [.int .i64 b] := (hL1.2 _ hz).trans z1
      have hV2 := hK1.size
      gi_wp2
      refine ⟨⟨k + 1, _, _, _, _, _, _, _, _, _, _, _, _, _, _, _, _, _, _, _, _, _, _, _, _, _, _, _, _, _, _, _, _, _, _, _, _, _, _, _, _, _, _, _, _, _, _, rfl, by omega, ⟨v', t1, t2, t3, t4⟩, hMV, l0, l1, hB1, by omega⟩, ?_⟩
      rw [HMU.out]
      refine Nat.lt_of_le_of_lt (Nat.le_of_eq (show smu _ _ = st.length - (intOf (.int .i64 ((k : Int) + 1))).toNat from rfl)) ?_
      simp [intOf]; omega
    case stop =>
      rintro D c pre W _ _ h _
      exact h.elim
  · obtain rfl : k = st.length := by omega
    rw [List.take_length] at hown hnil
    have HSR : Hid (Lib.compact ((stepL G.es st b).mergeSort fun x y => decide (x ≤ y)) = nextA G st b) := step_sorted HV.out
    have hLl : (stepL G.es st b).length ≤ 64 * 1024 := Nat.le_trans (stepL_len G.es st b) (Nat.mul_le_mul hs hl)
    generalize stepL G.es st b = L at *
    have d9 := c9.at 0 rfl
    have hn9' : some w2.heap.size ≠ v.ownBlock := fun e => hn9 e.symm
    have hcW : ∀ (j : Nat) (o : Obj), v.ownBlock = some j → W.heap[j]? = some o → o.isCells = true := fun j o e h => own_cells hown e h
    have hvb : ∀ j, v.ownBlock = some j → w2.heap.size + 1 ≤ j := fun j e => (hown.lt j e).1
    gi_wp2_with (refine ⟨trivial, ?_⟩; gi_at_call 121)
    refine (callsIn_wide.2 (sortI_any L (w2.heap.size + 1) L.length v W hown (by omega))).mono ?_
    rintro e w3 ⟨rfl, hown3, G3⟩
    have c9' := c9.grown G3 hn9'
    have d9' := c9'.at 0 rfl
    have hM3 := hM.others (KeepsOthers.of_grownBy G3 hcW)
    have hB3 := hB.grown G3 hB.size (fun j e => by have := hvb _ e; omega)
    have hcl := cmp_len (L.mergeSort fun x y => decide (x ≤ y))
    have hml : (L.mergeSort fun x y => decide (x ≤ y)).length = L.length := List.length_mergeSort _
    have hc3 : ∀ (j : Nat) (o : Obj), v.ownBlock = some j → w3.heap[j]? = some o → o.isCells = true := fun j o e h => own_cells hown3 e h
    clear d9 c9 hown c0 c1
    gi_wp2_with (refine ⟨trivial, ?_⟩; gi_at_call 122)
    refine (callsIn_wide.2 (compactI_any (L.mergeSort fun x y => decide (x ≤ y)) (w2.heap.size + 1) L.length v w3 hown3 (by omega) hcl)).mono ?_
    rw [HSR.out]
    rintro e w4 ⟨v4, rfl, hown4, G4⟩
    have hM4 := hM3.others (KeepsOthers.of_grownBy G4 hc3)
    have hB4 := hB3.grown G4 hB3.size (fun j e => by have := hvb _ e; omega)
    gi_wp2
    refine leaves_marks ds w4 hM4 (fun W' hW' => ?_)
    refine ⟨_, results_tmp2 (t := 6) (u := 7) rfl _ _ _, ?_⟩
    obtain ⟨pv, mv, cv, rfl⟩ := own_shI hown4
    exact ⟨pv, mv, cv, rfl, own_baseI (hW'.own hown4) (by omega), hB4.trans (hW'.below.mono (by omega))⟩
end Go.Proofs.YthelgembcfdhdaaGreat
namespace Go.Proofs.YthelgembcfdhdaaGreat
open Go.RowKit Go.Sort Go.Shelf Go.Lib

/-! ### What the functions answer -/
/-- The labels of a word. -/
def ltr (s : ByteArray) : List Int := s.data.toList.map (fun c => Chg.dig c.toNat)
/-- The states in which the paths with some labels end that begin in a set. -/
def endA (G : Gr) (st : List Int) (l : List Int) : List Int := l.foldl (nextA G) st
def accA (G : Gr) (s : ByteArray) : Bool := decide (0 < (endA G (upto G.n.toNat) (ltr s)).length)
theorem endA_snoc (G : Gr) (st l : List Int) (b : Int) : endA G st (l ++ [b]) = nextA G (endA G st l) b := by simp [endA]
theorem nextA_nil (G : Gr) (b : Int) : nextA G [] b = [] := by
  unfold nextA
  rw [List.filter_eq_nil_iff]
  intro a _
  simp [nxP, nxE]
theorem endA_nil (G : Gr) : ∀ l, endA G [] l = []
  | [] => rfl
  | b :: l => by
    have := endA_nil G l
    unfold endA at this ⊢
    rw [List.foldl_cons, nextA_nil]; exact this
theorem nextA_st (G : Gr) (st : List Int) (b : Int) : St G.n (nextA G st b) := by
  refine ⟨nextA_srt G st b, fun x hx => ?_⟩
  have h := mem_upto.1 (List.mem_filter.1 (show x ∈ (upto G.n.toNat).filter (nxP G.es st b) from hx)).1
  omega
theorem endA_st (G : Gr) (st : List Int) (h : St G.n st) (l : List Int) : St G.n (endA G st l) := by
  induction l generalizing st with
  | nil => exact h
  | cons b l ih => exact ih _ (nextA_st G st b)
theorem ltr_len (s : ByteArray) : (ltr s).length = s.size := by simp [ltr]
theorem ltr_get (s : ByteArray) (k : Nat) (h : k < s.size) : (ltr s)[k]'(by rw [ltr_len]; exact h) = Chg.dig (s[k].toNat : Int) := by
  simp only [ltr, List.getElem_map]
  rfl
theorem ltr_take (s : ByteArray) (k : Nat) (h : k < s.size) : (ltr s).take (k + 1) = (ltr s).take k ++ [Chg.dig (s[k].toNat : Int)] := by
  rw [List.take_succ_eq_append_getElem (by rw [ltr_len]; exact h), ltr_get s k h]
theorem ltr_all (s : ByteArray) : (ltr s).take s.size = ltr s := by rw [← ltr_len, List.take_length]
theorem idx_all : ∀ c : Nat, c < 256 → 0 ≤ Chg.dig (c : Int) → Lib.indexByte [48, 49, 50, 51, 52, 53, 54, 55, 56, 57, 97, 98, 99, 100, 101, 102] (UInt8.ofNat c) = Chg.dig (c : Int) := by decide +kernel
theorem idx_dig (c : UInt8) (h : 0 ≤ Chg.dig (c.toNat : Int)) : Lib.indexByte [48, 49, 50, 51, 52, 53, 54, 55, 56, 57, 97, 98, 99, 100, 101, 102] (((c.toNat : Int)).toNat.toUInt8) = Chg.dig (c.toNat : Int) := by
  have := idx_all c.toNat (UInt8.toNat_lt c) h
  simpa using this
theorem okw_at {q : Int} {s : ByteArray} (h : Chg.okw q s.data.toList = true) (k : Nat) (hk : k < s.size) : 0 ≤ Chg.dig (s[k].toNat : Int) ∧ Chg.dig (s[k].toNat : Int) < q := by
  have hm : s[k] ∈ s.data.toList := by
    have : s[k] = s.data.toList[k]'(by simpa using hk) := by rfl
    rw [this]; exact List.getElem_mem _
  have := List.all_eq_true.1 h _ hm
  simpa [Chg.okc] using this
theorem wchk_okw {q : Int} {l : List UInt8} (h : Chg.wchk q l = 0) : Chg.okw q l = true := by
  unfold Chg.wchk at h
  split at h
  · omega
  · split at h
    · omega
    · split at h
      · assumption
      · omega
theorem up_row (N k : Nat) (h : k < N) : ((upto k ++ List.replicate (N - k) 0).map (Value.int .i64))[k]? = some (.int .i64 0) := by
  rw [List.getElem?_map, List.getElem?_append_right (by rw [upto_len]; omega), upto_len, List.getElem?_replicate, if_pos (by omega)]
  rfl
theorem up_set (N k : Nat) (h : k < N) : ((upto k ++ List.replicate (N - k) 0).map (Value.int .i64)).set k (.int .i64 k) = (upto (k + 1) ++ List.replicate (N - (k + 1)) 0).map (Value.int .i64) := by
  obtain ⟨m, hm⟩ : ∃ m, N - k = m + 1 := ⟨N - k - 1, by omega⟩
  rw [hm, show N - (k + 1) = m by omega, upto_succ, List.replicate_succ, List.map_append, List.set_append_right _ _ (by rw [List.length_map, upto_len]; omega), List.length_map, upto_len, Nat.sub_self]
  simp

/-- A set of states, in memory. -/
def LsOut (l : List Int) (w : World) (e : Ending) (w' : World) : Prop := ∃ q d, e = .returned (.slice q l.length d) ∧ Sl w' (Value.int .i64) q l ∧ RowKit.Below w.heap.size w w'

/-! ### The functions -/
theorem lCheck_any (G : Gr) (p : Option Addr) (c : Nat) (w : World) (hin : Sg 3 w edE p G.es) (hv : Vg G) (hq : G.q ≤ 16) :
    Calls Tryz.prog 74 #[(.agg #[.int .i64 G.q, .int .i64 G.n, .slice p G.es.length c])] w fun e w' => e = .returned (.int .i64 0) ∧ RowKit.Below w.heap.size w w' := by
  have HIN := hidI hin; have HV := hidI hv
  clear hin hv
  obtain ⟨w0, hw0⟩ : ∃ w0, w0 = w.alloc (.cells #[.int .i64 G.q, .int .i64 G.n, .slice p G.es.length c] 27) := ⟨_, rfl⟩
  have b0 : VRow w0 w.heap.size 27 [.int .i64 G.q, .int .i64 G.n, .slice p G.es.length c] := by subst hw0; exact VRow.new w _ _
  have hB0 : RowKit.Below w.heap.size w w0 := by subst hw0; exact (RowKit.Below.refl _ _).alloc (Nat.le_refl _) _
  go_enter Tryz.func74, Tryz.ntmps74
  go_wp2_with fail
  rw [← hw0]
  clear hw0
  refine (gCheck_r G p c w0 0 (chkG_ok.2 HV.out) (HIN.out.below hB0) (by have := HV.out.len; omega)).mono ?_
  rintro e w1 ⟨rfl, hB1⟩
  have f0 := (b0.below hB1 b0.lt).at 0 rfl
  have hq2 : ¬ 16 < G.q := by omega
  go_wp2
  go_ret
  exact ⟨rfl, hB0.trans (hB1.mono hB0.size)⟩

theorem lSpells_any (G : Gr) (p : Option Addr) (c : Nat) (s : ByteArray) (w : World) (hin : Sg 3 w edE p G.es) (hv : Vg G) (hq : G.q ≤ 16) (hs : s.size ≤ maxLen) :
    Calls Tryz.prog 39 #[(.agg #[.int .i64 G.q, .int .i64 G.n, .slice p G.es.length c]), .string s] w fun e w' => e = .returned (.int .i64 (Chg.wchk G.q s.data.toList)) ∧ RowKit.Below w.heap.size w w' := by
  have HIN := hidI hin; have HV := hidI hv
  clear hin hv
  obtain ⟨w0, hw0⟩ : ∃ w0, w0 = w.alloc (.cells #[.int .i64 G.q, .int .i64 G.n, .slice p G.es.length c] 27) := ⟨_, rfl⟩
  have b0 : VRow w0 w.heap.size 27 [.int .i64 G.q, .int .i64 G.n, .slice p G.es.length c] := by subst hw0; exact VRow.new w _ _
  have hB0 : RowKit.Below w.heap.size w w0 := by subst hw0; exact (RowKit.Below.refl _ _).alloc (Nat.le_refl _) _
  go_enter Tryz.func39, Tryz.ntmps39
  go_wp2_with fail
  rw [← hw0]
  clear hw0
  refine (lCheck_any G p c w0 (HIN.out.below hB0) HV.out hq).mono ?_
  rintro e w1 ⟨rfl, hB1⟩
  have x1 := hB0.trans (hB1.mono hB0.size)
  have f0 := (b0.below hB1 b0.lt).at 0 rfl
  go_wp2_with fail
  refine (Chg.wcheck_any G.q s w1 hs).mono ?_
  rintro e w2 ⟨rfl, hD⟩
  have hD' : Dr w1 w2 := hD
  go_wp2
  go_ret
  exact ⟨rfl, x1.trans (hD'.below _)⟩

set_option maxRecDepth 100000 in
set_option maxHeartbeats 1000000 in
theorem lStates_any (G : Gr) (p : Option Addr) (c : Nat) (w : World) (hv : Vg G) :
    Calls Tryz.prog 41 #[(.agg #[.int .i64 G.q, .int .i64 G.n, .slice p G.es.length c])] w (LsOut (upto G.n.toNat) w) := by
  obtain ⟨i0, hi0, hz0, hz1, hz3⟩ := info_parts infoIn
  obtain ⟨gq, gn, ges⟩ := G
  have hn0 : 0 ≤ gn := hv.n1
  have hn1 : gn ≤ 64 := hv.n2
  obtain ⟨N, rfl⟩ : ∃ N : Nat, gn = N := ⟨gn.toNat, by omega⟩
  clear hv
  show Calls Tryz.prog 41 #[.agg #[.int .i64 gq, .int .i64 (N : Int), .slice p ges.length c]] w (LsOut (upto ((N : Int)).toNat) w)
  rw [Int.toNat_natCast]
  obtain ⟨w0, hw0⟩ : ∃ w0, w0 = w.alloc (.cells #[.int .i64 gq, .int .i64 (N : Int), .slice p ges.length c] 27) := ⟨_, rfl⟩
  have hs0 : w0.heap.size = w.heap.size + 1 := by subst hw0; simp
  have hB0 : RowKit.Below w.heap.size w w0 := by subst hw0; exact (RowKit.Below.refl _ _).alloc (Nat.le_refl _) _
  have f1 : w0.cell? ⟨w.heap.size, 1, none⟩ = some (.int .i64 (N : Int)) := by subst hw0; exact (VRow.new w _ _).at 1 rfl
  go_enter Tryz.func41, Tryz.ntmps41
  go_upto_region 1 with fail
  rw [← hw0]
  clear hw0
  go_wp2_with (at_make; refine wpList_make_full _ rfl _ _ 57 rfl w0.heap.size 3 i0 (.int .i64 0) 1 Tryz.underlying57 hi0 hz0 hz1 .i64 .i64 _ _ N rfl rfl (by omega) (by omega) (by rw [hz3]; omega) (by unfold maxLen; omega) (Nat.le_refl _) ?_; intro w1 hown hgrow)
  have hv : VRow w1 w0.heap.size 3 ((upto 0 ++ List.replicate (N - 0) 0).map (Value.int .i64)) := Chg.made_row hown
  have hB1 : RowKit.Below w.heap.size w w1 := hB0.grown hgrow (by omega) (by simp)
  have hwB : w.heap.size ≤ w0.heap.size := by omega
  rw [hs0] at hv
  clear hown hgrow
  go_loopw [10] (fun iv wr => ∃ k : Nat, k ≤ N ∧ iv = .int .i64 k ∧ VRow wr (w.heap.size + 1) 3 ((upto k ++ List.replicate (N - k) 0).map (Value.int .i64)) ∧ RowKit.Below w.heap.size w wr) (fun iv _ => N - (intOf iv).toNat)
  case atStart => exact ⟨0, by omega, rfl, hv, hB1⟩
  case round =>
    clear hv hB1
    obtain ⟨k, hk, rfl, hv, hB⟩ := hrel
    by_cases hlt : k < N
    · have hltN : (k : Int) < (N : Int) := by omega
      have hc := hv.at k (up_row N k hlt)
      have hf := hv.frozen k
      have HS := hidI (up_set N k hlt)
      go_wp2
      go_roundw
      case rel => exact ⟨k + 1, by omega, by go_num, by rw [← HS.out]; exact VRow.set (i := k) _ hv, hB.setCell (p := ⟨w.heap.size + 1, k, none⟩) (show w.heap.size ≤ w.heap.size + 1 by omega) _⟩
      case measure => simp [intOf]; omega
    · obtain rfl : k = N := by omega
      have hkk : ¬ (k : Int) < (k : Int) := by omega
      rw [Nat.sub_self, List.replicate_zero, List.append_nil] at hv
      go_wp2
      go_ret
      exact ⟨some ⟨w.heap.size + 1, 0, none⟩, k, by rw [upto_len]; rfl, Sl.of_vrow hv, hB⟩

def StepOut (l : List Int) (w : World) (v : Value) (w' : World) : Prop := ∃ p m c, v = .slice p m c ∧ w'.ownsRow w.heap.size 3 1 (.slice p m c) l.length (l.map (Value.int .i64)) ∧ RowKit.Below w.heap.size w w'

set_option maxRecDepth 100000 in
set_option maxHeartbeats 1000000 in
theorem lStep_any (G : Gr) (p : Option Addr) (c : Nat) (st : List Int) (q : Option Addr) (d : Nat) (ch : UInt8) (w : World) (hin : Sg 3 w edE p G.es) (hst : Sl w (Value.int .i64) q st) (hv : Vg G) (hS : St G.n st) (h0 : 0 ≤ Chg.dig (ch.toNat : Int)) (h1 : Chg.dig (ch.toNat : Int) < G.q) :
    Calls Tryz.prog 75 #[(.agg #[.int .i64 G.q, .int .i64 G.n, .slice p G.es.length c]), .slice q st.length d, .int .u8 ch.toNat] w fun e w' => ∃ p m c, e = .returned (.slice p m c) ∧ w'.ownsRow w.heap.size 3 1 (.slice p m c) (nextA G st (Chg.dig (ch.toNat : Int))).length ((nextA G st (Chg.dig (ch.toNat : Int))).map (Value.int .i64)) ∧ RowKit.Below w.heap.size w w' := by
  have HIN := hidI hin; have HST := hidI hst; have HV := hidI hv
  have HX := hidI (idx_dig ch h0)
  generalize Chg.dig (ch.toNat : Int) = b at *
  have hlen := hS.len hv.n1
  have hn2 := hv.n2
  have HC := hidI hS.chk
  clear hin hst hv hS
  obtain ⟨w0, hw0⟩ : ∃ w0, w0 = w.alloc (.cells #[.int .i64 G.q, .int .i64 G.n, .slice p G.es.length c] 27) := ⟨_, rfl⟩
  have b0 : VRow w0 w.heap.size 27 [.int .i64 G.q, .int .i64 G.n, .slice p G.es.length c] := by subst hw0; exact VRow.new w _ _
  have hB0 : RowKit.Below w.heap.size w w0 := by subst hw0; exact (RowKit.Below.refl _ _).alloc (Nat.le_refl _) _
  have HI := fun W => Tryz.strings_IndexByte ⟨#[48, 49, 50, 51, 52, 53, 54, 55, 56, 57, 97, 98, 99, 100, 101, 102]⟩ (ch.toNat : Int) W
  rw [show Lib.indexByte (⟨#[48, 49, 50, 51, 52, 53, 54, 55, 56, 57, 97, 98, 99, 100, 101, 102]⟩ : ByteArray).data.toList ((ch.toNat : Int)).toNat.toUInt8 = b from HX.out] at HI
  go_enter Tryz.func75, Tryz.ntmps75
  go_upto_region 1 with fail
  rw [← hw0]
  clear hw0
  have g0 := b0.at 0 rfl; have g1 := b0.at 1 rfl; have g2 := b0.at 2 rfl
  have zb : w.heap.size < w0.heap.size := b0.lt
  have HSX : Hid (∀ W, RowKit.Below w0.heap.size w0 W → Sl W (Value.int .i64) q st) := fun W h => HST.out.below (hB0.trans (h.mono hB0.size))
  have HIX : Hid (∀ W, RowKit.Below w0.heap.size w0 W → Sg 3 W edE p G.es) := fun W h => HIN.out.below (hB0.trans (h.mono hB0.size))
  go_cut [7] (fun s7 wx => StepOut (nextA G st b) w0 s7 wx)
  case first =>
    go_region_held3 (fun w' => w'.cell? ⟨w.heap.size, 0, none⟩ = some (.int .i64 G.q) ∧ w'.cell? ⟨w.heap.size, 1, none⟩ = some (.int .i64 G.n) ∧ w'.cell? ⟨w.heap.size, 2, none⟩ = some (.slice p G.es.length c) ∧ RowKit.Below w0.heap.size w0 w')
      (first | (go_split_ands; refine ⟨?_, ?_, ?_, ?_⟩ <;> first | assumption | (go_keep; done) | exact below_drewN (RowKit.Below.refl _ _) 1 | exact (hBb.cell (Nat.lt_of_lt_of_le zb (RowKit.Below.size (by assumption)))).trans (by assumption) | exact RowKit.Below.trans (by assumption) (hBb.mono (RowKit.Below.size (by assumption)))))
      (first
        | (go_at_call 38; refine (HI _).mono ?_; rintro e wA ⟨rfl, rfl⟩)
        | (go_at_call 100; go_split_ands; refine (callsIn_wide.1 (gStep_in G p c st q d b _ (HIX.out _ (by assumption)) (HSX.out _ (by assumption)) HV.out (by omega) HC.out h0 h1)).mono ?_; rintro e wB ⟨p', m', c', rfl, hown, hBb⟩; have hwz := RowKit.Below.size (show RowKit.Below w0.heap.size w0 _ by assumption); have hfin := own_baseI hown hwz))
    all_goals
      go_wp2_with fail
      go_meet
      exact ⟨p', m', c', rfl, hfin, RowKit.Below.trans (by assumption) (hBb.mono hwz)⟩
  case rest =>
    obtain ⟨p', m', c', rfl, hown, hB1⟩ := hcut
    go_wp2
    go_ret
    exact ⟨p', m', c', rfl, own_baseI hown hB0.size, hB0.trans (hB1.mono hB0.size)⟩
end Go.Proofs.YthelgembcfdhdaaGreat
namespace Go.Proofs.YthelgembcfdhdaaGreat
open Go.RowKit Go.Sort Go.Shelf Go.Lib

theorem endA_stop {G : Gr} {st l : List Int} {k : Nat} (h : endA G st (l.take k) = []) : endA G st l = [] := by
  have e : endA G st l = endA G (endA G st (l.take k)) (l.drop k) := by
    unfold endA
    rw [← List.foldl_append, List.take_append_drop]
  rw [e, h, endA_nil]

set_option maxRecDepth 100000 in
set_option maxHeartbeats 2000000 in
theorem lEnds_any (G : Gr) (p : Option Addr) (c : Nat) (st : List Int) (q : Option Addr) (d : Nat) (s : ByteArray) (w : World) (hin : Sg 3 w edE p G.es) (hst : Sl w (Value.int .i64) q st) (hv : Vg G) (hS : St G.n st) (hw : Chg.okw G.q s.data.toList = true) (hs : s.size ≤ 65536) :
    Calls Tryz.prog 40 #[(.agg #[.int .i64 G.q, .int .i64 G.n, .slice p G.es.length c]), .slice q st.length d, .string s] w (LsOut (endA G st (ltr s)) w) := by
  have HIN := hidI hin; have HV := hidI hv; have HS := hidI hS; have HW := hidI hw
  have HST := hidI hst
  clear hin hst hv hS hw
  obtain ⟨w0, hw0⟩ : ∃ w0, w0 = w.alloc (.cells #[.int .i64 G.q, .int .i64 G.n, .slice p G.es.length c] 27) := ⟨_, rfl⟩
  have b0 : VRow w0 w.heap.size 27 [.int .i64 G.q, .int .i64 G.n, .slice p G.es.length c] := by subst hw0; exact VRow.new w _ _
  have hB0 : RowKit.Below w.heap.size w w0 := by subst hw0; exact (RowKit.Below.refl _ _).alloc (Nat.le_refl _) _
  have hE0 : endA G st ((ltr s).take 0) = st := rfl
  go_enter Tryz.func40, Tryz.ntmps40
  go_wp2
  rw [← hw0]
  clear hw0
  go_loopw [1, 7] (fun sv iv wr => ∃ (k : Nat) (qk : Option Addr) (dk : Nat), k ≤ s.size ∧ sv = .slice qk (endA G st ((ltr s).take k)).length dk ∧ iv = .int .i64 k ∧ Sl wr (Value.int .i64) qk (endA G st ((ltr s).take k)) ∧ RowKit.Below w0.heap.size w0 wr) (fun _ iv _ => s.size - (intOf iv).toNat)
  case atStart => exact ⟨0, q, d, by omega, by rw [hE0], rfl, by rw [hE0]; exact HST.out.below hB0, RowKit.Below.refl _ _⟩
  case round =>
    obtain ⟨k, qk, dk, hk, rfl, rfl, hsl, hB⟩ := hrel
    have HSK := hidI (endA_st G st HS.out ((ltr s).take k))
    have HSTOP := hidI (@endA_stop G st (ltr s) k)
    have xr := hB0.trans (hB.mono hB0.size)
    by_cases hlt : k < s.size
    · have HN : Hid (endA G st ((ltr s).take (k + 1)) = nextA G (endA G st ((ltr s).take k)) (Chg.dig (s[k].toNat : Int))) := by rw [Hid, ltr_take s k hlt, endA_snoc]
      generalize endA G st ((ltr s).take k) = L at *
      have hltN : (k : Int) < (s.size : Int) := by omega
      by_cases hL : 0 < L.length
      · have hLi : (0 : Int) < (L.length : Int) := by omega
        have hd := okw_at HW.out k hlt
        have r0 := b0.below hB b0.lt
        go_upto_region 4 with fail
        refine region_tail 5 (by kernel_rfl) (by kernel_rfl) fun W hD => ?_
        have g0 := (r0.dr hD).at 0 rfl; have g1 := (r0.dr hD).at 1 rfl; have g2 := (r0.dr hD).at 2 rfl
        have hBW := hB.trans (hD.below _)
        have xw := xr.trans (hD.below _)
        have hslW := hsl.dr hD
        clear r0
        simp only [List.take_succ_cons, List.take_zero, List.drop_succ_cons, List.drop_zero]
        iterate 5 still_step
        refine wpStill_nil ?_
        go_wp2_with fail
        refine (lStep_any G p c L qk dk s[k] W (HIN.out.below xw) hslW HV.out HSK.out hd.1 hd.2).mono ?_
        rintro e w2 ⟨p', m', c', rfl, hown, hB2⟩
        obtain ⟨q2, d2, he, hs2⟩ := own_sl hown
        cases he
        go_wp2
        go_roundw
        case rel => exact ⟨k + 1, p', c', by omega, by rw [HN.out], by go_num, by rw [HN.out]; exact hs2, hBW.trans (hB2.mono hBW.size)⟩
        case measure => simp [intOf]; omega
      · have hLi : ¬ (0 : Int) < (L.length : Int) := by omega
        have HE : Hid (endA G st (ltr s) = L) := by
          have h0 : L = [] := List.eq_nil_of_length_eq_zero (by omega)
          rw [Hid, h0]; exact HSTOP.out h0
        clear hL
        go_wp2
        go_ret
        exact ⟨qk, dk, by rw [HE.out]; rfl, by rw [HE.out]; exact hsl, xr⟩
    · obtain rfl : k = s.size := by omega
      have hkk : ¬ ((s.size : Int)) < (s.size : Int) := by omega
      have HE : Hid (endA G st (ltr s) = endA G st ((ltr s).take s.size)) := by rw [Hid, ltr_all]
      generalize endA G st ((ltr s).take s.size) = L at *
      go_wp2
      go_ret
      exact ⟨qk, dk, by rw [HE.out]; rfl, by rw [HE.out]; exact hsl, xr⟩

set_option maxRecDepth 100000 in
set_option maxHeartbeats 1000000 in
theorem lAccepts_any (G : Gr) (p : Option Addr) (c : Nat) (s : ByteArray) (w : World) (hin : Sg 3 w edE p G.es) (hv : Vg G) (hq : G.q ≤ 16) (hs : s.size ≤ maxLen) (hc : Chg.wchk G.q s.data.toList = 0) (hl : s.size ≤ 65536) :
    Calls Tryz.prog 15 #[(.agg #[.int .i64 G.q, .int .i64 G.n, .slice p G.es.length c]), .string s] w fun e w' => e = .returned (.tuple #[.bool (accA G s), .int .i64 0]) ∧ RowKit.Below w.heap.size w w' := by
  have HIN := hidI hin; have HV := hidI hv; have HC := hidI hc
  clear hin hv hc
  obtain ⟨w0, hw0⟩ : ∃ w0, w0 = w.alloc (.cells #[.int .i64 G.q, .int .i64 G.n, .slice p G.es.length c] 27) := ⟨_, rfl⟩
  have b0 : VRow w0 w.heap.size 27 [.int .i64 G.q, .int .i64 G.n, .slice p G.es.length c] := by subst hw0; exact VRow.new w _ _
  have hB0 : RowKit.Below w.heap.size w w0 := by subst hw0; exact (RowKit.Below.refl _ _).alloc (Nat.le_refl _) _
  go_enter Tryz.func15, Tryz.ntmps15
  go_wp2_with fail
  rw [← hw0]
  clear hw0
  refine (lSpells_any G p c s w0 (HIN.out.below hB0) HV.out hq hs).mono ?_
  rw [HC.out]
  rintro e w1 ⟨rfl, hB1⟩
  have x1 := hB0.trans (hB1.mono hB0.size)
  have b1 := b0.below hB1 b0.lt
  go_upto_region 4 with fail
  have g0 := b1.at 0 rfl; have g1 := b1.at 1 rfl; have g2 := b1.at 2 rfl
  have zb : w.heap.size < w1.heap.size := b1.lt
  have HIX : Hid (∀ W, RowKit.Below w1.heap.size w1 W → Sg 3 W edE p G.es) := fun W h => HIN.out.below (x1.trans (h.mono x1.size))
  have HA : Hid (accA G s = decide (0 < (endA G (upto G.n.toNat) (ltr s)).length)) := rfl
  have HUP := hidI (St.upto HV.out.n1)
  have HOK := hidI (wchk_okw HC.out)
  clear b0 hB0 hB1 b1
  generalize hL : endA G (upto G.n.toNat) (ltr s) = L at *
  have HL := hidI hL
  clear hL
  go_cut [4, 5] (fun s4 s5 wx => s4 = .bool (decide (0 < L.length)) ∧ s5 = .int .i64 0 ∧ RowKit.Below w1.heap.size w1 wx)
  case first =>
    go_region_held3 (fun w' => w'.cell? ⟨w.heap.size, 0, none⟩ = some (.int .i64 G.q) ∧ w'.cell? ⟨w.heap.size, 1, none⟩ = some (.int .i64 G.n) ∧ w'.cell? ⟨w.heap.size, 2, none⟩ = some (.slice p G.es.length c) ∧ RowKit.Below w1.heap.size w1 w')
      (first | (go_split_ands; refine ⟨?_, ?_, ?_, ?_⟩ <;> first | assumption | (go_keep; done) | exact below_drewN (RowKit.Below.refl _ _) 1 | exact (hBa.cell (Nat.lt_of_lt_of_le zb (RowKit.Below.size (by assumption)))).trans (by assumption) | exact (hBb.cell (Nat.lt_of_lt_of_le zb (RowKit.Below.size (by assumption)))).trans (by assumption) | exact RowKit.Below.trans (by assumption) (hBa.mono (RowKit.Below.size (by assumption))) | exact RowKit.Below.trans (by assumption) (hBb.mono (RowKit.Below.size (by assumption)))))
      (first
        | (go_at_call 41; go_split_ands; refine (lStates_any G p c _ HV.out).mono ?_; rintro e wA ⟨q, d, rfl, hsl, hBa⟩)
        | (go_at_call 40; go_split_ands; refine (lEnds_any G p c (upto G.n.toNat) q d s _ (HIX.out _ (by assumption)) hsl HV.out HUP.out HOK.out hl).mono ?_; rw [HL.out]; rintro e wB ⟨q3, d3, rfl, _, hBb⟩))
    all_goals
      go_wp2_with fail
      go_meet
      exact ⟨rfl, rfl, RowKit.Below.trans (by assumption) (hBb.mono (RowKit.Below.size (by assumption)))⟩
  case rest =>
    obtain ⟨rfl, rfl, hB2⟩ := hcut
    go_wp2
    go_ret2
    refine ⟨?_, x1.trans (hB2.mono x1.size)⟩
    rw [HA.out]; rfl
end Go.Proofs.YthelgembcfdhdaaGreat
namespace Go.Proofs.YthelgembcfdhdaaGreat

section
variable {α : Type}

theorem snocs (l : List α) : l = [] ∨ ∃ z b, l = z ++ [b] := by
  rcases List.eq_nil_or_concat l with e | ⟨z, b, e⟩
  · exact .inl e
  · exact .inr ⟨z, b, by rw [e, List.concat_eq_append]⟩

/-- No word of the list is a factor. -/
def Av (L : List (List α)) (v : List α) : Prop := ∀ u ∈ L, ¬ u <:+: v
theorem Av.sub {L : List (List α)} {v w : List α} (h : Av L w) (hv : v <:+: w) : Av L v := fun u hu hi => h u hu (hi.trans hv)
/-- The states: allowed beginnings of the list's words, but not these. -/
def Pr (L : List (List α)) (p : List α) : Prop := Av L p ∧ (p = [] ∨ ∃ u ∈ L, p <+: u ∧ p.length < u.length)
/-- The first end that is a state. -/
def sg (st : List α → Bool) : List α → List α
  | [] => []
  | a :: v => if st (a :: v) = true then a :: v else sg st v
theorem sg_suf (st : List α → Bool) : ∀ v, sg st v <:+ v
  | [] => List.suffix_refl _
  | a :: v => by
    unfold sg; split
    · exact List.suffix_refl _
    · exact (sg_suf st v).trans (List.suffix_cons _ _)
theorem sg_mem {st : List α → Bool} (h0 : st [] = true) : ∀ v, st (sg st v) = true
  | [] => h0
  | a :: v => by
    unfold sg; split
    · assumption
    · exact sg_mem h0 v
theorem sg_max {st : List α → Bool} {s : List α} (hs : st s = true) : ∀ {v}, s <:+ v → s <:+ sg st v
  | [], h => h
  | a :: v, h => by
    unfold sg; split
    · exact h
    · rename_i hn
      rcases List.suffix_cons_iff.1 h with e | h
      · subst e; exact absurd hs hn
      · exact sg_max hs h
theorem suf_anti {a b : List α} (h1 : a <:+ b) (h2 : b <:+ a) : a = b := h1.eq_of_length (Nat.le_antisymm h1.length_le h2.length_le)
theorem sg_self {st : List α → Bool} {s : List α} (hs : st s = true) : sg st s = s := suf_anti (sg_suf st s) (sg_max hs (List.suffix_refl _))
theorem suf_snoc {z v : List α} {a : α} (h : z <:+ v ++ [a]) : z = [] ∨ ∃ z', z = z' ++ [a] ∧ z' <:+ v := by
  rcases snocs z with e | ⟨z', b, rfl⟩
  · exact .inl e
  · obtain ⟨t, ht⟩ := h
    rw [← List.append_assoc] at ht
    obtain ⟨h1, h2⟩ := List.append_inj' ht rfl
    refine .inr ⟨z', by rw [h2], ⟨t, h1⟩⟩
theorem suf_snoc' {z v : List α} (a : α) (h : z <:+ v) : z ++ [a] <:+ v ++ [a] := by
  obtain ⟨t, rfl⟩ := h
  exact ⟨t, by simp⟩
/-- The state behind one letter more. -/
theorem sg_step {st : List α → Bool} (h0 : st [] = true) (hp : ∀ p a, st (p ++ [a]) = true → st p = true) (v : List α) (a : α) : sg st (v ++ [a]) = sg st (sg st v ++ [a]) := by
  refine suf_anti ?_ (sg_max (sg_mem h0 _) ((sg_suf st _).trans (suf_snoc' a (sg_suf st v))))
  refine sg_max (sg_mem h0 _) ?_
  have hm := sg_mem h0 (v ++ [a])
  have hs := sg_suf st (v ++ [a])
  generalize sg st (v ++ [a]) = z at *
  rcases suf_snoc hs with e | ⟨z', rfl, hz⟩
  · subst e; exact List.nil_suffix
  · exact suf_snoc' a (sg_max (hp _ _ hm) hz)
theorem Pr.pre {L : List (List α)} {p : List α} {a : α} (h : Pr L (p ++ [a])) : Pr L p := by
  obtain ⟨h1, h2⟩ := h
  refine ⟨h1.sub ⟨[], [a], by simp⟩, ?_⟩
  rcases h2 with h | ⟨u, hu, h3, h4⟩
  · simp at h
  · exact .inr ⟨u, hu, (List.prefix_append p [a]).trans h3, by simp at h4; omega⟩
theorem Pr.nil {L : List (List α)} (hL : ∀ u ∈ L, u ≠ []) : Pr L [] := ⟨fun u hu hi => hL u hu (List.infix_nil.1 hi), .inl rfl⟩

/-- One step; a path. -/
def stp (L : List (List α)) (st : List α → Bool) (p : List α) (a : α) (t : List α) : Prop := (∀ u ∈ L, ¬ u <:+ p ++ [a]) ∧ t = sg st (p ++ [a])
def wpt (L : List (List α)) (st : List α → Bool) : List α → List α → List α → Prop
  | p, [], t => p = t
  | p, a :: v, t => ∃ m, stp L st p a m ∧ wpt L st m v t
structure Aut (L : List (List α)) (st : List α → Bool) : Prop where
  ne : ∀ u ∈ L, u ≠ []
  iff : ∀ p, st p = true ↔ Pr L p
theorem Aut.nil {L : List (List α)} {st : List α → Bool} (h : Aut L st) : st [] = true := (h.iff _).2 (Pr.nil h.ne)
theorem Aut.pre {L : List (List α)} {st : List α → Bool} (h : Aut L st) (p : List α) (a : α) (hp : st (p ++ [a]) = true) : st p = true := (h.iff _).2 ((h.iff _).1 hp).pre
theorem av_snoc {L : List (List α)} {z : List α} {a : α} (h : Av L z) (h2 : ∀ u ∈ L, ¬ u <:+ z ++ [a]) : Av L (z ++ [a]) := fun u hu hi => by
  rcases List.infix_concat_iff.1 hi with h3 | h3
  · exact h2 u hu h3
  · exact h u hu h3
/-- What a path's labels spell is allowed, behind its state's word. -/
theorem Aut.spell {L : List (List α)} {st : List α → Bool} (H : Aut L st) : ∀ {v z p t : List α}, Av L z → p = sg st z → wpt L st p v t → Av L (z ++ v) ∧ t = sg st (z ++ v)
  | [], z, p, t, hz, hp, hw => by
    have hw : p = t := hw
    rw [List.append_nil]; exact ⟨hz, by rw [← hw, hp]⟩
  | a :: v, z, p, t, hz, hp, hw => by
    obtain ⟨m, ⟨h1, h2⟩, h3⟩ := hw
    have hA : Av L (z ++ [a]) := av_snoc hz (fun u hu hs => by
      rcases suf_snoc hs with e | ⟨u', rfl, hu'⟩
      · exact H.ne u hu e
      · have hP : st u' = true := (H.iff _).2 ⟨hz.sub hu'.isInfix, .inr ⟨_, hu, List.prefix_append _ _, by simp⟩⟩
        exact h1 _ hu (suf_snoc' a (by rw [hp]; exact sg_max hP hu')))
    have := H.spell (v := v) (z := z ++ [a]) hA (by rw [h2, hp, ← sg_step H.nil H.pre]) h3
    simpa using this

/-! ### Words that can be extended -/
def Gd (S : List α) (L : List (List α)) (w : List α) : Prop := ∀ n : Nat, ∃ x y : List α, n ≤ x.length ∧ n ≤ y.length ∧ (∀ c ∈ x, c ∈ S) ∧ (∀ c ∈ y, c ∈ S) ∧ Av L (x ++ w ++ y)
theorem pigeon {P : α → Nat → Prop} (hmono : ∀ c n m, m ≤ n → P c n → P c m) : ∀ {S : List α}, (∀ n, ∃ c ∈ S, P c n) → ∃ c ∈ S, ∀ n, P c n
  | [], h => by obtain ⟨c, hc, _⟩ := h 0; simp at hc
  | a :: S, h => by
    by_cases ha : ∀ n, P a n
    · exact ⟨a, by simp, ha⟩
    · obtain ⟨k, hk⟩ := Classical.not_forall.1 ha
      obtain ⟨c, hc, hp⟩ := pigeon hmono (S := S) (fun n => by
        obtain ⟨c, hc, hp⟩ := h (max n k)
        rcases List.mem_cons.1 hc with e | hc
        · subst e; exact absurd (hmono _ _ _ (Nat.le_max_right _ _) hp) hk
        · exact ⟨c, hc, hmono _ _ _ (Nat.le_max_left _ _) hp⟩)
      exact ⟨c, List.mem_cons_of_mem _ hc, hp⟩
theorem Gd.av {S : List α} {L : List (List α)} {w : List α} (h : Gd S L w) : Av L w := by
  obtain ⟨x, y, _, _, _, _, h1⟩ := h 0
  exact h1.sub ⟨x, y, rfl⟩
theorem Gd.right {S : List α} {L : List (List α)} {w : List α} (h : Gd S L w) : ∃ c ∈ S, Gd S L (w ++ [c]) := by
  refine pigeon (P := fun c n => ∃ x y : List α, n ≤ x.length ∧ n ≤ y.length ∧ (∀ c ∈ x, c ∈ S) ∧ (∀ c ∈ y, c ∈ S) ∧ Av L (x ++ (w ++ [c]) ++ y)) ?_ ?_
  · rintro c n m hm ⟨x, y, h1, h2, h3⟩
    exact ⟨x, y, by omega, by omega, h3⟩
  · intro n
    obtain ⟨x, y, h1, h2, h3, h4, h5⟩ := h (n + 1)
    cases y with
    | nil => simp at h2
    | cons c y => exact ⟨c, h4 c (by simp), x, y, by omega, by simpa using h2, h3, fun d hd => h4 d (by simp [hd]), by simpa using h5⟩
theorem Gd.left {S : List α} {L : List (List α)} {w : List α} (h : Gd S L w) : ∃ c ∈ S, Gd S L (c :: w) := by
  refine pigeon (P := fun c n => ∃ x y : List α, n ≤ x.length ∧ n ≤ y.length ∧ (∀ c ∈ x, c ∈ S) ∧ (∀ c ∈ y, c ∈ S) ∧ Av L (x ++ (c :: w) ++ y)) ?_ ?_
  · rintro c n m hm ⟨x, y, h1, h2, h3⟩
    exact ⟨x, y, by omega, by omega, h3⟩
  · intro n
    obtain ⟨x, y, h1, h2, h3, h4, h5⟩ := h (n + 1)
    rcases snocs x with e | ⟨x', c, rfl⟩
    · subst e; simp at h1
    · exact ⟨c, h3 c (by simp), x', y, by simpa using h1, by omega, fun d hd => h3 d (by simp [hd]), h4, by simpa using h5⟩
theorem Gd.pre {S : List α} {L : List (List α)} {w : List α} {c : α} (hc : c ∈ S) (h : Gd S L (w ++ [c])) : Gd S L w := fun n => by
  obtain ⟨x, y, h1, h2, h3, h4, h5⟩ := h n
  refine ⟨x, c :: y, h1, by simp; omega, h3, fun d hd => ?_, by simpa using h5⟩
  rcases List.mem_cons.1 hd with e | e
  · rw [e]; exact hc
  · exact h4 d e
theorem Gd.far {S : List α} {L : List (List α)} {w : List α} (h : Gd S L w) : ∀ n : Nat, ∃ x : List α, n ≤ x.length ∧ (∀ c ∈ x, c ∈ S) ∧ Gd S L (x ++ w)
  | 0 => ⟨[], by simp, by simp, h⟩
  | n + 1 => by
    obtain ⟨x, h1, h2, h3⟩ := Gd.far h n
    obtain ⟨c, hc, h4⟩ := h3.left
    exact ⟨c :: x, by simp; omega, fun d hd => by
      rcases List.mem_cons.1 hd with e | e
      · rw [e]; exact hc
      · exact h2 d e, h4⟩
/-- The states behind words that can be extended. -/
def Tt (S : List α) (L : List (List α)) (st : List α → Bool) (M : Nat) (p : List α) : Prop := ∃ u : List α, M ≤ u.length ∧ (∀ c ∈ u, c ∈ S) ∧ Gd S L u ∧ p = sg st u
theorem Aut.stp_of {L : List (List α)} {st : List α → Bool} (H : Aut L st) {u : List α} {c : α} (h : Av L (u ++ [c])) : stp L st (sg st u) c (sg st (u ++ [c])) :=
  ⟨fun z hz hs => h z hz ((hs.trans (suf_snoc' c (sg_suf st u))).isInfix), sg_step H.nil H.pre u c⟩
theorem Tt.out {S : List α} {L : List (List α)} {st : List α → Bool} (H : Aut L st) {M : Nat} {p : List α} (h : Tt S L st M p) : ∃ c ∈ S, ∃ t, stp L st p c t ∧ Tt S L st M t := by
  obtain ⟨u, h1, h2, h3, rfl⟩ := h
  obtain ⟨c, hc, h4⟩ := h3.right
  refine ⟨c, hc, _, H.stp_of h4.av, u ++ [c], by simp; omega, fun d hd => ?_, h4, rfl⟩
  rcases List.mem_append.1 hd with e | e
  · exact h2 d e
  · rw [List.mem_singleton.1 e]; exact hc
theorem sg_cons {st : List α → Bool} {M : Nat} (hM : ∀ p, st p = true → p.length ≤ M) (h0 : st [] = true) {c : α} {u : List α} (hu : M ≤ u.length) : sg st (c :: u) = sg st u := by
  refine suf_anti (sg_max (sg_mem h0 _) ?_) (sg_max (sg_mem h0 _) ((sg_suf st u).trans (List.suffix_cons _ _)))
  rcases List.suffix_cons_iff.1 (sg_suf st (c :: u)) with e | e
  · have := hM _ (sg_mem h0 (c :: u)); rw [e] at this; simp at this; omega
  · exact e
theorem Tt.into {S : List α} {L : List (List α)} {st : List α → Bool} (H : Aut L st) {M : Nat} (hM : ∀ p, st p = true → p.length ≤ M) (hM1 : 0 < M) {p : List α} (h : Tt S L st M p) : ∃ c ∈ S, ∃ t, stp L st t c p ∧ Tt S L st M t := by
  obtain ⟨u, h1, h2, h3, rfl⟩ := h
  obtain ⟨c, hc, h4⟩ := h3.left
  rcases snocs u with e | ⟨u', d, rfl⟩
  · subst e; simp at h1; omega
  · have hd : d ∈ S := h2 d (by simp)
    have hs := H.stp_of (u := c :: u') (c := d) (by simpa using h4.av)
    rw [List.cons_append, sg_cons hM H.nil h1] at hs
    refine ⟨d, hd, _, hs, c :: u', by simp at h1; simp; omega, fun e he => ?_, Gd.pre hd (by simpa using h4), rfl⟩
    rcases List.mem_cons.1 he with e1 | e1
    · rw [e1]; exact hc
    · exact h2 e (by simp [e1])
/-- A path whose states are all such. -/
def wptT (T : List α → Prop) (L : List (List α)) (st : List α → Bool) : List α → List α → List α → Prop
  | p, [], t => p = t ∧ T p
  | p, a :: v, t => T p ∧ ∃ m, stp L st p a m ∧ wptT T L st m v t
theorem Aut.path {S : List α} {L : List (List α)} {st : List α → Bool} (H : Aut L st) {M : Nat} : ∀ {w u : List α}, M ≤ u.length → (∀ c ∈ u, c ∈ S) → (∀ c ∈ w, c ∈ S) → Gd S L (u ++ w) → ∃ t, wptT (Tt S L st M) L st (sg st u) w t
  | [], u, h1, h2, _, h4 => ⟨sg st u, rfl, u, h1, h2, by simpa using h4, rfl⟩
  | c :: w, u, h1, h2, h3, h4 => by
    have hc := h3 c (by simp)
    have hu : Gd S L u := by
      have : ∀ (w : List α), (∀ c ∈ w, c ∈ S) → ∀ u, Gd S L (u ++ w) → Gd S L u := by
        intro w
        induction w with
        | nil => intro _ u h; simpa using h
        | cons c w ih =>
          intro hw u h
          exact Gd.pre (hw c (by simp)) (ih (fun d hd => hw d (by simp [hd])) (u ++ [c]) (by simpa using h))
      exact this _ h3 u h4
    obtain ⟨t, ht⟩ := H.path (S := S) (M := M) (w := w) (u := u ++ [c]) (by simp; omega) (fun d hd => by
      rcases List.mem_append.1 hd with e | e
      · exact h2 d e
      · rw [List.mem_singleton.1 e]; exact hc) (fun d hd => h3 d (by simp [hd])) (by simpa using h4)
    refine ⟨t, ⟨u, h1, h2, hu, rfl⟩, _, H.stp_of ?_, ht⟩
    exact h4.av.sub ⟨[], w, by simp⟩
theorem Gd.found {S : List α} {L : List (List α)} {st : List α → Bool} (H : Aut L st) {w : List α} (h : Gd S L w) (hw : ∀ c ∈ w, c ∈ S) (M : Nat) : ∃ p t, wptT (Tt S L st M) L st p w t := by
  obtain ⟨x, h1, h2, h3⟩ := h.far M
  exact ⟨_, H.path h1 h2 hw h3⟩
end

/-! ### Bytes -/
theorem contains_inf (s u : List UInt8) : Lib.contains s u = true ↔ u <:+: s := by
  unfold Lib.contains
  rw [decide_eq_true_eq]
  constructor
  · intro h
    rcases Lib.index_spec s u with ⟨h1, _⟩ | ⟨i, h1, h2, h3, _⟩
    · omega
    · have h3 : u.isPrefixOf (s.drop i) = true := by simpa [Lib.occAt] using h3
      exact (List.isPrefixOf_iff_prefix.1 h3).isInfix.trans (List.drop_suffix i s).isInfix
  · rintro ⟨a, b, rfl⟩
    rcases Lib.index_spec (a ++ u ++ b) u with ⟨_, h2⟩ | ⟨i, h1, _⟩
    · have := h2 a.length (by simp)
      have h4 : u.isPrefixOf ((a ++ u ++ b).drop a.length) = true := List.isPrefixOf_iff_prefix.2 (by simp)
      unfold Lib.occAt at this
      rw [h4] at this; cases this
    · omega
theorem hasSuffix_suf (s u : List UInt8) : Lib.hasSuffix s u = true ↔ u <:+ s := by
  unfold Lib.hasSuffix
  exact List.isSuffixOf_iff_suffix
end Go.Proofs.YthelgembcfdhdaaGreat
namespace Go.Proofs.YthelgembcfdhdaaGreat
open Go.RowKit Go.Sort

/-! ### Paths -/
def pth (es : List Ed) : Int → List Int → Int → Prop
  | u, [], t => u = t
  | u, b :: l, t => ∃ x ∈ es, x.f = u ∧ x.l = b ∧ pth es x.t l t
theorem mem_endA {G : Gr} (hv : Vg G) : ∀ (l st : List Int) (t : Int), t ∈ endA G st l ↔ ∃ u ∈ st, pth G.es u l t
  | [], st, t => by
    show t ∈ st ↔ _
    constructor
    · intro h; exact ⟨t, h, rfl⟩
    · rintro ⟨u, hu, rfl⟩; exact hu
  | b :: l, st, t => by
    show t ∈ endA G (nextA G st b) l ↔ _
    rw [mem_endA hv l]
    constructor
    · rintro ⟨u, hu, hp⟩
      obtain ⟨x, hx, rfl, h1, h2⟩ := (mem_nextA hv).1 hu
      exact ⟨x.f, h2, x, hx, rfl, h1, hp⟩
    · rintro ⟨u, hu, x, hx, rfl, h1, hp⟩
      exact ⟨x.t, (mem_nextA hv).2 ⟨x, hx, rfl, h1, hu⟩, hp⟩
theorem acc_iff {G : Gr} (hv : Vg G) (s : ByteArray) : accA G s = true ↔ ∃ u t, 0 ≤ u ∧ u < G.n ∧ pth G.es u (ltr s) t := by
  have hn := hv.n1
  unfold accA
  rw [decide_eq_true_eq, List.length_pos_iff_exists_mem]
  constructor
  · rintro ⟨t, ht⟩
    obtain ⟨u, hu, hp⟩ := (mem_endA hv _ _ _).1 ht
    have := mem_upto.1 hu
    exact ⟨u, t, this.1, by omega, hp⟩
  · rintro ⟨u, t, h0, h1, hp⟩
    exact ⟨t, (mem_endA hv _ _ _).2 ⟨u, mem_upto.2 ⟨h0, by omega⟩, hp⟩⟩
theorem pth_app {es : List Ed} : ∀ {l m : List Int} {u t : Int}, pth es u (l ++ m) t ↔ ∃ v, pth es u l v ∧ pth es v m t
  | [], m, u, t => by
    constructor
    · intro h; exact ⟨u, rfl, h⟩
    · rintro ⟨v, rfl, h⟩; exact h
  | b :: l, m, u, t => by
    show (∃ x ∈ es, x.f = u ∧ x.l = b ∧ pth es x.t (l ++ m) t) ↔ _
    constructor
    · rintro ⟨x, hx, h1, h2, h3⟩
      obtain ⟨v, h4, h5⟩ := pth_app.1 h3
      exact ⟨v, ⟨x, hx, h1, h2, h4⟩, h5⟩
    · rintro ⟨v, ⟨x, hx, h1, h2, h4⟩, h5⟩
      exact ⟨x, hx, h1, h2, pth_app.2 ⟨v, h4, h5⟩⟩
/-- A path of a part is one of the graph. -/
theorem pth_part {G : Gr} {st : List Int} : ∀ {l : List Int} {i j u : Int}, u ∈ st → ((st.idxOf u : Nat) : Int) = i → pth (partA G st).es i l j → ∃ v ∈ st, ((st.idxOf v : Nat) : Int) = j ∧ pth G.es u l v
  | [], i, j, u, hu, hi, hp => ⟨u, hu, by rw [hi]; exact hp, rfl⟩
  | b :: l, i, j, u, hu, hi, hp => by
    obtain ⟨y, hy, h1, h2, h3⟩ := hp
    obtain ⟨x, hx, hxy⟩ := List.mem_filterMap.1 (show y ∈ G.es.filterMap (partE st) from hy)
    obtain ⟨a1, a2, rfl⟩ := partE_some hxy
    have e : x.f = u := iof_inj a1 hu (by
      have h1 : ((st.idxOf x.f : Nat) : Int) = i := h1
      omega)
    obtain ⟨v, hv, hv2, hv3⟩ := pth_part a2 rfl h3
    exact ⟨v, hv, hv2, x, hx, e, h2, hv3⟩
/-- A path that keeps to a set of states is one of the part. -/
def pthT (es : List Ed) (C : Int → Prop) : Int → List Int → Int → Prop
  | u, [], t => u = t ∧ C u
  | u, b :: l, t => C u ∧ ∃ x ∈ es, x.f = u ∧ x.l = b ∧ pthT es C x.t l t
theorem pthT_head {es : List Ed} {C : Int → Prop} : ∀ {l : List Int} {u t : Int}, pthT es C u l t → C u
  | [], _, _, h => h.2
  | _ :: _, _, _, h => h.1
theorem pthT_part {G : Gr} {st : List Int} {C : Int → Prop} (hC : ∀ s, C s → s ∈ st) : ∀ {l : List Int} {u t : Int}, pthT G.es C u l t → pth (partA G st).es ((st.idxOf u : Nat) : Int) l ((st.idxOf t : Nat) : Int)
  | [], u, t, h => by show ((st.idxOf u : Nat) : Int) = _; rw [h.1]
  | b :: l, u, t, h => by
    obtain ⟨h0, x, hx, rfl, h2, h3⟩ := h
    exact ⟨_, List.mem_filterMap.2 ⟨x, hx, part_go ⟨hC _ h0, hC _ (pthT_head h3)⟩⟩, rfl, h2, pthT_part hC h3⟩
/-- Inside an essential part each path goes on, on both sides. -/
theorem pth_more {G : Gr} (h : Vg G) : ∀ (n : Nat) {u : Int}, 0 ≤ u → u < (partA G (essT G)).n → (∃ (l : List Int) (t : Int), l.length = n ∧ pth (partA G (essT G)).es u l t) ∧ ∃ (l : List Int) (t : Int), 0 ≤ t ∧ t < (partA G (essT G)).n ∧ l.length = n ∧ pth (partA G (essT G)).es t l u
  | 0, u, h0, h1 => ⟨⟨[], u, rfl, rfl⟩, [], u, h0, h1, rfl, rfl⟩
  | n + 1, u, h0, h1 => by
    have hv := part_vg h (essT_st h)
    obtain ⟨⟨y, hy, e1⟩, z, hz, e2⟩ := ess_edges h h0 h1
    have iy := hv.ins y hy
    have iz := hv.ins z hz
    obtain ⟨⟨l, t, hl, hp⟩, _⟩ := pth_more h n iz.2.2.1 iz.2.2.2.2.1
    obtain ⟨_, m, s, hs0, hs1, hm, hq⟩ := pth_more h n iy.1 iy.2.2.2.1
    refine ⟨⟨z.l :: l, t, by simp [hl], z, hz, e2, rfl, hp⟩, m ++ [y.l], s, hs0, hs1, by simp [hm], pth_app.2 ⟨y.f, hq, y, hy, rfl, rfl, e1⟩⟩
theorem pth_lab {G : Gr} (h : Vg G) : ∀ {l : List Int} {u t : Int}, pth G.es u l t → ∀ b ∈ l, 0 ≤ b ∧ b < G.q
  | [], _, _, _, b, hb => by simp at hb
  | c :: l, _, _, hp, b, hb => by
    obtain ⟨x, hx, _, h2, h3⟩ := hp
    rcases List.mem_cons.1 hb with e | e
    · subst e; have := h.ins x hx; omega
    · exact pth_lab h h3 b e

/-! ### Words as lists of bytes -/
def bl (w : ByteArray) : List UInt8 := w.data.toList
def lb (p : List UInt8) : ByteArray := ⟨p.toArray⟩
theorem lb_bl (w : ByteArray) : lb (bl w) = w := by cases w; simp [lb, bl]
theorem bl_lb (p : List UInt8) : bl (lb p) = p := by simp [lb, bl]
theorem bl_len (w : ByteArray) : (bl w).length = w.size := by cases w; rfl
theorem bl_inj {a b : ByteArray} (h : bl a = bl b) : a = b := by rw [← lb_bl a, h, lb_bl]
theorem bl_ext (w : ByteArray) (i k : Nat) : bl (w.extract i k) = ((bl w).take k).drop i := by
  unfold bl
  rw [ByteArray.data_extract, Array.toList_extract, List.extract_eq_take_drop]
  rw [List.drop_take]
theorem bl_app (a b : ByteArray) : bl (a ++ b) = bl a ++ bl b := by unfold bl; rw [ByteArray.data_append, Array.toList_append]
def Ls (l : List ByteArray) : List (List UInt8) := l.map bl
theorem mem_Ls {l : List ByteArray} {u : List UInt8} : u ∈ Ls l ↔ lb u ∈ l := by
  unfold Ls
  rw [List.mem_map]
  constructor
  · rintro ⟨x, hx, rfl⟩; rw [lb_bl]; exact hx
  · intro h; exact ⟨_, h, bl_lb u⟩
theorem bl_Ls {l : List ByteArray} {x : ByteArray} (h : x ∈ l) : bl x ∈ Ls l := List.mem_map_of_mem h
theorem av_iff {l : List ByteArray} {w : ByteArray} : alwA l w = true ↔ Av (Ls l) (bl w) := by
  unfold alwA Av Ls
  rw [Bool.not_eq_true', List.any_eq_false]
  constructor
  · intro h u hu hi
    obtain ⟨x, hx, rfl⟩ := List.mem_map.1 hu
    exact h x hx ((contains_inf _ _).2 hi)
  · intro h x hx hc
    exact h _ (List.mem_map_of_mem hx) ((contains_inf _ _).1 hc)
theorem bad_iffL {l : List ByteArray} {w : ByteArray} : badA l w = false ↔ ∀ u ∈ Ls l, ¬ u <:+ bl w := by
  unfold badA Ls
  rw [List.any_eq_false]
  constructor
  · intro h u hu hi
    obtain ⟨x, hx, rfl⟩ := List.mem_map.1 hu
    exact h x hx ((hasSuffix_suf _ _).2 hi)
  · intro h x hx hc
    exact h _ (List.mem_map_of_mem hx) ((hasSuffix_suf _ _).1 hc)
def stB (l : List ByteArray) (p : List UInt8) : Bool := (stA l).any (fun u => bl u == p)
theorem stB_iff {l : List ByteArray} {p : List UInt8} : stB l p = true ↔ lb p ∈ stA l := by
  unfold stB
  rw [List.any_eq_true]
  constructor
  · rintro ⟨u, hu, he⟩
    have e : bl u = p := by simpa using he
    rw [← e, lb_bl]; exact hu
  · intro h; exact ⟨_, h, by rw [bl_lb]; simp⟩
theorem aut_of {l : List ByteArray} (hl : ∀ u ∈ l, u ≠ (⟨#[]⟩ : ByteArray)) : Aut (Ls l) (stB l) where
  ne := fun u hu e => by subst e; exact hl _ (mem_Ls.1 hu) rfl
  iff := fun p => by
    rw [stB_iff]
    constructor
    · intro h
      have ha := av_iff.1 (stA_alw hl h)
      rw [bl_lb] at ha
      refine ⟨ha, ?_⟩
      have h := mem_insAll.1 h
      unfold candF preF at h
      rcases List.mem_cons.1 h with h | h
      · left; rw [← bl_lb p, h]; rfl
      · obtain ⟨x, hx, hu⟩ := List.mem_flatMap.1 h
        obtain ⟨k, hk, he⟩ := List.mem_map.1 (List.mem_filter.1 hu).1
        have hk := List.mem_range.1 hk
        refine .inr ⟨bl x, bl_Ls (List.mem_of_mem_take hx), ?_, ?_⟩
        · rw [← bl_lb p, ← he, bl_ext, List.drop_zero]; exact List.take_prefix _ _
        · rw [← bl_lb p, ← he, bl_len, bl_len]; simp; omega
    · rintro ⟨ha, h⟩
      refine mem_insAll.2 ?_
      unfold candF preF
      rcases h with h | ⟨u, hu, hp, hlt⟩
      · subst h; exact List.mem_cons_self
      · refine List.mem_cons_of_mem _ (List.mem_flatMap.2 ⟨lb u, by rw [List.take_length]; exact mem_Ls.1 hu, List.mem_filter.2 ⟨List.mem_map.2 ⟨p.length, List.mem_range.2 ?_, ?_⟩, ?_⟩⟩)
        · rw [← bl_len, bl_lb]; exact hlt
        · refine bl_inj ?_
          rw [bl_ext, bl_lb, bl_lb, List.drop_zero]
          exact (List.prefix_iff_eq_take.1 hp).symm
        · exact av_iff.2 (by rw [bl_lb]; exact ha)

/-! ### Letters -/
def lt (a : Int) : UInt8 := (bl ltB).getD a.toNat 48
def dg (c : UInt8) : Int := Chg.dig (c.toNat : Int)
def sigL (q : Int) : List UInt8 := (bl ltB).take q.toNat
theorem lt_dg : ∀ a : Nat, a < 16 → dg (lt (a : Int)) = a := by decide
theorem dg_lt : ∀ c : Nat, c < 256 → 0 ≤ Chg.dig (c : Int) → lt (Chg.dig (c : Int)) = UInt8.ofNat c := by decide +kernel
theorem lt_of (c : UInt8) (h : 0 ≤ dg c) : lt (dg c) = c := by
  have := dg_lt c.toNat (UInt8.toNat_lt c) h
  unfold dg; rw [this]; exact UInt8.ofNat_toNat
theorem bl_ltB : (bl ltB).length = 16 := rfl
theorem lt_get (a : Nat) (h : a < 16) : lt (a : Int) = (bl ltB)[a]'(by rw [bl_ltB]; exact h) := by
  unfold lt; rw [Int.toNat_natCast, List.getD_eq_getElem?_getD, List.getElem?_eq_getElem (by rw [bl_ltB]; exact h)]; rfl
theorem mem_sig {q : Int} (hq : q ≤ 16) {c : UInt8} : c ∈ sigL q ↔ ∃ a : Nat, (a : Int) < q ∧ lt (a : Int) = c := by
  unfold sigL
  constructor
  · intro h
    obtain ⟨a, ha, e⟩ := List.getElem_of_mem h
    rw [List.length_take, bl_ltB] at ha
    refine ⟨a, by omega, ?_⟩
    rw [← e, List.getElem_take, lt_get a (by omega)]
  · rintro ⟨a, ha, rfl⟩
    rw [lt_get a (by omega)]
    refine List.mem_iff_getElem.2 ⟨a, by rw [List.length_take, bl_ltB]; omega, ?_⟩
    rw [List.getElem_take]
theorem bl_wd (p : ByteArray) (a : Nat) (h : a < 16) : bl (wdA p a) = bl p ++ [lt (a : Int)] := by
  unfold wdA
  rw [bl_app, bl_ext, lt_get a h]
  congr 1
  have h1 : a < (bl ltB).length := by rw [bl_ltB]; exact h
  rw [List.take_succ_eq_append_getElem h1, List.drop_append_of_le_length (by rw [List.length_take, bl_ltB]; omega), List.drop_eq_nil_of_le (by rw [List.length_take]; omega), List.nil_append]

/-! ### States and edges -/
theorem tg_drop {l : List ByteArray} (h0 : (⟨#[]⟩ : ByteArray) ∈ stA l) : ∀ {i : Nat} {v : List UInt8}, i ≤ v.length → (∀ j, j < i → stB l (v.drop j) = false) → stB l (v.drop i) = true → sg (stB l) v = v.drop i
  | i, [], _, _, _ => by simp [sg]
  | 0, a :: v, _, _, h => by unfold sg; rw [if_pos (by simpa using h)]; rfl
  | i + 1, a :: v, hi, hn, h => by
    have := hn 0 (by omega)
    unfold sg
    rw [if_neg (by rw [show a :: v = (a :: v).drop 0 from rfl, this]; simp)]
    have := tg_drop (i := i) (v := v) h0 (by simpa using hi) (fun j hj => by simpa using hn (j + 1) (by omega)) (by simpa using h)
    simpa using this
/-- A number and its state's word. -/
def At (l : List ByteArray) (s : Int) (p : List UInt8) : Prop := ∃ (i : Nat) (h : i < (stA l).length), s = (i : Int) ∧ bl (stA l)[i] = p
theorem At.st {l : List ByteArray} {s : Int} {p : List UInt8} (h : At l s p) : stB l p = true := by
  obtain ⟨i, hi, _, rfl⟩ := h
  rw [stB_iff, lb_bl]; exact List.getElem_mem hi
theorem At.uniq {l : List ByteArray} {s t : Int} {p : List UInt8} (h : At l s p) (k : At l t p) : s = t := by
  obtain ⟨i, hi, rfl, h1⟩ := h
  obtain ⟨j, hj, rfl, h2⟩ := k
  have he : (stA l)[i] = (stA l)[j] := bl_inj (h1.trans h2.symm)
  have hs := insAll_srt (candF l l.length)
  rcases Nat.lt_trichotomy i j with e | e | e
  · have := List.pairwise_iff_getElem.1 hs i j hi hj e
    have he : (insAll (candF l l.length))[i]'hi = (insAll (candF l l.length))[j]'hj := he
    rw [he, ordB_refl] at this; omega
  · rw [e]
  · have := List.pairwise_iff_getElem.1 hs j i hj hi e
    have he : (insAll (candF l l.length))[i]'hi = (insAll (candF l l.length))[j]'hj := he
    rw [he, ordB_refl] at this; omega
theorem At.same {l : List ByteArray} {s : Int} {p p' : List UInt8} (h : At l s p) (k : At l s p') : p = p' := by
  obtain ⟨i, hi, rfl, h1⟩ := h
  obtain ⟨j, hj, e, h2⟩ := k
  obtain rfl : i = j := by omega
  rw [← h1, ← h2]
theorem At.of {l : List ByteArray} {p : List UInt8} (h : stB l p = true) : ∃ s, At l s p := by
  obtain ⟨i, hi, e⟩ := List.getElem_of_mem (stB_iff.1 h)
  exact ⟨_, i, hi, rfl, by rw [e, bl_lb]⟩
theorem tg_at (l : List ByteArray) (w : ByteArray) : At l (tgA (stA l) w) (sg (stB l) (bl w)) := by
  have h0 := stA_nil l
  obtain ⟨i, hi, h1, h2⟩ := tgR_first (f := plF (stA l) (stA l).length) (plF_some (stA l).length (Nat.le_refl _) (by rw [List.take_length]; exact h0)) w.size w (Nat.le_refl _)
  obtain ⟨k, hk, h3, h4⟩ := plF_get (stA l).length (Nat.le_refl _) h1
  have hx : ∀ j, lb ((bl w).drop j) = w.extract j w.size := fun j => bl_inj (by rw [bl_lb, bl_ext, ← bl_len, List.take_length])
  have hd : sg (stB l) (bl w) = (bl w).drop i := by
    refine tg_drop h0 (by rw [bl_len]; exact hi) (fun j hj => ?_) ?_
    · rw [Bool.eq_false_iff]
      intro hs
      have hm := stB_iff.1 hs
      rw [hx] at hm
      have := plF_some (st := stA l) (stA l).length (Nat.le_refl _) (by rw [List.take_length]; exact hm)
      rw [h2 j hj] at this; cases this
    · rw [stB_iff, hx, ← h4]; exact List.getElem_mem hk
  refine ⟨k, hk, h3, ?_⟩
  rw [h4, hd, ← hx, bl_lb]
theorem mem_edRow {l st : List ByteArray} {s : Nat} {x : Ed} : ∀ {a : Nat}, x ∈ edRow l st s a ↔ ∃ b, b < a ∧ badA l (wdA (st.getD s (⟨#[]⟩ : ByteArray)) b) = false ∧ x = ⟨(s : Int), (b : Int), tgA st (wdA (st.getD s (⟨#[]⟩ : ByteArray)) b)⟩
  | 0 => by simp [edRow]
  | a + 1 => by
    rw [edRow, List.mem_append, mem_edRow]
    constructor
    · rintro (⟨b, h1, h2, h3⟩ | h)
      · exact ⟨b, by omega, h2, h3⟩
      · split at h
        · simp at h
        · rename_i hb
          exact ⟨a, by omega, by simpa using hb, List.mem_singleton.1 h⟩
    · rintro ⟨b, h1, h2, h3⟩
      by_cases e : b = a
      · subst e; right; rw [if_neg (by rw [h2]; simp)]; exact List.mem_singleton.2 h3
      · exact .inl ⟨b, by omega, h2, h3⟩
theorem mem_edAll {l st : List ByteArray} {q : Nat} {x : Ed} : ∀ {k : Nat}, x ∈ edAll l st q k ↔ ∃ s, s < k ∧ x ∈ edRow l st s q
  | 0 => by simp [edAll]
  | k + 1 => by
    rw [edAll, List.mem_append, mem_edAll]
    constructor
    · rintro (⟨s, h1, h2⟩ | h)
      · exact ⟨s, by omega, h2⟩
      · exact ⟨k, by omega, h⟩
    · rintro ⟨s, h1, h2⟩
      by_cases e : s = k
      · subst e; exact .inr h2
      · exact .inl ⟨s, by omega, h2⟩
/-- The graph ahead of its essential part. -/
def grF (q : Int) (l : List ByteArray) : Gr := ⟨q, (stA l).length, norm (edAll l (stA l) q.toNat (stA l).length)⟩
theorem edge_iff {q : Int} (hq : q ≤ 16) {l : List ByteArray} {x : Ed} : x ∈ (grF q l).es ↔ ∃ (a : Nat) (p : List UInt8), (a : Int) < q ∧ x.l = a ∧ At l x.f p ∧ (∀ u ∈ Ls l, ¬ u <:+ p ++ [lt (a : Int)]) ∧ At l x.t (sg (stB l) (p ++ [lt (a : Int)])) := by
  show x ∈ norm _ ↔ _
  rw [mem_norm, mem_edAll]
  constructor
  · rintro ⟨s, hs, h⟩
    obtain ⟨a, ha, hb, rfl⟩ := mem_edRow.1 h
    rw [getD_at hs] at hb ⊢
    have hw := bl_wd (stA l)[s] a (by omega)
    have h1 := bad_iffL.1 hb
    rw [hw] at h1
    have h2 := tg_at l (wdA (stA l)[s] a)
    rw [hw] at h2
    exact ⟨a, bl (stA l)[s], by omega, rfl, ⟨s, hs, rfl, rfl⟩, h1, h2⟩
  · rintro ⟨a, p, ha, hl, ⟨s, hs, hf, rfl⟩, h1, h2⟩
    refine ⟨s, hs, mem_edRow.2 ⟨a, by omega, ?_, ?_⟩⟩
    · rw [getD_at hs, bad_iffL, bl_wd _ a (by omega)]; exact h1
    · rw [getD_at hs]
      have h3 := tg_at l (wdA (stA l)[s] a)
      rw [bl_wd _ a (by omega)] at h3
      have h4 := h2.uniq h3
      cases x with
      | mk f lx t =>
        simp only at hf hl h4
        rw [hf, hl, h4]
theorem At.bd {l : List ByteArray} {s : Int} {p : List UInt8} (h : At l s p) : 0 ≤ s ∧ s < (stA l).length := by
  obtain ⟨i, hi, rfl, _⟩ := h; omega
theorem grF_vg {q : Int} {l : List ByteArray} (h1 : 1 ≤ q) (h2 : q ≤ 16) (h3 : (stA l).length ≤ 64) : Vg (grF q l) where
  q1 := h1
  q2 := by show q ≤ 256; omega
  n1 := by show 0 ≤ ((stA l).length : Int); omega
  n2 := by show ((stA l).length : Int) ≤ 64; omega
  len := by
    show (norm _).length ≤ 1024
    have e := norm_len (edAll l (stA l) q.toNat (stA l).length) _ (Nat.le_refl _)
    rw [List.take_length] at e
    have := edAll_len l (stA l) q.toNat (stA l).length
    have h4 : (stA l).length * q.toNat ≤ 64 * 16 := Nat.mul_le_mul h3 (by omega)
    omega
  ins := fun x hx => by
    obtain ⟨a, p, ha, hl, hf, _, ht⟩ := (edge_iff h2).1 hx
    have := hf.bd; have := ht.bd
    rw [hl]
    show 0 ≤ x.f ∧ (0 : Int) ≤ a ∧ 0 ≤ x.t ∧ x.f < ((stA l).length : Int) ∧ x.t < ((stA l).length : Int) ∧ (a : Int) < q
    omega
  srt := norm_srt _
theorem graphB_eq {q : Int} {l : List ByteArray} (hc : chkF q l = 0) (h3 : (stA l).length ≤ 64) : graphB q l = (partA (grF q l) (essT (grF q l)), 0) := by
  obtain ⟨h1, h2, _, _⟩ := chkF_ok hc
  have hv := grF_vg h1 h2 h3
  have hm : makeA q (stA l).length (edAll l (stA l) q.toNat (stA l).length) = (grF q l, 0) := makeA_ok (chkG_ok.2 hv)
  unfold graphB
  rw [if_neg (by rw [hc]; simp), if_neg (by omega), hm]
  simp only [ne_eq, not_true_eq_false, if_false, essA_t hv]

/-! ### The words of the graph -/
theorem pth_wpt {q : Int} (hq : q ≤ 16) {l : List ByteArray} : ∀ {is : List Int} {s t : Int} {p : List UInt8}, At l s p → pth (grF q l).es s is t → ∃ p', At l t p' ∧ wpt (Ls l) (stB l) p (is.map lt) p'
  | [], s, t, p, hp, h => by
    have h : s = t := h
    subst h; exact ⟨p, hp, rfl⟩
  | b :: is, s, t, p, hp, h => by
    obtain ⟨x, hx, hf, hb, h2⟩ := h
    obtain ⟨a, p1, ha, hl, hf1, h3, h4⟩ := (edge_iff hq).1 hx
    rw [hf] at hf1
    have e := hp.same hf1
    subst e
    obtain ⟨p', h5, h6⟩ := pth_wpt hq h4 h2
    refine ⟨p', h5, _, ⟨?_, rfl⟩, ?_⟩
    · rw [← hb, hl]; exact h3
    · rw [← hb, hl]; exact h6
theorem stp_edge {q : Int} (hq : q ≤ 16) {l : List ByteArray} {s : Int} {p t : List UInt8} {c : UInt8} (hs : At l s p) (hc : c ∈ sigL q) (h : stp (Ls l) (stB l) p c t) : ∃ x ∈ (grF q l).es, x.f = s ∧ x.l = dg c ∧ At l x.t t := by
  obtain ⟨a, ha, rfl⟩ := (mem_sig hq).1 hc
  obtain ⟨h1, rfl⟩ := h
  have hw : lb (p ++ [lt (a : Int)]) = lb (p ++ [lt (a : Int)]) := rfl
  have h2 := tg_at l (lb (p ++ [lt (a : Int)]))
  rw [bl_lb] at h2
  exact ⟨⟨s, a, _⟩, (edge_iff hq).2 ⟨a, p, ha, rfl, hs, h1, h2⟩, rfl, (lt_dg a (by omega)).symm, h2⟩
theorem words_gd {q : Int} {l : List ByteArray} (hc : chkF q l = 0) (h3 : (stA l).length ≤ 64) (hl : ∀ u ∈ l, u ≠ (⟨#[]⟩ : ByteArray)) (hz : ∀ u ∈ l, u.size ≤ 32) {w : ByteArray} (hw : Chg.okw q (bl w) = true) :
    accA (graphB q l).1 w = true ↔ Gd (sigL q) (Ls l) (bl w) := by
  obtain ⟨h1, h2, _, _⟩ := chkF_ok hc
  have hv := grF_vg h1 h2 h3
  have hvp := part_vg hv (essT_st hv)
  have H := aut_of hl
  have hlw : ∀ c ∈ bl w, 0 ≤ dg c ∧ dg c < q := fun c hcm => by
    have h := List.all_eq_true.1 hw c hcm
    unfold Chg.okc at h
    rw [Bool.and_eq_true, decide_eq_true_eq, decide_eq_true_eq] at h
    exact h
  have hltr : (ltr w).map lt = bl w := by
    unfold ltr
    rw [List.map_map]
    have h : ∀ l : List UInt8, (∀ c ∈ l, 0 ≤ dg c) → l.map (lt ∘ fun c => Chg.dig (c.toNat : Int)) = l := by
      intro l
      induction l with
      | nil => intro _; rfl
      | cons c l ih =>
        intro hc
        rw [List.map_cons, ih (fun d hd => hc d (by simp [hd]))]
        congr 1
        exact lt_of c (hc c (by simp))
    exact h _ (fun c hc => (hlw c hc).1)
  have hsw : ∀ c ∈ bl w, c ∈ sigL q := fun c hcm => by
    have h := hlw c hcm
    exact (mem_sig h2).2 ⟨(dg c).toNat, by omega, by rw [show (((dg c).toNat : Nat) : Int) = dg c by omega]; exact lt_of c h.1⟩
  rw [graphB_eq hc h3, acc_iff hvp]
  constructor
  · rintro ⟨u, t, h0, hn, hp⟩ n
    have ht : 0 ≤ t ∧ t < (partA (grF q l) (essT (grF q l))).n := by
      have : ∀ {m : List Int} {a b : Int}, 0 ≤ a ∧ a < (partA (grF q l) (essT (grF q l))).n → pth (partA (grF q l) (essT (grF q l))).es a m b → 0 ≤ b ∧ b < (partA (grF q l) (essT (grF q l))).n := by
        intro m
        induction m with
        | nil => intro a b ha h; have h : a = b := h; rw [← h]; exact ha
        | cons c m ih =>
          intro a b _ h
          obtain ⟨x, hx, _, _, h4⟩ := h
          have := hvp.ins x hx
          exact ih ⟨this.2.2.1, this.2.2.2.2.1⟩ h4
      exact this ⟨h0, hn⟩ hp
    obtain ⟨_, xs, s, hs0, hs1, hxl, hxp⟩ := pth_more hv n h0 hn
    obtain ⟨⟨ys, r, hyl, hyp⟩, _⟩ := pth_more hv n ht.1 ht.2
    have hP : pth (partA (grF q l) (essT (grF q l))).es s (xs ++ ltr w ++ ys) r := pth_app.2 ⟨t, pth_app.2 ⟨u, hxp, hp⟩, hyp⟩
    have hlab := pth_lab hvp hP
    have hsl : s.toNat < (essT (grF q l)).length := by
      have : s < ((essT (grF q l)).length : Int) := hs1
      omega
    have hm : (essT (grF q l))[s.toNat] ∈ essT (grF q l) := List.getElem_mem _
    have hidx := iof_at (essT_st hv).srt hsl
    obtain ⟨v, hvm, _, hP2⟩ := pth_part hm (by rw [hidx]; omega) hP
    have hin := (essT_st hv).ins _ hm
    generalize (essT (grF q l))[s.toNat] = s0 at *
    have hin2 : 0 ≤ s0 ∧ s0 < ((stA l).length : Int) := hin
    have hsA : s0.toNat < (stA l).length := by omega
    have hAt : At l s0 (bl (stA l)[s0.toNat]) := ⟨s0.toNat, hsA, by omega, rfl⟩
    obtain ⟨p', _, hwp⟩ := pth_wpt h2 hAt hP2
    have hst := hAt.st
    generalize bl (stA l)[s0.toNat] = p at *
    have hav := ((H.iff p).1 hst).1
    have := (H.spell hav (sg_self hst).symm hwp).1
    rw [List.map_append, List.map_append, hltr] at this
    refine ⟨xs.map lt, ys.map lt, by simp [hxl], by simp [hyl], ?_, ?_, this.sub (List.suffix_append p _).isInfix⟩
    · intro c hcm
      obtain ⟨b, hb, rfl⟩ := List.mem_map.1 hcm
      have := hlab b (by simp [hb])
      have h5 : b < q := this.2
      exact (mem_sig h2).2 ⟨b.toNat, by omega, by rw [show ((b.toNat : Nat) : Int) = b by omega]⟩
    · intro c hcm
      obtain ⟨b, hb, rfl⟩ := List.mem_map.1 hcm
      have := hlab b (by simp [hb])
      have h5 : b < q := this.2
      exact (mem_sig h2).2 ⟨b.toNat, by omega, by rw [show ((b.toNat : Nat) : Int) = b by omega]⟩
  · intro hg
    have hM : ∀ p, stB l p = true → p.length ≤ 32 := fun p hp => by
      have := stA_size hz _ (stB_iff.1 hp)
      rw [← bl_len, bl_lb] at this; exact this
    obtain ⟨p, t, hpt⟩ := hg.found H hsw 32
    have hC : ∀ s, (∃ p, At l s p ∧ Tt (sigL q) (Ls l) (stB l) 32 p) → s ∈ essT (grF q l) := by
      refine sup_ess ?_ _ _ (Nat.le_refl _) ?_
      · rintro s ⟨p, hs, hT⟩
        constructor
        · obtain ⟨c, hcm, t, h5, h6⟩ := hT.into H hM (by omega)
          have hts : stB l t = true := by obtain ⟨u, _, _, _, rfl⟩ := h6; exact sg_mem H.nil u
          obtain ⟨r, hr⟩ := At.of hts
          obtain ⟨x, hx, hf, _, ht⟩ := stp_edge h2 hr hcm h5
          exact ⟨x, hx, ht.uniq hs, t, by rw [hf]; exact hr, h6⟩
        · obtain ⟨c, hcm, t, h5, h6⟩ := hT.out H
          obtain ⟨x, hx, hf, _, ht⟩ := stp_edge h2 hs hcm h5
          exact ⟨x, hx, hf, t, ht, h6⟩
      · rintro s ⟨p, hs, _⟩
        have := hs.bd
        exact mem_upto.2 ⟨this.1, by show s < (((stA l).length : Int).toNat : Int); omega⟩
    have key : ∀ {v : List UInt8} {p t : List UInt8} {s : Int}, (∀ c ∈ v, c ∈ sigL q) → At l s p → wptT (Tt (sigL q) (Ls l) (stB l) 32) (Ls l) (stB l) p v t → ∃ r, pthT (grF q l).es (fun s => ∃ p, At l s p ∧ Tt (sigL q) (Ls l) (stB l) 32 p) s (v.map dg) r := by
      intro v
      induction v with
      | nil =>
        intro p t s _ hs h
        exact ⟨s, rfl, p, hs, h.2⟩
      | cons c v ih =>
        intro p t s hcs hs h
        obtain ⟨h0, m, h5, h6⟩ := h
        obtain ⟨x, hx, hf, hxl, ht⟩ := stp_edge h2 hs (hcs c (by simp)) h5
        obtain ⟨r, hr⟩ := ih (fun d hd => hcs d (by simp [hd])) ht h6
        exact ⟨r, ⟨p, hs, h0⟩, x, hx, hf, hxl, hr⟩
    have hpT : stB l p = true := by
      have : ∀ {v : List UInt8} {p t : List UInt8}, wptT (Tt (sigL q) (Ls l) (stB l) 32) (Ls l) (stB l) p v t → stB l p = true := by
        intro v p t h
        have hT : Tt (sigL q) (Ls l) (stB l) 32 p := by
          cases v with
          | nil => exact h.2
          | cons c v => exact h.1
        obtain ⟨u, _, _, _, rfl⟩ := hT
        exact sg_mem H.nil u
      exact this hpt
    obtain ⟨s, hs⟩ := At.of hpT
    obtain ⟨r, hr⟩ := key hsw hs hpt
    have hmem := hC s (pthT_head hr)
    have hlt := List.idxOf_lt_length_iff.2 hmem
    have h1' : (((essT (grF q l)).idxOf s : Nat) : Int) < (partA (grF q l) (essT (grF q l))).n := by
      show (((essT (grF q l)).idxOf s : Nat) : Int) < ((essT (grF q l)).length : Int)
      omega
    exact ⟨(((essT (grF q l)).idxOf s : Nat) : Int), (((essT (grF q l)).idxOf r : Nat) : Int), by omega, h1', pthT_part hC hr⟩
end Go.Proofs.YthelgembcfdhdaaGreat
