/-
  Words, plain lemmas and walks, merged: Hy, Hj, Td, Ta, Hb, Tb, Sa, Tc, Te.
-/
import Derived.Test.YtocbhlohcikapaaGreatDoorZql
import Derived.Test.YtocbhlohcikapaaGreatDoorZqd
import Derived.Test.YtocbhlohcikapaaGreatDoorZqf
import Derived.Test.YtocbhlohcikapaaGreatDoorZqh
import Derived.Test.YtocbhlohcikapaaGreatDoorZqa
import Derived.Shelf.Strconv.Itoa3
import Derived.Shelf.Strings.BuilderF
import Derived.Test.YtocbhlohcikapaaGreatDoorZqe
import Derived.Shelf.Strings.OnBuilder
import Derived.Deep.RegionWith
set_option linter.unusedVariables false
set_option linter.unusedSimpArgs false
namespace Go.Proofs.YtocbhlohcikapaaGreatDoor
open Go.RowKit Go.Shelf
attribute [local go_sem] Oper.semAt_some

theorem cmp_len (l : List Int) : (Lib.compact l).length ≤ l.length := by
  have key : ∀ m, (Lib.compactUpTo l.toArray m).length ≤ m := by
    intro m
    induction m with
    | zero => simp [Lib.compactUpTo]
    | succ m ih => rw [Lib.compactUpTo_succ, List.length_append]; split <;> simp <;> omega
  exact key l.length
theorem KC.own {B B' e n size : Nat} {W W' : World} {v : Value} {xs : List Value} (h : KC B W W') (ho : W.ownsRow B' e size v n xs) : W'.ownsRow B' e size v n xs :=
  ⟨ho.1, ho.2.imp id (fun ⟨g, cap, cur, a, b, hh, z⟩ => ⟨g, cap, cur, a, b, h.cells g _ hh rfl, z⟩)⟩
/-- The ends of those edges that bear the label. -/
def labL (b : Int) (l : List (Nat × Ed)) : List Int := (l.filter (fun x => decide (x.2.l = b))).map (fun x => x.2.t)
theorem labL_hit {b : Int} {l : List (Nat × Ed)} {i : Nat} {x : Ed} (h : x.l = b) : labL b (l ++ [(i, x)]) = labL b l ++ [x.t] := by simp [labL, h]
theorem labL_miss {b : Int} {l : List (Nat × Ed)} {i : Nat} {x : Ed} (h : ¬ x.l = b) : labL b (l ++ [(i, x)]) = labL b l := by simp [labL, h]
theorem labL_le (b : Int) (l : List (Nat × Ed)) : (labL b l).length ≤ l.length := by unfold labL; rw [List.length_map]; exact List.length_filter_le _ _
theorem labL_lv (es : List Ed) (s b : Int) : ∀ k, k ≤ es.length → labL b (lvL es s k) = (((es.take k).filter (fun x => decide (x.f = s) && decide (x.l = b))).map Ed.t)
  | 0, _ => rfl
  | k + 1, h => by
    rw [lvL_succ (by omega), List.take_succ_eq_append_getElem (by omega : k < es.length), List.filter_append, List.map_append, ← labL_lv es s b k (by omega)]
    by_cases h1 : es[k].f = s
    · rw [if_pos h1]
      by_cases h2 : es[k].l = b
      · rw [labL_hit h2]; simp [h1, h2]
      · rw [labL_miss h2]; simp [h2]
    · rw [if_neg h1, List.append_nil]; simp [h1]
theorem stepL_succ (es : List Ed) (st : List Int) (b : Int) (k : Nat) (h : k < st.length) : stepL es (st.take (k + 1)) b = stepL es (st.take k) b ++ labL b (lvL es st[k] es.length) := by
  rw [labL_lv _ _ _ _ (Nat.le_refl _), List.take_length]
  unfold stepL
  rw [List.take_succ_eq_append_getElem h, List.flatMap_append, List.flatMap_cons, List.flatMap_nil, List.append_nil]
theorem stepL_len (es : List Ed) (st : List Int) (b : Int) : (stepL es st b).length ≤ st.length * es.length := by
  unfold stepL
  induction st with
  | nil => simp
  | cons s st ih =>
    rw [List.flatMap_cons, List.length_append, List.length_map, List.length_cons, Nat.add_mul, Nat.one_mul]
    have := List.length_filter_le (fun x => decide (x.f = s) && decide (x.l = b)) es
    omega
/-- A row of numbers that is no block of the sequence's. -/
def OutS (B b : Nat) (l : List Int) (W : World) : Prop := ∃ v, VRow W b 30 [v] ∧ W.ownsRow B 3 1 v l.length (l.map (Value.int .i64)) ∧ v.ownBlock ≠ some b ∧ (l = [] → v = .slice none 0 0)
/-- Where the rounds of Step stand. -/
def SInv (G : Gr) (p : Option Addr) (c : Nat) (st : List Int) (q : Option Addr) (d : Nat) (b : Int) (w : World) (bx k : Nat) (a : Act) (W : World) : Prop :=
  ∃ (ds : List Deferred) (u4 u8 u10 u11 u12 u13 u14 u15 u16 u17 u18 u19 u20 u21 u22 u23 u24 u25 u26 u27 u28 u29 u30 u34 u35 u36 u37 u38 u39 u40 u41 u42 u43 u44 u45 u46 u47 u48 u49 u50 u51 u52 u53 u54 u55 : Value), a = { tmps := #[(.agg #[.int .i64 G.q, .int .i64 G.n, .slice p G.es.length c]), (.slice q st.length d), (.int .i64 b), (.pointer (some ⟨w.heap.size, 0, none⟩)), u4, (.pointer (some ⟨w.heap.size + 1, 0, none⟩)), (.slice none 0 0), (.int .i64 0), u8, (.pointer (some ⟨bx, 0, none⟩)), u10, u11, u12, u13, u14, u15, u16, u17, u18, u19, u20, u21, u22, u23, u24, u25, u26, u27, u28, u29, u30, (.slice q st.length d), (.int .i64 st.length), (.int .i64 k), u34, u35, u36, u37, u38, u39, u40, u41, u42, u43, u44, u45, u46, u47, u48, u49, u50, u51, u52, u53, u54, u55], defers := ds } ∧
    k ≤ st.length ∧ OutS (bx + 1) bx (stepL G.es (st.take k) b) W ∧ Marks (bx + 1) W ds ∧ VRow W w.heap.size 24 [.int .i64 G.q, .int .i64 G.n, .slice p G.es.length c] ∧ VRow W (w.heap.size + 1) 3 [.int .i64 b] ∧ RowKit.Below w.heap.size w W ∧ bx + 1 ≤ W.heap.size
def smu (st : List Int) (a : Act) : Nat := st.length - (intOf (a.tmps.getD 33 undef)).toNat
/-- All blocks below n are as they were. -/
def KL (n : Nat) (W W' : World) : Prop := n ≤ W'.heap.size ∧ ∀ i, i < n → W'.heap[i]? = W.heap[i]?
theorem ownFrom_kl {β : Type} {n B : Nat} (W0 : World) (h : n ≤ B) : OwnFrom B (fun (_ : β) W => KL n W0 W) := fun _ X Y row hs hg hr =>
  ⟨Nat.le_trans hs.1 hg.size, fun i hi => (hg.block i (by have := hs.1; omega) (fun e => by have := (hr i e.symm).1; omega)).trans (hs.2 i hi)⟩
theorem ownFrom_keepsO {β : Type} (W0 : World) : OwnFrom W0.heap.size (fun (_ : β) W => KeepsOthers W0 W) := fun _ X Y row hs hg hr =>
  ⟨Nat.le_trans hs.size hg.size, fun i o hi ho => by
    have hlt := (Array.getElem?_eq_some_iff.1 hi).1
    exact (hg.block i (Nat.lt_of_lt_of_le hlt hs.size) (fun e => by have := (hr i e.symm).1; omega)).trans (hs.same i o hi ho)⟩
/-- The same, and no block of the sequence's that is at hand. -/
def OutT (B b Bs : Nat) (l : List Int) (W : World) : Prop := ∃ v, VRow W b 30 [v] ∧ W.ownsRow B 3 1 v l.length (l.map (Value.int .i64)) ∧ v.ownBlock ≠ some b ∧ (l = [] → v = .slice none 0 0) ∧ v.ownBlock ≠ some Bs
theorem OutT.own {β : Type} (B b Bs : Nat) (f : β → List Int) : Own (fun s W => OutT B b Bs (f s) W) := by
  rintro s X Y row ⟨v, h1, h2, h3, h4⟩ hg hrow
  refine ⟨v, VRow.own b 30 (fun _ : Unit => [v]) () X Y row h1 hg hrow, ?_, h3, h4⟩
  refine h2.kept hg ?_
  rcases h2.2 with ⟨rfl, _⟩ | ⟨g, cap, cur, rfl, _, hh, _⟩
  · exact .inl rfl
  · refine .inr (fun e => ?_)
    obtain ⟨o, ho, hc⟩ := hrow g (by rw [← e]; rfl)
    rw [hh] at ho; cases ho; cases hc
theorem sgB_mono {n m : Nat} {w : World} {p : Option Addr} {l : List Ed} (h : SgB n w p l) (hm : n ≤ m) : SgB m w p l := by
  rcases h with h | ⟨b, off, h1, h2, h3, h4⟩
  · exact .inl h
  · exact .inr ⟨b, off, h1, by omega, h3, h4⟩
/-- Where a row begins: behind all that lies, if it is nil. -/
theorem own_start {W : World} {B n : Nat} {v : Value} {xs : List Value} (h : W.ownsRow B 3 1 v n xs) (hB : B ≤ W.heap.size) (hn : n = 0 → v = .slice none 0 0) :
    ∃ B', B ≤ B' ∧ B' ≤ W.heap.size ∧ W.ownsRow B' 3 1 v n xs ∧ (n = 0 → B' = W.heap.size) := by
  by_cases h0 : n = 0
  · have hv := hn h0
    subst h0; subst hv
    exact ⟨W.heap.size, hB, Nat.le_refl _, ⟨h.1, .inl ⟨rfl, rfl⟩⟩, fun _ => rfl⟩
  · exact ⟨B, Nat.le_refl _, hB, h, fun e => absurd e h0⟩
/-- Behind an append a row is no cell that another row's was not. -/
theorem own_apart {W : World} {B' n : Nat} {v v' : Value} {x : Value} {xs : List Value} {W' : World} {Bs : Nat} (hs : VRow W Bs 3 [x]) (hg : W.grownBy W' v.ownBlock) (hne : v.ownBlock ≠ some Bs) (h : W'.ownsRow B' 3 1 v' (n + 1) xs)
    (hB : n = 0 → Bs < B') : v'.ownBlock ≠ some Bs := by
  intro e
  rcases h.2 with ⟨rfl, _⟩ | ⟨g, cap, cur, rfl, hgB, hh, hc, _, hsz, _⟩
  · simp [Value.ownBlock] at e
  · obtain rfl : g = Bs := by simpa [Value.ownBlock] using e
    by_cases h0 : n = 0
    · have := hB h0; omega
    · rw [hg.block g hs.lt (fun e => hne e.symm), show W.heap[g]? = _ from hs] at hh
      cases hh
      simp at hsz
      omega

set_option maxRecDepth 100000 in
set_option maxHeartbeats 4000000 in
theorem gStep_in (G : Gr) (p : Option Addr) (c : Nat) (st : List Int) (q : Option Addr) (d : Nat) (b : Int) (w : World) (hin : Sg 3 w edE p G.es) (hst : Sl w (Value.int .i64) q st) (hv : Vg G) (hs : st.length ≤ 64) (hc : chkS G.n none st = 0) (h0 : 0 ≤ b) (h1 : b < G.q) :
    CallsIn Fence.wide 9 Tryz.prog 43 #[(.agg #[.int .i64 G.q, .int .i64 G.n, .slice p G.es.length c]), .slice q st.length d, .int .i64 b] w (RetLi (nextA G st b) 0 w) := by
  have HIN := hidI hin; have HST := hidI hst; have HV := hidI hv; have HC := hidI hc
  have hl := hv.len
  clear hin hst hv hc
  obtain ⟨i0, hi0, hz0, hz1, hz3⟩ := info_parts infoIn
  obtain ⟨w0, hw0⟩ : ∃ w0, w0 = (w.alloc (.cells #[.int .i64 G.q, .int .i64 G.n, .slice p G.es.length c] 24)).alloc (.cells #[.int .i64 b] 3) := ⟨_, rfl⟩
  have b0 : VRow w0 w.heap.size 24 [.int .i64 G.q, .int .i64 G.n, .slice p G.es.length c] := by subst hw0; exact (VRow.new w _ _).alloc _
  have b1 : VRow w0 (w.heap.size + 1) 3 [.int .i64 b] := by subst hw0; exact VRow.new1 w _ _ _
  have hB0 : RowKit.Below w.heap.size w w0 := by subst hw0; exact ((RowKit.Below.refl _ _).alloc (Nat.le_refl _) _).alloc (by simp) _
  refine callsIn_of_wp_marks Tryz.func43 rfl trivial ?_ rfl
  simp only [Tryz.ntmps43, List.size_toArray, List.length_cons, List.length_nil, Nat.reduceAdd, Nat.reduceSub, Array.replicate_succ, Array.replicate_zero, List.push_toArray, List.append_toArray, List.nil_append, List.cons_append]
  gi_wp2_with (refine ⟨trivial, ?_⟩; gi_at_call 73)
  rw [← hw0]
  clear hw0
  refine (callsIn_wide.2 (gCheck_r G p c _ 0 (chkG_ok.2 HV.out) (HIN.out.below hB0) (by omega))).mono ?_
  rintro e w1 ⟨rfl, hB1⟩
  have x1 := hB0.trans (hB1.mono hB0.size)
  have c0 := b0.below hB1 b0.lt
  have c1 := b1.below hB1 b1.lt
  clear hB1 b0 b1 hB0
  have f0 := c0.at 0 rfl; have f1 := c0.at 1 rfl; have f2 := c0.at 2 rfl
  gi_wp2_with (refine ⟨trivial, ?_⟩; gi_at_call 100)
  refine (callsIn_wide.2 (gCheckSet_any G p c st q d _ (HST.out.below x1) (by omega))).mono ?_
  rw [HC.out]
  rintro e w2 ⟨rfl, hB2⟩
  have x2 := x1.trans (hB2.mono x1.size)
  have d0 := c0.below hB2 c0.lt
  have d1 := c1.below hB2 c1.lt
  clear f0 f1 f2 hB2 c0 c1 x1
  have f0 := d0.at 0 rfl; have g0 := d1.at 0 rfl
  have hz : w.heap.size + 1 < w2.heap.size := d1.lt
  gi_wp2
  have e0 := d0.alloc (.cells #[.slice none 0 0] 30)
  have e1 := d1.alloc (.cells #[.slice none 0 0] 30)
  have e9 : VRow (w2.alloc (.cells #[.slice none 0 0] 30)) w2.heap.size 30 [.slice none 0 0] := VRow.new w2 _ _
  have x3 := x2.alloc x2.size (.cells #[.slice none 0 0] 30)
  clear d0 d1 f0 g0
  refine wpIn_loop (fun a W => ∃ k, SInv G p c st q d b w w2.heap.size k a W) (fun a _ => smu st a) ⟨0, _, _, _, _, _, _, _, _, _, _, _, _, _, _, _, _, _, _, _, _, _, _, _, _, _, _, _, _, _, _, _, _, _, _, _, _, _, _, _, _, _, _, _, _, _, _, rfl, by omega, ⟨_, e9, World.ownsRow_nil _ _ _ _, by simp [Value.ownBlock], fun _ => rfl⟩, trivial, e0, e1, x3, by simp⟩ ?_
  clear e0 e1 e9 x3
  rintro a W ⟨k, ds, u4, u8, u10, u11, u12, u13, u14, u15, u16, u17, u18, u19, u20, u21, u22, u23, u24, u25, u26, u27, u28, u29, u30, u34, u35, u36, u37, u38, u39, u40, u41, u42, u43, u44, u45, u46, u47, u48, u49, u50, u51, u52, u53, u54, u55, rfl, hk, ⟨v, c9, hown, hn9, hnil⟩, hM, c0, c1, hB, hge⟩
  have HBM : Hid (RowKit.Below w.heap.size w W) := hB
  have hmu : smu st { tmps := #[(.agg #[.int .i64 G.q, .int .i64 G.n, .slice p G.es.length c]), (.slice q st.length d), (.int .i64 b), (.pointer (some ⟨w.heap.size, 0, none⟩)), u4, (.pointer (some ⟨w.heap.size + 1, 0, none⟩)), (.slice none 0 0), (.int .i64 0), u8, (.pointer (some ⟨w2.heap.size, 0, none⟩)), u10, u11, u12, u13, u14, u15, u16, u17, u18, u19, u20, u21, u22, u23, u24, u25, u26, u27, u28, u29, u30, (.slice q st.length d), (.int .i64 st.length), (.int .i64 k), u34, u35, u36, u37, u38, u39, u40, u41, u42, u43, u44, u45, u46, u47, u48, u49, u50, u51, u52, u53, u54, u55], defers := ds } = st.length - (intOf (.int .i64 (k : Int))).toNat := rfl
  have HMU := hidI hmu
  clear hmu
  have hbz := hB.size
  have hbx := c9.lt
  by_cases hlt : k < st.length
  · obtain ⟨bs1, os1, rfl, hbs1, hcs1⟩ := (HST.out.below hB).get k hlt
    have e1 := hcs1 k hlt
    clear hcs1
    have HSN := hidI (stepL_succ G.es st b k hlt)
    have HSL : Hid ((stepL G.es (st.take k) b).length ≤ 64 * 1024) := by
      unfold Hid
      have h1 := stepL_len G.es (st.take k) b
      have h2 : (st.take k).length * G.es.length ≤ 64 * 1024 := Nat.mul_le_mul (by rw [List.length_take]; omega) hl
      omega
    generalize st[k] = s at *
    generalize stepL G.es (st.take k) b = L at *
    have f0 := c0.at 0 rfl; have f1 := c0.at 1 rfl; have f2 := c0.at 2 rfl
    gi_wp2_with (refine ⟨trivial, ?_⟩; gi_at_call 101)
    refine (leaving_in Fence.wide 8 trivial rfl _ s G.q G.n p G.es.length c rfl _).mono ?_
    rintro e w' ⟨rfl, rfl⟩
    gi_wp2
    obtain ⟨V0, hV0⟩ : ∃ V0, V0 = (W.alloc (.cells #[.int .i64 G.q, .int .i64 G.n, .slice p G.es.length c] 24)).alloc (.cells #[.int .i64 s] 3) := ⟨_, rfl⟩
    have y1 : VRow V0 W.heap.size 24 [.int .i64 G.q, .int .i64 G.n, .slice p G.es.length c] := by subst hV0; exact (VRow.new W _ _).alloc _
    have y2 : VRow V0 (W.heap.size + 1) 3 [.int .i64 s] := by subst hV0; exact VRow.new1 W _ _ _
    have y9 : VRow V0 w2.heap.size 30 [v] := by subst hV0; exact (c9.alloc _).alloc _
    have yown : V0.ownsRow (w2.heap.size + 1) 3 1 v L.length (L.map (Value.int .i64)) := by subst hV0; exact (hown.alloc _).alloc _
    have z0 : VRow V0 w.heap.size 24 [.int .i64 G.q, .int .i64 G.n, .slice p G.es.length c] := by subst hV0; exact (c0.alloc _).alloc _
    have z1 : VRow V0 (w.heap.size + 1) 3 [.int .i64 b] := by subst hV0; exact (c1.alloc _).alloc _
    have hBV : RowKit.Below w.heap.size w V0 := by subst hV0; exact (hB.alloc hbz _).alloc (by simp; omega) _
    have hsz : V0.heap.size = W.heap.size + 2 := by subst hV0; simp
    have hKV : KeepsOthers W V0 := by subst hV0; exact (KeepsOthers.alloc _ _).trans (KeepsOthers.alloc _ _)
    have hvb : ∀ j, v.ownBlock = some j → w2.heap.size + 1 ≤ j ∧ j < W.heap.size := fun j e => hown.lt j e
    have hsg : SgB w2.heap.size V0 p G.es := sgB_mono ((SgB.of HIN.out (Nat.le_refl _)).kept (fun i hi => hBV.block i hi)) (by omega)
    rw [← hV0]
    clear hV0 hown c9 c0 c1 f0 f1 f2 e1 hB
    refine' wpIn_rangeFunc_ownH rfl (by omega) (gf := 153) (lb := #[.pointer (some ⟨W.heap.size, 0, none⟩), .pointer (some ⟨W.heap.size + 1, 0, none⟩)]) rfl trivial (enters_of Tryz.func153 (by kernel_rfl) rfl)
      (leavingS_stops Fence.wide 8 trivial rfl (by omega) w2.heap.size W.heap.size (W.heap.size + 1) G s p c hl V0 (by omega) y1 y2 hsg) KS.trans (KS_b (by omega) (by omega)) (RowKit.Below.refl _ _) (fun _ => rfl)
      (fun pre V => (((OutT (w2.heap.size + 1) w2.heap.size (W.heap.size + 1) (L ++ labL b pre) V ∧ RowKit.Below w.heap.size w V) ∧ KeepsOthers V0 V) ∧ KL w2.heap.size V0 V) ∧ VRow V (W.heap.size + 1) 3 [.int .i64 s])
      (fun _ _ _ => False)
      (OwnFrom.and (OwnFrom.and (OwnFrom.and (OwnFrom.and ((OutT.own _ _ _ (fun pre => L ++ labL b pre)).from _) (ownFrom_below (Nat.le_refl _) (by omega))) (ownFrom_keepsO _)) (ownFrom_kl _ (by omega))) ((VRow.own _ _ (fun _ => [.int .i64 s])).from _))
      (fun _ _ _ _ _ hs _ _ => hs)
      ⟨⟨⟨⟨⟨v, y9, by simpa [labL] using yown, hn9, fun h => hnil (by simpa [labL] using h), fun e => by have := (hvb _ e).2; omega⟩, hBV⟩, KeepsOthers.refl _⟩, by omega, fun _ _ => rfl⟩, y2⟩
      (fun x a' V => ∃ Bx, V0.heap.size ≤ Bx ∧ VRow V Bx 44 [.int .i64 x.2.f, .int .i64 x.2.l, .int .i64 x.2.t] ∧ a' = { tmps := #[(.agg #[.int .i64 G.q, .int .i64 G.n, .slice p G.es.length c]), (.slice (some ⟨bs1, os1, none⟩) st.length d), (.int .i64 b), (.pointer (some ⟨w.heap.size, 0, none⟩)), u4, (.pointer (some ⟨w.heap.size + 1, 0, none⟩)), (.slice none 0 0), (.int .i64 0), u8, (.pointer (some ⟨w2.heap.size, 0, none⟩)), u10, (.int .i64 s), u12, (.pointer (some ⟨Bx, 0, none⟩)), u14, u15, u16, u17, u18, u19, u20, u21, u22, u23, u24, u25, u26, u27, u28, u29, u30, (.slice (some ⟨bs1, os1, none⟩) st.length d), (.int .i64 st.length), (.int .i64 k), (.bool true), (.pointer (some ⟨bs1, os1 + k, none⟩)), (.int .i64 s), (.agg #[.int .i64 G.q, .int .i64 G.n, .slice p G.es.length c]), (.int .i64 s), (.func (.func 153) #[] #[.pointer (some ⟨W.heap.size, 0, none⟩), .pointer (some ⟨W.heap.size + 1, 0, none⟩)]), (.int .i64 (x.1 : Int)), (.agg #[.int .i64 x.2.f, .int .i64 x.2.l, .int .i64 x.2.t]), u42, u43, u44, u45, u46, u47, u48, u49, u50, u51, u52, u53, u54, u55], defers := [] })
      (fun x a' _ X Y row hs hg hr => by
        obtain ⟨Bx, h1, h2, h3⟩ := hs
        exact ⟨Bx, h1, VRow.own Bx 44 (fun _ : Unit => [.int .i64 x.2.f, .int .i64 x.2.l, .int .i64 x.2.t]) () X Y row h2 hg (fun r e => (hr r e).2), h3⟩)
      ?assign ?body ?done ?stop
    case assign =>
      rintro l pre x V K ⟨⟨⟨⟨hT, hB1⟩, hK1⟩, hL1⟩, ly⟩ hK
      have hsV := hK1.size
      unfold encL
      gi_wp2
      obtain ⟨v', t1, t2, t3, t4, t5⟩ := hT
      exact hK _ _ ((KeepsOthers.alloc _ _).from _) (fun i hi => Below.heap_alloc _ _ i (by omega)) ⟨⟨⟨⟨⟨v', t1.alloc _, t2.alloc _, t3, t4, t5⟩, hB1.alloc hB1.size _⟩, hK1.trans (KeepsOthers.alloc _ _)⟩, Nat.le_trans hL1.1 (by simp), fun i hi => (Below.heap_alloc _ _ i (by have := hL1.1; omega)).trans (hL1.2 i hi)⟩, ly.alloc _⟩
        ⟨V.heap.size, hsV, VRow.new V 44 [.int .i64 x.2.f, .int .i64 x.2.l, .int .i64 x.2.t], rfl⟩
    case body =>
      rintro l pre ⟨i, x⟩ a' V hl' ⟨r, hr⟩ ⟨⟨⟨⟨⟨v', t1, t2, t3, t4, t5⟩, hB1⟩, hK1⟩, hL1⟩, ly⟩ ⟨Bx, hBx, hx, rfl⟩ hlen
      have hsV := hK1.size
      have hlb : (L ++ labL b pre).length ≤ 70000 := by rw [List.length_append]; have := labL_le b pre; have := HSL.out; omega
      have lb : VRow V (w.heap.size + 1) 3 [.int .i64 b] := (hL1.2 _ hz).trans z1
      have k1 := hx.at 1 rfl; have k2 := hx.at 2 rfl
      have k0 := lb.at 0 rfl
      by_cases he : x.l = b
      · have hb : (x.l == b) = true := by simpa using he
        have HS : Hid (L ++ labL b (pre ++ [(i, x)]) = L ++ labL b pre ++ [x.t]) := by rw [Hid, labL_hit he, List.append_assoc]
        clear he
        generalize L ++ labL b pre = M at *
        have d6 := t1.at 0 rfl; have z6 := t1.frozen 0
        have hnew := cell_one_at V (.int .i64 x.t) 3 V.heap.size rfl
        have hV1 : V.heap.size + 1 = (V.alloc (.cells #[.int .i64 x.t] 3)).heap.size := (World.size_alloc _ _).symm
        obtain ⟨B', hb1, hb2, hownB, hb3⟩ := own_start (t2.alloc (.cells #[.int .i64 x.t] 3)) (by omega) (fun e => t4 (List.length_eq_zero_iff.1 e))
        have hcl : ∀ (j : Nat) (o : Obj), v'.ownBlock = some j → (V.alloc (.cells #[.int .i64 x.t] 3)).heap[j]? = some o → o.isCells = true := fun j o e h => own_cells hownB e h
        have hvb' : ∀ j, v'.ownBlock = some j → w2.heap.size + 1 ≤ j := fun j e => (t2.lt j e).1
        have lyA := ly.alloc (.cells #[.int .i64 x.t] 3)
        gi_wp2_with (gi_at_builtin; refine wpListIn_append_own _ rfl _ _ 30 rfl B' 3 i0 (.int .i64 0) 1 8 Tryz.underlying30 hi0 hz0 hz1 hz3 rfl (by decide) _ _ _ rfl hownB ⟨V.heap.size, 0, none⟩ 1 1 [.int .i64 x.t] rfl rfl hnew (by simp [Value.oneCell']) (by simp [maxLen]; omega) (by omega) (by omega) ?_; intro v2 W2 hown' hgrow0 _; have hgrow : (V.alloc (.cells #[.int .i64 x.t] 3)).grownBy W2 v'.ownBlock := hgrow0; have hap := own_apart lyA hgrow t5 hown' (fun e => by have := hb3 e; omega); obtain ⟨pv, mv, cv, rfl⟩ := own_shI hown'; have r6 := (t1.alloc (.cells #[.int .i64 x.t] 3)).grown hgrow (fun e => t3 e.symm); have s6 := r6.at 0 rfl; have t6 := r6.frozen 0)
        have hn2 : (Value.slice pv mv cv).ownBlock ≠ some w2.heap.size := fun e => by have := (hown'.lt _ e).1; omega
        have hgz := hgrow.size
        have hks : KS w2.heap.size (W.heap.size + 1) V (W2.setCell ⟨w2.heap.size, 0, none⟩ (.slice pv mv cv)) := fun j h1 => by
          rw [Below.heap_setCell _ _ _ _ (show j ≠ w2.heap.size by omega), hgrow.block j (by omega) (fun e => by
            rcases h1 with h1 | h1
            · have := hvb' _ e.symm; omega
            · exact t5 (by rw [← e, h1])), Below.heap_alloc V _ j (by omega)]
        have hko : KeepsOthers V (W2.setCell ⟨w2.heap.size, 0, none⟩ (.slice pv mv cv)) := ((KeepsOthers.alloc V _).trans (KeepsOthers.of_grownBy hgrow hcl)).trans (KeepsOthers.setCell _ _ _)
        refine ⟨hko.from _, hks, ⟨⟨⟨⟨_, VRow.set (i := 0) _ r6, ?_, hn2, fun e => ?_, hap⟩, ?_⟩, hK1.trans hko⟩, ?_, fun j hj => (hks j (.inl hj)).trans (hL1.2 j hj)⟩, (hks _ (.inr rfl)).trans ly⟩
        · rw [HS.out, List.length_append, List.map_append]
          exact ownsRow_setCell_below (a := ⟨w2.heap.size, 0, none⟩) (own_baseI hown' hb1) (show w2.heap.size < w2.heap.size + 1 by omega) _
        · rw [HS.out] at e; simp at e
        · exact ((hB1.alloc hB1.size _).grown hgrow (Nat.le_trans hB1.size (by simp)) (fun j e => by have := hvb' _ e; omega)).setCell (show w.heap.size ≤ w2.heap.size by omega) _
        · rw [World.size_setCell]; have := hL1.1; omega
      · have hb : (x.l == b) = false := by simpa using he
        have HS : Hid (L ++ labL b (pre ++ [(i, x)]) = L ++ labL b pre) := by rw [Hid, labL_miss he]
        clear he
        gi_wp2
        exact ⟨(KeepsOthers.refl _).from _, KS.refl _ _ _, ⟨⟨⟨⟨v', t1, by rw [HS.out]; exact t2, t3, by rw [HS.out]; exact t4, t5⟩, hB1⟩, hK1⟩, hL1⟩, ly⟩
    case done =>
      rintro D ys V hD' hys ⟨⟨⟨⟨⟨v', t1, t2, t3, t4, t5⟩, hB1⟩, hK1⟩, hL1⟩, ly⟩ hK
      subst hys
      rw [← HSN.out] at t2 t4
      have hMV : Marks (w2.heap.size + 1) V ({ target := .collected D, args := #[] } :: ds) :=
        (hM.others (hKV.trans hK1)).cons (by omega) hK (fun d hd => by obtain ⟨D', h1, h2⟩ := hM.lt d hd; exact ⟨D', h1, by omega⟩)
      have l0 : VRow V w.heap.size 24 [.int .i64 G.q, .int .i64 G.n, .slice p G.es.length c] := (hL1.2 _ (by omega)).trans z0
      have l1 : VRow V (w.heap.size + 1) 3 [.int .i64 b] := (hL1.2 _ hz).trans z1
      have hV2 := hK1.size
      gi_wp2
      refine ⟨⟨k + 1, _, _, _, _, _, _, _, _, _, _, _, _, _, _, _, _, _, _, _, _, _, _, _, _, _, _, _, _, _, _, _, _, _, _, _, _, _, _, _, _, _, _, _, _, _, _, rfl, by omega, ⟨v', t1, t2, t3, t4⟩, hMV, l0, l1, hB1, by omega⟩, ?_⟩
      rw [HMU.out]
      refine Nat.lt_of_le_of_lt (Nat.le_of_eq (show smu _ _ = st.length - (intOf (.int .i64 ((k : Int) + 1))).toNat from rfl)) ?_
      simp [intOf]; omega
    case stop =>
      rintro D c pre W _ _ h _
      exact h.elim
  · obtain rfl : k = st.length := by omega
    rw [List.take_length] at hown hnil
    have HSR : Hid (Lib.compact ((stepL G.es st b).mergeSort fun x y => decide (x ≤ y)) = nextA G st b) := step_sorted HV.out
    have hLl : (stepL G.es st b).length ≤ 64 * 1024 := Nat.le_trans (stepL_len G.es st b) (Nat.mul_le_mul hs hl)
    generalize stepL G.es st b = L at *
    have d9 := c9.at 0 rfl
    have hn9' : some w2.heap.size ≠ v.ownBlock := fun e => hn9 e.symm
    have hcW : ∀ (j : Nat) (o : Obj), v.ownBlock = some j → W.heap[j]? = some o → o.isCells = true := fun j o e h => own_cells hown e h
    have hvb : ∀ j, v.ownBlock = some j → w2.heap.size + 1 ≤ j := fun j e => (hown.lt j e).1
    gi_wp2_with (refine ⟨trivial, ?_⟩; gi_at_call 102)
    refine (callsIn_wide.2 (sortI_any L (w2.heap.size + 1) L.length v W hown (by omega))).mono ?_
    rintro e w3 ⟨rfl, hown3, G3⟩
    have c9' := c9.grown G3 hn9'
    have d9' := c9'.at 0 rfl
    have hM3 := hM.others (KeepsOthers.of_grownBy G3 hcW)
    have hB3 := hB.grown G3 hB.size (fun j e => by have := hvb _ e; omega)
    have hcl := cmp_len (L.mergeSort fun x y => decide (x ≤ y))
    have hml : (L.mergeSort fun x y => decide (x ≤ y)).length = L.length := List.length_mergeSort _
    have hc3 : ∀ (j : Nat) (o : Obj), v.ownBlock = some j → w3.heap[j]? = some o → o.isCells = true := fun j o e h => own_cells hown3 e h
    clear d9 c9 hown c0 c1
    gi_wp2_with (refine ⟨trivial, ?_⟩; gi_at_call 103)
    refine (callsIn_wide.2 (compactI_any (L.mergeSort fun x y => decide (x ≤ y)) (w2.heap.size + 1) L.length v w3 hown3 (by omega) hcl)).mono ?_
    rw [HSR.out]
    rintro e w4 ⟨v4, rfl, hown4, G4⟩
    have hM4 := hM3.others (KeepsOthers.of_grownBy G4 hc3)
    have hB4 := hB3.grown G4 hB3.size (fun j e => by have := hvb _ e; omega)
    gi_wp2
    refine leaves_marks ds w4 hM4 (fun W' hW' => ?_)
    refine ⟨_, results_tmp2 (t := 6) (u := 7) rfl _ _ _, ?_⟩
    obtain ⟨pv, mv, cv, rfl⟩ := own_shI hown4
    exact ⟨pv, mv, cv, rfl, own_baseI (hW'.own hown4) (by omega), hB4.trans (hW'.below.mono (by omega))⟩
end Go.Proofs.YtocbhlohcikapaaGreatDoor
namespace Go.Proofs.YtocbhlohcikapaaGreatDoor
open Go.RowKit Go.Sort Go.Shelf Go.Lib

set_option maxRecDepth 100000 in
set_option maxHeartbeats 2000000 in
theorem gStep_any (G : Gr) (p : Option Addr) (c : Nat) (st : List Int) (q : Option Addr) (d : Nat) (b : Int) (w : World) (hin : Sg 3 w edE p G.es) (hst : Sl w (Value.int .i64) q st) (hl : G.es.length ≤ 10000) (hs : st.length ≤ 100000) :
    Calls Tryz.prog 43 #[(.agg #[.int .i64 G.q, .int .i64 G.n, .slice p G.es.length c]), .slice q st.length d, .int .i64 b] w (RetLi (stepA G st b).1 (stepA G st b).2 w) := by
  have HIN := hidI hin; have HST := hidI hst
  clear hin hst
  obtain ⟨w0, hw0⟩ : ∃ w0, w0 = (w.alloc (.cells #[.int .i64 G.q, .int .i64 G.n, .slice p G.es.length c] 24)).alloc (.cells #[.int .i64 b] 3) := ⟨_, rfl⟩
  have b0 : VRow w0 w.heap.size 24 [.int .i64 G.q, .int .i64 G.n, .slice p G.es.length c] := by subst hw0; exact (VRow.new w _ _).alloc _
  have b1 : VRow w0 (w.heap.size + 1) 3 [.int .i64 b] := by subst hw0; exact VRow.new1 w _ _ _
  have hB0 : RowKit.Below w.heap.size w w0 := by subst hw0; exact ((RowKit.Below.refl _ _).alloc (Nat.le_refl _) _).alloc (by simp) _
  obtain ⟨r, hr⟩ : ∃ r, chkG G = r := ⟨_, rfl⟩
  by_cases hr0 : r = 0
  · subst hr0
    obtain ⟨r2, hr2⟩ : ∃ r2, chkS G.n none st = r2 := ⟨_, rfl⟩
    by_cases hok : r2 = 0 ∧ 0 ≤ b ∧ b < G.q
    · obtain ⟨rfl, h0, h1⟩ := hok
      have hv := chkG_ok.1 hr
      have : stepA G st b = (nextA G st b, 0) := by unfold stepA; rw [if_pos hr, if_pos hr2, if_neg (by omega)]
      rw [this]
      have hso := chkS_ok hr2
      have hlen := (St.mk hso.1 hso.2.1 : St G.n st).len hv.n1
      exact callsIn_wide.1 (gStep_in G p c st q d b w HIN.out HST.out hv (by have := hv.n2; omega) hr2 h0 h1)
    · have HR := hidI hr; have HR2 := hidI hr2
      clear hr
      go_enter Tryz.func43, Tryz.ntmps43
      go_wp2_with fail
      rw [← hw0]
      clear hw0
      refine (gCheck_r G p c _ 0 HR.out (HIN.out.below hB0) (by omega)).mono ?_
      rintro e w1 ⟨rfl, hB1⟩
      have x1 := hB0.trans (hB1.mono hB0.size)
      have c0 := b0.below hB1 b0.lt
      have c1 := b1.below hB1 b1.lt
      clear hB1 hB0 b0 b1
      have f0 := c0.at 0 rfl; have f1 := c0.at 1 rfl; have f2 := c0.at 2 rfl
      go_wp2_with fail
      refine (gCheckSet_any G p c st q d _ (HST.out.below x1) (by omega)).mono ?_
      rw [hr2]
      rintro e w2 ⟨rfl, hB2⟩
      have x2 := x1.trans (hB2.mono x1.size)
      have d0 := c0.below hB2 c0.lt
      have d1 := c1.below hB2 c1.lt
      clear f0 f1 f2 hB2 c0 c1
      have f0 := d0.at 0 rfl; have g0 := d1.at 0 rfl
      by_cases h2 : r2 = 0
      · subst h2
        clear hr2
        by_cases h0 : b < 0
        · have HK : Hid (stepA G st b = ([], 2)) := by unfold Hid stepA; rw [if_pos HR.out, if_pos HR2.out, if_pos (.inl h0)]
          go_wp2
          go_ret2
          exact RetLi.nil HK.out x2
        · have h1 : G.q ≤ b := by omega
          have HK : Hid (stepA G st b = ([], 2)) := by unfold Hid stepA; rw [if_pos HR.out, if_pos HR2.out, if_pos (.inr h1)]
          go_wp2
          go_ret2
          exact RetLi.nil HK.out x2
      · have HK : Hid (stepA G st b = ([], r2)) := by unfold Hid stepA; rw [if_pos HR.out, HR2.out, if_neg h2]
        have hrb : (r2 == 0) = false := by simpa using h2
        clear hr2 hok
        go_wp2
        go_ret2
        exact RetLi.nil HK.out x2
  · have HK : Hid (stepA G st b = ([], 1)) := by unfold Hid stepA; rw [if_neg (by rw [hr]; exact hr0)]
    have hrb : (r == 0) = false := by simpa using hr0
    have HR := hidI hr
    clear hr
    go_enter Tryz.func43, Tryz.ntmps43
    go_wp2_with fail
    rw [← hw0]
    clear hw0
    refine (gCheck_r G p c _ r HR.out (HIN.out.below hB0) (by omega)).mono ?_
    rintro e w1 ⟨rfl, hB1⟩
    have x1 := hB0.trans (hB1.mono hB0.size)
    go_wp2
    go_ret2
    exact RetLi.nil HK.out x1
end Go.Proofs.YtocbhlohcikapaaGreatDoor
namespace Go.Proofs.YtocbhlohcikapaaGreatDoor
open Go.RowKit Go.Sort Go.Shelf Go.Lib

theorem stepA_next {G : Gr} {st : List Int} {b : Int} (hv : Vg G) (hc : chkS G.n none st = 0) (h0 : 0 ≤ b) (h1 : b < G.q) : stepA G st b = (nextA G st b, 0) := by
  unfold stepA; rw [if_pos (chkG_ok.2 hv), if_pos hc, if_neg (by omega)]
theorem own_len {w : World} {B e n : Nat} {p : Option Addr} {m c : Nat} {xs : List Value} (h : w.ownsRow B e 1 (.slice p m c) n xs) : m = n := by
  rcases h.2 with ⟨e, rfl⟩ | ⟨g, cap, cur, e, _⟩
  · cases e; rfl
  · cases e; rfl
theorem retLi_own {r : List Int} {k : Int} {w : World} {e : Ending} {w' : World} (h : RetLi r k w e w') : ∃ p c, e = .returned (.tuple #[.slice p r.length c, .int .i64 k]) ∧ w'.ownsRow w.heap.size 3 1 (.slice p r.length c) r.length (r.map (Value.int .i64)) ∧ RowKit.Below w.heap.size w w' := by
  obtain ⟨p, m, c, rfl, ho, hB⟩ := h
  obtain rfl := own_len ho
  exact ⟨p, c, rfl, ho, hB⟩

set_option maxRecDepth 100000 in
set_option maxHeartbeats 2000000 in
theorem ssteps_any (G : Gr) (p : Option Addr) (c : Nat) (st : List Int) (q : Option Addr) (d : Nat) (gi : Nat) (lb : Array Value) (J : Nat → World → Prop) (w : World)
    (hv : Vg G) (hc : chkS G.n none st = 0) (hs : st.length ≤ 64) (eg : ∀ args w, (callFunc gi args).run Tryz.prog w = .ok (.enter gi args) w)
    (hJs : ∀ a W, J a W → Sg 3 W edE p G.es ∧ Sl W (Value.int .i64) q st)
    (hJb : ∀ a W W', J a W → RowKit.Below W.heap.size W W' → J a W')
    (hJn : ∀ (a : Nat) W, (a : Int) < G.q → nextA G st a = [] → J a W → J (a + 1) W)
    (hJe : ∀ (a : Nat) W pn cn, (a : Int) < G.q → nextA G st a ≠ [] → w.heap.size < W.heap.size → J a W →
      W.ownsRow w.heap.size 3 1 (.slice pn (nextA G st a).length cn) (nextA G st a).length ((nextA G st a).map (Value.int .i64)) →
      Calls Tryz.prog gi (#[.int .i64 a, .slice pn (nextA G st a).length cn] ++ lb) W fun e W' => e = .returned (.tuple #[]) ∧ J (a + 1) W' ∧ (∀ l, VRow W w.heap.size 24 l → VRow W' w.heap.size 24 l))
    (h0 : J 0 w) :
    Calls Tryz.prog 167 #[(.agg #[.int .i64 G.q, .int .i64 G.n, .slice p G.es.length c]), .slice q st.length d, .func (.func gi) #[] lb] w fun e w' => e = .returned (.tuple #[]) ∧ J G.q.toNat w' := by
  obtain ⟨w0, hw0⟩ : ∃ w0, w0 = w.alloc (.cells #[.int .i64 G.q, .int .i64 G.n, .slice p G.es.length c] 24) := ⟨_, rfl⟩
  have b0 : VRow w0 w.heap.size 24 [.int .i64 G.q, .int .i64 G.n, .slice p G.es.length c] := by subst hw0; exact VRow.new w _ _
  have hB0 : RowKit.Below w.heap.size w w0 := by subst hw0; exact (RowKit.Below.refl _ _).alloc (Nat.le_refl _) _
  have J0 := hJb 0 w w0 h0 hB0
  obtain ⟨Q, hQ⟩ : ∃ Q : Nat, G.q = Q := ⟨G.q.toNat, by have := hv.q1; omega⟩
  have HQ : Hid (G.q.toNat = Q) := by rw [Hid, hQ]; rfl
  have HQ2 := hidI hQ
  have hq2 : Q ≤ 256 := by have := hv.q2; omega
  have HV := hidI hv; have HC := hidI hc
  have hlen := HV.out.len
  have g0 := b0.at 0 rfl
  clear hv hc hQ h0 hB0
  rw [HQ.out]
  go_enter Tryz.func167, Tryz.ntmps167
  go_wp2
  rw [← hw0]
  clear hw0 g0
  go_loopw [11] (fun iv wr => ∃ k : Nat, k ≤ Q ∧ iv = .int .i64 k ∧ J k wr ∧ VRow wr w.heap.size 24 [.int .i64 G.q, .int .i64 G.n, .slice p G.es.length c]) (fun iv _ => Q - (intOf iv).toNat)
  case atStart => exact ⟨0, by omega, rfl, J0, b0⟩
  case round =>
    clear J0 b0
    obtain ⟨k, hk, rfl, hJ, br⟩ := hrel
    by_cases hlt : k < Q
    · have hltk : (k : Int) < G.q := by rw [HQ2.out]; omega
      have f0 := br.at 0 rfl; have f1 := br.at 1 rfl; have f2 := br.at 2 rfl
      have hlt0 := br.lt
      obtain ⟨hsg, hsl⟩ := hJs k wr hJ
      have HG := hidI (gStep_any G p c st q d k wr hsg hsl (by omega) (by omega))
      rw [stepA_next HV.out HC.out (by omega) hltk] at HG
      have HN := hidI (hJn k); have HE := hidI (hJe k)
      generalize nextA G st (k : Int) = nx at *
      have HLT := hidI hltk
      go_wp2_with fail
      refine HG.out.mono ?_
      rintro e w1 hret
      obtain ⟨pn, cn, rfl, hown, hB1⟩ := retLi_own hret
      have J1 := hJb k wr w1 hJ hB1
      have b1 := br.below hB1 hlt0
      clear hJ br f0 f1 f2 hret
      by_cases hn : nx = []
      · have J2 := HN.out w1 HLT.out hn J1
        have hl0 : nx.length = 0 := by rw [hn]; rfl
        go_wp2
        go_roundw
        case rel => exact ⟨k + 1, by omega, by go_num, J2, b1⟩
        case measure => simp [intOf]; omega
      · have hl0 : (0 : Int) < (nx.length : Int) := by have := List.length_pos_iff.2 hn; omega
        have hw1 : w.heap.size < w1.heap.size := b1.lt
        have HE2 := hidI (HE.out w1 pn cn HLT.out hn hw1 J1 (own_downN hown (by omega)))
        go_wp2_with fail
        go_at_fn gi
        refine HE2.out.mono ?_
        rintro e w2 ⟨rfl, J2, hk2⟩
        have b2 := hk2 _ b1
        go_wp2
        go_roundw
        case rel => exact ⟨k + 1, by omega, by go_num, J2, b2⟩
        case measure => simp [intOf]; omega
    · have hltk : ¬ (k : Int) < G.q := by rw [HQ2.out]; omega
      obtain rfl : k = Q := by omega
      go_wp2
      go_end0
      exact ⟨rfl, hJ⟩
end Go.Proofs.YtocbhlohcikapaaGreatDoor
namespace Go.Proofs.YtocbhlohcikapaaGreatDoor
open Go.RowKit

def keyL : List Int → List UInt8
  | [] => []
  | s :: l => Lib.decDigits s.toNat ++ 32 :: keyL l
theorem dg_no : ∀ i, i < 100 → (32 : UInt8) ∉ Lib.decDigits i := by decide +kernel
theorem dg_inj : ∀ i, i < 100 → ∀ j, j < 100 → Lib.decDigits i = Lib.decDigits j → i = j := by decide +kernel
theorem sep_inj {c : UInt8} : ∀ {a b r r' : List UInt8}, c ∉ a → c ∉ b → a ++ c :: r = b ++ c :: r' → a = b ∧ r = r'
  | [], [], r, r', _, _, h => by simp at h; exact ⟨rfl, h⟩
  | [], y :: b, r, r', _, hb, h => by simp at h; exact absurd (by simp [h.1]) hb
  | x :: a, [], r, r', ha, _, h => by simp at h; exact absurd (by simp [h.1]) ha
  | x :: a, y :: b, r, r', ha, hb, h => by
    simp only [List.cons_append, List.cons.injEq] at h
    obtain ⟨h1, h2⟩ := sep_inj (fun hm => ha (List.mem_cons_of_mem _ hm)) (fun hm => hb (List.mem_cons_of_mem _ hm)) h.2
    exact ⟨by rw [h.1, h1], h2⟩
/-- The key tells sets apart. -/
theorem keyL_inj : ∀ {l m : List Int}, (∀ x ∈ l, 0 ≤ x ∧ x < 100) → (∀ x ∈ m, 0 ≤ x ∧ x < 100) → keyL l = keyL m → l = m
  | [], [], _, _, _ => rfl
  | [], y :: m, _, _, h => by simp [keyL] at h
  | x :: l, [], _, _, h => by simp [keyL] at h
  | x :: l, y :: m, hl, hm, h => by
    have h1 := hl x (by simp)
    have h2 := hm y (by simp)
    obtain ⟨k1, k2⟩ := sep_inj (dg_no x.toNat (by omega)) (dg_no y.toNat (by omega)) h
    have e := dg_inj x.toNat (by omega) y.toNat (by omega) k1
    have e2 : x = y := by omega
    rw [e2, keyL_inj (fun z hz => hl z (by simp [hz])) (fun z hz => hm z (by simp [hz])) k2]
theorem keyL_snoc : ∀ (l : List Int) (s : Int), keyL (l ++ [s]) = keyL l ++ (Lib.decDigits s.toNat ++ [32])
  | [], s => by simp [keyL]
  | x :: l, s => by simp [keyL, keyL_snoc l s]
theorem dit_small : ∀ i, i < 100 → (Lib.decDigits i).length ≤ 2 := by decide +kernel
theorem keyL_len : ∀ {l : List Int}, (∀ x ∈ l, 0 ≤ x ∧ x < 100) → (keyL l).length ≤ 3 * l.length
  | [], _ => Nat.le_refl _
  | x :: l, h => by
    have h1 := dit_small x.toNat (by have := h x (by simp); omega)
    have h2 := keyL_len (l := l) (fun y hy => h y (by simp [hy]))
    simp only [keyL, List.length_append, List.length_cons]
    omega
end Go.Proofs.YtocbhlohcikapaaGreatDoor
namespace Go.Proofs.YtocbhlohcikapaaGreatDoor
open Go.RowKit

/-- Edges in memory are as they were. -/
def KT (w w' : World) : Prop := ∀ (i : Nat) (cur : Array Value) (fz : Nat × Nat), w.heap[i]? = some (Obj.cells cur 44 fz) → w'.heap[i]? = some (Obj.cells cur 44 fz)
theorem KT.refl (w : World) : KT w w := fun _ _ _ h => h
theorem KT.trans {a b c : World} (h : KT a b) (k : KT b c) : KT a c := fun i cur fz e => k i cur fz (h i cur fz e)
theorem KT.below {w w' : World} (h : Below w.heap.size w w') : KT w w' := fun i _ _ e => (h.block i (Array.getElem?_eq_some_iff.1 e).1).trans e
theorem KT.set {w : World} {b : Nat} {cur : Array Value} {fz : Nat × Nat} (hb : w.heap[b]? = some (.cells cur 211 fz)) (k : Nat) (v : Value) : KT w (w.setCell ⟨b, k, none⟩ v) := fun i c z e => by
  have hne : i ≠ b := by rintro rfl; rw [hb] at e; cases e
  exact (Below.heap_setCell _ _ _ _ hne).trans e
theorem KT.vrow {w w' : World} {B : Nat} {l : List Value} (h : KT w w') (hr : VRow w B 44 l) : VRow w' B 44 l := h _ _ _ hr
theorem sizeBuilder : (Tryz.prog.info? 211).map (·.size) = some 2 := by kernel_rfl
theorem liesBuilder : liesAt Tryz.prog Tryz.prog.depth 211 (2 / Tryz.prog.cellsOf 211) 0 211 1 = true := by kernel_rfl
theorem infoByte : (Tryz.prog.info? 5).map (fun i => (i.zero, i.size, i.bytes)) = some (some (.int .u8 0), 1, 1) := by kernel_rfl

set_option maxHeartbeats 1000000 in
set_option maxRecDepth 100000 in
theorem bcopy_used (b : Nat) (w : World) (h0 : w.cell? ⟨b, 0, none⟩ = some (.pointer (some ⟨b, 0, none⟩))) :
    Calls Tryz.prog 227 #[.pointer (some ⟨b, 0, none⟩)] w fun e w' => e = .returned (.tuple #[]) ∧ w' = w := by
  obtain ⟨j, hj, _⟩ := Option.map_eq_some_iff.1 sizeBuilder
  go_enter Tryz.func227, Tryz.ntmps227
  go_wp2
  rw [Lib.run_neq_ptr_same w _ Tryz.underlying209 hj]
  go_wp2
  go_end0
  exact ⟨rfl, rfl⟩

set_option maxHeartbeats 1000000 in
set_option maxRecDepth 100000 in
theorem bcopy_fresh (b : Nat) (w : World) (h0 : w.cell? ⟨b, 0, none⟩ = some (.pointer none)) (hsh : w.shape? b = some (211, 2)) (hfz : w.frozen? ⟨b, 0, none⟩ = false) :
    Calls Tryz.prog 227 #[.pointer (some ⟨b, 0, none⟩)] w fun e w' => e = .returned (.tuple #[]) ∧ w' = w.setCell ⟨b, 0, none⟩ (.pointer (some ⟨b, 0, none⟩)) := by
  obtain ⟨j, hj, hjs⟩ := Option.map_eq_some_iff.1 sizeBuilder
  go_enter Tryz.func227, Tryz.ntmps227
  go_wp2
  rw [Lib.run_to_unsafe w ⟨b, 0, none⟩ Tryz.underlying209 Tryz.underlying249 hj (by rw [hjs]; decide) hsh (Nat.zero_lt_succ 1)]
  simp only [Result.andThen]
  rw [Oper.upon_value]
  go_wp2
  rw [run_callFunc_extern Tryz.func247 (by kernel_rfl) (by kernel_rfl) (by kernel_rfl) (e := Extern.AbiNoEscape.same) (by kernel_rfl)]
  rw [Lib.run_noEscape]
  simp only [Result.andThen]
  rw [Oper.upon_value]
  go_wp2
  rw [Lib.run_from_unsafe w ⟨b, 0, none⟩ Tryz.underlying249 Tryz.underlying209 hj hsh liesBuilder]
  simp only [Result.andThen]
  rw [Oper.upon_value]
  go_wp2
  go_end0
  exact ⟨rfl, rfl⟩

theorem bcopy_any (B b : Nat) (bs : List Value) (w : World) (h : Lib.IsBuilderF 211 5 B b bs w) :
    Calls Tryz.prog 227 #[.pointer (some ⟨b, 0, none⟩)] w fun e w' => e = .returned (.tuple #[]) ∧ (Lib.BuilderAtF 211 5 B b (.pointer (some ⟨b, 0, none⟩)) bs w' ∧ Below B w w' ∧ KT w w') := by
  rcases h with h | h
  · refine (bcopy_fresh b w h.cell0 h.shape h.frozen0).mono ?_
    rintro e w' ⟨rfl, rfl⟩
    obtain ⟨v, hbk, _⟩ := h.2
    exact ⟨rfl, h.used _, (Below.refl B w).setCell (p := ⟨b, 0, none⟩) h.1 _, KT.set hbk 0 _⟩
  · refine (bcopy_used b w h.cell0).mono ?_
    rintro e w' ⟨rfl, rfl⟩
    exact ⟨rfl, h, Below.refl B _, KT.refl _⟩

set_option maxHeartbeats 2000000 in
set_option maxRecDepth 100000 in
theorem bwrite_any (B b : Nat) (bs : List Value) (s : ByteArray) (w : World) (h : Lib.IsBuilderF 211 5 B b bs w) (hlen : bs.length + s.size ≤ 140737488355328) (hBw : B ≤ w.heap.size) :
    Calls Tryz.prog 201 #[.pointer (some ⟨b, 0, none⟩), .string s] w fun e w' => e = .returned (.tuple #[.int .i64 s.size, .nilIface]) ∧ (Lib.BuilderAtF 211 5 B b (.pointer (some ⟨b, 0, none⟩)) (bs ++ Lib.strCells s) w' ∧ Below B w w' ∧ KT w w') := by
  obtain ⟨i0, hi, hz0, hz1, hz2⟩ := info_parts infoByte
  go_enter Tryz.func201, Tryz.ntmps201
  go_wp2_with (go_at_call 227; refine (bcopy_any B b bs _ h).mono ?_)
  rintro e w1 ⟨rfl, h1, hb1, kt1⟩
  obtain ⟨hB, v, hbk, hown, hne⟩ := h1
  have c0 : w1.cell? ⟨b, 0, none⟩ = some (.pointer (some ⟨b, 0, none⟩)) := by rw [Lib.cell_of_heap hbk]; rfl
  have c1 : w1.cell? ⟨b, 1, none⟩ = some v := by rw [Lib.cell_of_heap hbk]; rfl
  go_wp2_with (at_builtin; refine Lib.wpList_append_own_stringF _ rfl _ _ 56 9 rfl B 5 i0 Tryz.underlying56 Tryz.underlying9 hi hz0 hz1 hz2 _ _ _ rfl hown s rfl ?c3 ?c4 ?c5 ?_)
  case c3 => unfold maxLen; omega
  case c4 => omega
  case c5 => have := hb1.size; omega
  intro v' w2 hown' hgrow _
  have hlt : b < w1.heap.size := by
    rcases Nat.lt_or_ge b w1.heap.size with h' | h'
    · exact h'
    · simp [Array.getElem?_eq_none h'] at hbk
  have hb2 : w2.heap[b]? = some (.cells #[.pointer (some ⟨b, 0, none⟩), v] 211 (0, 0)) := by
    rw [hgrow.block b hlt (fun e => hne e.symm)]
    exact hbk
  have d0 : w2.cell? ⟨b, 0, none⟩ = some (.pointer (some ⟨b, 0, none⟩)) := by rw [Lib.cell_of_heap hb2]; rfl
  have d1 : w2.cell? ⟨b, 1, none⟩ = some v := by rw [Lib.cell_of_heap hb2]; rfl
  have f1 : w2.frozen? ⟨b, 1, none⟩ = false := Lib.frozen_of_heap hb2 1
  obtain ⟨ao, n', cap, rfl⟩ : ∃ ao n' cap, v' = .slice ao n' cap := by
    rcases hown'.2 with ⟨hv, _⟩ | ⟨g, cap, cur, fz, hv, _⟩
    · exact ⟨_, _, _, hv⟩
    · exact ⟨_, _, _, hv⟩
  have kt2 : KT w1 w2 := fun i cur fz e => by
    refine (hgrow.block i (Array.getElem?_eq_some_iff.1 e).1 (fun e' => ?_)).trans e
    rcases hown.2 with ⟨rfl, _⟩ | ⟨g, cap, cu, f, rfl, _, hg, _⟩
    · simp [Value.ownBlock] at e'
    · obtain rfl : i = g := by simpa [Value.ownBlock] using e'
      rw [hg] at e; cases e
  have kt3 := (kt1.trans kt2).trans (KT.set hb2 1 (.slice ao n' cap))
  go_wp2
  go_ret2
  refine ⟨rfl, ?_, ?_, kt3⟩
  · exact Lib.BuilderAtF.put (T := 211) (e := 5) hB hb2 (bs' := bs ++ Lib.strCells s) (by simpa [Lib.strCells_length] using hown') (by decide)
  · exact (hb1.grown hgrow (by have := hb1.size; omega) (fun k hk => (hown.lt k hk).1)).setCell (p := ⟨b, 1, none⟩) hB _
end Go.Proofs.YtocbhlohcikapaaGreatDoor
namespace Go.Proofs.YtocbhlohcikapaaGreatDoor
open Go.RowKit Go.Sort Go.Shelf Go.Lib

theorem bcT_app (o : List UInt8) (s : ByteArray) : Lib.byteCells o ++ Lib.strCells s = Lib.byteCells (o ++ s.data.toList) := by simp [Lib.byteCells, Lib.strCells]
def ditB (v : Int) : ByteArray := ⟨(Lib.decDigits v.toNat).toArray⟩
theorem dit_any (v : Int) (h : 0 ≤ v ∧ v < 100) (w : World) : Calls Tryz.prog 202 #[.int .i64 v] w fun e w' => e = .returned (.string (ditB v)) ∧ w = w' := by
  obtain ⟨i, rfl⟩ : ∃ i : Nat, v = (i : Int) := ⟨v.toNat, by omega⟩
  exact (Tryz.strconv_Itoa_small i (by omega) w).mono (fun e w' h => ⟨h.1, h.2.symm⟩)
set_option maxRecDepth 100000 in
set_option maxHeartbeats 1000000 in
theorem skey_any (st : List Int) (q : Option Addr) (d : Nat) (w : World) (hst : Sl w (Value.int .i64) q st) (hb : ∀ x ∈ st, 0 ≤ x ∧ x < 100) (hl : st.length ≤ 1000) :
    Calls Tryz.prog 166 #[.slice q st.length d] w fun e w' => e = .returned (.string ⟨(keyL st).toArray⟩) ∧ RowKit.Below w.heap.size w w' := by
  obtain ⟨w0, hw0⟩ : ∃ w0, w0 = w.alloc (.cells #[.pointer none, .slice none 0 0] 211) := ⟨_, rfl⟩
  have hbd : Lib.IsBuilderF 211 5 w.heap.size w.heap.size (Lib.byteCells []) w0 := by
    subst hw0
    exact Lib.IsBuilderF.of (.inl ⟨Nat.le_refl _, .slice none 0 0, World.alloc_heap_new _ _, World.ownsRow_nil _ _ _ _, by simp [Value.ownBlock]⟩)
  have hB0 : RowKit.Below w.heap.size w w0 := by subst hw0; exact (RowKit.Below.refl _ _).alloc (Nat.le_refl _) _
  have HST := hidI (fun W (hW : RowKit.Below w.heap.size w W) => hst.below hW)
  have HB := hidI hb
  have HLN := hidI (fun k => keyL_len (l := st.take k) (fun x hx => hb x (List.mem_of_mem_take hx)))
  clear hst hb
  go_enter Tryz.func166, Tryz.ntmps166
  go_upto_region 2 with fail
  rw [← hw0]
  clear hw0
  go_wp2
  go_loopw [8] (fun kv wr => ∃ k : Nat, k ≤ st.length ∧ kv = .int .i64 k ∧ Lib.IsBuilderF 211 5 w.heap.size w.heap.size (Lib.byteCells (keyL (st.take k))) wr ∧ RowKit.Below w.heap.size w wr) (fun kv _ => st.length - (RowKit.intOf kv).toNat)
  case atStart => exact ⟨0, by omega, rfl, hbd, hB0⟩
  case round =>
    clear hbd hB0
    obtain ⟨k, hk, rfl, hbd, hB⟩ := hrel
    have hbz := hB.size
    have HBD := hidI hbd
    clear hbd
    by_cases hlt : k < st.length
    · have hltI : (k : Int) < (st.length : Int) := by omega
      obtain ⟨b1, o1, rfl, hb1, hc1⟩ := (HST.out wr hB).get k hlt
      have e0 := hc1 k hlt
      have h100 := HB.out _ (List.getElem_mem hlt)
      have HK : Hid (keyL (st.take (k + 1)) = keyL (st.take k) ++ (Lib.decDigits (st[k]).toNat ++ [32])) := by rw [Hid, List.take_succ_eq_append_getElem hlt, keyL_snoc]
      have hln := HLN.out k
      have htk : (st.take k).length = k := by rw [List.length_take]; omega
      rw [htk] at hln
      have HDS := hidI (dit_small st[k].toNat (by omega))
      generalize st[k] = x at *
      generalize st.take k = pre at *
      have hsz2 : (ditB x).size ≤ 2 := by have := HDS.out; show (Lib.decDigits x.toNat).toArray.size ≤ 2; simpa using this
      clear hc1 htk
      have hkz : (⟨#[32]⟩ : ByteArray).size = 1 := rfl
      go_wp2_with fail
      refine (dit_any x h100 _).mono ?_
      rintro e w' ⟨rfl, hw⟩
      subst hw
      go_wp2_with fail
      refine (bwrite_any w.heap.size w.heap.size (Lib.byteCells (keyL pre)) (ditB x ++ (⟨#[32]⟩ : ByteArray)) wr HBD.out ?_ hbz).mono ?_
      · simp [Lib.byteCells]; omega
      rintro e w2 ⟨rfl, hA, hB2, kt⟩
      go_wp2
      go_roundw
      case rel =>
        refine ⟨k + 1, by omega, by go_num, ?_, hB.trans hB2⟩
        rw [HK.out]
        have : Lib.byteCells (keyL pre) ++ Lib.strCells (ditB x ++ (⟨#[32]⟩ : ByteArray)) = Lib.byteCells (keyL pre ++ (Lib.decDigits x.toNat ++ [32])) := by rw [bcT_app]; simp [ditB]
        rw [← this]
        exact .inr hA
      case measure => simp [RowKit.intOf]; omega
    · obtain rfl : st.length = k := by omega
      have hltI : ¬ (st.length : Int) < (st.length : Int) := by omega
      rw [List.take_length] at HBD
      go_wp2_with (go_at_call 203; refine (Tryz.Builder_String_any_f w.heap.size w.heap.size _ wr HBD.out hbz).mono ?_; rintro e w4 ⟨rfl, hbd4, hB4⟩)
      go_ret
      exact ⟨rfl, hB.trans hB4⟩
end Go.Proofs.YtocbhlohcikapaaGreatDoor
namespace Go.Proofs.YtocbhlohcikapaaGreatDoor
open Go.RowKit

/-- The sets that were found, and the edges. -/
abbrev Sst := List (List Int) × List Ed
def sbAdd (G : Gr) (set : List Int) (i : Nat) (st : Sst) (a : Nat) : Sst :=
  if nextA G set a = [] then st
  else if nextA G set a ∈ st.1 then (st.1, st.2 ++ [⟨(i : Int), (a : Int), ((st.1.idxOf (nextA G set a) : Nat) : Int)⟩])
  else (st.1 ++ [nextA G set a], st.2 ++ [⟨(i : Int), (a : Int), (st.1.length : Int)⟩])
def sbTo (G : Gr) (set : List Int) (i : Nat) (st : Sst) (L : Nat) : Sst := (List.range L).foldl (sbAdd G set i) st
theorem sbTo_succ (G : Gr) (set : List Int) (i : Nat) (st : Sst) (L : Nat) : sbTo G set i st (L + 1) = sbAdd G set i (sbTo G set i st L) L := by
  unfold sbTo; rw [List.range_succ, List.foldl_append]; rfl
theorem sbAdd_none {G : Gr} {set : List Int} {i : Nat} {st : Sst} {a : Nat} (h : nextA G set a = []) : sbAdd G set i st a = st := if_pos h
theorem sbAdd_old {G : Gr} {set : List Int} {i : Nat} {st : Sst} {a : Nat} (h : nextA G set a ≠ []) (h2 : nextA G set a ∈ st.1) : sbAdd G set i st a = (st.1, st.2 ++ [⟨(i : Int), (a : Int), ((st.1.idxOf (nextA G set a) : Nat) : Int)⟩]) := by
  unfold sbAdd; rw [if_neg h, if_pos h2]
theorem sbAdd_new {G : Gr} {set : List Int} {i : Nat} {st : Sst} {a : Nat} (h : nextA G set a ≠ []) (h2 : nextA G set a ∉ st.1) : sbAdd G set i st a = (st.1 ++ [nextA G set a], st.2 ++ [⟨(i : Int), (a : Int), (st.1.length : Int)⟩]) := by
  unfold sbAdd; rw [if_neg h, if_neg h2]
/-- From number i on; none where there are too many sets or edges. -/
def sbGo (G : Gr) : Nat → Nat → Sst → Option Sst
  | 0, _, _ => none
  | m + 1, i, st => match st.1[i]? with
    | none => some st
    | some set => if 64 < (sbTo G set i st G.q.toNat).1.length ∨ 1024 < (sbTo G set i st G.q.toNat).2.length then none else sbGo G m (i + 1) (sbTo G set i st G.q.toNat)

/-! ### What is found is a valid graph, deterministic -/
def ltFL (x y : Ed) : Prop := x.f < y.f ∨ (x.f = y.f ∧ x.l < y.l)
structure Sb (G : Gr) (i a : Nat) (st : Sst) : Prop where
  ins : ∀ x ∈ st.2, 0 ≤ x.f ∧ (x.f < i ∨ (x.f = i ∧ x.l < a)) ∧ 0 ≤ x.l ∧ x.l < G.q ∧ 0 ≤ x.t ∧ x.t < st.1.length
  srt : st.2.Pairwise ltFL
  nd : st.1.Nodup
  ne : ∀ s ∈ st.1, s ≠ []
theorem Sb.snoc {G : Gr} {i a : Nat} {st : Sst} (h : Sb G i a st) (ha : (a : Int) < G.q) (l : List (List Int)) (t : Nat) (ht : t < l.length) (hl : st.1.length ≤ l.length) (hn : l.Nodup) (hne : ∀ s ∈ l, s ≠ []) :
    Sb G i (a + 1) (l, st.2 ++ [⟨(i : Int), (a : Int), (t : Int)⟩]) where
  ins := fun x hx => by
    rcases List.mem_append.1 hx with hx | hx
    · obtain ⟨h1, h2, h3, h4, h5, h6⟩ := h.ins x hx
      refine ⟨h1, ?_, h3, h4, h5, ?_⟩
      · rcases h2 with h2 | h2
        · exact .inl h2
        · exact .inr ⟨h2.1, by omega⟩
      · show x.t < (l.length : Int)
        omega
    · obtain rfl := List.mem_singleton.1 hx
      refine ⟨by simp, .inr ⟨rfl, by simp; omega⟩, by simp, ha, by simp, ?_⟩
      show (t : Int) < (l.length : Int)
      omega
  srt := by
    rw [List.pairwise_append]
    refine ⟨h.srt, by simp, fun x hx y hy => ?_⟩
    obtain rfl := List.mem_singleton.1 hy
    rcases (h.ins x hx).2.1 with h2 | h2
    · exact .inl h2
    · exact .inr h2
  nd := hn
  ne := hne
theorem Sb.add {G : Gr} {i a : Nat} {st : Sst} (h : Sb G i a st) (set : List Int) (ha : (a : Int) < G.q) : Sb G i (a + 1) (sbAdd G set i st a) := by
  by_cases h1 : nextA G set a = []
  · rw [sbAdd_none h1]
    refine ⟨fun x hx => ?_, h.srt, h.nd, h.ne⟩
    obtain ⟨h1, h2, h3⟩ := h.ins x hx
    refine ⟨h1, ?_, h3⟩
    rcases h2 with h2 | h2
    · exact .inl h2
    · exact .inr ⟨h2.1, by omega⟩
  · by_cases h2 : nextA G set a ∈ st.1
    · rw [sbAdd_old h1 h2]
      exact h.snoc ha st.1 _ (List.idxOf_lt_length_iff.2 h2) (Nat.le_refl _) h.nd h.ne
    · rw [sbAdd_new h1 h2]
      refine h.snoc ha _ st.1.length (by simp) (by simp) ?_ ?_
      · rw [List.nodup_append]
        refine ⟨h.nd, by simp, fun x hx y hy => ?_⟩
        obtain rfl := List.mem_singleton.1 hy
        intro e; subst e; exact h2 hx
      · intro s hs
        rcases List.mem_append.1 hs with hs | hs
        · exact h.ne s hs
        · obtain rfl := List.mem_singleton.1 hs; exact h1
theorem Sb.row {G : Gr} {i : Nat} {st : Sst} (h : Sb G i 0 st) (set : List Int) : ∀ L : Nat, (L : Int) ≤ G.q → Sb G i L (sbTo G set i st L)
  | 0, _ => h
  | L + 1, hL => by rw [sbTo_succ]; exact (h.row set L (by omega)).add set (by omega)
theorem Sb.next {G : Gr} {i a : Nat} {st : Sst} (h : Sb G i a st) : Sb G (i + 1) 0 st where
  ins := fun x hx => by
    obtain ⟨h1, h2, h3⟩ := h.ins x hx
    refine ⟨h1, .inl ?_, h3⟩
    rcases h2 with h2 | h2 <;> omega
  srt := h.srt
  nd := h.nd
  ne := h.ne
theorem sbTo_len {G : Gr} {set : List Int} {i : Nat} {st : Sst} : ∀ L : Nat, st.1.length ≤ (sbTo G set i st L).1.length
  | 0 => Nat.le_refl _
  | L + 1 => by
    rw [sbTo_succ]
    refine Nat.le_trans (sbTo_len (G := G) (set := set) (i := i) (st := st) L) ?_
    unfold sbAdd
    split
    · exact Nat.le_refl _
    · split
      · exact Nat.le_refl _
      · simp
theorem sbGo_ok {G : Gr} (hq : 0 ≤ G.q) : ∀ (m i : Nat) (st r : Sst), Sb G i 0 st → i ≤ st.1.length → st.1.length ≤ 64 → st.2.length ≤ 1024 → sbGo G m i st = some r → Sb G r.1.length 0 r ∧ r.1.length ≤ 64 ∧ r.2.length ≤ 1024 ∧ st.1.length ≤ r.1.length
  | 0, i, st, r, _, _, _, _, h => by cases h
  | m + 1, i, st, r, hS, hi, h64, h1k, h => by
    unfold sbGo at h
    cases hx : st.1[i]? with
    | none =>
      rw [hx] at h
      cases h
      have : i = st.1.length := by have := List.getElem?_eq_none_iff.1 hx; omega
      subst this
      exact ⟨hS, h64, h1k, Nat.le_refl _⟩
    | some set =>
      rw [hx] at h
      simp only at h
      split at h
      · cases h
      · rename_i hlim
        have hr := (hS.row set G.q.toNat (by omega)).next
        have hle := sbTo_len (G := G) (set := set) (i := i) (st := st) G.q.toNat
        have hi2 : i < st.1.length := (List.getElem?_eq_some_iff.1 hx).1
        obtain ⟨a, b, c, d⟩ := sbGo_ok hq m (i + 1) _ r hr (by omega) (by omega) (by omega) h
        exact ⟨a, b, c, Nat.le_trans hle d⟩
/-- The graph of sets, the sets, and an error. -/
def sbA (G : Gr) : Gr × List (List Int) × Int :=
  if chkG G = 0 then (if G.n = 0 then (⟨G.q, 0, []⟩, [], 0) else match sbGo G 66 0 ([upto G.n.toNat], []) with
    | none => (⟨0, 0, []⟩, [], 4)
    | some r => (⟨G.q, (r.1.length : Int), r.2⟩, r.1, 0)) else (⟨0, 0, []⟩, [], 1)
theorem Sb.graph {G : Gr} (hv : Vg G) {r : Sst} (h : Sb G r.1.length 0 r) (h64 : r.1.length ≤ 64) (h1k : r.2.length ≤ 1024) : Vg ⟨G.q, (r.1.length : Int), r.2⟩ ∧ Uq r.2 := by
  refine ⟨⟨hv.q1, hv.q2, by simp, by simp; omega, h1k, fun x hx => ?_, ?_⟩, ?_⟩
  · obtain ⟨h1, h2, h3, h4, h5, h6⟩ := h.ins x hx
    refine ⟨h1, h3, h5, ?_, h6, h4⟩
    show x.f < (r.1.length : Int)
    rcases h2 with h2 | h2 <;> omega
  · refine h.srt.imp (fun {x y} hxy => ?_)
    rw [ltE_iff]
    rcases hxy with h | h
    · exact .inl h
    · exact .inr ⟨h.1, .inl h.2⟩
  · refine h.srt.imp (fun {x y} hxy hh => ?_)
    rcases hxy with h | h <;> omega
theorem sbA_ok {G : Gr} (h : (sbA G).2.2 = 0) : Vg (sbA G).1 ∧ Uq (sbA G).1.es := by
  unfold sbA at h ⊢
  by_cases hc : chkG G = 0
  · rw [if_pos hc] at h ⊢
    have hv := chkG_ok.1 hc
    by_cases hn : G.n = 0
    · rw [if_pos hn]
      exact ⟨⟨hv.q1, hv.q2, by simp, by simp, by simp, (fun x hx => by cases hx), List.Pairwise.nil⟩, List.Pairwise.nil⟩
    · rw [if_neg hn] at h ⊢
      cases hg : sbGo G 66 0 ([upto G.n.toNat], []) with
      | none => rw [hg] at h; cases h
      | some r =>
        have hs : Sb G 0 0 ([upto G.n.toNat], []) := ⟨(fun x hx => by cases hx), List.Pairwise.nil, by simp, fun s hs => by
          obtain rfl := List.mem_singleton.1 hs
          intro e
          have e2 := congrArg List.length e
          rw [upto_len, List.length_nil] at e2
          have := hv.n1
          omega⟩
        have hq := hv.q1
        obtain ⟨a, b, c, _⟩ := sbGo_ok (by omega) _ _ _ r hs (by simp) (by simp) (by simp) hg
        exact a.graph hv b c
  · rw [if_neg hc] at h; cases h
end Go.Proofs.YtocbhlohcikapaaGreatDoor
namespace Go.Proofs.YtocbhlohcikapaaGreatDoor
open Go.RowKit Go.Sort Go.Shelf Go.Lib

/-! ### Keys -/
def okK (l : List Int) : Prop := (∀ x ∈ l, 0 ≤ x ∧ x < 100) ∧ l.length ≤ 1000
def kK (l : List Int) : Value := .string ⟨(keyL l).toArray⟩
theorem keyK : KeyBy Tryz.prog 9 kK okK where
  law := Maps.string_keyed Tryz.underlying9
  reads := fun a ha => ⟨.string (keyL a), by
    have h1 := keyL_len ha.1
    have h2 := ha.2
    have h3 : (⟨(keyL a).toArray⟩ : ByteArray).size ≤ maxLen := by show (keyL a).toArray.size ≤ maxLen; rw [List.size_toArray]; unfold maxLen; omega
    simp [keyOf, mapKey, kK, Tryz.underlying9]; exact h3⟩
  inj := fun a b ha hb h => keyL_inj ha.1 hb.1 (by simpa [kK] using h)
theorem zeroN (w : World) : (zeroValue 3).run Tryz.prog w = .ok (.int .i64 0) w := by kernel_rfl
/-- The numbers of sets. -/
def numF (S : List (List Int)) (l : List Int) : Option Int := if l ∈ S then some ((S.idxOf l : Nat) : Int) else none
theorem numF_snoc {S : List (List Int)} {x : List Int} (h : x ∉ S) (a : List Int) : mset (numF S) x (S.length : Int) a = numF (S ++ [x]) a := by
  unfold mset numF
  by_cases e : a = x
  · subst e
    rw [if_pos rfl, if_pos (by simp), List.idxOf_append, if_neg h]
    simp
  · rw [if_neg e]
    by_cases hm : a ∈ S
    · rw [if_pos hm, if_pos (by simp [hm]), List.idxOf_append, if_pos hm]
    · rw [if_neg hm, if_neg (by simp [hm, e])]
theorem num_hit {w : World} {b : Nat} {S : List (List Int)} (h : Mp kK okK (Value.int .i64) w b (numF S)) {l : List Int} (hl : okK l) (hm : l ∈ S) :
    (Instr.lookup 174 (.map (some b)) (kK l) true).run Tryz.prog w = .ok (.tuple #[.int .i64 (S.idxOf l : Nat), .bool true]) w := by
  have := h.look keyK Tryz.underlying174 (zeroN w) l hl true
  unfold numF at this; rw [if_pos hm] at this; exact this
theorem num_miss {w : World} {b : Nat} {S : List (List Int)} (h : Mp kK okK (Value.int .i64) w b (numF S)) {l : List Int} (hl : okK l) (hm : l ∉ S) :
    (Instr.lookup 174 (.map (some b)) (kK l) true).run Tryz.prog w = .ok (.tuple #[.int .i64 0, .bool false]) w := by
  have := h.look keyK Tryz.underlying174 (zeroN w) l hl true
  unfold numF at this; rw [if_neg hm] at this; exact this

/-! ### Blocks of one type are kept -/
/-- All blocks of one type, but one, are kept. -/
def KX1 (t : TypeId) (b : Nat) (W W' : World) : Prop := ∀ (i : Nat) (cur : Array Value) (fz : Nat × Nat), i ≠ b → W.heap[i]? = some (.cells cur t fz) → W'.heap[i]? = some (.cells cur t fz)
/-- All blocks of one type are kept. -/
def KX0 (t : TypeId) (W W' : World) : Prop := ∀ (i : Nat) (cur : Array Value) (fz : Nat × Nat), W.heap[i]? = some (.cells cur t fz) → W'.heap[i]? = some (.cells cur t fz)
section
variable {t t' : TypeId} {b : Nat} {X Y Z : World}
theorem KX0.refl (t : TypeId) (X : World) : KX0 t X X := fun _ _ _ h => h
theorem KX0.trans (h : KX0 t X Y) (k : KX0 t Y Z) : KX0 t X Z := fun i c f e => k i c f (h i c f e)
theorem KX1.trans (h : KX1 t b X Y) (k : KX1 t b Y Z) : KX1 t b X Z := fun i c f hn e => k i c f hn (h i c f hn e)
theorem KX0.one (h : KX0 t X Y) (b : Nat) : KX1 t b X Y := fun i c f _ e => h i c f e
theorem KX0.below (h : RowKit.Below X.heap.size X Y) : KX0 t X Y := fun i _ _ e => (h.block i (Array.getElem?_eq_some_iff.1 e).1).trans e
theorem KX0.turn (h : X.mapTurned Y b) : KX0 t X Y := fun i c f e => by
  obtain ⟨es, clock, es', clock', hb, rfl⟩ := h
  by_cases hi : i = b
  · subst hi; rw [hb] at e; cases e
  · exact (ChangeMaps.heap_setBlock_other hb _ hi).trans e
theorem KX0.grown {r : Option Nat} (h : X.grownBy Y r) (hr : ∀ k, r = some k → ∃ cur fz, X.heap[k]? = some (.cells cur t' fz)) (hne : t ≠ t') : KX0 t X Y := fun i c f e =>
  (h.block i (Array.getElem?_eq_some_iff.1 e).1 (fun er => by
    obtain ⟨c', f', e'⟩ := hr i er.symm
    rw [e] at e'; cases e'; exact hne rfl)).trans e
theorem KX0.set {cur : Array Value} {fz : Nat × Nat} (hb : X.heap[b]? = some (.cells cur t' fz)) (k : Nat) (v : Value) (hne : t ≠ t') : KX0 t X (X.setCell ⟨b, k, none⟩ v) := fun i c z e => by
  have hn : i ≠ b := by rintro rfl; rw [hb] at e; cases e; exact hne rfl
  exact (Below.heap_setCell _ _ _ _ hn).trans e
theorem KX1.set (t : TypeId) (b : Nat) (X : World) (k : Nat) (v : Value) : KX1 t b X (X.setCell ⟨b, k, none⟩ v) := fun _ _ _ hn e => (Below.heap_setCell _ _ _ _ hn).trans e
theorem KX0.vrow {l : List Value} (h : KX0 t X Y) (r : VRow X b t l) : VRow Y b t l := h _ _ _ r
theorem KX1.vrow {l : List Value} {i : Nat} (h : KX1 t b X Y) (r : VRow X i t l) (hn : i ≠ b) : VRow Y i t l := h _ _ _ hn r
theorem KX0.own {B n s : Nat} {v : Value} {xs : List Value} (h : KX0 t X Y) (ho : X.ownsRow B t s v n xs) : Y.ownsRow B t s v n xs := by
  refine ⟨ho.1, ho.2.imp id ?_⟩
  rintro ⟨g, cap, cur, e1, e2, e3, e4⟩
  exact ⟨g, cap, cur, e1, e2, h _ _ _ e3, e4⟩
theorem own_typed {B n s : Nat} {v : Value} {xs : List Value} (ho : X.ownsRow B t s v n xs) : ∀ k, v.ownBlock = some k → ∃ cur fz, X.heap[k]? = some (.cells cur t fz) := by
  intro k hk
  rcases ho.2 with ⟨rfl, _⟩ | ⟨g, cap, cur, rfl, _, hg, _⟩
  · cases hk
  · cases hk; exact ⟨_, _, hg⟩
end

/-- All maps are kept. -/
def KXm (W W' : World) : Prop := ∀ (i : Nat) (es : Array MapEntry) (cl : Nat), W.heap[i]? = some (.map es cl) → W'.heap[i]? = some (.map es cl)
section
variable {t' : TypeId} {b : Nat} {X Y Z : World}
theorem KXm.trans (h : KXm X Y) (k : KXm Y Z) : KXm X Z := fun i c f e => k i c f (h i c f e)
theorem KXm.below (h : RowKit.Below X.heap.size X Y) : KXm X Y := fun i _ _ e => (h.block i (Array.getElem?_eq_some_iff.1 e).1).trans e
theorem KXm.grown {r : Option Nat} (h : X.grownBy Y r) (hr : ∀ k, r = some k → ∃ cur fz, X.heap[k]? = some (.cells cur t' fz)) : KXm X Y := fun i c f e =>
  (h.block i (Array.getElem?_eq_some_iff.1 e).1 (fun er => by
    obtain ⟨c', f', e'⟩ := hr i er.symm
    rw [e] at e'; cases e')).trans e
theorem KXm.set {cur : Array Value} {fz : Nat × Nat} (hb : X.heap[b]? = some (.cells cur t' fz)) (k : Nat) (v : Value) : KXm X (X.setCell ⟨b, k, none⟩ v) := fun i c z e => by
  have hn : i ≠ b := by rintro rfl; rw [hb] at e; cases e
  exact (Below.heap_setCell _ _ _ _ hn).trans e
end

/-! ### The boxes of a build -/
/-- The numbers of the sets. -/
def PN (bn mb : Nat) (S : List (List Int)) (W : World) : Prop := VRow W bn 174 [.map (some mb)] ∧ Mp kK okK (Value.int .i64) W mb (numF S)
/-- The sets. -/
def PS (bw bs : Nat) (S : List (List Int)) (W : World) : Prop :=
  ∃ ps cs Vs, VRow W bs 47 [.slice ps S.length cs] ∧ W.ownsRow bw 30 1 (.slice ps S.length cs) S.length Vs ∧
    ∀ i (h : i < S.length), ∃ v, Vs[i]? = some v ∧ (∃ p c, v = .slice p S[i].length c) ∧ W.ownsRow bw 3 1 v S[i].length (S[i].map (Value.int .i64))
/-- The graph so far. -/
def PO (bw bo : Nat) (q : Int) (E : List Ed) (W : World) : Prop :=
  ∃ pe ce, VRow W bo 24 [.int .i64 q, .int .i64 0, .slice pe E.length ce] ∧ W.ownsRow bw 44 3 (.slice pe E.length ce) E.length (cat E)
section
variable {bw bn bs bo mb : Nat} {S : List (List Int)} {E : List Ed} {q : Int} {W W' : World}
theorem PN.keep (h : PN bn mb S W) (k : KX0 174 W W') (hm : KXm W W') : PN bn mb S W' := ⟨k.vrow h.1, h.2.same (by
  obtain ⟨es, cl, hb, _⟩ := h.2
  rw [hb]; exact hm _ _ _ hb)⟩
theorem PS.keep (h : PS bw bs S W) (k1 : KX0 47 W W') (k2 : KX0 30 W W') (k3 : KX0 3 W W') : PS bw bs S W' := by
  obtain ⟨ps, cs, Vs, h1, h2, h3⟩ := h
  refine ⟨ps, cs, Vs, k1.vrow h1, k2.own h2, fun i hi => ?_⟩
  obtain ⟨v, a, b, c⟩ := h3 i hi
  exact ⟨v, a, b, k3.own c⟩
theorem PO.keep (h : PO bw bo q E W) (k1 : KX0 24 W W') (k2 : KX0 44 W W') : PO bw bo q E W' := by
  obtain ⟨pe, ce, h1, h2⟩ := h
  exact ⟨pe, ce, k1.vrow h1, k2.own h2⟩
/-- All three. -/
structure Bx (bw bn bs bo mb : Nat) (q : Int) (st : Sst) (W : World) : Prop where
  num : PN bn mb st.1 W
  sets : PS bw bs st.1 W
  out : PO bw bo q st.2 W
  ok : ∀ s ∈ st.1, okK s
theorem Bx.below {st : Sst} (h : Bx bw bn bs bo mb q st W) (hB : RowKit.Below W.heap.size W W') : Bx bw bn bs bo mb q st W' :=
  ⟨h.num.keep (KX0.below hB) (KXm.below hB), h.sets.keep (KX0.below hB) (KX0.below hB) (KX0.below hB), h.out.keep (KX0.below hB) (KX0.below hB), h.ok⟩
end

/-! ### What a step does -/
section
variable {bw bn bs bo mb : Nat} {q : Int} {st : Sst} {W : World}
/-- A new number. -/
theorem num_store {S : List (List Int)} (h : PN bn mb S W) {x : List Int} (hx : okK x) (hn : x ∉ S) :
    ∃ wm, (Instr.mapUpdate 174 (.map (some mb)) (kK x) (.int .i64 (S.length : Int))).run Tryz.prog W = .ok () wm ∧ PN bn mb (S ++ [x]) wm ∧ W.mapTurned wm mb := by
  obtain ⟨wm, h1, h2, h3⟩ := h.2.store keyK Tryz.underlying174 x hx (S.length : Int)
  exact ⟨wm, h1, ⟨(KX0.turn h3).vrow h.1, h2.congr (numF_snoc hn)⟩, h3⟩
theorem below_al (w : World) (o : Obj) : RowKit.Below w.heap.size w (w.alloc o) := (RowKit.Below.refl _ _).alloc (Nat.le_refl _) o
theorem own_shape1 {w : World} {B e n : Nat} {v : Value} {xs : List Value} (h : w.ownsRow B e 1 v n xs) : ∃ p c, v = .slice p n c := by
  rcases h.2 with ⟨rfl, rfl⟩ | ⟨g, cap, cur, rfl, _⟩
  · exact ⟨none, 0, rfl⟩
  · exact ⟨_, cap, rfl⟩
theorem own_shape3 {w : World} {B e n : Nat} {v : Value} {xs : List Value} (h : w.ownsRow B e 3 v n xs) : ∃ p c, v = .slice p n c := by
  rcases h.2 with ⟨rfl, rfl⟩ | ⟨g, cap, cur, rfl, _⟩
  · exact ⟨none, 0, rfl⟩
  · exact ⟨_, cap, rfl⟩
/-- A further set. -/
theorem sets_push {S : List (List Int)} {ps : Option Addr} {cs : Nat} {Vs : List Value} (hp : VRow W bs 47 [.slice ps S.length cs]) (ho : W.ownsRow bw 30 1 (.slice ps S.length cs) S.length Vs)
    (hel : ∀ i (h : i < S.length), ∃ v, Vs[i]? = some v ∧ (∃ p c, v = .slice p S[i].length c) ∧ W.ownsRow bw 3 1 v S[i].length (S[i].map (Value.int .i64)))
    {x : List Int} {pn : Option Addr} {cn : Nat} (hx : W.ownsRow bw 3 1 (.slice pn x.length cn) x.length (x.map (Value.int .i64))) {v' : Value} {w9 : World}
    (h9 : w9.ownsRow bw 30 1 v' (S.length + 1) (Vs ++ [.slice pn x.length cn])) (hg : (W.alloc (.cells #[.slice pn x.length cn] 30)).grownBy w9 (Value.slice ps S.length cs).ownBlock) (hbs : bw ≤ bs) (hW : bw ≤ W.heap.size) :
    w9.frozen? ⟨bs, 0, none⟩ = false ∧ (∃ u, w9.cell? ⟨bs, 0, none⟩ = some u) ∧ RowKit.Below bw W (w9.setCell ⟨bs, 0, none⟩ v') ∧ PS bw bs (S ++ [x]) (w9.setCell ⟨bs, 0, none⟩ v') ∧
      (∀ t, t ≠ 30 → t ≠ 47 → KX0 t W (w9.setCell ⟨bs, 0, none⟩ v')) ∧ KXm W (w9.setCell ⟨bs, 0, none⟩ v') := by
  have hA := below_al W (.cells #[.slice pn x.length cn] 30)
  have hty := own_typed (ho.alloc (.cells #[.slice pn x.length cn] 30))
  have k9 : ∀ t, t ≠ 30 → KX0 t W w9 := fun t ht => (KX0.below hA).trans (KX0.grown hg hty ht)
  have r9 : VRow w9 bs 47 [.slice ps S.length cs] := (k9 47 (by decide)).vrow hp
  have r10 := r9.set (i := 0) v'
  have kk : ∀ t, t ≠ 30 → t ≠ 47 → KX0 t W (w9.setCell ⟨bs, 0, none⟩ v') := fun t h1 h2 => (k9 t h1).trans (KX0.set r9 0 v' h2)
  obtain ⟨p', c', rfl⟩ := own_shape1 h9
  have hB9 : RowKit.Below bw W w9 := (hA.mono hW).grown hg (by rw [World.size_alloc]; omega) (fun j e => (ho.lt j e).1)
  refine ⟨r9.frozen 0, ⟨_, r9.at 0 rfl⟩, hB9.setCell hbs _, ⟨p', c', Vs ++ [.slice pn x.length cn], ?_, ?_, fun i hi => ?_⟩, kk, ((KXm.below hA).trans (KXm.grown hg hty)).trans (KXm.set r9 0 _)⟩
  · rw [List.length_append, List.length_singleton]; exact r10
  · rw [List.length_append, List.length_singleton]; exact (KX0.set (t := 30) r9 0 _ (by decide)).own h9
  · have hl : Vs.length = S.length := by have := ho.1; omega
    rw [List.length_append, List.length_singleton] at hi
    by_cases hlt : i < S.length
    · obtain ⟨v, e1, e2, e3⟩ := hel i hlt
      refine ⟨v, ?_, ?_, ?_⟩
      · rw [List.getElem?_append_left (by omega)]; exact e1
      · rw [List.getElem_append_left hlt]; exact e2
      · rw [List.getElem_append_left hlt]; exact (kk _ (by decide) (by decide)).own e3
    · obtain rfl : i = S.length := by omega
      refine ⟨.slice pn x.length cn, ?_, ?_, ?_⟩
      · rw [List.getElem?_append_right (by omega), hl, Nat.sub_self]; rfl
      · rw [List.getElem_append_right (Nat.le_refl _)]; simp only [Nat.sub_self, List.getElem_cons_zero]; exact ⟨_, _, rfl⟩
      · rw [List.getElem_append_right (Nat.le_refl _)]; simp only [Nat.sub_self, List.getElem_cons_zero]; exact (kk _ (by decide) (by decide)).own hx
/-- A further edge. -/
theorem edges_push {E : List Ed} {pe : Option Addr} {ce : Nat} (hp : VRow W bo 24 [.int .i64 q, .int .i64 0, .slice pe E.length ce]) (ho : W.ownsRow bw 44 3 (.slice pe E.length ce) E.length (cat E)) {x : Ed} {v' : Value} {w9 : World}
    (h9 : w9.ownsRow bw 44 3 v' (E.length + 1) (cat E ++ cat [x])) (hg : (W.alloc (.cells (edE x).toArray 44)).grownBy w9 (Value.slice pe E.length ce).ownBlock) (hbo : bw ≤ bo) (hW : bw ≤ W.heap.size) :
    w9.frozen? ⟨bo, 2, none⟩ = false ∧ (∃ u, w9.cell? ⟨bo, 2, none⟩ = some u) ∧ RowKit.Below bw W (w9.setCell ⟨bo, 2, none⟩ v') ∧ PO bw bo q (E ++ [x]) (w9.setCell ⟨bo, 2, none⟩ v') ∧
      (∀ t, t ≠ 44 → t ≠ 24 → KX0 t W (w9.setCell ⟨bo, 2, none⟩ v')) ∧ KX1 24 bo W (w9.setCell ⟨bo, 2, none⟩ v') ∧ KXm W (w9.setCell ⟨bo, 2, none⟩ v') := by
  have hA := below_al W (.cells (edE x).toArray 44)
  have hty := own_typed (ho.alloc (.cells (edE x).toArray 44))
  have k9 : ∀ t, t ≠ 44 → KX0 t W w9 := fun t ht => (KX0.below hA).trans (KX0.grown hg hty ht)
  have r9 : VRow w9 bo 24 [.int .i64 q, .int .i64 0, .slice pe E.length ce] := (k9 24 (by decide)).vrow hp
  have r10 := r9.set (i := 2) v'
  obtain ⟨p', c', rfl⟩ := own_shape3 h9
  have hB9 : RowKit.Below bw W w9 := (hA.mono hW).grown hg (by rw [World.size_alloc]; omega) (fun j e => (ho.lt j e).1)
  refine ⟨r9.frozen 2, ⟨_, r9.at 2 rfl⟩, hB9.setCell hbo _, ⟨p', c', ?_, ?_⟩, fun t h1 h2 => (k9 t h1).trans (KX0.set r9 2 _ h2), ((k9 _ (by decide)).one bo).trans (KX1.set _ bo _ 2 _), ((KXm.below hA).trans (KXm.grown hg hty)).trans (KXm.set r9 2 _)⟩
  · rw [List.length_append, List.length_singleton]; exact r10
  · rw [List.length_append, List.length_singleton, cat_app]; exact (KX0.set (t := 44) r9 2 _ (by decide)).own h9
theorem turn_below {wm : World} {w : World} (hB : RowKit.Below bw w W) (h : W.mapTurned wm mb) (hm : bw ≤ mb) (hw : bw ≤ W.heap.size) : RowKit.Below bw w wm :=
  hB.grown h.grown hw (fun j e => by cases e; exact hm)
end
end Go.Proofs.YtocbhlohcikapaaGreatDoor
namespace Go.Proofs.YtocbhlohcikapaaGreatDoor
open Go.RowKit Go.Sort Go.Shelf Go.Lib

/-- A set is found. -/
def sbPut (nx : List Int) (i a : Nat) (st : Sst) : Sst :=
  if nx ∈ st.1 then (st.1, st.2 ++ [⟨(i : Int), (a : Int), ((st.1.idxOf nx : Nat) : Int)⟩]) else (st.1 ++ [nx], st.2 ++ [⟨(i : Int), (a : Int), (st.1.length : Int)⟩])
theorem sbAdd_put {G : Gr} {set : List Int} {i : Nat} {st : Sst} {a : Nat} (h : nextA G set a ≠ []) : sbAdd G set i st a = sbPut (nextA G set a) i a st := by
  unfold sbAdd sbPut; rw [if_neg h]
theorem infoTS : (Tryz.prog.info? 30).map (fun i => (i.zero, i.size, i.bytes)) = some (some (.slice none 0 0), 1, 24) := by kernel_rfl
theorem infoTE : (Tryz.prog.info? 44).map (fun i => (i.zero, i.size, i.bytes)) = some (some (.agg #[.int .i64 0, .int .i64 0, .int .i64 0]), 3, 24) := by kernel_rfl

set_option maxRecDepth 100000 in
set_option maxHeartbeats 4000000 in
theorem sbuild1_any (bw bn bs bo mb bi i a : Nat) (q : Int) (st : Sst) (nx : List Int) (pn : Option Addr) (cn : Nat) (w : World)
    (h : Bx bw bn bs bo mb q st w) (hi : VRow w bi 3 [.int .i64 i]) (hx : w.ownsRow bw 3 1 (.slice pn nx.length cn) nx.length (nx.map (Value.int .i64))) (hk : okK nx)
    (h1 : st.1.length ≤ 1000) (h2 : st.2.length ≤ 10000) (hmb : bw ≤ mb) (hbs : bw ≤ bs) (hbo : bw ≤ bo) (hw : bw ≤ w.heap.size) :
    Calls Tryz.prog 168 #[.int .i64 a, .slice pn nx.length cn, .pointer (some ⟨bn, 0, none⟩), .pointer (some ⟨bs, 0, none⟩), .pointer (some ⟨bo, 0, none⟩), .pointer (some ⟨bi, 0, none⟩)] w fun e w' =>
      e = .returned (.tuple #[]) ∧ Bx bw bn bs bo mb q (sbPut nx i a st) w' ∧ RowKit.Below bw w w' ∧ KX1 24 bo w w' ∧ KX0 3 w w' := by
  obtain ⟨i0, hi0, hz0, hz1, hz2⟩ := info_parts infoTS
  obtain ⟨j0, hj0, hy0, hy1, hy2⟩ := info_parts infoTE
  obtain ⟨S, E⟩ := st
  obtain ⟨hN, hS, hO, hok⟩ := h
  obtain ⟨ks, hks⟩ : ∃ ks : ByteArray, ks = ⟨(keyL nx).toArray⟩ := ⟨_, rfl⟩
  have hsl : Sl w (Value.int .i64) pn nx := by
    obtain ⟨p', c', e, hs⟩ := own_sl hx
    cases e; exact hs
  have HK : Hid (∀ W, RowKit.Below w.heap.size w W → Calls Tryz.prog 166 #[.slice pn nx.length cn] W fun e w' => e = .returned (.string ks) ∧ RowKit.Below W.heap.size W w') := fun W hW => by
    rw [hks]; exact skey_any nx pn cn W (hsl.below hW) hk.1 hk.2
  have HOK := hidI hok
  have HX := hidI hx; have HKK := hidI hk
  have HN := hidI hN; have HS := hidI hS; have HO := hidI hO; have HI := hidI hi
  have HPK : Hid (kK nx = .string ks) := by rw [hks]; rfl
  have c0 := hN.1.at 0 rfl
  have hbnlt := hN.1.lt
  change S.length ≤ 1000 at h1
  change E.length ≤ 10000 at h2
  clear hok hx hk hS hO hi hsl hks
  by_cases hm : nx ∈ S
  · have HP : Hid (sbPut nx i a (S, E) = (S, E ++ [⟨(i : Int), (a : Int), ((S.idxOf nx : Nat) : Int)⟩])) := if_pos hm
    have HL : Hid (∀ W, RowKit.Below w.heap.size w W → (Instr.lookup 174 (.map (some mb)) (.string ks) true).run Tryz.prog W = .ok (.tuple #[.int .i64 (S.idxOf nx : Nat), .bool true]) W) := fun W hW => by
      rw [← HPK.out]; exact num_hit (Mp.below' HN.out.2 hW) HKK.out hm
    generalize S.idxOf nx = t at *
    clear hm hN
    go_enter Tryz.func168, Tryz.ntmps168
    go_upto_region 0 with fail
    go_region_held3 (fun w' => w'.cell? ⟨bn, 0, none⟩ = some (.map (some mb)) ∧ RowKit.Below w.heap.size w w' ∧ (Instr.lookup 174 (.map (some mb)) (.string ks) true).run Tryz.prog w' = .ok (.tuple #[.int .i64 (t : Nat), .bool true]) w')
      (first | (go_split_ands; refine ⟨?_, ?_, ?_⟩ <;> first | assumption | (go_keep; done) | exact below_dN (RowKit.Below.refl _ _) 1 | exact HL.out _ (below_dN (RowKit.Below.refl _ _) 1) | exact (RowKit.Below.cell (by assumption) hbnlt).trans c0 | exact HL.out _ (by assumption)))
      (first | (go_at_call 166; go_split_ands; with_reducible refine (HK.out _ (by assumption)).mono ?_; rintro e wA ⟨rfl, hBa⟩; have hBw := RowKit.Below.trans (show RowKit.Below w.heap.size w _ by assumption) (hBa.mono (RowKit.Below.size (by assumption)))))
    all_goals
      have hBX : RowKit.Below bw w wA := hBw.mono hw
      have hwX : bw ≤ wA.heap.size := Nat.le_trans hw hBw.size
      have HNX := hidI (HN.out.keep (KX0.below hBw) (KXm.below hBw))
      have HSX := hidI (HS.out.keep (KX0.below hBw) (KX0.below hBw) (KX0.below hBw))
      have HOX := hidI (HO.out.keep (KX0.below hBw) (KX0.below hBw))
      have HOKX := HOK
      have hiX := HI.out.below hBw HI.out.lt
      have hGX : KX1 24 bo w wA := (KX0.below hBw).one bo
      have hIX : KX0 3 w wA := KX0.below hBw
      go_upto_region 5 with fail
      (obtain ⟨pe, ce, ro, oo⟩ := HOX.out; have f2 := ro.at 2 rfl; have fi := hiX.at 0 rfl; have oA := oo.alloc (.cells (edE ⟨(i : Int), (a : Int), (t : Int)⟩).toArray 44); have hnew := cell_new3 wA ⟨(i : Int), (a : Int), (t : Int)⟩ 44 (wA).heap.size rfl; go_wp2_with (at_builtin; refine wpList_append_own _ rfl _ _ 22 rfl bw 44 j0 _ 3 24 Tryz.underlying22 hj0 hy0 hy1 hy2 rfl (by decide) _ _ _ rfl oA ⟨(wA).heap.size, 0, none⟩ 1 1 (cat [⟨(i : Int), (a : Int), (t : Int)⟩]) rfl rfl hnew (cat_one _) (by simp [maxLen]; omega) (by omega) (by simp; omega) ?_; intro v' w9 hown' hgrow _; obtain ⟨p9, m9, c9, rfl⟩ := own_shI hown'; obtain ⟨z0, ⟨u9, z1⟩, y1, y2, y3, y4, y5⟩ := edges_push ro oo hown' hgrow hbo hwX); go_end0; rw [HP.out]; exact ⟨rfl, ⟨HNX.out.keep (y3 _ (by decide) (by decide)) y5, HSX.out.keep (y3 _ (by decide) (by decide)) (y3 _ (by decide) (by decide)) (y3 _ (by decide) (by decide)), y2, HOKX.out⟩, hBX.trans y1, hGX.trans y4, hIX.trans (y3 _ (by decide) (by decide))⟩)
  · have HP : Hid (sbPut nx i a (S, E) = (S ++ [nx], E ++ [⟨(i : Int), (a : Int), (S.length : Int)⟩])) := if_neg hm
    have HL : Hid (∀ W, RowKit.Below w.heap.size w W → (Instr.lookup 174 (.map (some mb)) (.string ks) true).run Tryz.prog W = .ok (.tuple #[.int .i64 0, .bool false]) W) := fun W hW => by
      rw [← HPK.out]; exact num_miss (Mp.below' HN.out.2 hW) HKK.out hm
    have HNS : Hid (∀ W, RowKit.Below w.heap.size w W → ∃ wm, (Instr.mapUpdate 174 (.map (some mb)) (.string ks) (.int .i64 (S.length : Int))).run Tryz.prog W = .ok () wm ∧ PN bn mb (S ++ [nx]) wm ∧ W.mapTurned wm mb) := fun W hW => by
      rw [← HPK.out]; exact num_store (HN.out.keep (KX0.below hW) (KXm.below hW)) HKK.out hm
    have HOKX : Hid (∀ s ∈ S ++ [nx], okK s) := fun s hs => by
      rcases List.mem_append.1 hs with hs | hs
      · exact HOK.out s hs
      · obtain rfl := List.mem_singleton.1 hs; exact HKK.out
    clear hm hN
    go_enter Tryz.func168, Tryz.ntmps168
    go_upto_region 0 with fail
    go_region_held3 (fun w' => w'.cell? ⟨bn, 0, none⟩ = some (.map (some mb)) ∧ RowKit.Below w.heap.size w w' ∧ (Instr.lookup 174 (.map (some mb)) (.string ks) true).run Tryz.prog w' = .ok (.tuple #[.int .i64 0, .bool false]) w')
      (first | (go_split_ands; refine ⟨?_, ?_, ?_⟩ <;> first | assumption | (go_keep; done) | exact below_dN (RowKit.Below.refl _ _) 1 | exact HL.out _ (below_dN (RowKit.Below.refl _ _) 1) | exact (RowKit.Below.cell (by assumption) hbnlt).trans c0 | exact HL.out _ (by assumption)))
      (first | (go_at_call 166; go_split_ands; with_reducible refine (HK.out _ (by assumption)).mono ?_; rintro e wA ⟨rfl, hBa⟩; have hBw := RowKit.Below.trans (show RowKit.Below w.heap.size w _ by assumption) (hBa.mono (RowKit.Below.size (by assumption)))))
    all_goals
      have hwA : bw ≤ wA.heap.size := Nat.le_trans hw hBw.size
      obtain ⟨ps, cs, Vs, rs, os, hel⟩ := HS.out.keep (KX0.below hBw) (KX0.below hBw) (KX0.below hBw)
      have s0 := rs.at 0 rfl
      have c0A := (RowKit.Below.cell hBw hbnlt).trans c0
      have HEL := hidI hel
      clear hel
      go_upto_region 3 with fail
      go_cut [] (fun wx => PN bn mb (S ++ [nx]) wx ∧ ∃ wB, RowKit.Below wA.heap.size wA wB ∧ wB.mapTurned wx mb)
      case first =>
        go_region_with (go_at_call 166; refine (HK.out _ (RowKit.Below.trans hBw ((below_dN (RowKit.Below.refl _ _) 1).mono hBw.size))).mono ?_; rintro e wB ⟨rfl, hBb⟩; have hBAB := RowKit.Below.trans (below_dN (RowKit.Below.refl wA.heap.size wA) 1) hBb; have cB := (RowKit.Below.cell (hBw.trans (hBAB.mono hBw.size)) hbnlt).trans c0; obtain ⟨wm, hst, hPN, hturn⟩ := HNS.out wB (hBw.trans (hBAB.mono hBw.size)))
        all_goals
          go_wp2_with fail
          go_meet
          exact ⟨hPN, wB, hBAB, hturn⟩
      case rest =>
        obtain ⟨hPN, wB, hBAB, hturn⟩ := hcut
        have kA : ∀ t, KX0 t wA wc := fun t => (KX0.below hBAB).trans (KX0.turn hturn)
        have kW : ∀ t, KX0 t w wc := fun t => (KX0.below hBw).trans (kA t)
        have hwB : bw ≤ wB.heap.size := Nat.le_trans hwA hBAB.size
        have hBx : RowKit.Below bw w wc := turn_below ((hBw.mono hw).trans (hBAB.mono hwA)) hturn hmb hwB
        have hwx : bw ≤ wc.heap.size := Nat.le_trans hwB hturn.grown.size
        have rsx := (kA _).vrow rs
        have osx := (kA _).own os
        have hxx := (kW _).own HX.out
        have HELX : Hid (∀ i (h : i < S.length), ∃ v, Vs[i]? = some v ∧ (∃ p c, v = .slice p S[i].length c) ∧ wc.ownsRow bw 3 1 v S[i].length (S[i].map (Value.int .i64))) := fun i hi => by
          obtain ⟨v, e1, e2, e3⟩ := HEL.out i hi
          exact ⟨v, e1, e2, (kA _).own e3⟩
        have HOx := hidI (HO.out.keep (kW _) (kW _))
        have hix := (kW _).vrow HI.out
        have hgx : KX1 24 bo w wc := (kW _).one bo
        have hIx := kW 3
        have hoS := osx.alloc (.cells #[.slice pn nx.length cn] 30)
        have hnew1 := cell_one_new wc (.slice pn nx.length cn) 30
        have HPN := hidI hPN
        clear s0 c0A rs os kA kW hturn hBAB hPN hBw
        have s0 := rsx.at 0 rfl
        go_upto_region 5 with (at_builtin; refine wpList_append_own _ rfl _ _ 47 rfl bw 30 i0 _ 1 24 Tryz.underlying47 hi0 hz0 hz1 hz2 rfl (by decide) _ _ _ rfl hoS ⟨wc.heap.size, 0, none⟩ 1 1 [.slice pn nx.length cn] rfl rfl hnew1 (by simp [Value.oneCell']) (by simp [maxLen]; omega) (by omega) (by simp; omega) ?_; intro v' w9 hown' hgrow _; obtain ⟨p9, m9, c9, rfl⟩ := own_shI hown'; obtain ⟨z0, ⟨u9, z1⟩, k1, k2, k3, k4⟩ := sets_push rsx osx HELX.out hxx hown' hgrow hbs hwx)
        generalize w9.setCell ⟨bs, 0, none⟩ (.slice p9 m9 c9) = wA at *
        have hBX := hBx.trans k1
        have hwX : bw ≤ wA.heap.size := Nat.le_trans hwx k1.size
        have HNX := hidI (HPN.out.keep (k3 _ (by decide) (by decide)) k4)
        have HSX := hidI k2
        have HOX := hidI (HOx.out.keep (k3 _ (by decide) (by decide)) (k3 _ (by decide) (by decide)))
        have hiX := (k3 3 (by decide) (by decide)).vrow hix
        have hGX := hgx.trans ((k3 24 (by decide) (by decide)).one bo)
        have hIX := hIx.trans (k3 3 (by decide) (by decide))
        clear hown' hgrow z0 z1 s0 rsx osx hxx hix k1 k2 k3 k4 hoS hnew1
        (obtain ⟨pe, ce, ro, oo⟩ := HOX.out; have f2 := ro.at 2 rfl; have fi := hiX.at 0 rfl; have oA := oo.alloc (.cells (edE ⟨(i : Int), (a : Int), (S.length : Int)⟩).toArray 44); have hnew := cell_new3 wA ⟨(i : Int), (a : Int), (S.length : Int)⟩ 44 (wA).heap.size rfl; go_wp2_with (at_builtin; refine wpList_append_own _ rfl _ _ 22 rfl bw 44 j0 _ 3 24 Tryz.underlying22 hj0 hy0 hy1 hy2 rfl (by decide) _ _ _ rfl oA ⟨(wA).heap.size, 0, none⟩ 1 1 (cat [⟨(i : Int), (a : Int), (S.length : Int)⟩]) rfl rfl hnew (cat_one _) (by simp [maxLen]; omega) (by omega) (by simp; omega) ?_; intro v' w9 hown' hgrow _; obtain ⟨p9, m9, c9, rfl⟩ := own_shI hown'; obtain ⟨z0, ⟨u9, z1⟩, y1, y2, y3, y4, y5⟩ := edges_push ro oo hown' hgrow hbo hwX); go_end0; rw [HP.out]; exact ⟨rfl, ⟨HNX.out.keep (y3 _ (by decide) (by decide)) y5, HSX.out.keep (y3 _ (by decide) (by decide)) (y3 _ (by decide) (by decide)) (y3 _ (by decide) (by decide)), y2, HOKX.out⟩, hBX.trans y1, hGX.trans y4, hIX.trans (y3 _ (by decide) (by decide))⟩)
end Go.Proofs.YtocbhlohcikapaaGreatDoor
