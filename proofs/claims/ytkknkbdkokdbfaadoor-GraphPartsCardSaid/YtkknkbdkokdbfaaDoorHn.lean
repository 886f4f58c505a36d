/-
  Walks: the edges that leave a state, of the program (door seat).
-/
import Derived.Test.YtkknkbdkokdbfaaDoorHo
import Derived.Test.YtkknkbdkokdbfaaDoorHl
import Derived.Test.YtkknkbdkokdbfaaDoorGu
import Derived.Test.YtkknkbdkokdbfaaDoorGb
namespace Go.Proofs.YtkknkbdkokdbfaaDoor
open Go.RowKit Go.Shelf
attribute [local go_sem] Oper.semAt_some

theorem lvL_out (es : List Ed) (s : Int) : ∀ k, k ≤ es.length → (lvL es s k).map (fun x => ((x.1 : Nat) : Int)) = outI es s k
  | 0, _ => rfl
  | k + 1, h => by
    rw [lvL_succ (by omega), outI_succ (by omega), List.map_append, lvL_out es s k (by omega)]
    split <;> rfl
theorem own_shI {w : World} {B e size n : Nat} {v : Value} {xs : List Value} (h : w.ownsRow B e size v n xs) : ∃ p m c, v = .slice p m c := by
  rcases h.2 with ⟨rfl, _⟩ | ⟨g, cap, cur, rfl, _⟩
  · exact ⟨_, _, _, rfl⟩
  · exact ⟨_, _, _, rfl⟩
theorem own_cells {w : World} {B e size n : Nat} {v : Value} {xs : List Value} (h : w.ownsRow B e size v n xs) {j : Nat} {o : Obj} (hj : v.ownBlock = some j) (ho : w.heap[j]? = some o) : o.isCells = true := by
  rcases h.2 with ⟨rfl, _⟩ | ⟨g, cap, cur, rfl, _, hh, _⟩
  · simp [Value.ownBlock] at hj
  · obtain rfl : g = j := by simpa [Value.ownBlock] using hj
    rw [hh] at ho; cases ho; rfl
theorem own_put {W : World} {B e size n D : Nat} {v : Value} {xs : List Value} {o : Obj} {ds : Option (List Deferred)} (hK : W.heap[D]? = some (.deferred ds)) (h : W.ownsRow B e size v n xs) : (W.putObj D o).ownsRow B e size v n xs := by
  refine h.kept (grownBy_putObj' W D o) ?_
  rcases h.2 with ⟨rfl, _⟩ | ⟨g, cap, cur, rfl, _, hh, _⟩
  · exact .inl rfl
  · refine .inr (fun e => ?_)
    obtain rfl : g = D := by simpa [Value.ownBlock] using e
    rw [hh] at hK; cases hK
theorem own_baseI {W : World} {B B' e size n : Nat} {v : Value} {xs : List Value} (h : W.ownsRow B e size v n xs) (hB : B' ≤ B) : W.ownsRow B' e size v n xs :=
  ⟨h.1, h.2.imp id (fun ⟨g, cap, cur, a, b, z⟩ => ⟨g, cap, cur, a, Nat.le_trans hB b, z⟩)⟩
/-- A row of numbers of the call's own, behind a variable's cell. -/
def OutI (B b : Nat) (l : List Int) (W : World) : Prop := ∃ v, VRow W b 37 [v] ∧ W.ownsRow B 3 1 v l.length (l.map (Value.int .i64)) ∧ v.ownBlock ≠ some b
theorem OutI.own {β : Type} (B b : Nat) (f : β → List Int) : Own (fun s W => OutI B b (f s) W) := by
  rintro s X Y row ⟨v, h1, h2, h3⟩ hg hrow
  refine ⟨v, VRow.own b 37 (fun _ : Unit => [v]) () X Y row h1 hg hrow, ?_, h3⟩
  refine h2.kept hg ?_
  rcases h2.2 with ⟨rfl, _⟩ | ⟨g, cap, cur, rfl, _, hh, _⟩
  · exact .inl rfl
  · refine .inr (fun e => ?_)
    obtain ⟨o, ho, hc⟩ := hrow g (by rw [← e]; rfl)
    rw [hh] at ho; cases ho; cases hc

set_option maxRecDepth 100000 in
set_option maxHeartbeats 2000000 in
theorem gOut_in (G : Gr) (p : Option Addr) (c : Nat) (s : Int) (w : World) (hin : Sg 3 w edE p G.es) (hv : Vg G) (h0 : 0 ≤ s) (h1 : s < G.n) :
    CallsIn Fence.wide 9 Tryd.prog 19 #[(.agg #[.int .i64 G.q, .int .i64 G.n, .slice p G.es.length c]), .int .i64 s] w (RetLi (outI G.es s G.es.length) 0 w) := by
  have HIN := hidI hin; have HV := hidI hv
  have hl := hv.len
  clear hin hv
  obtain ⟨i0, hi0, hz0, hz1, hz3⟩ := info_parts infoIn
  have b0 : VRow (w.alloc (.cells #[.int .i64 G.q, .int .i64 G.n, .slice p G.es.length c] 24)) w.heap.size 24 [.int .i64 G.q, .int .i64 G.n, .slice p G.es.length c] := VRow.new w _ _
  have hB0 : RowKit.Below w.heap.size w (w.alloc (.cells #[.int .i64 G.q, .int .i64 G.n, .slice p G.es.length c] 24)) := (RowKit.Below.refl _ _).alloc (Nat.le_refl _) _
  refine callsIn_of_wp_marks Tryd.func19 rfl trivial ?_ rfl
  simp only [Tryd.ntmps19, List.size_toArray, List.length_cons, List.length_nil, Nat.reduceAdd, Nat.reduceSub, Array.replicate_succ, Array.replicate_zero, List.push_toArray, List.append_toArray, List.nil_append, List.cons_append]
  gi_wp2_with (refine ⟨trivial, ?_⟩; gi_at_call 13)
  refine (callsIn_wide.2 (gCheck_r G p c _ 0 (chkG_ok.2 HV.out) (HIN.out.below hB0) (by omega))).mono ?_
  rintro e w1 ⟨rfl, hB1⟩
  have x1 := hB0.trans (hB1.mono hB0.size)
  have c0 := b0.below hB1 b0.lt
  clear hB1 b0 hB0
  have f1 := c0.at 1 rfl
  have ca := c0.alloc (.cells #[.slice none 0 0] 37)
  have k0 := ca.at 0 rfl; have k1 := ca.at 1 rfl; have k2 := ca.at 2 rfl
  gi_wp2_with (refine ⟨trivial, ?_⟩; gi_at_call 48)
  refine (leaving_in Fence.wide 8 trivial rfl _ s G.q G.n p G.es.length c rfl _).mono ?_
  rintro e w' ⟨rfl, rfl⟩
  gi_wp2
  obtain ⟨W0, hW0⟩ : ∃ W0, W0 = ((w1.alloc (.cells #[.slice none 0 0] 37)).alloc (.cells #[.int .i64 G.q, .int .i64 G.n, .slice p G.es.length c] 24)).alloc (.cells #[.int .i64 s] 3) := ⟨_, rfl⟩
  have a0 : VRow W0 w1.heap.size 37 [.slice none 0 0] := by subst hW0; exact ((VRow.new w1 _ _).alloc _).alloc _
  have a1 : VRow W0 (w1.heap.size + 1) 24 [.int .i64 G.q, .int .i64 G.n, .slice p G.es.length c] := by subst hW0; exact (VRow.new1 w1 _ _ _).alloc _
  have a2 : VRow W0 (w1.heap.size + 1 + 1) 3 [.int .i64 s] := by subst hW0; exact VRow.new2 w1 _ _ _ _
  have x2 : RowKit.Below w.heap.size w W0 := by subst hW0; exact ((x1.alloc x1.size _).alloc (by have := x1.size; simp; omega) _).alloc (by have := x1.size; simp; omega) _
  have hsz : W0.heap.size = w1.heap.size + 3 := by subst hW0; simp
  have hsg : SgB w1.heap.size W0 p G.es := by
    have h := SgB.of (HIN.out.below x1) (Nat.le_refl _)
    subst hW0
    exact ((h.alloc (Nat.le_refl _) _).alloc (by simp) _).alloc (by simp; omega) _
  have hz := x1.size
  rw [← hW0]
  clear hW0
  refine' wpIn_rangeFunc_ownG rfl (by omega) (gf := 70) (lb := #[.pointer (some ⟨w1.heap.size + 1, 0, none⟩), .pointer (some ⟨w1.heap.size + 1 + 1, 0, none⟩)]) rfl trivial (enters_of Tryd.func70 (by kernel_rfl) rfl)
    (leavingS_stops Fence.wide 8 trivial rfl (by omega) w1.heap.size (w1.heap.size + 1) (w1.heap.size + 1 + 1) G s p c hl W0 (by omega) a1 a2 hsg) KS.trans (KS_b (by omega) (by omega)) (RowKit.Below.refl _ _) (fun _ => rfl)
    (fun pre W => (OutI (w1.heap.size + 3) w1.heap.size (pre.map (fun x => ((x.1 : Nat) : Int))) W ∧ RowKit.Below w.heap.size w W) ∧ w1.heap.size + 3 ≤ W.heap.size)
    (fun _ _ _ => False)
    (OwnFrom.and (OwnFrom.and ((OutI.own _ _ _).from _) (ownFrom_below (Nat.le_refl _) (by omega))) (fun _ _ _ _ h hg _ => Nat.le_trans h hg.size))
    (fun _ _ _ _ _ hs _ _ => hs)
    ⟨⟨⟨_, a0, World.ownsRow_nil _ _ _ _, by simp [Value.ownBlock]⟩, x2⟩, by omega⟩
    _ ?assign ?body ?done ?stop
  case assign =>
    intro l x W K hK
    unfold encL
    gi_wp2
    exact hK
  case body =>
    rintro l pre ⟨i, x⟩ W ⟨⟨⟨v, c6, hown, hne⟩, hB⟩, hge⟩ hlen
    have hq : (pre.map (fun x => ((x.1 : Nat) : Int))).length < G.es.length := by simpa using hlen
    have HS : Hid ((pre ++ [((i, x) : Nat × Ed)]).map (fun x => ((x.1 : Nat) : Int)) = pre.map (fun x => ((x.1 : Nat) : Int)) ++ [(i : Int)]) := by simp [Hid]
    generalize pre.map (fun x => ((x.1 : Nat) : Int)) = q at *
    have d6 := c6.at 0 rfl; have z6 := c6.frozen 0
    have hnew := cell_one_at W (.int .i64 (i : Int)) 3 W.heap.size rfl
    have hb : ∀ j, v.ownBlock = some j → w1.heap.size + 3 ≤ j := fun j e => (hown.lt j e).1
    have hcl : ∀ (j : Nat) (o : Obj), v.ownBlock = some j → (W.alloc (.cells #[.int .i64 (i : Int)] 3)).heap[j]? = some o → o.isCells = true := fun j o e h => own_cells (hown.alloc _) e h
    gi_wp2_with (gi_at_builtin; refine wpListIn_append_own _ rfl _ _ 37 rfl (w1.heap.size + 3) 3 i0 (.int .i64 0) 1 8 Tryd.underlying37 hi0 hz0 hz1 hz3 rfl (by decide) _ _ _ rfl (hown.alloc _) ⟨W.heap.size, 0, none⟩ 1 1 [.int .i64 (i : Int)] rfl rfl hnew (by simp [Value.oneCell']) (by simp [maxLen]; omega) (by omega) (by simp; omega) ?_; intro v' w2 hown' hgrow _; obtain ⟨pv, mv, cv, rfl⟩ := own_shI hown'; have r6 := (c6.alloc (.cells #[.int .i64 (i : Int)] 3)).grown hgrow (fun e => hne e.symm); have s6 := r6.at 0 rfl; have t6 := r6.frozen 0)
    have hn2 : (Value.slice pv mv cv).ownBlock ≠ some w1.heap.size := fun e => by have := (hown'.lt _ e).1; omega
    refine ⟨(((KeepsOthers.alloc W _).trans (KeepsOthers.of_grownBy hgrow hcl)).trans (KeepsOthers.setCell _ _ _)).from _, fun j h1 => ?_, ⟨⟨_, VRow.set (i := 0) _ r6, ?_, hn2⟩, ?_⟩, ?_⟩
    · rw [Below.heap_setCell _ _ _ _ (show j ≠ w1.heap.size by omega), hgrow.block j (by simp; omega) (fun e => by have := hb _ e.symm; omega), Below.heap_alloc W _ j (by omega)]
    · rw [HS.out, List.length_append, List.map_append]
      exact ownsRow_setCell_below (a := ⟨w1.heap.size, 0, none⟩) hown' (show w1.heap.size < w1.heap.size + 3 by omega) _
    · exact ((hB.alloc hB.size _).grown hgrow (Nat.le_trans hB.size (by simp)) (fun j e => by have := hb _ e; omega)).setCell (show w.heap.size ≤ w1.heap.size from hz) _
    · rw [World.size_setCell]; have := hgrow.size; rw [World.size_alloc] at this; omega
  case done =>
    rintro D ys W hD' hys ⟨⟨⟨v, c6, hown, hne⟩, hB⟩, hge⟩ hK
    subst hys
    rw [lvL_out _ _ _ (Nat.le_refl _)] at hown
    generalize outI G.es s G.es.length = L at *
    obtain ⟨pv, mv, cv, rfl⟩ := own_shI hown
    have d6 := c6.at 0 rfl
    gi_wp2
    refine ⟨by simp, .inl ⟨_, _, rfl, run_takeDeferred hK, ?_⟩⟩
    refine ⟨_, results_tmp2 (t := 4) (u := 5) rfl _ _ _, ?_⟩
    exact ⟨pv, mv, cv, rfl, own_put hK (own_baseI hown (by omega)), below_put hB (by omega) hK _⟩
  case stop =>
    rintro D c pre W _ _ h _
    exact h.elim

set_option maxRecDepth 100000 in
set_option maxHeartbeats 1000000 in
theorem gOut_any (G : Gr) (p : Option Addr) (c : Nat) (s : Int) (w : World) (hin : Sg 3 w edE p G.es) (hl : G.es.length ≤ 10000) :
    Calls Tryd.prog 19 #[(.agg #[.int .i64 G.q, .int .i64 G.n, .slice p G.es.length c]), .int .i64 s] w (RetLi (outA G s).1 (outA G s).2 w) := by
  have HIN := hidI hin
  clear hin
  have b0 : VRow (w.alloc (.cells #[.int .i64 G.q, .int .i64 G.n, .slice p G.es.length c] 24)) w.heap.size 24 [.int .i64 G.q, .int .i64 G.n, .slice p G.es.length c] := VRow.new w _ _
  have hB0 : RowKit.Below w.heap.size w (w.alloc (.cells #[.int .i64 G.q, .int .i64 G.n, .slice p G.es.length c] 24)) := (RowKit.Below.refl _ _).alloc (Nat.le_refl _) _
  obtain ⟨r, hr⟩ : ∃ r, chkG G = r := ⟨_, rfl⟩
  by_cases hr0 : r = 0
  · subst hr0
    by_cases hs : s < 0 ∨ G.n ≤ s
    · have HK : Hid (outA G s = ([], 25)) := by unfold Hid outA; rw [if_pos hr, if_pos hs]
      have HR := hidI hr
      clear hr
      go_enter Tryd.func19, Tryd.ntmps19
      go_wp2_with fail
      refine (gCheck_r G p c _ 0 HR.out (HIN.out.below hB0) (by omega)).mono ?_
      rintro e w1 ⟨rfl, hB1⟩
      have x1 := hB0.trans (hB1.mono hB0.size)
      have c0 := b0.below hB1 b0.lt
      have f1 := c0.at 1 rfl
      by_cases h0 : s < 0
      · go_wp2
        go_ret2
        exact RetLi.nil HK.out x1
      · have h1 : G.n ≤ s := by omega
        go_wp2
        go_ret2
        exact RetLi.nil HK.out x1
    · have : outA G s = (outI G.es s G.es.length, 0) := by unfold outA; rw [if_pos hr, if_neg hs]
      rw [this]
      exact callsIn_wide.1 (gOut_in G p c s w HIN.out (chkG_ok.1 hr) (by omega) (by omega))
  · have HK : Hid (outA G s = ([], 1)) := by unfold Hid outA; rw [if_neg (by rw [hr]; exact hr0)]
    have hrb : (r == 0) = false := by simpa using hr0
    have HR := hidI hr
    clear hr
    go_enter Tryd.func19, Tryd.ntmps19
    go_wp2_with fail
    refine (gCheck_r G p c _ r HR.out (HIN.out.below hB0) (by omega)).mono ?_
    rintro e w1 ⟨rfl, hB1⟩
    have x1 := hB0.trans (hB1.mono hB0.size)
    go_wp2
    go_ret2
    exact RetLi.nil HK.out x1
end Go.Proofs.YtkknkbdkokdbfaaDoor
