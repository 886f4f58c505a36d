/-
  Walks: the states that a step from a set reaches, of the program: every input (door seat).
-/
import Derived.Test.YtkknkbdkokdbfaaDoorHy
import Derived.Test.YtkknkbdkokdbfaaDoorPa
namespace Go.Proofs.YtkknkbdkokdbfaaDoor
open Go.RowKit Go.Sort Go.Shelf Go.Lib

set_option maxRecDepth 100000 in
set_option maxHeartbeats 2000000 in
theorem gStep_any (G : Gr) (p : Option Addr) (c : Nat) (st : List Int) (q : Option Addr) (d : Nat) (b : Int) (w : World) (hin : Sg 3 w edE p G.es) (hst : Sl w (Value.int .i64) q st) (hl : G.es.length ≤ 10000) (hs : st.length ≤ 100000) :
    Calls Tryd.prog 21 #[(.agg #[.int .i64 G.q, .int .i64 G.n, .slice p G.es.length c]), .slice q st.length d, .int .i64 b] w (RetLi (stepA G st b).1 (stepA G st b).2 w) := by
  have HIN := hidI hin; have HST := hidI hst
  clear hin hst
  obtain ⟨w0, hw0⟩ : ∃ w0, w0 = (w.alloc (.cells #[.int .i64 G.q, .int .i64 G.n, .slice p G.es.length c] 24)).alloc (.cells #[.int .i64 b] 3) := ⟨_, rfl⟩
  have b0 : VRow w0 w.heap.size 24 [.int .i64 G.q, .int .i64 G.n, .slice p G.es.length c] := by subst hw0; exact (VRow.new w _ _).alloc _
  have b1 : VRow w0 (w.heap.size + 1) 3 [.int .i64 b] := by subst hw0; exact VRow.new1 w _ _ _
  have hB0 : RowKit.Below w.heap.size w w0 := by subst hw0; exact ((RowKit.Below.refl _ _).alloc (Nat.le_refl _) _).alloc (by simp) _
  obtain ⟨r, hr⟩ : ∃ r, chkG G = r := ⟨_, rfl⟩
  by_cases hr0 : r = 0
  · subst hr0
    obtain ⟨r2, hr2⟩ : ∃ r2, chkS G.n none st = r2 := ⟨_, rfl⟩
    by_cases hok : r2 = 0 ∧ 0 ≤ b ∧ b < G.q
    · obtain ⟨rfl, h0, h1⟩ := hok
      have hv := chkG_ok.1 hr
      have : stepA G st b = (nextA G st b, 0) := by unfold stepA; rw [if_pos hr, if_pos hr2, if_neg (by omega)]
      rw [this]
      have hso := chkS_ok hr2
      have hlen := (St.mk hso.1 hso.2.1 : St G.n st).len hv.n1
      exact callsIn_wide.1 (gStep_in G p c st q d b w HIN.out HST.out hv (by have := hv.n2; omega) hr2 h0 h1)
    · have HR := hidI hr; have HR2 := hidI hr2
      clear hr
      go_enter Tryd.func21, Tryd.ntmps21
      go_wp2_with fail
      rw [← hw0]
      clear hw0
      refine (gCheck_r G p c _ 0 HR.out (HIN.out.below hB0) (by omega)).mono ?_
      rintro e w1 ⟨rfl, hB1⟩
      have x1 := hB0.trans (hB1.mono hB0.size)
      have c0 := b0.below hB1 b0.lt
      have c1 := b1.below hB1 b1.lt
      clear hB1 hB0 b0 b1
      have f0 := c0.at 0 rfl; have f1 := c0.at 1 rfl; have f2 := c0.at 2 rfl
      go_wp2_with fail
      refine (gCheckSet_any G p c st q d _ (HST.out.below x1) (by omega)).mono ?_
      rw [hr2]
      rintro e w2 ⟨rfl, hB2⟩
      have x2 := x1.trans (hB2.mono x1.size)
      have d0 := c0.below hB2 c0.lt
      have d1 := c1.below hB2 c1.lt
      clear f0 f1 f2 hB2 c0 c1
      have f0 := d0.at 0 rfl; have g0 := d1.at 0 rfl
      by_cases h2 : r2 = 0
      · subst h2
        clear hr2
        by_cases h0 : b < 0
        · have HK : Hid (stepA G st b = ([], 2)) := by unfold Hid stepA; rw [if_pos HR.out, if_pos HR2.out, if_pos (.inl h0)]
          go_wp2
          go_ret2
          exact RetLi.nil HK.out x2
        · have h1 : G.q ≤ b := by omega
          have HK : Hid (stepA G st b = ([], 2)) := by unfold Hid stepA; rw [if_pos HR.out, if_pos HR2.out, if_pos (.inr h1)]
          go_wp2
          go_ret2
          exact RetLi.nil HK.out x2
      · have HK : Hid (stepA G st b = ([], r2)) := by unfold Hid stepA; rw [if_pos HR.out, HR2.out, if_neg h2]
        have hrb : (r2 == 0) = false := by simpa using h2
        clear hr2 hok
        go_wp2
        go_ret2
        exact RetLi.nil HK.out x2
  · have HK : Hid (stepA G st b = ([], 1)) := by unfold Hid stepA; rw [if_neg (by rw [hr]; exact hr0)]
    have hrb : (r == 0) = false := by simpa using hr0
    have HR := hidI hr
    clear hr
    go_enter Tryd.func21, Tryd.ntmps21
    go_wp2_with fail
    rw [← hw0]
    clear hw0
    refine (gCheck_r G p c _ r HR.out (HIN.out.below hB0) (by omega)).mono ?_
    rintro e w1 ⟨rfl, hB1⟩
    have x1 := hB0.trans (hB1.mono hB0.size)
    go_wp2
    go_ret2
    exact RetLi.nil HK.out x1
end Go.Proofs.YtkknkbdkokdbfaaDoor
