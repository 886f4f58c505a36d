/-
  Walks: the states that are reached from a set by a label, of the reference (door seat).
-/
import Derived.Test.YtkknkbdkokdbfaaDoorGy
import Derived.Test.YtkknkbdkokdbfaaDoorGs
namespace Go.Proofs.YtkknkbdkokdbfaaDoor
open Go.RowKit Go.Sort Go.Shelf Go.Lib

/-- The states that are reached from a set by a label, and the error. -/
def stepA (G : Gr) (st : List Int) (b : Int) : List Int × Int := if chkG G = 0 then (if chkS G.n none st = 0 then (if b < 0 ∨ G.q ≤ b then ([], 2) else (nextA G st b, 0)) else ([], chkS G.n none st)) else ([], 1)

set_option maxRecDepth 100000 in
set_option maxHeartbeats 2000000 in
theorem rStep_any (G : Gr) (p : Option Addr) (c : Nat) (st : List Int) (q : Option Addr) (d : Nat) (b : Int) (w : World) (hin : Sg 3 w edE p G.es) (hst : Sl w (Value.int .i64) q st) (hl : G.es.length ≤ 10000) (hs : st.length ≤ 100000) :
    Calls Tryd.prog 22 #[(.agg #[.int .i64 G.q, .int .i64 G.n, .slice p G.es.length c]), .slice q st.length d, .int .i64 b] w (RetLi (stepA G st b).1 (stepA G st b).2 w) := by
  have HIN := hidI hin; have HST := hidI hst
  clear hin hst
  have b0 : VRow (w.alloc (.cells #[.int .i64 G.q, .int .i64 G.n, .slice p G.es.length c] 24)) w.heap.size 24 [.int .i64 G.q, .int .i64 G.n, .slice p G.es.length c] := VRow.new w _ _
  have hB0 : RowKit.Below w.heap.size w (w.alloc (.cells #[.int .i64 G.q, .int .i64 G.n, .slice p G.es.length c] 24)) := (RowKit.Below.refl _ _).alloc (Nat.le_refl _) _
  obtain ⟨r, hr⟩ : ∃ r, chkG G = r := ⟨_, rfl⟩
  by_cases hr0 : r = 0
  · subst hr0
    obtain ⟨r2, hr2⟩ : ∃ r2, chkS G.n none st = r2 := ⟨_, rfl⟩
    have HR := hidI hr; have HR2 := hidI hr2
    clear hr
    go_enter Tryd.func22, Tryd.ntmps22
    go_wp2_with fail
    refine (rCheck_r G p c _ 0 HR.out (HIN.out.below hB0) (by omega)).mono ?_
    rintro e w1 ⟨rfl, hB1⟩
    have x1 := hB0.trans (hB1.mono hB0.size)
    have c0 := b0.below hB1 b0.lt
    clear hB1 hB0 b0
    have f0 := c0.at 0 rfl; have f1 := c0.at 1 rfl; have f2 := c0.at 2 rfl
    go_wp2_with fail
    refine (rCheckSet_any G p c st q d _ (HST.out.below x1) (by omega)).mono ?_
    rw [hr2]
    rintro e w2 ⟨rfl, hB2⟩
    have x2 := x1.trans (hB2.mono x1.size)
    have d0 := c0.below hB2 c0.lt
    clear f0 f1 f2 hB2 c0
    have f0 := d0.at 0 rfl; have f1 := d0.at 1 rfl; have f2 := d0.at 2 rfl
    by_cases h2 : r2 = 0
    · subst h2
      clear hr2
      by_cases h0 : b < 0
      · have HK : Hid (stepA G st b = ([], 2)) := by unfold Hid stepA; rw [if_pos HR.out, if_pos HR2.out, if_pos (.inl h0)]
        go_wp2
        go_ret2
        exact RetLi.nil HK.out x2
      · by_cases h1 : G.q ≤ b
        · have HK : Hid (stepA G st b = ([], 2)) := by unfold Hid stepA; rw [if_pos HR.out, if_pos HR2.out, if_pos (.inr h1)]
          go_wp2
          go_ret2
          exact RetLi.nil HK.out x2
        · have HK : Hid (stepA G st b = (nextA G st b, 0)) := by unfold Hid stepA; rw [if_pos HR.out, if_pos HR2.out, if_neg (by omega)]
          have hv := chkG_ok.1 HR.out
          have hn0 := hv.n1
          have hn1 := hv.n2
          have hx := x2.size
          go_wp2_with fail
          refine (rNext_any G p c st q d b _ (HIN.out.below x2) (HST.out.below x2) hl hs hn0 (by omega)).mono ?_
          rintro e w3 ⟨p3, m3, c3, rfl, hown3, hB3⟩
          go_wp2
          go_ret2
          exact RetLi.of (m := 0) HK.out hown3 hx (x2.trans (hB3.mono x2.size))
    · have HK : Hid (stepA G st b = ([], r2)) := by unfold Hid stepA; rw [if_pos HR.out, HR2.out, if_neg h2]
      have hrb : (r2 == 0) = false := by simpa using h2
      clear hr2
      go_wp2
      go_ret2
      exact RetLi.nil HK.out x2
  · have HK : Hid (stepA G st b = ([], 1)) := by unfold Hid stepA; rw [if_neg (by rw [hr]; exact hr0)]
    have hrb : (r == 0) = false := by simpa using hr0
    have HR := hidI hr
    clear hr
    go_enter Tryd.func22, Tryd.ntmps22
    go_wp2_with fail
    refine (rCheck_r G p c _ r HR.out (HIN.out.below hB0) (by omega)).mono ?_
    rintro e w1 ⟨rfl, hB1⟩
    have x1 := hB0.trans (hB1.mono hB0.size)
    go_wp2
    go_ret2
    exact RetLi.nil HK.out x1
end Go.Proofs.YtkknkbdkokdbfaaDoor
