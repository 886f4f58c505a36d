/-
  Walks: the part of a graph on a set, checked (door seat).
-/
import Derived.Test.YtkknkbdkokdbfaaDoorGn
import Derived.Test.YtkknkbdkokdbfaaDoorGs
namespace Go.Proofs.YtkknkbdkokdbfaaDoor
open Go.RowKit Go.Sort Go.Shelf Go.Lib

/-- The part on a set, and the error. -/
def keepA (G : Gr) (st : List Int) : Gr × Int := if chkG G = 0 then (if chkS G.n none st = 0 then (partA G st, 0) else (⟨0, 0, []⟩, chkS G.n none st)) else (⟨0, 0, []⟩, 1)

set_option maxRecDepth 100000 in
set_option maxHeartbeats 2000000 in
theorem gKeep_any (G : Gr) (p : Option Addr) (c : Nat) (st : List Int) (q : Option Addr) (d : Nat) (w : World) (hin : Sg 3 w edE p G.es) (hst : Sl w (Value.int .i64) q st) (hl : G.es.length ≤ 10000) (hs : st.length ≤ 100000) :
    Calls Tryd.prog 25 #[(.agg #[.int .i64 G.q, .int .i64 G.n, .slice p G.es.length c]), .slice q st.length d] w (RetGr (keepA G st).1 (keepA G st).2 w) := by
  have HIN := hidI hin; have HST := hidI hst
  clear hin hst
  obtain ⟨w0, hw0⟩ : ∃ w0, w0 = (w.alloc (.cells #[.int .i64 G.q, .int .i64 G.n, .slice p G.es.length c] 24)).alloc (.cells #[.int .i64 0, .int .i64 0, .slice none 0 0] 24) := ⟨_, rfl⟩
  have b0 : VRow w0 w.heap.size 24 [.int .i64 G.q, .int .i64 G.n, .slice p G.es.length c] := by subst hw0; exact (VRow.new w _ _).alloc _
  have b1 : VRow w0 (w.heap.size + 1) 24 [.int .i64 0, .int .i64 0, .slice none 0 0] := by subst hw0; exact VRow.new1 w _ _ _
  have hB0 : RowKit.Below w.heap.size w w0 := by subst hw0; exact ((RowKit.Below.refl _ _).alloc (Nat.le_refl _) _).alloc (by simp) _
  obtain ⟨r, hr⟩ : ∃ r, chkG G = r := ⟨_, rfl⟩
  by_cases hr0 : r = 0
  · subst hr0
    obtain ⟨r2, hr2⟩ : ∃ r2, chkS G.n none st = r2 := ⟨_, rfl⟩
    have HR := hidI hr; have HR2 := hidI hr2
    clear hr
    go_enter Tryd.func25, Tryd.ntmps25
    go_wp2_with fail
    rw [← hw0]
    clear hw0
    refine (gCheck_r G p c _ 0 HR.out (HIN.out.below hB0) (by omega)).mono ?_
    rintro e w1 ⟨rfl, hB1⟩
    have x1 := hB0.trans (hB1.mono hB0.size)
    have c0 := b0.below hB1 b0.lt
    have c1 := b1.below hB1 b1.lt
    have f0 := c0.at 0 rfl; have f1 := c0.at 1 rfl; have f2 := c0.at 2 rfl
    clear hB1
    go_wp2_with fail
    refine (gCheckSet_any G p c st q d _ (HST.out.below x1) (by omega)).mono ?_
    rw [hr2]
    rintro e w2 ⟨rfl, hB2⟩
    have x2 := x1.trans (hB2.mono x1.size)
    have d0 := c0.below hB2 c0.lt
    have d1 := c1.below hB2 c1.lt
    clear f0 f1 f2 hB2 c0 c1 b0 b1
    have f0 := d0.at 0 rfl; have f1 := d0.at 1 rfl; have f2 := d0.at 2 rfl
    have j0 := d1.at 0 rfl; have j1 := d1.at 1 rfl; have j2 := d1.at 2 rfl
    have z0 := d1.frozen 0; have z1 := d1.frozen 1; have z2 := d1.frozen 2
    by_cases h2 : r2 = 0
    · subst h2
      have HK : Hid (keepA G st = (partA G st, 0)) := by unfold Hid keepA; rw [if_pos HR.out, if_pos HR2.out]
      have hso := (chkS_ok HR2.out).1
      clear hr2
      go_wp2_with fail
      refine (gkeep_any G p c st q d _ (HIN.out.below x2) (HST.out.below x2) hl hs hso).mono ?_
      rintro e w3 ⟨p3, m3, c3, rfl, hown3, hB3⟩
      have x3 := x2.trans (hB3.mono x2.size)
      have e1 := d1.below hB3 d1.lt
      have hz : w.heap.size + 1 < w2.heap.size := d1.lt
      clear f0 f1 f2 j0 j1 j2 z0 z1 z2
      have j0 := e1.at 0 rfl; have j1 := e1.at 1 rfl; have j2 := e1.at 2 rfl
      have z0 := e1.frozen 0; have z1 := e1.frozen 1; have z2 := e1.frozen 2
      go_wp2
      have r6 := VRow.set (i := 2) (.slice p3 m3 c3) (VRow.set (i := 1) (.int .i64 (partA G st).n) (VRow.set (i := 0) (.int .i64 (partA G st).q) e1))
      have y0 := r6.at 0 rfl; have y1 := r6.at 1 rfl; have y2 := r6.at 2 rfl
      have o6 := ownsRow_setCell_below (a := (⟨w.heap.size + 1, 2, none⟩ : Addr)) (ownsRow_setCell_below (a := (⟨w.heap.size + 1, 1, none⟩ : Addr)) (ownsRow_setCell_below (a := (⟨w.heap.size + 1, 0, none⟩ : Addr)) hown3 hz (.int .i64 (partA G st).q)) hz (.int .i64 (partA G st).n)) hz (.slice p3 m3 c3)
      have x6 : RowKit.Below w.heap.size w (((w3.setCell (⟨w.heap.size + 1, 0, none⟩ : Addr) (.int .i64 (partA G st).q)).setCell (⟨w.heap.size + 1, 1, none⟩ : Addr) (.int .i64 (partA G st).n)).setCell (⟨w.heap.size + 1, 2, none⟩ : Addr) (.slice p3 m3 c3)) :=
        ((x3.setCell (show w.heap.size ≤ w.heap.size + 1 by omega) _).setCell (show w.heap.size ≤ w.heap.size + 1 by omega) _).setCell (show w.heap.size ≤ w.heap.size + 1 by omega) _
      refine bodyPost_ret (v := .tuple #[.agg #[.int .i64 (partA G st).q, .int .i64 (partA G st).n, .slice p3 m3 c3], .int .i64 0]) (by simp [results, Tryd.results25, go_sem, y0, y1, y2]) rfl ?_
      obtain ⟨p6, c6, hv, hs6, hc6, _⟩ := own_sg o6
      cases hv
      exact RetGr.of (G' := partA G st) HK.out hs6 hc6 x6
    · have HK : Hid (keepA G st = (⟨0, 0, []⟩, r2)) := by unfold Hid keepA; rw [if_pos HR.out, HR2.out, if_neg h2]
      have hrb : (r2 == 0) = false := by simpa using h2
      clear hr2
      go_wp2
      have r6 := VRow.set (i := 2) (.slice none 0 0) (VRow.set (i := 1) (.int .i64 0) (VRow.set (i := 0) (.int .i64 0) d1))
      have y0 := r6.at 0 rfl; have y1 := r6.at 1 rfl; have y2 := r6.at 2 rfl
      have x6 : RowKit.Below w.heap.size w (((w2.setCell (⟨w.heap.size + 1, 0, none⟩ : Addr) (.int .i64 0)).setCell (⟨w.heap.size + 1, 1, none⟩ : Addr) (.int .i64 0)).setCell (⟨w.heap.size + 1, 2, none⟩ : Addr) (.slice none 0 0)) :=
        ((x2.setCell (show w.heap.size ≤ w.heap.size + 1 by omega) _).setCell (show w.heap.size ≤ w.heap.size + 1 by omega) _).setCell (show w.heap.size ≤ w.heap.size + 1 by omega) _
      refine bodyPost_ret (v := .tuple #[.agg #[.int .i64 0, .int .i64 0, .slice none 0 0], .int .i64 r2]) (by simp [results, Tryd.results25, go_sem, y0, y1, y2]) rfl ?_
      exact RetGr.of (G' := ⟨0, 0, []⟩) HK.out (Sg.nil _ _ _ _) (by simp) x6
  · have HK : Hid (keepA G st = (⟨0, 0, []⟩, 1)) := by unfold Hid keepA; rw [if_neg (by rw [hr]; exact hr0)]
    have hrb : (r == 0) = false := by simpa using hr0
    have HR := hidI hr
    clear hr
    go_enter Tryd.func25, Tryd.ntmps25
    go_wp2_with fail
    rw [← hw0]
    clear hw0
    refine (gCheck_r G p c _ r HR.out (HIN.out.below hB0) (by omega)).mono ?_
    rintro e w1 ⟨rfl, hB1⟩
    have x1 := hB0.trans (hB1.mono hB0.size)
    have c1 := b1.below hB1 b1.lt
    have j0 := c1.at 0 rfl; have j1 := c1.at 1 rfl; have j2 := c1.at 2 rfl
    have z0 := c1.frozen 0; have z1 := c1.frozen 1; have z2 := c1.frozen 2
    go_wp2
    have r6 := VRow.set (i := 2) (.slice none 0 0) (VRow.set (i := 1) (.int .i64 0) (VRow.set (i := 0) (.int .i64 0) c1))
    have y0 := r6.at 0 rfl; have y1 := r6.at 1 rfl; have y2 := r6.at 2 rfl
    have x6 : RowKit.Below w.heap.size w (((w1.setCell (⟨w.heap.size + 1, 0, none⟩ : Addr) (.int .i64 0)).setCell (⟨w.heap.size + 1, 1, none⟩ : Addr) (.int .i64 0)).setCell (⟨w.heap.size + 1, 2, none⟩ : Addr) (.slice none 0 0)) :=
      ((x1.setCell (show w.heap.size ≤ w.heap.size + 1 by omega) _).setCell (show w.heap.size ≤ w.heap.size + 1 by omega) _).setCell (show w.heap.size ≤ w.heap.size + 1 by omega) _
    refine bodyPost_ret (v := .tuple #[.agg #[.int .i64 0, .int .i64 0, .slice none 0 0], .int .i64 1]) (by simp [results, Tryd.results25, go_sem, y0, y1, y2]) rfl ?_
    exact RetGr.of (G' := ⟨0, 0, []⟩) HK.out (Sg.nil _ _ _ _) (by simp) x6

set_option maxRecDepth 100000 in
set_option maxHeartbeats 2000000 in
theorem rKeep_any (G : Gr) (p : Option Addr) (c : Nat) (st : List Int) (q : Option Addr) (d : Nat) (w : World) (hin : Sg 3 w edE p G.es) (hst : Sl w (Value.int .i64) q st) (hl : G.es.length ≤ 10000) (hs : st.length ≤ 100000) :
    Calls Tryd.prog 26 #[(.agg #[.int .i64 G.q, .int .i64 G.n, .slice p G.es.length c]), .slice q st.length d] w (RetGr (keepA G st).1 (keepA G st).2 w) := by
  have HIN := hidI hin; have HST := hidI hst
  clear hin hst
  obtain ⟨w0, hw0⟩ : ∃ w0, w0 = (w.alloc (.cells #[.int .i64 G.q, .int .i64 G.n, .slice p G.es.length c] 24)).alloc (.cells #[.int .i64 0, .int .i64 0, .slice none 0 0] 24) := ⟨_, rfl⟩
  have b0 : VRow w0 w.heap.size 24 [.int .i64 G.q, .int .i64 G.n, .slice p G.es.length c] := by subst hw0; exact (VRow.new w _ _).alloc _
  have b1 : VRow w0 (w.heap.size + 1) 24 [.int .i64 0, .int .i64 0, .slice none 0 0] := by subst hw0; exact VRow.new1 w _ _ _
  have hB0 : RowKit.Below w.heap.size w w0 := by subst hw0; exact ((RowKit.Below.refl _ _).alloc (Nat.le_refl _) _).alloc (by simp) _
  obtain ⟨r, hr⟩ : ∃ r, chkG G = r := ⟨_, rfl⟩
  by_cases hr0 : r = 0
  · subst hr0
    obtain ⟨r2, hr2⟩ : ∃ r2, chkS G.n none st = r2 := ⟨_, rfl⟩
    have HR := hidI hr; have HR2 := hidI hr2
    clear hr
    go_enter Tryd.func26, Tryd.ntmps26
    go_wp2_with fail
    rw [← hw0]
    clear hw0
    refine (rCheck_r G p c _ 0 HR.out (HIN.out.below hB0) (by omega)).mono ?_
    rintro e w1 ⟨rfl, hB1⟩
    have x1 := hB0.trans (hB1.mono hB0.size)
    have c0 := b0.below hB1 b0.lt
    have c1 := b1.below hB1 b1.lt
    have f0 := c0.at 0 rfl; have f1 := c0.at 1 rfl; have f2 := c0.at 2 rfl
    clear hB1
    go_wp2_with fail
    refine (rCheckSet_any G p c st q d _ (HST.out.below x1) (by omega)).mono ?_
    rw [hr2]
    rintro e w2 ⟨rfl, hB2⟩
    have x2 := x1.trans (hB2.mono x1.size)
    have d0 := c0.below hB2 c0.lt
    have d1 := c1.below hB2 c1.lt
    clear f0 f1 f2 hB2 c0 c1 b0 b1
    have f0 := d0.at 0 rfl; have f1 := d0.at 1 rfl; have f2 := d0.at 2 rfl
    have j0 := d1.at 0 rfl; have j1 := d1.at 1 rfl; have j2 := d1.at 2 rfl
    have z0 := d1.frozen 0; have z1 := d1.frozen 1; have z2 := d1.frozen 2
    by_cases h2 : r2 = 0
    · subst h2
      have HK : Hid (keepA G st = (partA G st, 0)) := by unfold Hid keepA; rw [if_pos HR.out, if_pos HR2.out]
      have hso := (chkS_ok HR2.out).1
      clear hr2
      go_wp2_with fail
      refine (rPart_any G p c st q d _ (HIN.out.below x2) (HST.out.below x2) hl hs).mono ?_
      rintro e w3 ⟨p3, m3, c3, rfl, hown3, hB3⟩
      have x3 := x2.trans (hB3.mono x2.size)
      have e1 := d1.below hB3 d1.lt
      have hz : w.heap.size + 1 < w2.heap.size := d1.lt
      clear f0 f1 f2 j0 j1 j2 z0 z1 z2
      have j0 := e1.at 0 rfl; have j1 := e1.at 1 rfl; have j2 := e1.at 2 rfl
      have z0 := e1.frozen 0; have z1 := e1.frozen 1; have z2 := e1.frozen 2
      go_wp2
      have r6 := VRow.set (i := 2) (.slice p3 m3 c3) (VRow.set (i := 1) (.int .i64 (partA G st).n) (VRow.set (i := 0) (.int .i64 (partA G st).q) e1))
      have y0 := r6.at 0 rfl; have y1 := r6.at 1 rfl; have y2 := r6.at 2 rfl
      have o6 := ownsRow_setCell_below (a := (⟨w.heap.size + 1, 2, none⟩ : Addr)) (ownsRow_setCell_below (a := (⟨w.heap.size + 1, 1, none⟩ : Addr)) (ownsRow_setCell_below (a := (⟨w.heap.size + 1, 0, none⟩ : Addr)) hown3 hz (.int .i64 (partA G st).q)) hz (.int .i64 (partA G st).n)) hz (.slice p3 m3 c3)
      have x6 : RowKit.Below w.heap.size w (((w3.setCell (⟨w.heap.size + 1, 0, none⟩ : Addr) (.int .i64 (partA G st).q)).setCell (⟨w.heap.size + 1, 1, none⟩ : Addr) (.int .i64 (partA G st).n)).setCell (⟨w.heap.size + 1, 2, none⟩ : Addr) (.slice p3 m3 c3)) :=
        ((x3.setCell (show w.heap.size ≤ w.heap.size + 1 by omega) _).setCell (show w.heap.size ≤ w.heap.size + 1 by omega) _).setCell (show w.heap.size ≤ w.heap.size + 1 by omega) _
      refine bodyPost_ret (v := .tuple #[.agg #[.int .i64 (partA G st).q, .int .i64 (partA G st).n, .slice p3 m3 c3], .int .i64 0]) (by simp [results, Tryd.results26, go_sem, y0, y1, y2]) rfl ?_
      obtain ⟨p6, c6, hv, hs6, hc6, _⟩ := own_sg o6
      cases hv
      exact RetGr.of (G' := partA G st) HK.out hs6 hc6 x6
    · have HK : Hid (keepA G st = (⟨0, 0, []⟩, r2)) := by unfold Hid keepA; rw [if_pos HR.out, HR2.out, if_neg h2]
      have hrb : (r2 == 0) = false := by simpa using h2
      clear hr2
      go_wp2
      have r6 := VRow.set (i := 2) (.slice none 0 0) (VRow.set (i := 1) (.int .i64 0) (VRow.set (i := 0) (.int .i64 0) d1))
      have y0 := r6.at 0 rfl; have y1 := r6.at 1 rfl; have y2 := r6.at 2 rfl
      have x6 : RowKit.Below w.heap.size w (((w2.setCell (⟨w.heap.size + 1, 0, none⟩ : Addr) (.int .i64 0)).setCell (⟨w.heap.size + 1, 1, none⟩ : Addr) (.int .i64 0)).setCell (⟨w.heap.size + 1, 2, none⟩ : Addr) (.slice none 0 0)) :=
        ((x2.setCell (show w.heap.size ≤ w.heap.size + 1 by omega) _).setCell (show w.heap.size ≤ w.heap.size + 1 by omega) _).setCell (show w.heap.size ≤ w.heap.size + 1 by omega) _
      refine bodyPost_ret (v := .tuple #[.agg #[.int .i64 0, .int .i64 0, .slice none 0 0], .int .i64 r2]) (by simp [results, Tryd.results26, go_sem, y0, y1, y2]) rfl ?_
      exact RetGr.of (G' := ⟨0, 0, []⟩) HK.out (Sg.nil _ _ _ _) (by simp) x6
  · have HK : Hid (keepA G st = (⟨0, 0, []⟩, 1)) := by unfold Hid keepA; rw [if_neg (by rw [hr]; exact hr0)]
    have hrb : (r == 0) = false := by simpa using hr0
    have HR := hidI hr
    clear hr
    go_enter Tryd.func26, Tryd.ntmps26
    go_wp2_with fail
    rw [← hw0]
    clear hw0
    refine (rCheck_r G p c _ r HR.out (HIN.out.below hB0) (by omega)).mono ?_
    rintro e w1 ⟨rfl, hB1⟩
    have x1 := hB0.trans (hB1.mono hB0.size)
    have c1 := b1.below hB1 b1.lt
    have j0 := c1.at 0 rfl; have j1 := c1.at 1 rfl; have j2 := c1.at 2 rfl
    have z0 := c1.frozen 0; have z1 := c1.frozen 1; have z2 := c1.frozen 2
    go_wp2
    have r6 := VRow.set (i := 2) (.slice none 0 0) (VRow.set (i := 1) (.int .i64 0) (VRow.set (i := 0) (.int .i64 0) c1))
    have y0 := r6.at 0 rfl; have y1 := r6.at 1 rfl; have y2 := r6.at 2 rfl
    have x6 : RowKit.Below w.heap.size w (((w1.setCell (⟨w.heap.size + 1, 0, none⟩ : Addr) (.int .i64 0)).setCell (⟨w.heap.size + 1, 1, none⟩ : Addr) (.int .i64 0)).setCell (⟨w.heap.size + 1, 2, none⟩ : Addr) (.slice none 0 0)) :=
      ((x1.setCell (show w.heap.size ≤ w.heap.size + 1 by omega) _).setCell (show w.heap.size ≤ w.heap.size + 1 by omega) _).setCell (show w.heap.size ≤ w.heap.size + 1 by omega) _
    refine bodyPost_ret (v := .tuple #[.agg #[.int .i64 0, .int .i64 0, .slice none 0 0], .int .i64 1]) (by simp [results, Tryd.results26, go_sem, y0, y1, y2]) rfl ?_
    exact RetGr.of (G' := ⟨0, 0, []⟩) HK.out (Sg.nil _ _ _ _) (by simp) x6
end Go.Proofs.YtkknkbdkokdbfaaDoor
