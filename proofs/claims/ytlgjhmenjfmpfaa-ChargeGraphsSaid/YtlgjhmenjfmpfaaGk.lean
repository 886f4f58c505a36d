/-
  Walks: graphs made of edges in any order, of the reference.
-/
import Derived.Test.YtlgjhmenjfmpfaaGj
namespace Go.Proofs.Ytlgjhmenjfmpfaa
open Go.RowKit Go.Sort Go.Shelf Go.Lib

set_option maxRecDepth 100000 in
set_option maxHeartbeats 1000000 in
theorem rMake_any (q n : Int) (l : List Ed) (p : Option Addr) (c : Nat) (w : World) (hin : Sg 3 w edE p l) (hl : l.length ≤ 10000) :
    Calls Try.prog 24 #[.int .i64 q, .int .i64 n, .slice p l.length c] w (RetGr (makeA q n l).1 (makeA q n l).2 w) := by
  have hB0 : Below w.heap.size w (w.alloc (.cells #[.int .i64 0, .int .i64 0, .slice none 0 0] 24)) := (Below.refl _ _).alloc (Nat.le_refl _) _
  have b0 : VRow (w.alloc (.cells #[.int .i64 0, .int .i64 0, .slice none 0 0] 24)) w.heap.size 24 [.int .i64 0, .int .i64 0, .slice none 0 0] := VRow.new w _ _
  go_enter Try.func24, Try.ntmps24
  go_wp2_with fail
  refine (rSorted_any l p c _ (hin.below hB0) hl).mono ?_
  rintro e w4 ⟨v4, rfl, hown4, hB4⟩
  have hz0 : w.heap.size < (w.alloc (.cells #[.int .i64 0, .int .i64 0, .slice none 0 0] 24)).heap.size := b0.lt
  have x4 := hB0.trans (hB4.mono hB0.size)
  have b4 := b0.below hB4 b0.lt
  clear hB4 hB0 b0
  generalize (w.alloc (.cells #[.int .i64 0, .int .i64 0, .slice none 0 0] 24)).heap.size = B at *
  obtain ⟨p4, c4, rfl, hs4, hc4, _⟩ := own_sg hown4
  have f0 := b4.at 0 rfl; have f1 := b4.at 1 rfl; have f2 := b4.at 2 rfl
  have hfz := fun j => b4.frozen j
  have hz4 := b4.lt
  have hw5 : Sg 3 (w4.alloc (.cells #[.int .i64 (⟨q, n, norm l⟩ : Gr).q, .int .i64 (⟨q, n, norm l⟩ : Gr).n, .slice p4 (⟨q, n, norm l⟩ : Gr).es.length c4] 24)) edE p4 (norm l) := hs4.below ((Below.refl _ _).alloc (Nat.le_refl _) _)
  have hln : (norm l).length ≤ 100000 := by
    have := norm_len l l.length (Nat.le_refl _); rw [List.take_length] at this; omega
  obtain ⟨r, hr⟩ : ∃ r, chkG ⟨q, n, norm l⟩ = r := ⟨_, rfl⟩
  have b4' : VRow (w4.alloc (.cells #[.int .i64 (⟨q, n, norm l⟩ : Gr).q, .int .i64 (⟨q, n, norm l⟩ : Gr).n, .slice p4 (⟨q, n, norm l⟩ : Gr).es.length c4] 24)) w.heap.size 24 [.int .i64 0, .int .i64 0, .slice none 0 0] := b4.alloc _
  have c4' : VRow (w4.alloc (.cells #[.int .i64 (⟨q, n, norm l⟩ : Gr).q, .int .i64 (⟨q, n, norm l⟩ : Gr).n, .slice p4 (⟨q, n, norm l⟩ : Gr).es.length c4] 24)) w4.heap.size 24 [.int .i64 (⟨q, n, norm l⟩ : Gr).q, .int .i64 (⟨q, n, norm l⟩ : Gr).n, .slice p4 (⟨q, n, norm l⟩ : Gr).es.length c4] := VRow.new w4 _ _
  have x4' := x4.alloc x4.size (.cells #[.int .i64 (⟨q, n, norm l⟩ : Gr).q, .int .i64 (⟨q, n, norm l⟩ : Gr).n, .slice p4 (⟨q, n, norm l⟩ : Gr).es.length c4] 24)
  have hL : Hid ((norm l).length ≤ c4) := hc4
  by_cases hr0 : r = 0
  · subst hr0
    have HR := hidI (makeA_ok hr)
    go_wp2_with fail
    refine (rCheck_r ⟨q, n, norm l⟩ p4 c4 _ 0 hr hw5 (by show (norm l).length ≤ _; omega)).mono ?_
    rintro e w5 ⟨rfl, hB5⟩
    have x5 := x4'.trans (hB5.mono x4'.size)
    have b5 := b4'.below hB5 b4'.lt
    have c5 := c4'.below hB5 c4'.lt
    have o5 := (hown4.alloc (.cells #[.int .i64 (⟨q, n, norm l⟩ : Gr).q, .int .i64 (⟨q, n, norm l⟩ : Gr).n, .slice p4 (⟨q, n, norm l⟩ : Gr).es.length c4] 24)).below hB5
    have g0 := c5.at 0 rfl; have g1 := c5.at 1 rfl; have g2 := c5.at 2 rfl
    have k0 := b5.at 0 rfl; have k1 := b5.at 1 rfl; have k2 := b5.at 2 rfl
    have z0 := b5.frozen 0; have z1 := b5.frozen 1; have z2 := b5.frozen 2
    clear f0 f1 f2 hfz hr
    go_wp2
    have r6 := VRow.set (i := 2) (.slice p4 (norm l).length c4) (VRow.set (i := 1) (.int .i64 n) (VRow.set (i := 0) (.int .i64 q) b5))
    have y0 := r6.at 0 rfl; have y1 := r6.at 1 rfl; have y2 := r6.at 2 rfl
    have o6 := ownsRow_setCell_below (a := ⟨w.heap.size, 2, none⟩) (ownsRow_setCell_below (a := ⟨w.heap.size, 1, none⟩) (ownsRow_setCell_below (a := ⟨w.heap.size, 0, none⟩) o5 hz0 (.int .i64 q)) hz0 (.int .i64 n)) hz0 (.slice p4 (norm l).length c4)
    have x6 : Below w.heap.size w (((w5.setCell ⟨w.heap.size, 0, none⟩ (.int .i64 q)).setCell ⟨w.heap.size, 1, none⟩ (.int .i64 n)).setCell ⟨w.heap.size, 2, none⟩ (.slice p4 (norm l).length c4)) := ((x5.setCell (Nat.le_refl _) _).setCell (Nat.le_refl _) _).setCell (Nat.le_refl _) _
    refine bodyPost_ret (v := .tuple #[.agg #[.int .i64 q, .int .i64 n, .slice p4 (norm l).length c4], .int .i64 0]) (by simp [results, Try.results24, go_sem, y0, y1, y2]) rfl ?_
    obtain ⟨p6, c6, hv, hs6, _, _⟩ := own_sg o6
    cases hv
    exact RetGr.of HR.out hs6 hL.out x6
  · have hrb : (r == 0) = false := by simpa using hr0
    have HR := hidI (makeA_bad (by rw [hr]; exact hr0))
    rw [hr] at HR
    go_wp2_with fail
    refine (rCheck_r ⟨q, n, norm l⟩ p4 c4 _ r hr hw5 (by show (norm l).length ≤ _; omega)).mono ?_
    rintro e w5 ⟨rfl, hB5⟩
    have x5 := x4'.trans (hB5.mono x4'.size)
    have b5 := b4'.below hB5 b4'.lt
    have o5 := (hown4.alloc (.cells #[.int .i64 (⟨q, n, norm l⟩ : Gr).q, .int .i64 (⟨q, n, norm l⟩ : Gr).n, .slice p4 (⟨q, n, norm l⟩ : Gr).es.length c4] 24)).below hB5
    have k0 := b5.at 0 rfl; have k1 := b5.at 1 rfl; have k2 := b5.at 2 rfl
    have z0 := b5.frozen 0; have z1 := b5.frozen 1; have z2 := b5.frozen 2
    clear f0 f1 f2 hfz hr
    go_wp2
    have r6 := VRow.set (i := 2) (.slice none 0 0) (VRow.set (i := 1) (.int .i64 0) (VRow.set (i := 0) (.int .i64 0) b5))
    have y0 := r6.at 0 rfl; have y1 := r6.at 1 rfl; have y2 := r6.at 2 rfl
    have o6 := ownsRow_setCell_below (a := ⟨w.heap.size, 2, none⟩) (ownsRow_setCell_below (a := ⟨w.heap.size, 1, none⟩) (ownsRow_setCell_below (a := ⟨w.heap.size, 0, none⟩) o5 hz0 (.int .i64 0)) hz0 (.int .i64 0)) hz0 (.slice none 0 0)
    have x6 : Below w.heap.size w (((w5.setCell ⟨w.heap.size, 0, none⟩ (.int .i64 0)).setCell ⟨w.heap.size, 1, none⟩ (.int .i64 0)).setCell ⟨w.heap.size, 2, none⟩ (.slice none 0 0)) := ((x5.setCell (Nat.le_refl _) _).setCell (Nat.le_refl _) _).setCell (Nat.le_refl _) _
    refine bodyPost_ret (v := .tuple #[.agg #[.int .i64 0, .int .i64 0, .slice none 0 0], .int .i64 r]) (by simp [results, Try.results24, go_sem, y0, y1, y2]) rfl ?_
    exact RetGr.of (G' := ⟨0, 0, []⟩) HR.out (Sg.nil _ _ _ _) (by simp) x6
end Go.Proofs.Ytlgjhmenjfmpfaa
