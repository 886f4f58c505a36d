/-
  Walks: the examples of the chapter.
-/
import Derived.Test.YtlgjhmenjfmpfaaChWf
import Derived.Test.YtlgjhmenjfmpfaaChWg
import Derived.Test.YtlgjhmenjfmpfaaChWh
import Derived.Test.YtlgjhmenjfmpfaaChWq
namespace Go.Proofs.Ytlgjhmenjfmpfaa.Chg
open Go.RowKit

theorem ex1 : vld false 63 2 ⟨#[49, 49, 48, 49]⟩ = (true, 0) := by decide +kernel
theorem ex2 : vld false 63 1 ⟨#[49, 49, 48, 49]⟩ = (false, 0) := by decide +kernel
theorem ex3 : polErr 0 [⟨#[49, 49]⟩, ⟨#[49, 48]⟩, ⟨#[49, 49]⟩] = 0 ∧ polR 0 [⟨#[49, 49]⟩, ⟨#[49, 48]⟩, ⟨#[49, 49]⟩] = [false, false, true] := by decide +kernel
theorem ex4 : blc 6 = (20, 0) := by decide +kernel
theorem ex5 : spe 1 ⟨#[49, 49, 48, 48]⟩ = (2, 2, 0) := by decide +kernel
theorem ex6 : ∀ j (hj : j < ([⟨#[49, 49]⟩, ⟨#[49, 48]⟩, ⟨#[49, 49]⟩] : List ByteArray).length), ([⟨#[49, 49]⟩, ⟨#[49, 48]⟩, ⟨#[49, 49]⟩] : List ByteArray)[j].size ≤ maxLen := by decide +kernel
theorem sl_new {α : Type} (w : World) (t : Nat) (enc : α → Value) (l : List α) : Sl (w.alloc (.cells (l.map enc).toArray t)) enc (some ⟨w.heap.size, 0, none⟩) l := by
  refine .inr ⟨w.heap.size, 0, rfl, by simp, fun i hi => ?_⟩
  rw [(VRow.new w t (l.map enc)).cell (0 + i), Nat.zero_add]
  simp [hi]
theorem polR_len (x : Int) (l : List ByteArray) (h : l.length ≤ 9223372036854775807) : (polR x l).length ≤ 9223372036854775807 := by
  unfold polR; split
  · rw [polS_len]; exact h
  · simp
theorem small_len (s : ByteArray) (h : s.size ≤ 100) : s.size ≤ maxLen := by unfold maxLen; omega

set_option maxRecDepth 100000 in
set_option maxHeartbeats 1000000 in
theorem awake_any (w : World) : Calls Try.prog 14 #[] w fun e w' => e = .returned (.bool true) ∧ Below w.heap.size w w' := by
  go_enter Try.func14, Try.ntmps14
  go_wp2_with fail
  refine (valid_any 2 ⟨#[49, 49, 48, 49]⟩ _ (small_len _ (by decide))).mono ?_
  rintro e w1 ⟨rfl, hB1⟩
  rw [ex1]
  go_wp2_with fail
  refine (valid_any 1 ⟨#[49, 49, 48, 49]⟩ _ (small_len _ (by decide))).mono ?_
  rintro e w2 ⟨rfl, hB2⟩
  rw [ex2]
  go_wp2_with fail
  refine (polar_any [⟨#[49, 49]⟩, ⟨#[49, 48]⟩, ⟨#[49, 49]⟩] _ 3 0 _ (by decide) (sl_new w2 9 Value.string [⟨#[49, 49]⟩, ⟨#[49, 48]⟩, ⟨#[49, 49]⟩]) ex6).mono ?_
  rintro e w3 ⟨q, d, rfl, hs3, hB3⟩
  rw [ex3.1]
  rw [ex3.2] at hs3 ⊢
  go_wp2_with fail
  refine (balanced_any 6 _).mono ?_
  rintro e w' ⟨rfl, rfl⟩
  rw [ex4]
  go_wp2_with fail
  refine (spectrum_any 1 ⟨#[49, 49, 48, 48]⟩ _ (small_len _ (by decide))).mono ?_
  rintro e w4 ⟨rfl, hB4⟩
  rw [ex5]
  have hs4 := hs3.below hB4
  go_wp2_with fail
  refine (equalB_any [false, false, true] [false, false, true] _ _ d 3 _ (hs4.below ((Below.refl _ _).alloc (Nat.le_refl _) _)) (sl_new w4 4 Value.bool [false, false, true]) (by decide) (by decide)).mono ?_
  rintro e w5 ⟨rfl, hD5⟩
  rw [show decide (([false, false, true] : List Bool) = [false, false, true]) = true from rfl]
  go_wp2
  go_ret
  refine ⟨rfl, hB1.trans ((hB2.mono hB1.size).trans (Below.trans (b := w2.alloc (.cells #[.string ⟨#[49, 49]⟩, .string ⟨#[49, 48]⟩, .string ⟨#[49, 49]⟩] 9)) ((Below.refl _ _).alloc (Nat.le_trans hB1.size hB2.size) _) ?_))⟩
  have h12 : w.heap.size ≤ w2.heap.size := Nat.le_trans hB1.size hB2.size
  have h3 : w.heap.size ≤ w3.heap.size := Nat.le_trans h12 (Nat.le_trans (by simp) hB3.size)
  have h4 : w.heap.size ≤ w4.heap.size := Nat.le_trans h3 hB4.size
  refine (hB3.mono (Nat.le_trans h12 (by simp))).trans ((hB4.mono h3).trans (Below.trans (b := w4.alloc (.cells #[.bool false, .bool false, .bool true] 4)) ((Below.refl _ _).alloc h4 _) (hD5.below _)))

end Go.Proofs.Ytlgjhmenjfmpfaa.Chg
