/-
  Walks: the checks of words, of the program and of the reference.
-/
import Derived.Test.YthfgdahooigifaaProg
import Derived.Test.YthfgdahooigifaaShelf
import Derived.Test.YthfgdahooigifaaBase
import Derived.WalkKit
import Derived.WalkSpells
import Derived.WalkLawsBesides
import Derived.Deep.QuietTactic
import Derived.BigQuiet
namespace Go.Proofs.Ythfgdahooigifaa
open Go.RowKit

set_option maxHeartbeats 400000 in
theorem digit_any (c : Int) (w : World) :
    Calls Try.prog 38 #[.int .u8 c] w fun e w' => e = .returned (.int .i64 (dig c)) ∧ w = w' := by
  go_enter Try.func38, Try.ntmps38
  go_wp2
  go_loop [3] (fun i => ∃ k : Nat, k ≤ 16 ∧ i = .int .i64 k ∧ Hid (∀ j, j < k → letv j ≠ c)) (fun i => 16 - (intOf i).toNat)
  case atStart => exact ⟨0, by omega, rfl, fun _ h => by omega⟩
  case round =>
    obtain ⟨k, hk, rfl, hj⟩ := hrel
    by_cases hlt : k < 16
    · have hL := letb_get k hlt
      unfold letb at hL
      have HL := hidI hL; clear hL
      go_wp2
      · have h : _ = true := ‹(_ == c) = true›
        rw [HL.out, beq_iff_eq] at h
        go_ret
        exact ⟨ret_int (by rw [← h, dig_letv k hlt]), rfl⟩
      · have h : _ = false := ‹(_ == c) = false›
        rw [HL.out, beq_eq_false_iff_ne] at h
        go_round
        case rel => exact ⟨k + 1, by omega, by go_num, fun j hj' => by
          rcases Nat.lt_succ_iff_lt_or_eq.1 hj' with h1 | h1
          · exact hj.out j h1
          · rw [h1]; exact h⟩
        case measure => simp [intOf]; omega
    · obtain rfl : k = 16 := by omega
      go_wp2
      go_ret
      exact ⟨ret_int (dig_none c hj.out).symm, rfl⟩

set_option maxHeartbeats 400000 in
theorem check07_any (q : Int) (s : ByteArray) (w : World) (hs : s.size ≤ maxLen) :
    Calls Try.prog 28 #[.int .i64 q, .string s] w fun e w' => e = .returned (.int .i64 (wchk q s.data.toList)) ∧ w = w' := by
  unfold maxLen at hs
  have hl : s.data.toList.length = s.size := by simp
  by_cases h1 : q < 1
  · have HP := hidI (wchk_alpha q s.data.toList (.inl h1))
    go_enter Try.func28, Try.ntmps28
    go_wp2
    go_ret
    exact ⟨ret_int HP.out.symm, rfl⟩
  by_cases h2 : 16 < q
  · have HP := hidI (wchk_alpha q s.data.toList (.inr h2))
    go_enter Try.func28, Try.ntmps28
    go_wp2
    go_ret
    exact ⟨ret_int HP.out.symm, rfl⟩
  by_cases h3 : 65536 < s.size
  · have HP := hidI (wchk_long q s.data.toList (by omega) (by omega) (by omega))
    clear hl
    go_enter Try.func28, Try.ntmps28
    go_wp2
    go_ret
    exact ⟨ret_int HP.out.symm, rfl⟩
  have HB := hidI (wchk_bad q s.data.toList (by omega) (by omega) (by omega))
  have HO := hidI (wchk_ok q s.data.toList (by omega) (by omega) (by omega))
  clear hl
  go_enter Try.func28, Try.ntmps28
  go_wp2
  go_loop [5] (fun i => ∃ k : Nat, k ≤ s.size ∧ i = .int .i64 k ∧ Hid (okw q (s.data.toList.take k) = true)) (fun i => s.size - (intOf i).toNat)
  case atStart => exact ⟨0, by omega, rfl, by simp [Hid, okw]⟩
  case round =>
    obtain ⟨k, hk, rfl, hj⟩ := hrel
    by_cases hlt : k < s.size
    · have db := dig_bd s[k].toNat
      by_cases c1 : dig s[k].toNat < 0
      · have hc : okc q s[k] = false := by simp [okc]; omega
        have HC := hidI (HB.out (okw_bad q s k hlt hc)); clear hc
        go_wp2_with (go_at_call 38; refine (digit_any _ _).mono ?_; rintro e w' ⟨rfl, rfl⟩)
        go_ret
        exact ⟨ret_int HC.out.symm, rfl⟩
      by_cases c2 : q ≤ dig s[k].toNat
      · have hc : okc q s[k] = false := by simp [okc]; omega
        have HC := hidI (HB.out (okw_bad q s k hlt hc)); clear hc
        go_wp2_with (go_at_call 38; refine (digit_any _ _).mono ?_; rintro e w' ⟨rfl, rfl⟩)
        go_ret
        exact ⟨ret_int HC.out.symm, rfl⟩
      have hc : okc q s[k] = true := by simp [okc]; omega
      have HC := hidI (okw_snoc q s k hlt hj.out hc); clear hc
      go_wp2_with (go_at_call 38; refine (digit_any _ _).mono ?_; rintro e w' ⟨rfl, rfl⟩)
      go_round
      case rel => exact ⟨k + 1, by omega, by go_num, HC⟩
      case measure => simp [intOf]; omega
    · have HP := hidI (HO.out (okw_of_take q _ k (by simp; omega) hj.out))
      go_wp2
      go_ret
      exact ⟨ret_int HP.out.symm, rfl⟩

set_option maxHeartbeats 400000 in
theorem known_t (q : Int) (w : World) (h1 : 1 ≤ q) (h2 : q ≤ 16) :
    Calls Try.prog 36 #[.int .i64 q] w fun e w' => e = .returned (.bool true) ∧ w = w' := by
  go_enter Try.func36, Try.ntmps36
  go_wp2
  go_ret
  exact ⟨rfl, rfl⟩

set_option maxHeartbeats 400000 in
theorem known_f (q : Int) (w : World) (h : q < 1 ∨ 16 < q) :
    Calls Try.prog 36 #[.int .i64 q] w fun e w' => e = .returned (.bool false) ∧ w = w' := by
  by_cases h1 : 1 ≤ q
  · have h2 : 16 < q := by omega
    go_enter Try.func36, Try.ntmps36
    go_wp2
    go_ret
    exact ⟨ret_bool (by simp; omega), rfl⟩
  · go_enter Try.func36, Try.ntmps36
    go_wp2
    go_ret
    exact ⟨rfl, rfl⟩

set_option maxHeartbeats 400000 in
theorem wcheck_any (q : Int) (s : ByteArray) (w : World) (hs : s.size ≤ maxLen) :
    Calls Try.prog 27 #[.int .i64 q, .string s] w fun e w' => e = .returned (.int .i64 (wchk q s.data.toList)) ∧ Dr w w' := by
  unfold maxLen at hs
  have hl : s.data.toList.length = s.size := by simp
  by_cases h1 : q < 1
  · have HP := hidI (wchk_alpha q s.data.toList (.inl h1))
    go_enter Try.func27, Try.ntmps27
    go_wp2_with (go_at_call 36; refine (known_f _ _ (.inl h1)).mono ?_; rintro e w' ⟨rfl, rfl⟩)
    go_ret
    exact ⟨ret_int HP.out.symm, Dr.refl _⟩
  by_cases h2 : 16 < q
  · have HP := hidI (wchk_alpha q s.data.toList (.inr h2))
    go_enter Try.func27, Try.ntmps27
    go_wp2_with (go_at_call 36; refine (known_f _ _ (.inr h2)).mono ?_; rintro e w' ⟨rfl, rfl⟩)
    go_ret
    exact ⟨ret_int HP.out.symm, Dr.refl _⟩
  by_cases h3 : 65536 < s.size
  · have HP := hidI (wchk_long q s.data.toList (by omega) (by omega) (by omega))
    clear hl
    go_enter Try.func27, Try.ntmps27
    go_wp2_with (go_at_call 36; refine (known_t _ _ (by omega) (by omega)).mono ?_; rintro e w' ⟨rfl, rfl⟩)
    go_ret
    exact ⟨ret_int HP.out.symm, Dr.refl _⟩
  have HB := hidI (wchk_bad q s.data.toList (by omega) (by omega) (by omega))
  have HO := hidI (wchk_ok q s.data.toList (by omega) (by omega) (by omega))
  clear hl
  go_enter Try.func27, Try.ntmps27
  go_wp2_with (go_at_call 36; refine (known_t _ _ (by omega) (by omega)).mono ?_; rintro e w' ⟨rfl, rfl⟩)
  go_loopw [16] (fun i wr => ∃ k : Nat, k ≤ s.size ∧ i = .int .i64 k ∧ Hid (okw q (s.data.toList.take k) = true) ∧ Dr w wr) (fun i _ => s.size - (intOf i).toNat)
  case atStart => exact ⟨0, by omega, rfl, by simp [Hid, okw], Dr.refl _⟩
  case round =>
    obtain ⟨k, hk, rfl, hj, hD⟩ := hrel
    by_cases hlt : k < s.size
    · go_wp2_with fail
      have hq0 : 0 ≤ q := by omega
      have hq0' : 1 ≤ q := by omega
      have hq16 : q ≤ 16 := by omega
      go_quiet ((go_at_call 37; exact Calls.quiet_of_same (Try.strings_IndexByte _ _ _)))
      go_wp2
      · have hc := idx_lt q s[k] hq0' hq16 ‹_›
        go_ret
        exact ⟨ret_int (HB.out (okw_bad q s k hlt hc)).symm, hD.one _⟩
      · have hc := idx_ge q s[k] hq0' hq16 ‹_›
        go_roundw
        case rel => exact ⟨k + 1, by omega, by go_num, okw_snoc q s k hlt hj.out hc, hD.one _⟩
        case measure => simp [intOf]; omega
    · have HP := hidI (HO.out (okw_of_take q _ k (by simp; omega) hj.out))
      go_wp2
      go_ret
      exact ⟨ret_int HP.out.symm, hD⟩
end Go.Proofs.Ythfgdahooigifaa
