/-
  Walks: the letters and the checks of words; the disparity and the range of the reference.
-/
import Derived.Test.YtccdocnaijdcnaaProg
import Derived.Test.YtccdocnaijdcnaaPlain
import Derived.WalkKit
import Derived.WalkSpells
import Derived.WalkLawsBesides
import Derived.Deep.QuietTactic
import Derived.BigQuiet
namespace Go.Proofs.Ytccdocnaijdcnaa
open Go.RowKit

set_option maxHeartbeats 400000 in
theorem value_any (c : Int) (w : World) :
    Calls Try.prog 34 #[.int .u8 c] w fun e w' => e = .returned (.int .i64 (val1 c)) ∧ w = w' := by
  go_enter Try.func34, Try.ntmps34
  go_wp2
  all_goals go_ret
  · exact ⟨ret_int (val1_t c ‹_›).symm, rfl⟩
  · exact ⟨ret_int (val1_f c ‹_›).symm, rfl⟩

set_option maxHeartbeats 400000 in
theorem digit_any (c : Int) (w : World) :
    Calls Try.prog 40 #[.int .u8 c] w fun e w' => e = .returned (.int .i64 (dig c)) ∧ w = w' := by
  go_enter Try.func40, Try.ntmps40
  go_wp2
  go_loop [3] (fun i => ∃ k : Nat, k ≤ 16 ∧ i = .int .i64 k ∧ Hid (∀ j, j < k → letv j ≠ c)) (fun i => 16 - (intOf i).toNat)
  case atStart => exact ⟨0, by omega, rfl, fun _ h => by omega⟩
  case round =>
    obtain ⟨k, hk, rfl, hj⟩ := hrel
    by_cases hlt : k < 16
    · have hL := letb_get k hlt
      unfold letb at hL
      have HL := hidI hL; clear hL
      go_wp2
      · have h : _ = true := ‹(_ == c) = true›
        rw [HL.out, beq_iff_eq] at h
        go_ret
        exact ⟨ret_int (by rw [← h, dig_letv k hlt]), rfl⟩
      · have h : _ = false := ‹(_ == c) = false›
        rw [HL.out, beq_eq_false_iff_ne] at h
        go_round
        case rel => exact ⟨k + 1, by omega, by go_num, fun j hj' => by
          rcases Nat.lt_succ_iff_lt_or_eq.1 hj' with h1 | h1
          · exact hj.out j h1
          · rw [h1]; exact h⟩
        case measure => simp [intOf]; omega
    · obtain rfl : k = 16 := by omega
      go_wp2
      go_ret
      exact ⟨ret_int (dig_none c hj.out).symm, rfl⟩

set_option maxHeartbeats 400000 in
theorem check07_any (q : Int) (s : ByteArray) (w : World) (hs : s.size ≤ maxLen) :
    Calls Try.prog 30 #[.int .i64 q, .string s] w fun e w' => e = .returned (.int .i64 (wchk q s.data.toList)) ∧ w = w' := by
  unfold maxLen at hs
  have hl : s.data.toList.length = s.size := by simp
  by_cases h1 : q < 1
  · have HP := hidI (wchk_alpha q s.data.toList (.inl h1))
    go_enter Try.func30, Try.ntmps30
    go_wp2
    go_ret
    exact ⟨ret_int HP.out.symm, rfl⟩
  by_cases h2 : 16 < q
  · have HP := hidI (wchk_alpha q s.data.toList (.inr h2))
    go_enter Try.func30, Try.ntmps30
    go_wp2
    go_ret
    exact ⟨ret_int HP.out.symm, rfl⟩
  by_cases h3 : 65536 < s.size
  · have HP := hidI (wchk_long q s.data.toList (by omega) (by omega) (by omega))
    clear hl
    go_enter Try.func30, Try.ntmps30
    go_wp2
    go_ret
    exact ⟨ret_int HP.out.symm, rfl⟩
  have HB := hidI (wchk_bad q s.data.toList (by omega) (by omega) (by omega))
  have HO := hidI (wchk_ok q s.data.toList (by omega) (by omega) (by omega))
  clear hl
  go_enter Try.func30, Try.ntmps30
  go_wp2
  go_loop [5] (fun i => ∃ k : Nat, k ≤ s.size ∧ i = .int .i64 k ∧ Hid (okw q (s.data.toList.take k) = true)) (fun i => s.size - (intOf i).toNat)
  case atStart => exact ⟨0, by omega, rfl, by simp [Hid, okw]⟩
  case round =>
    obtain ⟨k, hk, rfl, hj⟩ := hrel
    by_cases hlt : k < s.size
    · have db := dig_bd s[k].toNat
      by_cases c1 : dig s[k].toNat < 0
      · have hc : okc q s[k] = false := by simp [okc]; omega
        have HC := hidI (HB.out (okw_bad q s k hlt hc)); clear hc
        go_wp2_with (go_at_call 40; refine (digit_any _ _).mono ?_; rintro e w' ⟨rfl, rfl⟩)
        go_ret
        exact ⟨ret_int HC.out.symm, rfl⟩
      by_cases c2 : q ≤ dig s[k].toNat
      · have hc : okc q s[k] = false := by simp [okc]; omega
        have HC := hidI (HB.out (okw_bad q s k hlt hc)); clear hc
        go_wp2_with (go_at_call 40; refine (digit_any _ _).mono ?_; rintro e w' ⟨rfl, rfl⟩)
        go_ret
        exact ⟨ret_int HC.out.symm, rfl⟩
      have hc : okc q s[k] = true := by simp [okc]; omega
      have HC := hidI (okw_snoc q s k hlt hj.out hc); clear hc
      go_wp2_with (go_at_call 40; refine (digit_any _ _).mono ?_; rintro e w' ⟨rfl, rfl⟩)
      go_round
      case rel => exact ⟨k + 1, by omega, by go_num, HC⟩
      case measure => simp [intOf]; omega
    · have HP := hidI (HO.out (okw_of_take q _ k (by simp; omega) hj.out))
      go_wp2
      go_ret
      exact ⟨ret_int HP.out.symm, rfl⟩

set_option maxHeartbeats 400000 in
theorem width_any (s : ByteArray) (t : Bool) (w : World) (hs : s.size ≤ 65536) :
    Calls Try.prog 33 #[.string s, .bool t] w fun e w' => e = .returned (.int .i64 (wid t s)) ∧ w = w' := by
  have HW : Hid (wid t s = Hi (vAt t s) s.size - Lo (vAt t s) s.size) := rfl
  go_enter Try.func33, Try.ntmps33
  go_wp2
  go_loop [5, 6, 7, 8] (fun sm lo hi i => ∃ k : Nat, k ≤ s.size ∧ i = .int .i64 k ∧ sm = .int .i64 (Su (vAt t s) k) ∧ lo = .int .i64 (Lo (vAt t s) k) ∧ hi = .int .i64 (Hi (vAt t s) k)) (fun _ _ _ i => s.size - (intOf i).toNat)
  case atStart => exact ⟨0, by omega, rfl, rfl, rfl, rfl⟩
  case round =>
    obtain ⟨k, hk, rfl, rfl, rfl, rfl⟩ := hrel
    have bS := Su_bd _ (vAt_bd t s) k
    have bL := Lo_bd _ (vAt_bd t s) k
    have bH := Hi_bd _ (vAt_bd t s) k
    by_cases hlt : k < s.size
    · have hb := val1_bd s[k].toNat
      cases t
      · go_wp2_with (go_at_call 34; refine (value_any _ _).mono ?_; rintro e w' ⟨rfl, rfl⟩)
        have hv := vAt_f s k hlt
        go_round
        case rel => exact ⟨k + 1, by omega, by go_num, int_eq (Su_st _ k _ hv), int_eq (Lo_st _ k _ hv), int_eq (Hi_st _ k _ hv)⟩
        case measure => simp [intOf]; omega
      · go_wp2_with (go_at_call 34; refine (value_any _ _).mono ?_; rintro e w' ⟨rfl, rfl⟩)
        · have hv := vAt_odd s k hlt ‹_›
          go_round
          case rel => exact ⟨k + 1, by omega, by go_num, int_eq (Su_st _ k _ hv), int_eq (Lo_st _ k _ hv), int_eq (Hi_st _ k _ hv)⟩
          case measure => simp [intOf]; omega
        · have hv := vAt_even s k hlt ‹_›
          go_round
          case rel => exact ⟨k + 1, by omega, by go_num, int_eq (Su_st _ k _ hv), int_eq (Lo_st _ k _ hv), int_eq (Hi_st _ k _ hv)⟩
          case measure => simp [intOf]; omega
    · obtain rfl : k = s.size := by omega
      go_wp2
      go_ret
      exact ⟨ret_int HW.out.symm, rfl⟩
end Go.Proofs.Ytccdocnaijdcnaa
