/-
  Walks: Valid, NullValid and Spectrum of the reference; the check of words of the program.
-/
import Derived.Test.YtccdocnaijdcnaaWa
namespace Go.Proofs.Ytccdocnaijdcnaa
open Go.RowKit

set_option maxHeartbeats 400000 in
theorem rvalid_any (n : Int) (s : ByteArray) (w : World) (hs : s.size ≤ maxLen) :
    Calls Try.prog 15 #[.int .i64 n, .string s] w fun e w' => e = .returned (.tuple #[.bool (vld false 63 n s).1, .int .i64 (vld false 63 n s).2]) ∧ w = w' := by
  by_cases h1 : n < 1
  · have HP := hidI (vld_out false 63 n s (.inl h1))
    go_enter Try.func15, Try.ntmps15
    go_wp2
    go_ret2
    exact ⟨ret_bi HP.out, rfl⟩
  by_cases h2 : 64 ≤ n
  · have HP := hidI (vld_out false 63 n s (.inr h2))
    go_enter Try.func15, Try.ntmps15
    go_wp2
    go_ret2
    exact ⟨ret_bi HP.out, rfl⟩
  by_cases hc : wchk 2 s.data.toList = 0
  · have HP := hidI (vld_ok false 63 n s (by omega) (by omega) hc)
    have hl := wchk_long2 s hc
    go_enter Try.func15, Try.ntmps15
    have HC := hidI hc; clear hc
    go_wp2_with fail
    refine (check07_any 2 s _ hs).mono ?_
    rintro e w' ⟨rfl, rfl⟩
    rw [HC.out]
    go_wp2_with (go_at_call 33; refine (width_any s false _ hl).mono ?_; rintro e w' ⟨rfl, rfl⟩)
    go_ret2
    exact ⟨ret_bi HP.out, rfl⟩
  · have HP := hidI (vld_bad false 63 n s (by omega) (by omega) hc)
    have hc' : (wchk 2 s.data.toList == 0) = false := by simpa using hc
    clear hc
    go_enter Try.func15, Try.ntmps15
    go_wp2_with (go_at_call 30; refine (check07_any 2 s _ hs).mono ?_; rintro e w' ⟨rfl, rfl⟩)
    go_ret2
    exact ⟨ret_bi HP.out, rfl⟩

set_option maxHeartbeats 400000 in
theorem rnullv_any (n : Int) (s : ByteArray) (w : World) (hs : s.size ≤ maxLen) :
    Calls Try.prog 17 #[.int .i64 n, .string s] w fun e w' => e = .returned (.tuple #[.bool (vld true 31 n s).1, .int .i64 (vld true 31 n s).2]) ∧ w = w' := by
  by_cases h1 : n < 1
  · have HP := hidI (vld_out true 31 n s (.inl h1))
    go_enter Try.func17, Try.ntmps17
    go_wp2
    go_ret2
    exact ⟨ret_bi HP.out, rfl⟩
  by_cases h2 : 31 < n
  · have HP := hidI (vld_out true 31 n s (.inr h2))
    go_enter Try.func17, Try.ntmps17
    go_wp2
    go_ret2
    exact ⟨ret_bi HP.out, rfl⟩
  by_cases hc : wchk 2 s.data.toList = 0
  · have HP := hidI (vld_ok true 31 n s (by omega) (by omega) hc)
    have hl := wchk_long2 s hc
    go_enter Try.func17, Try.ntmps17
    have HC := hidI hc; clear hc
    go_wp2_with fail
    refine (check07_any 2 s _ hs).mono ?_
    rintro e w' ⟨rfl, rfl⟩
    rw [HC.out]
    go_wp2_with (go_at_call 33; refine (width_any s true _ hl).mono ?_; rintro e w' ⟨rfl, rfl⟩)
    go_ret2
    exact ⟨ret_bi HP.out, rfl⟩
  · have HP := hidI (vld_bad true 31 n s (by omega) (by omega) hc)
    have hc' : (wchk 2 s.data.toList == 0) = false := by simpa using hc
    clear hc
    go_enter Try.func17, Try.ntmps17
    go_wp2_with (go_at_call 30; refine (check07_any 2 s _ hs).mono ?_; rintro e w' ⟨rfl, rfl⟩)
    go_ret2
    exact ⟨ret_bi HP.out, rfl⟩

set_option maxHeartbeats 400000 in
theorem rspectrum_any (n : Int) (s : ByteArray) (w : World) (hs : s.size ≤ maxLen) :
    Calls Try.prog 21 #[.string s, .int .i64 n] w fun e w' => e = .returned (.tuple #[.int .i64 (spe n s).1, .int .i64 (spe n s).2.1, .int .i64 (spe n s).2.2]) ∧ w = w' := by
  by_cases h1 : n < 0
  · have HP := hidI (spe_out n s (.inl h1))
    go_enter Try.func21, Try.ntmps21
    go_wp2
    go_ret3
    exact ⟨ret_iii HP.out, rfl⟩
  by_cases h2 : 3 < n
  · have HP := hidI (spe_out n s (.inr h2))
    go_enter Try.func21, Try.ntmps21
    go_wp2
    go_ret3
    exact ⟨ret_iii HP.out, rfl⟩
  by_cases hc : wchk 2 s.data.toList = 0
  · have HP := hidI (spe_ok n s (by omega) (by omega) hc)
    have hl := wchk_long2 s hc
    go_enter Try.func21, Try.ntmps21
    have HC := hidI hc; clear hc
    go_wp2_with fail
    refine (check07_any 2 s _ hs).mono ?_
    rintro e w' ⟨rfl, rfl⟩
    rw [HC.out]
    go_wp2_with fail
    go_loop [8, 9, 10] (fun x y i => ∃ k : Nat, k ≤ s.size ∧ i = .int .i64 k ∧ x = .int .i64 (Pa n (vAt false s) 0 k - Pa n (vAt false s) 2 k) ∧ y = .int .i64 (Pa n (vAt false s) 1 k - Pa n (vAt false s) 3 k)) (fun _ _ i => s.size - (intOf i).toNat)
    case atStart => exact ⟨0, by omega, rfl, rfl, rfl⟩
    case round =>
      obtain ⟨k, hk, rfl, rfl, rfl⟩ := hrel
      have b0 := Pa_bd n _ 0 (vAt_bd false s) k
      have b1 := Pa_bd n _ 1 (vAt_bd false s) k
      have b2 := Pa_bd n _ 2 (vAt_bd false s) k
      have b3 := Pa_bd n _ 3 (vAt_bd false s) k
      have bm := mul_bd n k s.size (by omega) (by omega) hk
      by_cases hlt : k < s.size
      · have hv := val1_bd s[k].toNat
        have hx := hidI (vAt_f s k hlt)
        go_wp2_with (go_at_call 34; refine (value_any _ _).mono ?_; rintro e w' ⟨rfl, rfl⟩)
        · have hm : (n * (k : Int)) % 4 = 0 := beq_iff_eq.1 ‹(n * (k : Int) % 4 == 0) = true›
          have e0 := Pa_hit n (vAt false s) 0 k _ hx.out hm
          have e1 := Pa_miss n (vAt false s) 1 k (by omega)
          have e2 := Pa_miss n (vAt false s) 2 k (by omega)
          have e3 := Pa_miss n (vAt false s) 3 k (by omega)
          go_round
          case rel => exact ⟨k + 1, by omega, by go_num, int_eq (by omega), int_eq (by omega)⟩
          case measure => simp [intOf]; omega
        · have hm : (n * (k : Int)) % 4 = 1 := beq_iff_eq.1 ‹(n * (k : Int) % 4 == 1) = true›
          have e0 := Pa_miss n (vAt false s) 0 k (by omega)
          have e1 := Pa_hit n (vAt false s) 1 k _ hx.out hm
          have e2 := Pa_miss n (vAt false s) 2 k (by omega)
          have e3 := Pa_miss n (vAt false s) 3 k (by omega)
          go_round
          case rel => exact ⟨k + 1, by omega, by go_num, int_eq (by omega), int_eq (by omega)⟩
          case measure => simp [intOf]; omega
        · have hm : (n * (k : Int)) % 4 = 2 := beq_iff_eq.1 ‹(n * (k : Int) % 4 == 2) = true›
          have e0 := Pa_miss n (vAt false s) 0 k (by omega)
          have e1 := Pa_miss n (vAt false s) 1 k (by omega)
          have e2 := Pa_hit n (vAt false s) 2 k _ hx.out hm
          have e3 := Pa_miss n (vAt false s) 3 k (by omega)
          go_round
          case rel => exact ⟨k + 1, by omega, by go_num, int_eq (by omega), int_eq (by omega)⟩
          case measure => simp [intOf]; omega
        · have hm : (n * (k : Int)) % 4 = 3 := beq_iff_eq.1 ‹(n * (k : Int) % 4 == 3) = true›
          have e0 := Pa_miss n (vAt false s) 0 k (by omega)
          have e1 := Pa_miss n (vAt false s) 1 k (by omega)
          have e2 := Pa_miss n (vAt false s) 2 k (by omega)
          have e3 := Pa_hit n (vAt false s) 3 k _ hx.out hm
          go_round
          case rel => exact ⟨k + 1, by omega, by go_num, int_eq (by omega), int_eq (by omega)⟩
          case measure => simp [intOf]; omega
      · obtain rfl : k = s.size := by omega
        go_wp2
        go_ret3
        exact ⟨ret_iii HP.out, rfl⟩
  · have HP := hidI (spe_bad n s (by omega) (by omega) hc)
    have hc' : (wchk 2 s.data.toList == 0) = false := by simpa using hc
    clear hc
    go_enter Try.func21, Try.ntmps21
    go_wp2_with (go_at_call 30; refine (check07_any 2 s _ hs).mono ?_; rintro e w' ⟨rfl, rfl⟩)
    go_ret3
    exact ⟨ret_iii HP.out, rfl⟩

set_option maxHeartbeats 400000 in
theorem known_t (q : Int) (w : World) (h1 : 1 ≤ q) (h2 : q ≤ 16) :
    Calls Try.prog 36 #[.int .i64 q] w fun e w' => e = .returned (.bool true) ∧ w = w' := by
  go_enter Try.func36, Try.ntmps36
  go_wp2
  go_ret
  exact ⟨rfl, rfl⟩

set_option maxHeartbeats 400000 in
theorem known_f (q : Int) (w : World) (h : q < 1 ∨ 16 < q) :
    Calls Try.prog 36 #[.int .i64 q] w fun e w' => e = .returned (.bool false) ∧ w = w' := by
  by_cases h1 : 1 ≤ q
  · have h2 : 16 < q := by omega
    go_enter Try.func36, Try.ntmps36
    go_wp2
    go_ret
    exact ⟨ret_bool (by simp; omega), rfl⟩
  · go_enter Try.func36, Try.ntmps36
    go_wp2
    go_ret
    exact ⟨rfl, rfl⟩
end Go.Proofs.Ytccdocnaijdcnaa
