/-
  Walks: the charges of a word, its range, and Valid of the program.
-/
import Derived.Test.YtlgjhmenjfmpfaaChWc
namespace Go.Proofs.Ytlgjhmenjfmpfaa.Chg
open Go.RowKit

theorem infoInt : (Try.prog.info? 3).map (fun i => (i.zero, i.size, i.bytes)) = some (some (.int .i64 0), 1, 8) := by kernel_rfl

set_option maxRecDepth 100000 in
set_option maxHeartbeats 400000 in
theorem charges0_any (s : ByteArray) (w : World) (hs : s.size ≤ 65536) :
    Calls Try.prog 53 #[.string s] w fun e w' => ∃ v, e = .returned v ∧
      w'.ownsRow w.heap.size 3 1 v (s.size + 1) (cint (sus (vAt false s) s.size)) ∧ Below w.heap.size w w' := by
  obtain ⟨i0, hi, hz0, hz1, hz2⟩ := info_parts infoInt
  go_enter Try.func53, Try.ntmps53
  go_wp2
  go_loopw [3, 9] (fun v i wr => ∃ k : Nat, k ≤ s.size ∧ i = .int .i64 k ∧ wr.ownsRow w.heap.size 3 1 v (k + 1) (cint (sus (vAt false s) k)) ∧ Below w.heap.size w wr) (fun _ i _ => s.size - (intOf i).toNat)
  case atStart => exact ⟨0, by omega, rfl, own_new w w.heap.size [.int .i64 0] 3 (Nat.le_refl _) (by simp [maxLen]), (Below.refl _ _).alloc (Nat.le_refl _) _⟩
  case round =>
    obtain ⟨k, hk, rfl, hown, hB⟩ := hrel
    obtain ⟨g, cap, rfl⟩ := ownsRow_succ hown
    by_cases hlt : k < s.size
    · have hbk := Su_bd _ (vAt_bd false s) k
      have hcell : wr.cell? ⟨g, k, none⟩ = some (.int .i64 (Su (vAt false s) k)) := (hown.cellAt k (by omega)).trans (cint_get _ _ _ (sus_get _ _ _ (Nat.le_refl _)))
      have hv := hidI (vAt_f s k hlt)
      go_wp2_with (at_builtin; refine wpList_append_own _ rfl _ _ 50 rfl w.heap.size 3 i0 (.int .i64 0) 1 8 Try.underlying50 hi hz0 hz1 hz2 rfl (by decide) _ _ _ rfl (hown.alloc _) ⟨wr.heap.size, 0, none⟩ 1 1 _ rfl rfl (cell_one_new _ _ _) (by simp [Value.oneCell']) (by simp [maxLen]; omega) (by omega) (by have := hB.size; simp; omega) ?_; intro v' w1 hown' hgrow _)
      · have hx := (hv.out.trans (val1_t _ ‹_›))
        have hr := hown'
        rw [← cint_snoc, Su_st _ k _ hx, ← sus_snoc] at hr
        go_roundw
        case rel => exact ⟨k + 1, by omega, by go_num, hr, (hB.alloc hB.size _).grown hgrow (by simp; have := hB.size; omega) (fun j e => by cases e; exact (hown.lt _ rfl).1)⟩
        case measure => simp [intOf]; omega
      · have hx := (hv.out.trans (val1_f _ ‹_›))
        have hr := hown'
        rw [← cint_snoc, Su_st _ k _ hx, ← sus_snoc] at hr
        go_roundw
        case rel => exact ⟨k + 1, by omega, by go_num, hr, (hB.alloc hB.size _).grown hgrow (by simp; have := hB.size; omega) (fun j e => by cases e; exact (hown.lt _ rfl).1)⟩
        case measure => simp [intOf]; omega
    · obtain rfl : k = s.size := by omega
      go_wp2
      go_ret
      exact ⟨_, rfl, hown, hB⟩

set_option maxHeartbeats 400000 in
theorem charges_ok (s : ByteArray) (w : World) (hs : s.size ≤ maxLen) (hc : wchk 2 s.data.toList = 0) :
    Calls Try.prog 39 #[.string s] w fun e w' => ∃ v, e = .returned (.tuple #[v, .int .i64 0]) ∧
      w'.ownsRow w.heap.size 3 1 v (s.size + 1) (cint (sus (vAt false s) s.size)) ∧ Below w.heap.size w w' := by
  have hl := wchk_long2 s hc
  go_enter Try.func39, Try.ntmps39
  have HC := hidI hc; clear hc
  go_wp2_with fail
  refine (wcheck_any 2 s _ hs).mono ?_
  rintro e w1 ⟨rfl, hD⟩
  rw [HC.out]
  go_wp2_with fail
  refine (charges0_any s _ hl).mono ?_
  rintro e w2 ⟨v, rfl, hown, hB⟩
  go_wp2
  go_ret2
  have hz : w1.heap.size = w.heap.size := by obtain ⟨k, rfl⟩ := hD; rfl
  rw [hz] at hown hB
  exact ⟨_, rfl, hown, (hD.below _).trans hB⟩

set_option maxHeartbeats 400000 in
theorem charges_bad (s : ByteArray) (w : World) (hs : s.size ≤ maxLen) (hc : wchk 2 s.data.toList ≠ 0) :
    Calls Try.prog 39 #[.string s] w fun e w' => e = .returned (.tuple #[.slice none 0 0, .int .i64 (wchk 2 s.data.toList)]) ∧ Dr w w' := by
  have hc' : (wchk 2 s.data.toList == 0) = false := by simpa using hc
  clear hc
  go_enter Try.func39, Try.ntmps39
  go_wp2_with fail
  refine (wcheck_any 2 s _ hs).mono ?_
  rintro e w1 ⟨rfl, hD⟩
  go_wp2
  go_ret2
  exact ⟨rfl, hD⟩

set_option maxHeartbeats 400000 in
theorem range_ok (s : ByteArray) (w : World) (hs : s.size ≤ maxLen) (hc : wchk 2 s.data.toList = 0) :
    Calls Try.prog 17 #[.string s] w fun e w' => e = .returned (.tuple #[.int .i64 (Lo (vAt false s) s.size), .int .i64 (Hi (vAt false s) s.size), .int .i64 0]) ∧ Below w.heap.size w w' := by
  have hl := wchk_long2 s hc
  have HLo := hidI (minOf_sus (vAt false s) s.size)
  have HHi := hidI (maxOf_sus (vAt false s) s.size)
  go_enter Try.func17, Try.ntmps17
  go_wp2_with fail
  refine (charges_ok s _ hs hc).mono ?_
  clear hc
  rintro e w1 ⟨v, rfl, hown, hB⟩
  obtain ⟨g, cap, rfl⟩ := ownsRow_succ hown
  have hcell := hidI (own_cells hown)
  go_wp2_with (first | (go_at_call 40; refine (Try.slices_Min_int _ 0 _ _ (sus (vAt false s) s.size) _ (by omega) (by rw [sus_len]; omega) (by omega) hcell.out).mono ?_; rintro e w' ⟨rfl, rfl⟩) | (go_at_call 41; refine (Try.slices_Max_int _ 0 _ _ (sus (vAt false s) s.size) _ (by omega) (by rw [sus_len]; omega) (by omega) hcell.out).mono ?_; rintro e w' ⟨rfl, rfl⟩))
  go_ret3
  refine ⟨ret_iii ?_, hB⟩
  rw [List.take_of_length_le (by rw [sus_len]; omega), HLo.out, HHi.out]

set_option maxHeartbeats 400000 in
theorem range_bad (s : ByteArray) (w : World) (hs : s.size ≤ maxLen) (hc : wchk 2 s.data.toList ≠ 0) :
    Calls Try.prog 17 #[.string s] w fun e w' => e = .returned (.tuple #[.int .i64 0, .int .i64 0, .int .i64 (wchk 2 s.data.toList)]) ∧ Dr w w' := by
  have hc' : (wchk 2 s.data.toList == 0) = false := by simpa using hc
  go_enter Try.func17, Try.ntmps17
  go_wp2_with fail
  refine (charges_bad s _ hs hc).mono ?_
  clear hc
  rintro e w1 ⟨rfl, hD⟩
  go_wp2
  go_ret3
  exact ⟨rfl, hD⟩

set_option maxHeartbeats 400000 in
theorem valid_any (n : Int) (s : ByteArray) (w : World) (hs : s.size ≤ maxLen) :
    Calls Try.prog 18 #[.int .i64 n, .string s] w fun e w' => e = .returned (.tuple #[.bool (vld false 63 n s).1, .int .i64 (vld false 63 n s).2]) ∧ Below w.heap.size w w' := by
  by_cases h1 : n < 1
  · have HP := hidI (vld_out false 63 n s (.inl h1))
    go_enter Try.func18, Try.ntmps18
    go_wp2
    go_ret2
    exact ⟨ret_bi HP.out, Below.refl _ _⟩
  by_cases h2 : 64 ≤ n
  · have HP := hidI (vld_out false 63 n s (.inr h2))
    go_enter Try.func18, Try.ntmps18
    go_wp2
    go_ret2
    exact ⟨ret_bi HP.out, Below.refl _ _⟩
  by_cases hc : wchk 2 s.data.toList = 0
  · have HP := hidI (vld_ok false 63 n s (by omega) (by omega) hc)
    have hl := wchk_long2 s hc
    have HW : Hid (wid false s = Hi (vAt false s) s.size - Lo (vAt false s) s.size) := rfl
    have bL := Lo_bd _ (vAt_bd false s) s.size
    have bH := Hi_bd _ (vAt_bd false s) s.size
    go_enter Try.func18, Try.ntmps18
    go_wp2_with fail
    refine (range_ok s _ hs hc).mono ?_
    clear hc
    rintro e w' ⟨rfl, hB⟩
    go_wp2
    go_ret2
    exact ⟨ret_bi (by rw [HP.out, HW.out]), hB⟩
  · have HP := hidI (vld_bad false 63 n s (by omega) (by omega) hc)
    have hc' : (wchk 2 s.data.toList == 0) = false := by simpa using hc
    go_enter Try.func18, Try.ntmps18
    go_wp2_with fail
    refine (range_bad s _ hs hc).mono ?_
    clear hc
    rintro e w' ⟨rfl, hD⟩
    go_wp2
    go_ret2
    exact ⟨ret_bi HP.out, hD.below _⟩
end Go.Proofs.Ytlgjhmenjfmpfaa.Chg
