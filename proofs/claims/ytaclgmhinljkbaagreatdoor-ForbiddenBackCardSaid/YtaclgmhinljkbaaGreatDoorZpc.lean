/-
  Words, plain lemmas and walks, merged: ChWc.
-/
import Derived.Test.YtaclgmhinljkbaaGreatDoorZpa
import Derived.Test.YtaclgmhinljkbaaGreatDoorZpb
set_option linter.unusedVariables false
set_option linter.unusedSimpArgs false
namespace Go.Proofs.YtaclgmhinljkbaaGreatDoor.Chg
open Go.RowKit

set_option maxHeartbeats 400000 in
theorem wcheck_any (q : Int) (s : ByteArray) (w : World) (hs : s.size ≤ maxLen) :
    Calls Tryz.prog 30 #[.int .i64 q, .string s] w fun e w' => e = .returned (.int .i64 (wchk q s.data.toList)) ∧ Dr w w' := by
  unfold maxLen at hs
  have hl : s.data.toList.length = s.size := by simp
  by_cases h1 : q < 1
  · have HP := hidI (wchk_alpha q s.data.toList (.inl h1))
    go_enter Tryz.func30, Tryz.ntmps30
    go_wp2_with (go_at_call 64; refine (known_f _ _ (.inl h1)).mono ?_; rintro e w' ⟨rfl, rfl⟩)
    go_ret
    exact ⟨ret_int HP.out.symm, Dr.refl _⟩
  by_cases h2 : 16 < q
  · have HP := hidI (wchk_alpha q s.data.toList (.inr h2))
    go_enter Tryz.func30, Tryz.ntmps30
    go_wp2_with (go_at_call 64; refine (known_f _ _ (.inr h2)).mono ?_; rintro e w' ⟨rfl, rfl⟩)
    go_ret
    exact ⟨ret_int HP.out.symm, Dr.refl _⟩
  by_cases h3 : 65536 < s.size
  · have HP := hidI (wchk_long q s.data.toList (by omega) (by omega) (by omega))
    clear hl
    go_enter Tryz.func30, Tryz.ntmps30
    go_wp2_with (go_at_call 64; refine (known_t _ _ (by omega) (by omega)).mono ?_; rintro e w' ⟨rfl, rfl⟩)
    go_ret
    exact ⟨ret_int HP.out.symm, Dr.refl _⟩
  have HB := hidI (wchk_bad q s.data.toList (by omega) (by omega) (by omega))
  have HO := hidI (wchk_ok q s.data.toList (by omega) (by omega) (by omega))
  clear hl
  go_enter Tryz.func30, Tryz.ntmps30
  go_wp2_with (go_at_call 64; refine (known_t _ _ (by omega) (by omega)).mono ?_; rintro e w' ⟨rfl, rfl⟩)
  go_loopw [16] (fun i wr => ∃ k : Nat, k ≤ s.size ∧ i = .int .i64 k ∧ Hid (okw q (s.data.toList.take k) = true) ∧ Dr w wr) (fun i _ => s.size - (intOf i).toNat)
  case atStart => exact ⟨0, by omega, rfl, by simp [Hid, okw], Dr.refl _⟩
  case round =>
    obtain ⟨k, hk, rfl, hj, hD⟩ := hrel
    by_cases hlt : k < s.size
    · go_wp2_with fail
      have hq0 : 0 ≤ q := by omega
      have hq0' : 1 ≤ q := by omega
      have hq16 : q ≤ 16 := by omega
      go_quiet ((go_at_call 65; exact Calls.quiet_of_same (Tryz.strings_IndexByte _ _ _)))
      go_wp2
      · have hc := idx_lt q s[k] hq0' hq16 ‹_›
        go_ret
        exact ⟨ret_int (HB.out (okw_bad q s k hlt hc)).symm, hD.one _⟩
      · have hc := idx_ge q s[k] hq0' hq16 ‹_›
        go_roundw
        case rel => exact ⟨k + 1, by omega, by go_num, okw_snoc q s k hlt hj.out hc, hD.one _⟩
        case measure => simp [intOf]; omega
    · have HP := hidI (HO.out (okw_of_take q _ k (by simp; omega) hj.out))
      go_wp2
      go_ret
      exact ⟨ret_int HP.out.symm, hD⟩
end Go.Proofs.YtaclgmhinljkbaaGreatDoor.Chg
