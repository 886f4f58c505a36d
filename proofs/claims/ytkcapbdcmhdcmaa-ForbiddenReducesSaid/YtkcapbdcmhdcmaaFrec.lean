/-
  Words, plain lemmas and walks, merged: Word, Fb, Fc, Fd, Fe, Ff, Fg, ShelfQ, Gc, Gd.
-/
import Derived.Test.YtkcapbdcmhdcmaaProg
import Derived.Test.YtkcapbdcmhdcmaaFreb
import Derived.Test.YtkcapbdcmhdcmaaFrea
import Derived.WalkKit
import Derived.WalkSpells
import Derived.WalkLawsBesides
import Derived.Deep.QuietTactic
import Derived.BigQuiet
import Derived.Ground.SlgnProg
import Derived.Ground.SlsfProg
import Derived.Ground.SlgqProg
import Derived.Ground.SlgfProg
import Derived.Shelf.SlicesE.Clone
import Derived.Shelf.SlicesQ.Equal
import Derived.Shelf.SlicesQ.IndexFunc
import Derived.Shelf.SlSortCmp.NoneTotal
import Derived.Laws.StructEq
import Derived.Laws.CopyRow
import Derived.Shelf.SlicesE.Equal
set_option linter.unusedVariables false
set_option linter.unusedSimpArgs false
namespace Go.Proofs.Ytkcapbdcmhdcmaa
open Go.RowKit

set_option maxHeartbeats 400000 in
theorem digit_any (c : Int) (w : World) :
    Calls Try.prog 53 #[.int .u8 c] w fun e w' => e = .returned (.int .i64 (dig c)) ∧ w = w' := by
  go_enter Try.func53, Try.ntmps53
  go_wp2
  go_loop [3] (fun i => ∃ k : Nat, k ≤ 16 ∧ i = .int .i64 k ∧ Hid (∀ j, j < k → letv j ≠ c)) (fun i => 16 - (intOf i).toNat)
  case atStart => exact ⟨0, by omega, rfl, fun _ h => by omega⟩
  case round =>
    obtain ⟨k, hk, rfl, hj⟩ := hrel
    by_cases hlt : k < 16
    · have hL := letb_get k hlt
      unfold letb at hL
      have HL := hidI hL; clear hL
      go_wp2
      · have h : _ = true := ‹(_ == c) = true›
        rw [HL.out, beq_iff_eq] at h
        go_ret
        exact ⟨ret_int (by rw [← h, dig_letv k hlt]), rfl⟩
      · have h : _ = false := ‹(_ == c) = false›
        rw [HL.out, beq_eq_false_iff_ne] at h
        go_round
        case rel => exact ⟨k + 1, by omega, by go_num, fun j hj' => by
          rcases Nat.lt_succ_iff_lt_or_eq.1 hj' with h1 | h1
          · exact hj.out j h1
          · rw [h1]; exact h⟩
        case measure => simp [intOf]; omega
    · obtain rfl : k = 16 := by omega
      go_wp2
      go_ret
      exact ⟨ret_int (dig_none c hj.out).symm, rfl⟩

set_option maxHeartbeats 400000 in
theorem check07_any (q : Int) (s : ByteArray) (w : World) (hs : s.size ≤ maxLen) :
    Calls Try.prog 32 #[.int .i64 q, .string s] w fun e w' => e = .returned (.int .i64 (wchk q s.data.toList)) ∧ w = w' := by
  unfold maxLen at hs
  have hl : s.data.toList.length = s.size := by simp
  by_cases h1 : q < 1
  · have HP := hidI (wchk_alpha q s.data.toList (.inl h1))
    go_enter Try.func32, Try.ntmps32
    go_wp2
    go_ret
    exact ⟨ret_int HP.out.symm, rfl⟩
  by_cases h2 : 16 < q
  · have HP := hidI (wchk_alpha q s.data.toList (.inr h2))
    go_enter Try.func32, Try.ntmps32
    go_wp2
    go_ret
    exact ⟨ret_int HP.out.symm, rfl⟩
  by_cases h3 : 65536 < s.size
  · have HP := hidI (wchk_long q s.data.toList (by omega) (by omega) (by omega))
    clear hl
    go_enter Try.func32, Try.ntmps32
    go_wp2
    go_ret
    exact ⟨ret_int HP.out.symm, rfl⟩
  have HB := hidI (wchk_bad q s.data.toList (by omega) (by omega) (by omega))
  have HO := hidI (wchk_ok q s.data.toList (by omega) (by omega) (by omega))
  clear hl
  go_enter Try.func32, Try.ntmps32
  go_wp2
  go_loop [5] (fun i => ∃ k : Nat, k ≤ s.size ∧ i = .int .i64 k ∧ Hid (okw q (s.data.toList.take k) = true)) (fun i => s.size - (intOf i).toNat)
  case atStart => exact ⟨0, by omega, rfl, by simp [Hid, okw]⟩
  case round =>
    obtain ⟨k, hk, rfl, hj⟩ := hrel
    by_cases hlt : k < s.size
    · have db := dig_bd s[k].toNat
      by_cases c1 : dig s[k].toNat < 0
      · have hc : okc q s[k] = false := by simp [okc]; omega
        have HC := hidI (HB.out (okw_bad q s k hlt hc)); clear hc
        go_wp2_with (go_at_call 53; refine (digit_any _ _).mono ?_; rintro e w' ⟨rfl, rfl⟩)
        go_ret
        exact ⟨ret_int HC.out.symm, rfl⟩
      by_cases c2 : q ≤ dig s[k].toNat
      · have hc : okc q s[k] = false := by simp [okc]; omega
        have HC := hidI (HB.out (okw_bad q s k hlt hc)); clear hc
        go_wp2_with (go_at_call 53; refine (digit_any _ _).mono ?_; rintro e w' ⟨rfl, rfl⟩)
        go_ret
        exact ⟨ret_int HC.out.symm, rfl⟩
      have hc : okc q s[k] = true := by simp [okc]; omega
      have HC := hidI (okw_snoc q s k hlt hj.out hc); clear hc
      go_wp2_with (go_at_call 53; refine (digit_any _ _).mono ?_; rintro e w' ⟨rfl, rfl⟩)
      go_round
      case rel => exact ⟨k + 1, by omega, by go_num, HC⟩
      case measure => simp [intOf]; omega
    · have HP := hidI (HO.out (okw_of_take q _ k (by simp; omega) hj.out))
      go_wp2
      go_ret
      exact ⟨ret_int HP.out.symm, rfl⟩

set_option maxHeartbeats 400000 in
theorem known_t (q : Int) (w : World) (h1 : 1 ≤ q) (h2 : q ≤ 16) :
    Calls Try.prog 39 #[.int .i64 q] w fun e w' => e = .returned (.bool true) ∧ w = w' := by
  go_enter Try.func39, Try.ntmps39
  go_wp2
  go_ret
  exact ⟨rfl, rfl⟩

set_option maxHeartbeats 400000 in
theorem known_f (q : Int) (w : World) (h : q < 1 ∨ 16 < q) :
    Calls Try.prog 39 #[.int .i64 q] w fun e w' => e = .returned (.bool false) ∧ w = w' := by
  by_cases h1 : 1 ≤ q
  · have h2 : 16 < q := by omega
    go_enter Try.func39, Try.ntmps39
    go_wp2
    go_ret
    exact ⟨ret_bool (by simp; omega), rfl⟩
  · go_enter Try.func39, Try.ntmps39
    go_wp2
    go_ret
    exact ⟨rfl, rfl⟩

set_option maxHeartbeats 400000 in
theorem wcheck_any (q : Int) (s : ByteArray) (w : World) (hs : s.size ≤ maxLen) :
    Calls Try.prog 20 #[.int .i64 q, .string s] w fun e w' => e = .returned (.int .i64 (wchk q s.data.toList)) ∧ Dr w w' := by
  unfold maxLen at hs
  have hl : s.data.toList.length = s.size := by simp
  by_cases h1 : q < 1
  · have HP := hidI (wchk_alpha q s.data.toList (.inl h1))
    go_enter Try.func20, Try.ntmps20
    go_wp2_with (go_at_call 39; refine (known_f _ _ (.inl h1)).mono ?_; rintro e w' ⟨rfl, rfl⟩)
    go_ret
    exact ⟨ret_int HP.out.symm, Dr.refl _⟩
  by_cases h2 : 16 < q
  · have HP := hidI (wchk_alpha q s.data.toList (.inr h2))
    go_enter Try.func20, Try.ntmps20
    go_wp2_with (go_at_call 39; refine (known_f _ _ (.inr h2)).mono ?_; rintro e w' ⟨rfl, rfl⟩)
    go_ret
    exact ⟨ret_int HP.out.symm, Dr.refl _⟩
  by_cases h3 : 65536 < s.size
  · have HP := hidI (wchk_long q s.data.toList (by omega) (by omega) (by omega))
    clear hl
    go_enter Try.func20, Try.ntmps20
    go_wp2_with (go_at_call 39; refine (known_t _ _ (by omega) (by omega)).mono ?_; rintro e w' ⟨rfl, rfl⟩)
    go_ret
    exact ⟨ret_int HP.out.symm, Dr.refl _⟩
  have HB := hidI (wchk_bad q s.data.toList (by omega) (by omega) (by omega))
  have HO := hidI (wchk_ok q s.data.toList (by omega) (by omega) (by omega))
  clear hl
  go_enter Try.func20, Try.ntmps20
  go_wp2_with (go_at_call 39; refine (known_t _ _ (by omega) (by omega)).mono ?_; rintro e w' ⟨rfl, rfl⟩)
  go_loopw [16] (fun i wr => ∃ k : Nat, k ≤ s.size ∧ i = .int .i64 k ∧ Hid (okw q (s.data.toList.take k) = true) ∧ Dr w wr) (fun i _ => s.size - (intOf i).toNat)
  case atStart => exact ⟨0, by omega, rfl, by simp [Hid, okw], Dr.refl _⟩
  case round =>
    obtain ⟨k, hk, rfl, hj, hD⟩ := hrel
    by_cases hlt : k < s.size
    · go_wp2_with fail
      have hq0 : 0 ≤ q := by omega
      have hq0' : 1 ≤ q := by omega
      have hq16 : q ≤ 16 := by omega
      go_quiet ((go_at_call 40; exact Calls.quiet_of_same (Try.strings_IndexByte _ _ _)))
      go_wp2
      · have hc := idx_lt q s[k] hq0' hq16 ‹_›
        go_ret
        exact ⟨ret_int (HB.out (okw_bad q s k hlt hc)).symm, hD.one _⟩
      · have hc := idx_ge q s[k] hq0' hq16 ‹_›
        go_roundw
        case rel => exact ⟨k + 1, by omega, by go_num, okw_snoc q s k hlt hj.out hc, hD.one _⟩
        case measure => simp [intOf]; omega
    · have HP := hidI (HO.out (okw_of_take q _ k (by simp; omega) hj.out))
      go_wp2
      go_ret
      exact ⟨ret_int HP.out.symm, hD⟩
end Go.Proofs.Ytkcapbdcmhdcmaa
namespace Go.Proofs.Ytkcapbdcmhdcmaa
open Go.RowKit

def or2 (x y : Int) : Int := if x = 0 then y else x
set_option maxRecDepth 100000 in
theorem cmpOr_any (x y : Int) (b c : Nat) (w : World) (h : VRow w b 3 [.int .i64 x, .int .i64 y]) :
    Calls Try.prog 49 #[.slice (some ⟨b, 0, none⟩) 2 c] w fun e w' => e = .returned (.int .i64 (or2 x y)) ∧ w = w' := by
  have c0 := h.at 0 rfl; have c1 := h.at 1 rfl
  go_enter Try.func49, Try.ntmps49
  go_wp2
  go_loop [8] (fun i => ∃ k : Nat, k ≤ 2 ∧ i = .int .i64 k ∧ (0 < k → x = 0) ∧ (1 < k → y = 0)) (fun i => 2 - (intOf i).toNat)
  case atStart => exact ⟨0, by omega, rfl, (fun h => by omega), (fun h => by omega)⟩
  case round =>
    obtain ⟨k, hk, rfl, h0, h1⟩ := hrel
    have hk3 : k = 0 ∨ k = 1 ∨ k = 2 := by omega
    rcases hk3 with rfl | rfl | rfl
    · by_cases hx : x = 0
      · have hxn : (x != 0) = false := by simpa using hx
        have HX := hidI hx
        clear hx
        go_wp2
        go_round
        case rel => exact ⟨1, by omega, rfl, fun _ => HX.out, (fun h => by omega)⟩
        case measure => simp [intOf]
      · have hxn : (x != 0) = true := by simpa using hx
        have HX : Hid (or2 x y = x) := if_neg hx
        clear hx h0 h1
        go_wp2
        go_ret
        exact ⟨ret_int HX.out.symm, rfl⟩
    · have hx := hidI (h0 (by omega))
      have HX : Hid (or2 x y = y) := if_pos hx.out
      by_cases hy : y = 0
      · have hyn : (y != 0) = false := by simpa using hy
        have HY := hidI hy
        clear hy h0 h1
        go_wp2
        go_round
        case rel => exact ⟨2, by omega, rfl, fun _ => hx.out, fun _ => HY.out⟩
        case measure => simp [intOf]
      · have hyn : (y != 0) = true := by simpa using hy
        clear hy h0 h1
        go_wp2
        go_ret
        exact ⟨ret_int HX.out.symm, rfl⟩
    · have hx := hidI (h0 (by omega))
      have hy := hidI (h1 (by omega))
      have HX : Hid (or2 x y = 0) := by unfold Hid or2; rw [if_pos hx.out, hy.out]
      clear h0 h1
      go_wp2
      go_ret
      exact ⟨ret_int HX.out.symm, rfl⟩
set_option maxRecDepth 100000 in
theorem fOrder_any (a b : ByteArray) (w : World) :
    Calls Try.prog 27 #[.string a, .string b] w fun e w' => e = .returned (.int .i64 (ordB a b)) ∧ w' = w.alloc (.cells #[.int .i64 (c3 a.size b.size), .int .i64 (Lib.compareBytes a.data.toList b.data.toList)] 3) := by
  obtain ⟨w1, hw1⟩ : ∃ w1, w1 = w.alloc (.cells #[.int .i64 (c3 a.size b.size), .int .i64 (Lib.compareBytes a.data.toList b.data.toList)] 3) := ⟨_, rfl⟩
  have r1 : VRow w1 w.heap.size 3 [.int .i64 (c3 a.size b.size), .int .i64 (Lib.compareBytes a.data.toList b.data.toList)] := by subst hw1; exact VRow.new w _ _
  have HO := hidI (cmpOr_any _ _ w.heap.size 2 w1 r1)
  have HX : Hid (or2 (c3 a.size b.size) (Lib.compareBytes a.data.toList b.data.toList) = ordB a b) := rfl
  have HW := hidI hw1
  rw [HX.out] at HO
  have HC := hidI (cmpc_any (a.size : Int) (b.size : Int) w)
  have HS := hidI (Try.strings_Compare a b w)
  generalize c3 (a.size : Int) (b.size : Int) = c at *
  generalize Lib.compareBytes a.data.toList b.data.toList = d at *
  generalize ordB a b = r at *
  rw [← hw1]
  clear hw1 r1
  go_enter Try.func27, Try.ntmps27
  go_wp2_with fail
  refine HC.out.mono ?_
  rintro e w2 ⟨rfl, hw2⟩
  subst hw2
  go_wp2_with fail
  refine HS.out.mono ?_
  rintro e w2 ⟨rfl, hw2⟩
  have hw2 := hw2.symm
  subst hw2
  go_wp2_with fail
  rw [← HW.out]
  refine HO.out.mono ?_
  rintro e w2 ⟨rfl, hw2⟩
  subst hw2
  go_wp2
  go_ret
  exact ⟨rfl, rfl⟩

set_option maxRecDepth 100000 in
theorem fSingle_any (q : Int) (s : ByteArray) (w : World) (hs : s.size ≤ 140737488355328) :
    Calls Try.prog 34 #[.int .i64 q, .string s] w fun e w' => e = .returned (.int .i64 (oneA q s)) ∧ Dr w w' := by
  by_cases h0 : s = (⟨#[]⟩ : ByteArray)
  · have HX : Hid (oneA q s = 5) := if_pos h0
    subst h0
    go_enter Try.func34, Try.ntmps34
    go_wp2
    go_ret
    exact ⟨ret_int HX.out.symm, Dr.refl _⟩
  · have hb : s.toList.isEmpty = false := by have := bts_f h0; simpa using this
    by_cases h1 : 32 < s.size
    · have HX : Hid (oneA q s = 4) := by unfold Hid oneA; rw [if_neg h0, if_pos h1]
      have h1I : (32 : Int) < (s.size : Int) := by omega
      clear h0
      go_enter Try.func34, Try.ntmps34
      go_wp2
      go_ret
      exact ⟨ret_int HX.out.symm, Dr.refl _⟩
    · have HX : Hid (oneA q s = wchk q s.data.toList) := by unfold Hid oneA; rw [if_neg h0, if_neg h1]
      have h1I : ¬ (32 : Int) < (s.size : Int) := by omega
      have HW := hidI (wcheck_any q s w (by unfold maxLen; omega))
      generalize wchk q s.data.toList = r at *
      clear h0
      go_enter Try.func34, Try.ntmps34
      go_wp2_with fail
      refine HW.out.mono ?_
      rintro e w2 ⟨rfl, hD⟩
      go_wp2
      go_ret
      exact ⟨ret_int HX.out.symm, hD⟩

/-! ### Lists -/
/-- No word is too great. -/
def Sz (l : List ByteArray) : Prop := ∀ s ∈ l, s.size ≤ 1000000
set_option maxRecDepth 100000 in
set_option maxHeartbeats 1000000 in
theorem fErrors_any (q : Int) (l : List ByteArray) (p : Option Addr) (c : Nat) (w : World) (hin : Sl w Value.string p l) (hl : l.length ≤ 9223372036854775807) (hz : Sz l) :
    Calls Try.prog 24 #[.int .i64 q, .slice p l.length c] w fun e w' => e = .returned (.int .i64 (errA q l)) ∧ Dr w w' := by
  have HIN := hidI hin
  have HZ := hidI hz
  clear hin hz
  by_cases h1 : q < 1
  · have HX : Hid (errA q l = 12) := if_pos (.inl h1)
    go_enter Try.func24, Try.ntmps24
    go_wp2
    go_ret
    exact ⟨ret_int HX.out.symm, Dr.refl _⟩
  by_cases h2 : 16 < q
  · have HX : Hid (errA q l = 12) := if_pos (.inr h2)
    go_enter Try.func24, Try.ntmps24
    go_wp2
    go_ret
    exact ⟨ret_int HX.out.symm, Dr.refl _⟩
  by_cases h3 : 64 < l.length
  · have HX : Hid (errA q l = 4) := by unfold Hid errA; rw [if_neg (by omega), if_pos h3]
    have h3I : (64 : Int) < (l.length : Int) := by omega
    go_enter Try.func24, Try.ntmps24
    go_wp2
    go_ret
    exact ⟨ret_int HX.out.symm, Dr.refl _⟩
  have HX : Hid (errA q l = fst1 q l) := by unfold Hid errA; rw [if_neg (by omega), if_neg h3]
  have h3I : ¬ (64 : Int) < (l.length : Int) := by omega
  go_enter Try.func24, Try.ntmps24
  go_wp2
  go_loopw [19] (fun iv wr => ∃ k : Nat, k ≤ l.length ∧ iv = .int .i64 k ∧ Hid (fst1 q (l.drop k) = fst1 q l) ∧ Dr w wr) (fun iv _ => l.length - (intOf iv).toNat)
  case atStart => exact ⟨0, by omega, rfl, rfl, Dr.refl _⟩
  case round =>
    obtain ⟨k, hk, rfl, hj, hD⟩ := hrel
    by_cases hlt : k < l.length
    · have hltI : (k : Int) < (l.length : Int) := by omega
      obtain ⟨b1, o1, rfl, hb1, hc1⟩ := (HIN.out.dr hD).get k hlt
      have e0 := hc1 k hlt
      have HS := hidI (fun W => fSingle_any q l[k] W (by have := HZ.out _ (List.getElem_mem hlt); omega))
      have HF := hidI (fst1_at (q := q) hlt)
      generalize l[k] = s at *
      generalize oneA q s = r at *
      clear hc1
      go_wp2_with fail
      refine (HS.out wr).mono ?_
      rintro e w2 ⟨rfl, hD2⟩
      by_cases hr : r = 0
      · have hrn : (r != 0) = false := by simpa using hr
        have HJ : Hid (fst1 q (l.drop (k + 1)) = fst1 q l) := by rw [Hid, ← hj.out, HF.out, if_neg (by simpa using hr)]
        clear hr
        go_wp2
        go_roundw
        case rel => exact ⟨k + 1, by omega, by go_num, HJ, hD.trans hD2⟩
        case measure => simp [intOf]; omega
      · have hrn : (r != 0) = true := by simpa using hr
        have HJ : Hid (errA q l = r) := by rw [Hid, HX.out, ← hj.out, HF.out, if_pos hr]
        clear hr
        go_wp2
        go_ret
        exact ⟨ret_int HJ.out.symm, hD.trans hD2⟩
    · obtain rfl : k = l.length := by omega
      have hltI : ¬ (l.length : Int) < (l.length : Int) := by omega
      have HJ : Hid (errA q l = 0) := by rw [Hid, HX.out, ← hj.out, fst1_end (Nat.le_refl _)]
      go_wp2
      go_ret
      exact ⟨ret_int HJ.out.symm, hD⟩

set_option maxRecDepth 100000 in
theorem fLongest_any (l : List ByteArray) (p : Option Addr) (c : Nat) (w : World) (hin : Sl w Value.string p l) (hl : l.length ≤ 9223372036854775807) :
    Calls Try.prog 14 #[.slice p l.length c] w fun e w' => e = .returned (.int .i64 (lngA l)) ∧ w' = w := by
  go_enter Try.func14, Try.ntmps14
  go_wp2
  go_loop [3, 8] (fun nv i => ∃ k : Nat, k ≤ l.length ∧ i = .int .i64 k ∧ nv = .int .i64 (lngA (l.take k))) (fun _ i => l.length - (intOf i).toNat)
  case atStart => exact ⟨0, by omega, rfl, rfl⟩
  case round =>
    obtain ⟨k, hk, rfl, rfl⟩ := hrel
    by_cases hlt : k < l.length
    · have hltI : (k : Int) < (l.length : Int) := by omega
      obtain ⟨b1, o1, rfl, hb1, hc1⟩ := hin.get k hlt
      have e0 := hc1 k hlt
      have HS := hidI (lngA_snoc l k hlt)
      have hsz := Nat.zero_le (l[k].size)
      generalize lngA (l.take k) = n at *
      go_wp2
      go_round
      case rel => exact ⟨k + 1, by omega, by go_num, by rw [HS.out]⟩
      case measure => simp [intOf]; omega
    · obtain rfl : k = l.length := by omega
      have hltI : ¬ (l.length : Int) < (l.length : Int) := by omega
      rw [List.take_length]
      go_wp2
      go_ret
      exact ⟨rfl, rfl⟩
end Go.Proofs.Ytkcapbdcmhdcmaa
namespace Go.Proofs.Ytkcapbdcmhdcmaa
open Go.RowKit Go.Shelf

set_option maxRecDepth 100000 in
set_option maxHeartbeats 2000000 in
theorem fCheck_any (q : Int) (l : List ByteArray) (p : Option Addr) (c : Nat) (w : World) (hin : Sl w Value.string p l) (hl : l.length ≤ 9223372036854775807) (hz : Sz l) :
    Calls Try.prog 11 #[.int .i64 q, .slice p l.length c] w fun e w' => e = .returned (.int .i64 (chkF q l)) ∧ RowKit.Below w.heap.size w w' := by
  have HIN := hidI hin
  have HZ := hidI hz
  have HER := hidI (fErrors_any q l p c w hin hl hz)
  clear hin hz
  by_cases h1 : q < 1
  · have HX : Hid (chkF q l = 12) := if_pos (.inl h1)
    have HY : Hid (errA q l = 12) := if_pos (.inl h1)
    rw [HY.out] at HER
    go_enter Try.func11, Try.ntmps11
    go_wp2_with fail
    refine HER.out.mono ?_
    rintro e w2 ⟨rfl, hD⟩
    go_wp2
    go_ret
    exact ⟨ret_int HX.out.symm, hD.below _⟩
  by_cases h2 : 16 < q
  · have HX : Hid (chkF q l = 12) := if_pos (.inr h2)
    have HY : Hid (errA q l = 12) := if_pos (.inr h2)
    rw [HY.out] at HER
    go_enter Try.func11, Try.ntmps11
    go_wp2_with fail
    refine HER.out.mono ?_
    rintro e w2 ⟨rfl, hD⟩
    go_wp2
    go_ret
    exact ⟨ret_int HX.out.symm, hD.below _⟩
  by_cases h3 : 64 < l.length
  · have HX : Hid (chkF q l = 4) := by unfold Hid chkF; rw [if_neg (by omega), if_pos h3]
    have HY : Hid (errA q l = 4) := by unfold Hid errA; rw [if_neg (by omega), if_pos h3]
    rw [HY.out] at HER
    have h3I : (64 : Int) < (l.length : Int) := by omega
    go_enter Try.func11, Try.ntmps11
    go_wp2_with fail
    refine HER.out.mono ?_
    rintro e w2 ⟨rfl, hD⟩
    go_wp2
    go_ret
    exact ⟨ret_int HX.out.symm, hD.below _⟩
  have HX : Hid (chkF q l = chk2 q none l) := by unfold Hid chkF; rw [if_neg (by omega), if_neg h3]
  have h3I : ¬ (64 : Int) < (l.length : Int) := by omega
  clear HER
  go_enter Try.func11, Try.ntmps11
  go_wp2
  go_loopw [24] (fun iv wr => ∃ k : Nat, k ≤ l.length ∧ iv = .int .i64 k ∧ Hid (chk2 q (pvB l k) (l.drop k) = chk2 q none l) ∧ RowKit.Below w.heap.size w wr) (fun iv _ => l.length - (intOf iv).toNat)
  case atStart => exact ⟨0, by omega, rfl, rfl, RowKit.Below.refl _ _⟩
  case round =>
    obtain ⟨k, hk, rfl, hj, hB⟩ := hrel
    by_cases hlt : k < l.length
    · have hltI : (k : Int) < (l.length : Int) := by omega
      obtain ⟨b1, o1, rfl, hb1, hc1⟩ := (HIN.out.below hB).get k hlt
      have e0 := hc1 k hlt
      have HS := hidI (fun W => fSingle_any q l[k] W (by have := HZ.out _ (List.getElem_mem hlt); omega))
      have HF := hidI (chk2_at (q := q) hlt)
      by_cases hr : oneA q l[k] = 0
      · rw [hr] at HS
        rw [hr] at HF
        by_cases hk0 : k = 0
        · subst hk0
          have HJ : Hid (chk2 q (pvB l (0 + 1)) (l.drop (0 + 1)) = chk2 q none l) := by
            rw [Hid, ← hj.out, HF.out]; simp [pvB]
          have e0 : wr.cell? ⟨b1, o1, none⟩ = some (.string l[0]) := e0
          generalize l[0] = s at *
          clear hc1 hr
          go_wp2_with fail
          refine (HS.out wr).mono ?_
          rintro e w2 ⟨rfl, hD2⟩
          go_wp2
          go_roundw
          case rel => exact ⟨1, by omega, rfl, HJ, hB.trans (hD2.below _)⟩
          case measure => simp [intOf]; omega
        · obtain ⟨m, rfl⟩ : ∃ m, k = m + 1 := ⟨k - 1, by omega⟩
          have hml' : m < l.length := by omega
          have e1' := hc1 m hml'
          obtain ⟨r, hr2⟩ : ∃ r, r = ordB l[m] l[m + 1] := ⟨_, rfl⟩
          have HF2 : Hid (chk2 q (pvB l (m + 1)) (l.drop (m + 1)) = if 0 ≤ r then 10 else chk2 q (pvB l (m + 1 + 1)) (l.drop (m + 1 + 1))) := by
            rw [Hid, HF.out, hr2]
            simp [pvB, hml']
          have HO : Hid (∀ W, Calls Try.prog 27 #[.string l[m], .string l[m + 1]] W fun e w' => e = .returned (.int .i64 r) ∧ RowKit.Below W.heap.size W w') := fun W => by
            rw [hr2]
            exact (fOrder_any l[m] l[m + 1] W).mono (fun e w' h => ⟨h.1, by rw [h.2]; exact (RowKit.Below.refl _ _).alloc (Nat.le_refl _) _⟩)
          clear HF
          have hml : (m : Int) < (l.length : Int) := by omega
          have hm0 : ¬ m + 1 = 0 := by omega
          generalize l[m] = u at *
          generalize l[m + 1] = s at *
          clear hc1 hr hr2
          go_wp2_with fail
          refine (HS.out wr).mono ?_
          rintro e w2 ⟨rfl, hD2⟩
          have e1'' := (hD2.cell _).trans e1'
          go_wp2_with fail
          refine (HO.out w2).mono ?_
          rintro e w3 ⟨rfl, hB3'⟩
          have hB2 := hB.trans (hD2.below w.heap.size)
          have hB3 := hB2.trans (hB3'.mono hB2.size)
          by_cases hr : 0 ≤ r
          · have HJ : Hid (chkF q l = 10) := by rw [Hid, HX.out, ← hj.out, HF2.out, if_pos hr]
            go_wp2
            go_ret
            exact ⟨ret_int HJ.out.symm, hB3⟩
          · have HJ : Hid (chk2 q (pvB l (m + 1 + 1)) (l.drop (m + 1 + 1)) = chk2 q none l) := by rw [Hid, ← hj.out, HF2.out, if_neg hr]
            go_wp2
            go_roundw
            case rel => exact ⟨m + 1 + 1, by omega, by go_num, HJ, hB3⟩
            case measure => simp [intOf]; omega
      · have hrn : (oneA q l[k] != 0) = true := by simpa using hr
        have HJ : Hid (chkF q l = oneA q l[k]) := by rw [Hid, HX.out, ← hj.out, HF.out, if_pos hr]
        generalize oneA q l[k] = r at *
        clear hr hc1
        go_wp2_with fail
        refine (HS.out wr).mono ?_
        rintro e w2 ⟨rfl, hD2⟩
        go_wp2
        go_ret
        exact ⟨ret_int HJ.out.symm, hB.trans (hD2.below _)⟩
    · obtain rfl : k = l.length := by omega
      have hltI : ¬ (l.length : Int) < (l.length : Int) := by omega
      have HJ : Hid (chkF q l = 0) := by rw [Hid, HX.out, ← hj.out, chk2_end (Nat.le_refl _)]
      go_wp2
      go_ret
      exact ⟨ret_int HJ.out.symm, hB⟩
end Go.Proofs.Ytkcapbdcmhdcmaa
namespace Go.Proofs.Ytkcapbdcmhdcmaa
open Go.RowKit Go.Shelf

/-- The library's variable holds a number. -/
def Mx (w : World) : Prop := ∃ m, w.cell? ⟨0, 0, none⟩ = some (.int .i64 m)
theorem Mx.below {w w' : World} (h : Mx w) (hB : RowKit.Below w.heap.size w w') : Mx w' := by
  obtain ⟨m, hm⟩ := h
  exact ⟨m, (hB.cell (World.block_lt_of_cell? w _ hm)).trans hm⟩
theorem Mx.dr {w w' : World} (h : Mx w) (hD : Dr w w') : Mx w' := h.below (hD.below _)
theorem sContains_any (s u : ByteArray) (w : World) (hm : Mx w) (hs : s.size < 4294967281) :
    Calls Try.prog 17 #[.string s, .string u] w fun e w' => e = .returned (.bool (Lib.contains s.data.toList u.data.toList)) ∧ w' = w := by
  obtain ⟨m, hm⟩ := hm
  exact Try.strings_Contains s u m w hs hm
theorem fallow1_any (s u : ByteArray) (b : Nat) (w : World) (hm : Mx w) (hs : s.size < 4294967281) (hb : w.cell? ⟨b, 0, none⟩ = some (.string s)) :
    Calls Try.prog 52 #[.string u, .pointer (some ⟨b, 0, none⟩)] w fun e w' => e = .returned (.bool (Lib.contains s.data.toList u.data.toList)) ∧ w' = w := by
  have HC := hidI (sContains_any s u w hm hs)
  generalize Lib.contains s.data.toList u.data.toList = r at *
  go_enter Try.func52, Try.ntmps52
  go_wp2_with fail
  refine HC.out.mono ?_
  rintro e w' ⟨rfl, hw⟩
  have hw := hw.symm
  subst hw
  go_wp2
  go_ret
  exact ⟨rfl, rfl⟩
set_option maxRecDepth 100000 in
set_option maxHeartbeats 1000000 in
theorem fallow_any (l : List ByteArray) (p : Option Addr) (c : Nat) (s : ByteArray) (w : World) (hin : Sl w Value.string p l) (hl : l.length ≤ 9223372036854775807) (hm : Mx w) (hs : s.size < 4294967281) :
    Calls Try.prog 31 #[.slice p l.length c, .string s] w fun e w' => e = .returned (.bool (alwA l s)) ∧ RowKit.Below w.heap.size w w' := by
  obtain ⟨w0, hw0⟩ : ∃ w0, w0 = w.alloc (.cells #[.string s] 9) := ⟨_, rfl⟩
  have b0 : VRow w0 w.heap.size 9 [.string s] := by subst hw0; exact VRow.new w _ _
  have hB0 : RowKit.Below w.heap.size w w0 := by subst hw0; exact (RowKit.Below.refl _ _).alloc (Nat.le_refl _) _
  have hm0 := hm.below hB0
  have hin0 := hin.below hB0
  have HC : Hid (Calls Try.prog 18 #[.slice p l.length c, .func (.func 52) #[] #[.pointer (some ⟨w.heap.size, 0, none⟩)]] w0 fun e w' => e = .returned (.bool (l.any (fun u => Lib.contains s.data.toList u.data.toList))) ∧ Dr w0 w') := by
    rcases Nat.eq_zero_or_pos l.length with h0 | h0
    · have : l = [] := List.length_eq_zero_iff.1 h0
      subst this
      refine (Try.slices_ContainsFunc_empty (α := ByteArray) p c _ w0).mono ?_
      rintro e w' ⟨rfl, rfl⟩
      exact ⟨rfl, Dr.refl _⟩
    · obtain ⟨b, off, rfl, hb, hc⟩ := hin0.get 0 h0
      refine (Try.slices_ContainsFunc Value.string (fun u => Lib.contains s.data.toList u.data.toList) 52 #[.pointer (some ⟨w.heap.size, 0, none⟩)] (enters_of Try.func52 (by kernel_rfl) rfl) b off l.length c l w0 ?_ (Nat.le_refl _) hl ?_).mono ?_
      · intro W x hW
        exact (fallow1_any s x w.heap.size W (hm0.below hW) hs ((b0.below hW b0.lt).at 0 rfl)).mono (fun e w' h => ⟨h.1, 0, h.2⟩)
      · intro j hj
        rw [hc j hj, getElem!_pos _ j hj]
      · rintro e w' ⟨rfl, q, rfl⟩
        rw [List.take_length]
        exact ⟨rfl, ⟨q, rfl⟩⟩
  obtain ⟨r, hr⟩ : ∃ r, r = l.any (fun u => Lib.contains s.data.toList u.data.toList) := ⟨_, rfl⟩
  have HX : Hid (alwA l s = !r) := by rw [Hid, hr]; rfl
  rw [← hr] at HC
  clear hr hin hin0
  go_enter Try.func31, Try.ntmps31
  go_wp2_with fail
  rw [← hw0]
  clear hw0
  refine HC.mono ?_
  rintro e w' ⟨rfl, hD⟩
  go_wp2
  go_ret
  exact ⟨ret_bool HX.out.symm, hB0.trans ((hD.below _).mono hB0.size)⟩

set_option maxRecDepth 100000 in
set_option maxHeartbeats 1000000 in
theorem fAllowed_any (q : Int) (l : List ByteArray) (p : Option Addr) (c : Nat) (s : ByteArray) (w : World) (hin : Sl w Value.string p l) (hl : l.length ≤ 9223372036854775807) (hz : Sz l) (hm : Mx w) (hs : s.size ≤ 1000000) :
    Calls Try.prog 9 #[.int .i64 q, .slice p l.length c, .string s] w fun e w' => e = .returned (.tuple #[.bool (alwR q l s).1, .int .i64 (alwR q l s).2]) ∧ RowKit.Below w.heap.size w w' := by
  have HC := hidI (fCheck_any q l p c w hin hl hz)
  have HW := hidI (fun W => wcheck_any q s W (by unfold maxLen; omega))
  have HA := hidI (fun W (hW : RowKit.Below w.heap.size w W) => fallow_any l p c s W (hin.below hW) hl (hm.below hW) (by omega))
  have HX : Hid (alwR q l s = if chkF q l ≠ 0 then (false, 1) else if wchk q s.data.toList ≠ 0 then (false, wchk q s.data.toList) else (alwA l s, 0)) := rfl
  generalize chkF q l = k at *
  generalize wchk q s.data.toList = e0 at *
  generalize alwA l s = r at *
  generalize alwR q l s = x at *
  clear hin hm
  by_cases hk : k = 0
  · subst hk
    by_cases he : e0 = 0
    · subst he
      have HY : Hid (x = (r, 0)) := HX.out
      clear HX
      go_enter Try.func9, Try.ntmps9
      go_wp2_with fail
      refine HC.out.mono ?_
      rintro e w1 ⟨rfl, hB1⟩
      go_wp2_with fail
      refine (HW.out w1).mono ?_
      rintro e w2 ⟨rfl, hD2⟩
      have hB2 := hB1.trans (hD2.below _)
      go_wp2_with fail
      refine (HA.out w2 hB2).mono ?_
      rintro e w3 ⟨rfl, hB3⟩
      go_wp2
      go_ret2
      exact ⟨ret_bi HY.out, hB2.trans (hB3.mono hB2.size)⟩
    · have HY : Hid (x = (false, e0)) := by rw [Hid, HX.out, if_neg (by simp), if_pos he]
      have hen : (e0 != 0) = true := by simpa using he
      clear HX he
      go_enter Try.func9, Try.ntmps9
      go_wp2_with fail
      refine HC.out.mono ?_
      rintro e w1 ⟨rfl, hB1⟩
      go_wp2_with fail
      refine (HW.out w1).mono ?_
      rintro e w2 ⟨rfl, hD2⟩
      have hB2 := hB1.trans (hD2.below _)
      go_wp2
      go_ret2
      exact ⟨ret_bi HY.out, hB2⟩
  · have HY : Hid (x = (false, 1)) := by rw [Hid, HX.out, if_pos hk]
    have hkn : (k != 0) = true := by simpa using hk
    clear HX hk
    go_enter Try.func9, Try.ntmps9
    go_wp2_with fail
    refine HC.out.mono ?_
    rintro e w1 ⟨rfl, hB1⟩
    go_wp2
    go_ret2
    exact ⟨ret_bi HY.out, hB1⟩
end Go.Proofs.Ytkcapbdcmhdcmaa
namespace Go.Proofs.Ytkcapbdcmhdcmaa
open Go.RowKit Go.Shelf

theorem bless_cmp : ∀ x y : List UInt8, Op.bytesLess x y = decide (Lib.compareBytes x y < 0)
  | [], [] => by simp [Op.bytesLess, Lib.compareBytes]
  | _ :: _, [] => by simp [Op.bytesLess, Lib.compareBytes]
  | [], _ :: _ => by simp [Op.bytesLess, Lib.compareBytes]
  | a :: x, b :: y => by
    unfold Op.bytesLess Lib.compareBytes
    by_cases h : a < b
    · simp [h]
    · by_cases h2 : b < a
      · have h3 : ¬ a = b := by rintro rfl; exact h h2
        simp [h, h2, h3]
      · have h3 : a = b := UInt8.le_antisymm (UInt8.not_lt.1 h2) (UInt8.not_lt.1 h)
        subst h3
        simp [h, bless_cmp x y]
theorem rless_any (a b : ByteArray) (w : World) : Calls Try.prog 35 #[.string a, .string b] w fun e w' => e = .returned (.bool (decide (ordB a b < 0))) ∧ w' = w := by
  by_cases h : a.size = b.size
  · have h1 : ¬ (a.size : Int) < (b.size : Int) := by omega
    have h2 : ((a.size : Int) == (b.size : Int)) = true := by rw [h]; simp
    have HX : Hid (Op.bytesLess a.toList b.toList = decide (ordB a b < 0)) := by
      rw [Hid, bless_cmp, Lib.toList_data, Lib.toList_data, ordB_eq (by rw [h]; exact c3_zero.2 rfl)]
    clear h
    go_enter Try.func35, Try.ntmps35
    go_wp2
    go_ret
    exact ⟨ret_bool HX.out, rfl⟩
  · have hn : c3 (a.size : Int) (b.size : Int) ≠ 0 := fun e => h (by have := c3_zero.1 e; omega)
    have h2 : ((a.size : Int) == (b.size : Int)) = false := by simp; omega
    by_cases h3 : a.size < b.size
    · have h1 : (a.size : Int) < (b.size : Int) := by omega
      have HX : Hid (decide (ordB a b < 0) = true) := by rw [Hid, ordB_ne hn, decide_eq_true_eq, c3_neg]; exact h1
      clear h hn
      go_enter Try.func35, Try.ntmps35
      go_wp2
      go_ret
      exact ⟨ret_bool HX.out.symm, rfl⟩
    · have h1 : ¬ (a.size : Int) < (b.size : Int) := by omega
      have HX : Hid (decide (ordB a b < 0) = false) := by rw [Hid, ordB_ne hn, decide_eq_false_iff_not, c3_neg]; exact h1
      clear h hn
      go_enter Try.func35, Try.ntmps35
      go_wp2
      go_ret
      exact ⟨ret_bool HX.out.symm, rfl⟩
theorem rone_any (q : Int) (s : ByteArray) (w : World) (hs : s.size ≤ 140737488355328) :
    Calls Try.prog 28 #[.int .i64 q, .string s] w fun e w' => e = .returned (.int .i64 (oneA q s)) ∧ Dr w w' := by
  by_cases h0 : s = (⟨#[]⟩ : ByteArray)
  · have HX : Hid (oneA q s = 5) := if_pos h0
    subst h0
    go_enter Try.func28, Try.ntmps28
    go_wp2
    go_ret
    exact ⟨ret_int HX.out.symm, Dr.refl _⟩
  · have hb : s.toList.isEmpty = false := by have := bts_f h0; simpa using this
    by_cases h1 : 32 < s.size
    · have HX : Hid (oneA q s = 4) := by unfold Hid oneA; rw [if_neg h0, if_pos h1]
      have h1I : (32 : Int) < (s.size : Int) := by omega
      clear h0
      go_enter Try.func28, Try.ntmps28
      go_wp2
      go_ret
      exact ⟨ret_int HX.out.symm, Dr.refl _⟩
    · have HX : Hid (oneA q s = wchk q s.data.toList) := by unfold Hid oneA; rw [if_neg h0, if_neg h1]
      have h1I : ¬ (32 : Int) < (s.size : Int) := by omega
      have HW := hidI (check07_any q s w (by unfold maxLen; omega))
      generalize wchk q s.data.toList = r at *
      clear h0
      go_enter Try.func28, Try.ntmps28
      go_wp2_with fail
      refine HW.out.mono ?_
      rintro e w2 ⟨rfl, hD⟩
      go_wp2
      go_ret
      exact ⟨ret_int HX.out.symm, by rw [← hD]; exact Dr.refl _⟩
set_option maxRecDepth 100000 in
theorem rfactor_any (s u : ByteArray) (w : World) (hs : s.size ≤ 1000000) (hu : u.size ≤ 1000000) :
    Calls Try.prog 29 #[.string s, .string u] w fun e w' => e = .returned (.bool (Lib.contains s.data.toList u.data.toList)) ∧ w' = w := by
  go_enter Try.func29, Try.ntmps29
  go_wp2
  go_loop [5] (fun i => ∃ k : Nat, k ≤ s.size + 1 ∧ i = .int .i64 k ∧ Hid (∀ j, j < k → Lib.occAt s.data.toList u.data.toList j = false)) (fun i => s.size + 1 - (intOf i).toNat)
  case atStart => exact ⟨0, by omega, rfl, fun j hj => by omega⟩
  case round =>
    obtain ⟨k, hk, rfl, hj⟩ := hrel
    have hw1 : IntKind.i64.wrap ((k : Int) + (u.size : Int)) = (k : Int) + (u.size : Int) := by rw [IntKind.wrap_i64]; omega
    by_cases hlt : k + u.size ≤ s.size
    · have hltI : (k : Int) + (u.size : Int) ≤ (s.size : Int) := by omega
      have hk2 : (k : Int) ≤ (k : Int) + (u.size : Int) := by omega
      have hk3 : ((k : Int) + (u.size : Int)).toNat = k + u.size := by omega
      have hoc := Lib.occ_of_piece s u k hlt
      cases ho : Lib.occAt s.data.toList u.data.toList k
      · rw [ho] at hoc
        replace hoc := hoc.symm
        have HN : Hid (∀ j, j < k + 1 → Lib.occAt s.data.toList u.data.toList j = false) := fun j h => by
          rcases Nat.lt_succ_iff_lt_or_eq.1 h with h | h
          · exact hj.out j h
          · subst h; exact ho
        clear ho
        go_wp2
        go_round
        case rel => exact ⟨k + 1, by omega, by go_num, HN⟩
        case measure => simp [intOf]; omega
      · rw [ho] at hoc
        replace hoc := hoc.symm
        have HX : Hid (Lib.contains s.data.toList u.data.toList = true) := by
          unfold Hid Lib.contains
          rw [Lib.index_first (i := k) (by have : s.data.toList.length = s.size := by simp
                                           omega) ho hj.out]
          simp
        clear ho
        go_wp2
        go_ret
        exact ⟨ret_bool HX.out.symm, rfl⟩
    · have hltI : ¬ (k : Int) + (u.size : Int) ≤ (s.size : Int) := by omega
      have HX : Hid (Lib.contains s.data.toList u.data.toList = false) := by
        unfold Hid Lib.contains
        rw [Lib.index_none (fun j hjl => by
          by_cases hjk : j < k
          · exact hj.out j hjk
          · rw [Bool.eq_false_iff]
            intro ho
            have hl1 : s.data.toList.length = s.size := by simp
            have hl2 : u.data.toList.length = u.size := by simp
            rcases Lib.occAt_room ho with h | h
            · omega
            · rw [h] at hl2; simp at hl2; omega)]
        simp
      go_wp2
      go_ret
      exact ⟨ret_bool HX.out.symm, rfl⟩
end Go.Proofs.Ytkcapbdcmhdcmaa
namespace Go.Proofs.Ytkcapbdcmhdcmaa
open Go.RowKit Go.Shelf

set_option maxRecDepth 100000 in
theorem rLongest_any (l : List ByteArray) (p : Option Addr) (c : Nat) (w : World) (hin : Sl w Value.string p l) (hl : l.length ≤ 9223372036854775807) :
    Calls Try.prog 15 #[.slice p l.length c] w fun e w' => e = .returned (.int .i64 (lngA l)) ∧ w' = w := by
  go_enter Try.func15, Try.ntmps15
  go_wp2
  go_loop [3, 4] (fun nv i => ∃ k : Nat, k ≤ l.length ∧ i = .int .i64 k ∧ nv = .int .i64 (lngA (l.take k))) (fun _ i => l.length - (intOf i).toNat)
  case atStart => exact ⟨0, by omega, rfl, rfl⟩
  case round =>
    obtain ⟨k, hk, rfl, rfl⟩ := hrel
    by_cases hlt : k < l.length
    · have hltI : (k : Int) < (l.length : Int) := by omega
      obtain ⟨b1, o1, rfl, hb1, hc1⟩ := hin.get k hlt
      have e0 := hc1 k hlt
      have HS := hidI (lngA_snoc l k hlt)
      have hsz := Nat.zero_le (l[k].size)
      generalize lngA (l.take k) = n at *
      go_wp2
      go_round
      case rel => exact ⟨k + 1, by omega, by go_num, by rw [HS.out]⟩
      case measure => simp [intOf]; omega
    · obtain rfl : k = l.length := by omega
      have hltI : ¬ (l.length : Int) < (l.length : Int) := by omega
      rw [List.take_length]
      go_wp2
      go_ret
      exact ⟨rfl, rfl⟩

theorem alw_take (l : List ByteArray) (s : ByteArray) (k : Nat) (h : k < l.length) : (l.take (k + 1)).any (fun u => Lib.contains s.data.toList u.data.toList) = ((l.take k).any (fun u => Lib.contains s.data.toList u.data.toList) || Lib.contains s.data.toList l[k].data.toList) := by
  rw [List.take_succ_eq_append_getElem h, List.any_append, List.any_cons, List.any_nil, Bool.or_false]
set_option maxRecDepth 100000 in
theorem rallow_any (l : List ByteArray) (p : Option Addr) (c : Nat) (s : ByteArray) (w : World) (hin : Sl w Value.string p l) (hl : l.length ≤ 9223372036854775807) (hz : Sz l) (hs : s.size ≤ 1000000) :
    Calls Try.prog 33 #[.slice p l.length c, .string s] w fun e w' => e = .returned (.bool (alwA l s)) ∧ w' = w := by
  have HZ := hidI hz
  go_enter Try.func33, Try.ntmps33
  go_wp2
  go_loopw [5] (fun i wr => ∃ k : Nat, k ≤ l.length ∧ i = .int .i64 k ∧ Hid ((l.take k).any (fun u => Lib.contains s.data.toList u.data.toList) = false) ∧ wr = w) (fun i _ => l.length - (intOf i).toNat)
  case atStart => exact ⟨0, by omega, rfl, rfl, rfl⟩
  case round =>
    obtain ⟨k, hk, rfl, hj, hwr⟩ := hrel
    subst hwr
    by_cases hlt : k < l.length
    · have hltI : (k : Int) < (l.length : Int) := by omega
      obtain ⟨b1, o1, rfl, hb1, hc1⟩ := hin.get k hlt
      have e0 := hc1 k hlt
      have HF := hidI (rfactor_any s l[k] wr hs (HZ.out _ (List.getElem_mem hlt)))
      have HT := hidI (alw_take l s k hlt)
      have HM : Hid (Lib.contains s.data.toList l[k].data.toList = true → alwA l s = false) := fun h => by
        unfold alwA
        rw [List.any_eq_true.2 ⟨l[k], List.getElem_mem hlt, h⟩]; rfl
      rw [hj.out, Bool.false_or] at HT
      generalize Lib.contains s.data.toList l[k].data.toList = r at *
      clear hc1
      cases r
      · go_wp2_with fail
        refine HF.out.mono ?_
        rintro e w2 ⟨rfl, hw⟩
        go_wp2
        go_roundw
        case rel => exact ⟨k + 1, by omega, by go_num, HT, by first | exact hw | trivial⟩
        case measure => simp [intOf]; omega
      · have HX := hidI (HM.out rfl)
        go_wp2_with fail
        refine HF.out.mono ?_
        rintro e w2 ⟨rfl, hw⟩
        go_wp2
        go_ret
        exact ⟨ret_bool HX.out.symm, by first | exact hw | rfl⟩
    · obtain rfl : k = l.length := by omega
      have hltI : ¬ (l.length : Int) < (l.length : Int) := by omega
      have HX : Hid (alwA l s = true) := by
        unfold Hid alwA
        have := hj.out
        rw [List.take_length] at this
        rw [this]; rfl
      go_wp2
      go_ret
      exact ⟨ret_bool HX.out.symm, rfl⟩

set_option maxRecDepth 100000 in
set_option maxHeartbeats 2000000 in
theorem rCheck14_any (q : Int) (l : List ByteArray) (p : Option Addr) (c : Nat) (w : World) (hin : Sl w Value.string p l) (hl : l.length ≤ 9223372036854775807) (hz : Sz l) :
    Calls Try.prog 12 #[.int .i64 q, .slice p l.length c] w fun e w' => e = .returned (.int .i64 (chkF q l)) ∧ Dr w w' := by
  have HIN := hidI hin
  have HZ := hidI hz
  clear hin hz
  by_cases h1 : q < 1
  · have HX : Hid (chkF q l = 12) := if_pos (.inl h1)
    go_enter Try.func12, Try.ntmps12
    go_wp2
    go_ret
    exact ⟨ret_int HX.out.symm, Dr.refl _⟩
  by_cases h2 : 16 < q
  · have HX : Hid (chkF q l = 12) := if_pos (.inr h2)
    go_enter Try.func12, Try.ntmps12
    go_wp2
    go_ret
    exact ⟨ret_int HX.out.symm, Dr.refl _⟩
  by_cases h3 : 64 < l.length
  · have HX : Hid (chkF q l = 4) := by unfold Hid chkF; rw [if_neg (by omega), if_pos h3]
    have h3I : (64 : Int) < (l.length : Int) := by omega
    go_enter Try.func12, Try.ntmps12
    go_wp2
    go_ret
    exact ⟨ret_int HX.out.symm, Dr.refl _⟩
  have HX : Hid (chkF q l = chk2 q none l) := by unfold Hid chkF; rw [if_neg (by omega), if_neg h3]
  have h3I : ¬ (64 : Int) < (l.length : Int) := by omega
  go_enter Try.func12, Try.ntmps12
  go_wp2
  go_loopw [5] (fun iv wr => ∃ k : Nat, k ≤ l.length ∧ iv = .int .i64 k ∧ Hid (chk2 q (pvB l k) (l.drop k) = chk2 q none l) ∧ Dr w wr) (fun iv _ => l.length - (intOf iv).toNat)
  case atStart => exact ⟨0, by omega, rfl, rfl, Dr.refl _⟩
  case round =>
    obtain ⟨k, hk, rfl, hj, hB⟩ := hrel
    by_cases hlt : k < l.length
    · have hltI : (k : Int) < (l.length : Int) := by omega
      obtain ⟨b1, o1, rfl, hb1, hc1⟩ := (HIN.out.dr hB).get k hlt
      have e0 := hc1 k hlt
      have HS := hidI (fun W => rone_any q l[k] W (by have := HZ.out _ (List.getElem_mem hlt); omega))
      have HF := hidI (chk2_at (q := q) hlt)
      by_cases hr : oneA q l[k] = 0
      · rw [hr] at HS
        rw [hr] at HF
        by_cases hk0 : k = 0
        · subst hk0
          have HJ : Hid (chk2 q (pvB l (0 + 1)) (l.drop (0 + 1)) = chk2 q none l) := by
            rw [Hid, ← hj.out, HF.out]; simp [pvB]
          have e0 : wr.cell? ⟨b1, o1, none⟩ = some (.string l[0]) := e0
          generalize l[0] = s at *
          clear hc1 hr
          go_wp2_with fail
          refine (HS.out wr).mono ?_
          rintro e w2 ⟨rfl, hD2⟩
          have d00 : decide ((0 : Int) < 0) = false := rfl
          go_upto_region 11 with fail
          (refine wp_region_quiet_lit (by kernel_rfl) (by kernel_rfl) ?_; (repeat (first | go_big_quiet_step (fail) | quiet_step (fail))); refine wpQuiet_nil ?_; intro _ hwq; obtain ⟨nq, hwq2⟩ := hwq; subst hwq2)
          go_wp2
          go_roundw
          case rel => exact ⟨1, by omega, rfl, HJ, (hB.trans hD2).one _⟩
          case measure => simp [intOf]; omega
        · obtain ⟨m, rfl⟩ : ∃ m, k = m + 1 := ⟨k - 1, by omega⟩
          have hml' : m < l.length := by omega
          have e1' := hc1 m hml'
          obtain ⟨r, hr2⟩ : ∃ r, r = decide (ordB l[m] l[m + 1] < 0) := ⟨_, rfl⟩
          have HF2 : Hid (chk2 q (pvB l (m + 1)) (l.drop (m + 1)) = if r = false then 10 else chk2 q (pvB l (m + 1 + 1)) (l.drop (m + 1 + 1))) := by
            rw [Hid, HF.out, hr2]
            simp [pvB, hml']
          have HO : Hid (∀ W, Calls Try.prog 35 #[.string l[m], .string l[m + 1]] W fun e w' => e = .returned (.bool r) ∧ w' = W) := fun W => by
            rw [hr2]; exact rless_any l[m] l[m + 1] W
          clear HF
          have hml : (m : Int) < (l.length : Int) := by omega
          have hw2 : IntKind.i64.wrap ((m : Int) + 1 - 1) = (m : Int) := by rw [IntKind.wrap_i64]; omega
          have hg0 : decide ((0 : Int) < (m : Int) + 1) = true := decide_eq_true (by omega)
          have hg1 : (0 : Int) < (m : Int) + 1 := by omega
          have hmk : (m : Int) + 1 < (l.length : Int) := by omega
          have hmi : (m : Int) + 1 - 1 = (m : Int) := by omega
          have hmt : ((m : Int) + 1).toNat = m + 1 := by omega
          have hmp : (0 : Int) ≤ (m : Int) + 1 := by omega
          generalize l[m] = u at *
          generalize l[m + 1] = s at *
          clear hc1 hr hr2
          go_wp2_with fail
          refine (HS.out wr).mono ?_
          rintro e w2 ⟨rfl, hD2⟩
          have e1'' := (hD2.cell _).trans e1'
          have e0'' := (hD2.cell _).trans e0
          go_upto_region 11 with fail
          (refine wp_region_quiet_lit (by kernel_rfl) (by kernel_rfl) ?_; (repeat (first | go_big_quiet_step ((go_at_call 35; exact Calls.quiet_of_same (HO.out _))) | quiet_step ((go_at_call 35; exact Calls.quiet_of_same (HO.out _))))); refine wpQuiet_nil ?_; intro _ hwq; obtain ⟨nq, hwq2⟩ := hwq; subst hwq2)
          cases r
          · have HJ : Hid (chkF q l = 10) := by rw [Hid, HX.out, ← hj.out, HF2.out, if_pos rfl]
            go_wp2
            go_ret
            exact ⟨ret_int HJ.out.symm, (hB.trans hD2).one _⟩
          · have HJ : Hid (chk2 q (pvB l (m + 1 + 1)) (l.drop (m + 1 + 1)) = chk2 q none l) := by rw [Hid, ← hj.out, HF2.out, if_neg (by simp)]
            go_wp2
            go_roundw
            case rel => exact ⟨m + 1 + 1, by omega, by go_num, HJ, (hB.trans hD2).one _⟩
            case measure => simp [intOf]; omega
      · have hrn : (oneA q l[k] != 0) = true := by simpa using hr
        have HJ : Hid (chkF q l = oneA q l[k]) := by rw [Hid, HX.out, ← hj.out, HF.out, if_pos hr]
        generalize oneA q l[k] = r at *
        clear hr hc1
        go_wp2_with fail
        refine (HS.out wr).mono ?_
        rintro e w2 ⟨rfl, hD2⟩
        go_wp2
        go_ret
        exact ⟨ret_int HJ.out.symm, hB.trans hD2⟩
    · obtain rfl : k = l.length := by omega
      have hltI : ¬ (l.length : Int) < (l.length : Int) := by omega
      have HJ : Hid (chkF q l = 0) := by rw [Hid, HX.out, ← hj.out, chk2_end (Nat.le_refl _)]
      go_wp2
      go_ret
      exact ⟨ret_int HJ.out.symm, hB⟩
end Go.Proofs.Ytkcapbdcmhdcmaa
namespace Go.Proofs.Ytkcapbdcmhdcmaa
open Go.RowKit Go.Shelf

set_option maxRecDepth 100000 in
set_option maxHeartbeats 1000000 in
theorem rAllowed_any (q : Int) (l : List ByteArray) (p : Option Addr) (c : Nat) (s : ByteArray) (w : World) (hin : Sl w Value.string p l) (hl : l.length ≤ 9223372036854775807) (hz : Sz l) (hs : s.size ≤ 1000000) :
    Calls Try.prog 10 #[.int .i64 q, .slice p l.length c, .string s] w fun e w' => e = .returned (.tuple #[.bool (alwR q l s).1, .int .i64 (alwR q l s).2]) ∧ RowKit.Below w.heap.size w w' := by
  have HC := hidI (rCheck14_any q l p c w hin hl hz)
  have HW := hidI (fun W => check07_any q s W (by unfold maxLen; omega))
  have HA := hidI (fun W (hW : RowKit.Below w.heap.size w W) => rallow_any l p c s W (hin.below hW) hl hz hs)
  have HX : Hid (alwR q l s = if chkF q l ≠ 0 then (false, 1) else if wchk q s.data.toList ≠ 0 then (false, wchk q s.data.toList) else (alwA l s, 0)) := rfl
  generalize chkF q l = k at *
  generalize wchk q s.data.toList = e0 at *
  generalize alwA l s = r at *
  generalize alwR q l s = x at *
  clear hin
  by_cases hk : k = 0
  · subst hk
    by_cases he : e0 = 0
    · subst he
      have HY : Hid (x = (r, 0)) := HX.out
      clear HX
      go_enter Try.func10, Try.ntmps10
      go_wp2_with fail
      refine HC.out.mono ?_
      rintro e w1 ⟨rfl, hD1⟩
      have hB1 := hD1.below w.heap.size
      go_wp2_with fail
      refine (HW.out w1).mono ?_
      rintro e w2 ⟨rfl, hw2⟩
      have hB2 : RowKit.Below w.heap.size w w2 := by rw [← hw2]; exact hB1
      clear hw2
      go_wp2_with fail
      refine (HA.out w2 hB2).mono ?_
      rintro e w3 ⟨rfl, hw3⟩
      have hB3 : RowKit.Below w.heap.size w w3 := by rw [hw3]; exact hB2
      clear hw3
      go_wp2
      go_ret2
      exact ⟨ret_bi HY.out, hB3⟩
    · have HY : Hid (x = (false, e0)) := by rw [Hid, HX.out, if_neg (by simp), if_pos he]
      have hen : (e0 != 0) = true := by simpa using he
      clear HX he
      go_enter Try.func10, Try.ntmps10
      go_wp2_with fail
      refine HC.out.mono ?_
      rintro e w1 ⟨rfl, hD1⟩
      have hB1 := hD1.below w.heap.size
      go_wp2_with fail
      refine (HW.out w1).mono ?_
      rintro e w2 ⟨rfl, hw2⟩
      have hB2 : RowKit.Below w.heap.size w w2 := by rw [← hw2]; exact hB1
      clear hw2
      go_wp2
      go_ret2
      exact ⟨ret_bi HY.out, hB2⟩
  · have HY : Hid (x = (false, 1)) := by rw [Hid, HX.out, if_pos hk]
    have hkn : (k != 0) = true := by simpa using hk
    clear HX hk
    go_enter Try.func10, Try.ntmps10
    go_wp2_with fail
    refine HC.out.mono ?_
    rintro e w1 ⟨rfl, hD1⟩
    go_wp2
    go_ret2
    exact ⟨ret_bi HY.out, hD1.below _⟩

/-- Larger than the statements examine. -/
def gr1 (s : ByteArray) : Bool := (decide (6 < s.size) && decide (s.size ≤ 32)) || decide (35 < s.size)
def gr14 (l : List ByteArray) : Bool := l.any gr1 || (decide (6 < l.length) && decide (l.length ≤ 64)) || decide (67 < l.length)
theorem gr1_take (l : List ByteArray) (k : Nat) (h : k < l.length) : (l.take (k + 1)).any gr1 = ((l.take k).any gr1 || gr1 l[k]) := by
  rw [List.take_succ_eq_append_getElem h, List.any_append, List.any_cons, List.any_nil, Bool.or_false]
set_option maxRecDepth 100000 in
set_option maxHeartbeats 1000000 in
theorem rGreat14_any (l : List ByteArray) (p : Option Addr) (c : Nat) (w : World) (hin : Sl w Value.string p l) (hl : l.length ≤ 9223372036854775807) :
    Calls Try.prog 5 #[.slice p l.length c] w fun e w' => e = .returned (.bool (gr14 l)) ∧ w' = w := by
  go_enter Try.func5, Try.ntmps5
  go_wp2
  go_loop [3] (fun i => ∃ k : Nat, k ≤ l.length ∧ i = .int .i64 k ∧ Hid ((l.take k).any gr1 = false)) (fun i => l.length - (intOf i).toNat)
  case atStart => exact ⟨0, by omega, rfl, rfl⟩
  case round =>
    obtain ⟨k, hk, rfl, hj⟩ := hrel
    by_cases hlt : k < l.length
    · have hltI : (k : Int) < (l.length : Int) := by omega
      obtain ⟨b1, o1, rfl, hb1, hc1⟩ := hin.get k hlt
      have e0 := hc1 k hlt
      have HT := hidI (gr1_take l k hlt)
      rw [hj.out, Bool.false_or] at HT
      have HM : Hid (gr1 l[k] = true → gr14 l = true) := fun h => by
        unfold gr14
        rw [List.any_eq_true.2 ⟨l[k], List.getElem_mem hlt, h⟩]; rfl
      have HG : Hid (gr1 l[k] = ((decide (6 < l[k].size) && decide (l[k].size ≤ 32)) || decide (35 < l[k].size))) := rfl
      generalize l[k] = s at *
      clear hc1
      by_cases a1 : 6 < s.size
      · have a1I : (6 : Int) < (s.size : Int) := by omega
        by_cases a2 : s.size ≤ 32
        · have a2I : (s.size : Int) ≤ 32 := by omega
          have HX := hidI (HM.out (by rw [HG.out]; simp [a1, a2]))
          clear a1 a2
          go_wp2
          go_ret
          exact ⟨ret_bool HX.out.symm, rfl⟩
        · have a2I : ¬ (s.size : Int) ≤ 32 := by omega
          by_cases a3 : 35 < s.size
          · have a3I : (35 : Int) < (s.size : Int) := by omega
            have HX := hidI (HM.out (by rw [HG.out]; simp [a3]))
            clear a1 a2 a3
            go_wp2
            go_ret
            exact ⟨ret_bool HX.out.symm, rfl⟩
          · have a3I : ¬ (35 : Int) < (s.size : Int) := by omega
            have HX : Hid ((l.take (k + 1)).any gr1 = false) := by rw [Hid, HT.out, HG.out]; simp [a2, a3]
            clear a1 a2 a3
            go_wp2
            go_round
            case rel => exact ⟨k + 1, by omega, by go_num, HX⟩
            case measure => simp [intOf]; omega
      · have a1I : ¬ (6 : Int) < (s.size : Int) := by omega
        have a3I : ¬ (35 : Int) < (s.size : Int) := by omega
        have HX : Hid ((l.take (k + 1)).any gr1 = false) := by
          rw [Hid, HT.out, HG.out]
          have : ¬ 35 < s.size := by omega
          simp [a1, this]
        clear a1
        go_wp2
        go_round
        case rel => exact ⟨k + 1, by omega, by go_num, HX⟩
        case measure => simp [intOf]; omega
    · obtain rfl : k = l.length := by omega
      have hltI : ¬ (l.length : Int) < (l.length : Int) := by omega
      have hj2 := hj.out
      rw [List.take_length] at hj2
      have HX : Hid (gr14 l = ((decide (6 < l.length) && decide (l.length ≤ 64)) || decide (67 < l.length))) := by unfold Hid gr14; rw [hj2]; rfl
      generalize l.length = n at *
      by_cases a1 : 6 < n
      · have a1I : (6 : Int) < (n : Int) := by omega
        by_cases a2 : n ≤ 64
        · have a2I : (n : Int) ≤ 64 := by omega
          have HY : Hid (gr14 l = true) := by rw [Hid, HX.out]; simp [a1, a2]
          clear a1 a2 hj2
          go_wp2
          go_ret
          exact ⟨ret_bool HY.out.symm, rfl⟩
        · have a2I : ¬ (n : Int) ≤ 64 := by omega
          by_cases a3 : 67 < n
          · have a3I : (67 : Int) < (n : Int) := by omega
            have HY : Hid (gr14 l = true) := by rw [Hid, HX.out]; simp [a3]
            clear a1 a2 a3 hj2
            go_wp2
            go_ret
            exact ⟨ret_bool HY.out.symm, rfl⟩
          · have a3I : ¬ (67 : Int) < (n : Int) := by omega
            have HY : Hid (gr14 l = false) := by rw [Hid, HX.out]; simp [a2, a3]
            clear a1 a2 a3 hj2
            go_wp2
            go_ret
            exact ⟨ret_bool HY.out.symm, rfl⟩
      · have a1I : ¬ (6 : Int) < (n : Int) := by omega
        have a3I : ¬ (67 : Int) < (n : Int) := by omega
        have HY : Hid (gr14 l = false) := by
          rw [Hid, HX.out]
          have : ¬ 67 < n := by omega
          simp [a1, this]
        clear a1 hj2
        go_wp2
        go_ret
        exact ⟨ret_bool HY.out.symm, rfl⟩
end Go.Proofs.Ytkcapbdcmhdcmaa
namespace Go.Proofs
open Go.Shelf
def Try.laySortE_ren : Go.Shelf.Ren := ⟨fun | 6 => 58 | 15 => 48 | 14 => 83 | 28 => 75 | 29 => 76 | 20 => 96 | 21 => 97 | 22 => 98 | 23 => 99 | 24 => 100 | 25 => 101 | 26 => 102 | 27 => 103 | 46 => 105 | 47 => 90 | 48 => 91 | 49 => 106 | 50 => 107 | 57 => 108 | n => n, fun | 22 => 39 | 24 => 45 | 25 => 73 | 3 => 3 | 39 => 67 | 0 => 0 | 53 => 89 | 55 => 91 | 4 => 4 | 46 => 83 | 45 => 82 | 50 => 60 | 5 => 5 | 9 => 9 | 66 => 97 | 70 => 101 | 76 => 110 | 77 => 111 | n => n, fun | n => n⟩
theorem Try.laySortE : Go.Proofs.SlLaysF0.n6 Try.prog Try.laySortE_ren := {
  mixed := by kernel_rfl
  f6 := ⟨Try.f58.name, by decide, Try.func58.trans (congrArg some (by kernel_rfl))⟩
  f14 := ⟨Try.f83.name, by decide, Try.func83.trans (congrArg some (by kernel_rfl))⟩
  f15 := Try.func48.trans (congrArg some (by kernel_rfl))
  f20 := ⟨Try.f96.name, by decide, Try.func96.trans (congrArg some (by kernel_rfl))⟩
  f21 := ⟨Try.f97.name, by decide, Try.func97.trans (congrArg some (by kernel_rfl))⟩
  f22 := ⟨Try.f98.name, by decide, Try.func98.trans (congrArg some (by kernel_rfl))⟩
  f23 := ⟨Try.f99.name, by decide, Try.func99.trans (congrArg some (by kernel_rfl))⟩
  f24 := ⟨Try.f100.name, by decide, Try.func100.trans (congrArg some (by kernel_rfl))⟩
  f25 := ⟨Try.f101.name, by decide, Try.func101.trans (congrArg some (by kernel_rfl))⟩
  f26 := ⟨Try.f102.name, by decide, Try.func102.trans (congrArg some (by kernel_rfl))⟩
  f27 := ⟨Try.f103.name, by decide, Try.func103.trans (congrArg some (by kernel_rfl))⟩
  f28 := Try.func75.trans (congrArg some (by kernel_rfl))
  f29 := Try.func76.trans (congrArg some (by kernel_rfl))
  f46 := ⟨Try.f105.name, by decide, Try.func105.trans (congrArg some (by kernel_rfl))⟩
  f47 := Try.func90.trans (congrArg some (by kernel_rfl))
  f48 := Try.func91.trans (congrArg some (by kernel_rfl))
  f49 := ⟨Try.f106.name, by decide, Try.func106.trans (congrArg some (by kernel_rfl))⟩
  f50 := ⟨Try.f107.name, by decide, Try.func107.trans (congrArg some (by kernel_rfl))⟩
  f57 := ⟨Try.f108.name, by decide, Try.func108.trans (congrArg some (by kernel_rfl))⟩
  t0 := Try.underlying0
  a0 := Try.isAgg0
  z0 := Try.sizeOf0
  v0 := Try.zeroValue0
  t3 := Try.underlying3
  a3 := Try.isAgg3
  z3 := Try.sizeOf3
  v3 := Try.zeroValue3
  t4 := Try.underlying4
  a4 := Try.isAgg4
  z4 := Try.sizeOf4
  v4 := Try.zeroValue4
  t5 := Try.underlying5
  a5 := Try.isAgg5
  z5 := Try.sizeOf5
  v5 := Try.zeroValue5
  t9 := Try.underlying9
  a9 := Try.isAgg9
  z9 := Try.sizeOf9
  v9 := Try.zeroValue9
  t22 := Try.underlying39
  a22 := Try.isAgg39
  z22 := Try.sizeOf39
  v22 := Try.zeroValue39
  t25 := Try.underlying73
  a25 := Try.isAgg73
  z25 := Try.sizeOf73
  v25 := Try.zeroValue73
  t39 := Try.underlying67
  a39 := Try.isAgg67
  z39 := Try.sizeOf67
  v39 := Try.zeroValue67
  t45 := Try.underlying82
  a45 := Try.isAgg82
  z45 := Try.sizeOf82
  v45 := Try.zeroValue82
  t46 := Try.underlying83
  a46 := Try.isAgg83
  z46 := Try.sizeOf83
  v46 := Try.zeroValue83
  t50 := Try.underlying60
  a50 := Try.isAgg60
  z50 := Try.sizeOf60
  v50 := Try.zeroValue60
  t53 := Try.underlying89
  a53 := Try.isAgg89
  z53 := Try.sizeOf89
  v53 := Try.zeroValue89
  t55 := Try.underlying91
  a55 := Try.isAgg91
  z55 := Try.sizeOf91
  v55 := Try.zeroValue91
  t66 := Try.underlying97
  a66 := Try.isAgg97
  z66 := Try.sizeOf97
  v66 := Try.zeroValue97
  t70 := Try.underlying101
  a70 := Try.isAgg101
  z70 := Try.sizeOf101
  v70 := Try.zeroValue101
  t76 := Try.underlying110
  a76 := Try.isAgg110
  z76 := Try.sizeOf110
  v76 := Try.zeroValue110
  t77 := Try.underlying111
  a77 := Try.isAgg111
  z77 := Try.sizeOf111
  v77 := Try.zeroValue111 }
def Try.layCloneE_ren : Go.Shelf.Ren := ⟨fun | 41 => 57 | n => n, fun | 22 => 39 | 23 => 45 | 4 => 4 | n => n, fun | n => n⟩
theorem Try.layCloneE : Go.Proofs.SlLaysE0.n41 Try.prog Try.layCloneE_ren := {
  mixed := by kernel_rfl
  f41 := ⟨Try.f57.name, by decide, Try.func57.trans (congrArg some (by kernel_rfl))⟩
  t4 := Try.underlying4
  a4 := Try.isAgg4
  z4 := Try.sizeOf4
  v4 := Try.zeroValue4
  t22 := Try.underlying39
  a22 := Try.isAgg39
  z22 := Try.sizeOf39
  v22 := Try.zeroValue39 }
end Go.Proofs
namespace Go.Proofs.Ytkcapbdcmhdcmaa
open Go.RowKit Go.Sort Go.Shelf Go.Lib

def cat (l : List Ed) : List Value := l.flatMap edE
theorem cat_len (l : List Ed) : (cat l).length = l.length * 3 := by
  induction l with
  | nil => rfl
  | cons x l ih => simp only [cat, List.flatMap_cons, List.length_append, List.length_cons] at *; rw [ih]; simp [edE]; omega
theorem flat_at {α β : Type} {enc : α → List β} {m : Nat} (hm : ∀ x, (enc x).length = m) : ∀ (l : List α) (i : Nat) (hi : i < l.length) (j : Nat), j < m → (l.flatMap enc)[i * m + j]? = (enc l[i])[j]?
  | [], i, hi, _, _ => by simp at hi
  | x :: l, 0, _, j, hj => by
    rw [List.flatMap_cons, Nat.zero_mul, Nat.zero_add, List.getElem?_append_left (by rw [hm]; exact hj)]; rfl
  | x :: l, i + 1, hi, j, hj => by
    rw [List.flatMap_cons, List.getElem?_append_right (by rw [hm, Nat.succ_mul]; omega), hm, show (i + 1) * m + j - m = i * m + j by rw [Nat.succ_mul]; omega]
    exact flat_at hm l i (by simpa using hi) j hj
theorem cat_get (l : List Ed) (i : Nat) (hi : i < l.length) (j : Nat) (hj : j < 3) : (cat l)[i * 3 + j]? = (edE l[i])[j]? := flat_at (enc := edE) (m := 3) (fun _ => rfl) l i hi j hj
theorem cat_app (l m : List Ed) : cat (l ++ m) = cat l ++ cat m := by simp [cat, List.flatMap_append]
theorem cat_one (l : List Ed) : ∀ u ∈ cat l, u.oneCell' = true := by
  intro u hu
  obtain ⟨x, _, hx⟩ := List.mem_flatMap.1 hu
  simp only [edE, List.mem_cons, List.not_mem_nil, or_false] at hx
  rcases hx with rfl | rfl | rfl <;> rfl
/-- Edges that lie in a whole row of a block. -/
theorem Sg.of_row {w : World} {B t : Nat} {l : List Ed} (h : VRow w B t (cat l)) : Sg 3 w edE (some ⟨B, 0, none⟩) l :=
  .inr ⟨B, 0, rfl, h.lt, fun i hi j hj => by rw [Nat.zero_add, h.cell, cat_get l i hi j hj]⟩
theorem own_sg {B e n : Nat} {w : World} {v : Value} {l : List Ed} (h : w.ownsRow B e 3 v n (cat l)) : ∃ p cap, v = .slice p l.length cap ∧ Sg 3 w edE p l ∧ l.length ≤ cap ∧ l.length = n := by
  have hn : l.length = n := by have := h.1; rw [cat_len] at this; omega
  rcases h.2 with ⟨rfl, h0⟩ | ⟨g, cap, cur, rfl, hg, hh, hc, hm, hs, ht⟩
  · subst h0
    have : l = [] := List.length_eq_zero_iff.1 hn
    subst this
    exact ⟨none, 0, rfl, Sg.nil _ _ _ _, by simp, rfl⟩
  · refine ⟨some ⟨g, 0, none⟩, cap, by rw [hn], .inr ⟨g, 0, rfl, (Array.getElem?_eq_some_iff.1 hh).1, fun i hi j hj => ?_⟩, by omega, hn⟩
    have hij : i * 3 + j < n * 3 := by omega
    rw [Nat.zero_add, ← cat_get l i hi j hj, ← ht, List.getElem?_take, if_pos hij]
    simp [World.cell?, hh]
/-! ### The sort's words -/
theorem flatK_cat (l : List Ed) : (flatK edE 3 l.toArray).toList = cat l := by
  apply List.ext_getElem?
  intro t
  by_cases h : t < l.length * 3
  · have h3 : t / 3 < l.length := by omega
    have e1 := cat_get l (t / 3) h3 (t % 3) (by omega)
    rw [show t / 3 * 3 + t % 3 = t by omega] at e1
    rw [e1, Array.getElem?_toList]
    have hlt : t < (flatK edE 3 l.toArray).size := by simp; omega
    rw [Array.getElem?_eq_getElem hlt, ← getElem!_pos (flatK edE 3 l.toArray) t hlt, get_flatK edE 3 l.toArray t (by simpa using h)]
    rw [getElem!_pos l.toArray (t / 3) (by simpa using h3)]
    have : t % 3 < (edE l.toArray[t / 3]).length := by simp [edE]; omega
    rw [getElem!_pos (edE l.toArray[t / 3]) (t % 3) this, ← List.getElem?_eq_getElem this]
    simp
  · rw [List.getElem?_eq_none (by simp; omega), List.getElem?_eq_none (by rw [cat_len]; omega)]
theorem holds_own {w : World} {B e g n cap : Nat} {l : List Ed} (h : w.ownsRow B e 3 (.slice (some ⟨g, 0, none⟩) n cap) n (cat l)) : HoldsK edE 3 w g 0 l.toArray ∧ g < w.heap.size ∧ B ≤ g ∧ l.length = n := by
  have hn : l.length = n := by have := h.1; rw [cat_len] at this; omega
  rcases h.2 with ⟨e0, _⟩ | ⟨g', cap', cur, e0, hg, hh, hc, hm, hs, ht⟩
  · cases e0
  · cases e0
    refine ⟨fun j hj => ?_, (Array.getElem?_eq_some_iff.1 hh).1, hg, hn⟩
    have hj' : j < n * 3 := by simp at hj; omega
    refine ⟨?_, by simp [World.frozen?, hh]⟩
    have e1 : (flatK edE 3 l.toArray).toList[j]? = cur.toList[j]? := by
      rw [flatK_cat, ← ht, List.getElem?_take, if_pos hj']
    rw [Array.getElem?_toList, Array.getElem?_eq_getElem hj] at e1
    rw [getElem!_pos (flatK edE 3 l.toArray) j hj]
    simp [World.cell?, hh]
    rw [Array.getElem?_toList] at e1; exact e1.symm
theorem own_sorted {w : World} {B e g n cap q : Nat} {os : Array Obj} {l m : List Ed} (h : w.ownsRow B e 3 (.slice (some ⟨g, 0, none⟩) n cap) n (cat l)) (hm : m.length = n) :
    (sortWorldK edE 3 w g 0 q m.toArray os).ownsRow B e 3 (.slice (some ⟨g, 0, none⟩) n cap) n (cat m) := by
  rcases h.2 with ⟨e0, _⟩ | ⟨g', cap', cur, e0, hg, hh, hc, hcm, hs, ht⟩
  · cases e0
  · cases e0
    have hlt : g < w.heap.size := (Array.getElem?_eq_some_iff.1 hh).1
    refine ⟨by rw [cat_len, hm], .inr ⟨g, cap, putCells id 0 (flatK edE 3 m.toArray) cur, rfl, hg, ?_, hc, hcm, by simpa [putCells] using hs, ?_⟩⟩
    · have hg' : w.heap[g] = .cells cur e (0, 0) := by have := Array.getElem?_eq_some_iff.1 hh; exact this.2
      simp [sortWorldK, grow, putRowK, putRow, mapBlock, Sort.ahead, Array.getElem?_append, hlt, Array.getElem_modify, hg', onCells]
    · apply List.ext_getElem?
      intro j
      rw [List.getElem?_take, Array.getElem?_toList]
      by_cases hj : j < n * 3
      · have hjc : j < cur.size := by
          have : n * 3 ≤ cap * 3 := Nat.mul_le_mul_right _ hc
          omega
        have hjf : j < (flatK edE 3 m.toArray).size := by simp; omega
        rw [if_pos hj, ← flatK_cat, Array.getElem?_toList, Array.getElem?_eq_getElem hjf]
        simp only [putCells, Array.getElem?_mapIdx, Array.getElem?_eq_getElem hjc, Option.map_some]
        rw [if_pos (by simp; omega)]
        simp only [Nat.sub_zero]
        rw [getElem!_pos (flatK edE 3 m.toArray) j hjf]; rfl
      · rw [if_neg hj, List.getElem?_eq_none (by rw [cat_len]; omega)]
theorem grown_sorted {w : World} {g q : Nat} {os : Array Obj} (d : Array Ed) : w.grownBy (sortWorldK edE 3 w g 0 q d os) (some g) := by
  refine ⟨rfl, rfl, rfl, by simp [sortWorldK, grow, putRowK, putRow, mapBlock, Sort.ahead], fun i hi hne => ?_⟩
  have hne' : g ≠ i := fun e => hne (by rw [e])
  simp [sortWorldK, grow, putRowK, putRow, mapBlock, Sort.ahead, Array.getElem?_append, hi, Array.getElem_modify, hne']

/-! ### Sorted -/
theorem swoE : SWO (ltOf cmpE) where
  irrefl x := by unfold ltOf; rw [cmpE_neg]; exact ltE_irrefl x
  trans x y z h1 h2 := by unfold ltOf at *; rw [cmpE_neg] at *; exact ltE_trans h1 h2
  ntrans x y z h1 h2 := by
    unfold ltOf at *; rw [cmpE_neg] at *
    cases h : ltE x z
    · rfl
    · cases hb : ltE y x
      · have := ltE_total h1 hb; subst this; rw [h2] at h; cases h
      · have := ltE_trans hb h; rw [h2] at this; cases this
theorem totE (x y : Ed) (h1 : ltOf cmpE x y = false) (h2 : ltOf cmpE y x = false) : x = y := by
  unfold ltOf at *; rw [cmpE_neg] at *; exact ltE_total h1 h2
theorem isAggE (w : World) : (isAgg 45).run Try.prog w = .ok true w := by kernel_rfl
theorem sizeOfE (w : World) : (Go.sizeOf 45).run Try.prog w = .ok 3 w := by kernel_rfl
theorem infoE : (Try.prog.info? 45).map (fun i => (i.zero, i.size, i.bytes)) = some (some (.agg #[.int .i64 0, .int .i64 0, .int .i64 0]), 3, 24) := by kernel_rfl
def srtE (l : List Ed) : List Ed := l.mergeSort (fun x y => !ltE y x)
theorem srtE_len (l : List Ed) : (srtE l).length = l.length := List.length_mergeSort l
theorem srtE_eq (l : List Ed) : l.mergeSort (fun x y => !(ltOf cmpE) y x) = srtE l := by
  unfold srtE; congr 1; funext x y; unfold ltOf; rw [cmpE_neg]
theorem sortE_own (l : List Ed) (B e g n cap bf : Nat) (w : World) (h : w.ownsRow B e 3 (.slice (some ⟨g, 0, none⟩) n cap) n (cat l)) (hf : w.cell? ⟨bf, 0, none⟩ = some (.func (.func 60) #[] #[])) (hne : bf ≠ g) (hn : n ≤ 100000) :
    Calls Try.prog 58 #[.slice (some ⟨g, 0, none⟩) n cap, .func (.func 84) #[] #[.pointer (some ⟨bf, 0, none⟩)]] w fun e' w' => e' = .returned (.tuple #[]) ∧ w'.ownsRow B e 3 (.slice (some ⟨g, 0, none⟩) n cap) n (cat (srtE l)) ∧ w.grownBy w' (some g) := by
  obtain ⟨hH, hlt, hBg, hl⟩ := holds_own h
  have eg : ∀ args w, (callFunc 84 args).run Try.prog w = .ok (.enter 84 args) w := enters_of Try.func84 (by kernel_rfl) rfl
  have hcmp : CmpLays Try.prog 84 #[.pointer (some ⟨bf, 0, none⟩)] edE 3 cmpE g 0 l.toArray.size w := fun m os dk hs x y => by
    have hc : (sortWorldK edE 3 w g 0 m dk os).cell? ⟨bf, 0, none⟩ = some (.func (.func 60) #[] #[]) := by
      have hb := World.block_lt_of_cell? w _ hf
      have := (grown_sorted (w := w) (g := g) (q := m) (os := os) dk).block bf hb (fun e => hne (Option.some.inj e))
      simp only [World.cell?] at hf ⊢
      rw [this]; exact hf
    exact gByc_up x y bf _ hc
  have hcon := AnyQ.slices_SortFunc_total Try.laySortE 3 isAggE sizeOfE edE (fun _ => rfl) (fun x v hv => cat_one [x] v (by simpa [cat] using hv)) cmpE swoE 84 #[.pointer (some ⟨bf, 0, none⟩)] g 0 cap l.toArray w eg hcmp hH hlt (by simp; omega) totE
  have hcon' : Calls Try.prog 58 #[.slice (some ⟨g, 0, none⟩) l.toArray.size cap, .func (.func 84) #[] #[.pointer (some ⟨bf, 0, none⟩)]] w _ := hcon
  rw [show l.toArray.size = n by simpa using hl] at hcon'
  refine hcon'.mono ?_
  rintro e' w' ⟨rfl, q, os, rfl⟩
  rw [srtE_eq]
  exact ⟨rfl, own_sorted h (by rw [srtE_len]; exact hl), grown_sorted _⟩

/-! ### Copies -/
/-- Edges in memory of the call's own. -/
def RetOwnE (l : List Ed) (w : World) (e : Ending) (w' : World) : Prop := ∃ v, e = .returned v ∧ w'.ownsRow w.heap.size 45 3 v l.length (cat l) ∧ Below w.heap.size w w'
theorem sg_cells {w : World} {b off : Nat} {l : List Ed} (hc : ∀ i (h : i < l.length) j, j < 3 → w.cell? ⟨b, off + i * 3 + j, none⟩ = (edE l[i])[j]?) : ∀ (j : Nat) (u : Value), (cat l)[j]? = some u → w.cell? ⟨b, off + j, none⟩ = some u := by
  intro j u hu
  have hj : j < (cat l).length := (List.getElem?_eq_some_iff.1 hu).1
  rw [cat_len] at hj
  have h1 := hc (j / 3) (by omega) (j % 3) (by omega)
  have h2 := cat_get l (j / 3) (by omega) (j % 3) (by omega)
  rw [show j / 3 * 3 + j % 3 = j by omega] at h2
  rw [show off + j / 3 * 3 + j % 3 = off + j by omega] at h1
  rw [h1, ← h2, hu]
set_option maxRecDepth 100000 in
theorem cloneE_any (l : List Ed) (p : Option Addr) (c : Nat) (w : World) (hin : Sg 3 w edE p l) (hl : l.length ≤ 100000) :
    Calls Try.prog 57 #[.slice p l.length c] w (RetOwnE l w) := by
  obtain ⟨i0, hi0, hz0, hz1, hz2⟩ := info_parts infoE
  rcases Nat.eq_zero_or_pos l.length with h0 | h0
  · have : l = [] := List.length_eq_zero_iff.1 h0
    subst this
    clear hin
    cases p with
    | none =>
      refine (AnyE.slices_Clone_nil Try.layCloneE 0 c w).mono ?_
      rintro e w' ⟨rfl, rfl⟩
      exact ⟨_, rfl, World.ownsRow_nil _ _ _ _, Below.refl _ _⟩
    | some ad =>
      have q22 : ∀ (w : World) (a : Option Addr) (n c n' c' : Nat), (binOp .eql 39 (.slice a n c) (.slice none n' c')).run Try.prog w = .ok (.bool a.isNone) w := fun w a n c n' c' => Lib.run_eql_slice_nil w _ _ a n c n' c' Try.underlying39
      have hown0 : (w.alloc (.cells #[] 45)).ownsRow w.heap.size 45 3 (.slice (some ⟨w.heap.size, 0, none⟩) 0 0) 0 [] := ⟨rfl, .inr ⟨w.heap.size, _, _, rfl, Nat.le_refl _, heap_alloc_new w _, Nat.le_refl _, by simp, rfl, rfl⟩⟩
      go_enter Try.func57, Try.ntmps57
      go_wp2_with (at_builtin; refine wpList_append_own _ rfl _ _ 39 rfl w.heap.size 45 i0 _ 3 24 Try.underlying39 hi0 hz0 hz1 hz2 rfl (by decide) _ _ _ rfl hown0 ad 0 c [] rfl rfl (by simp) (by simp) (by simp) (by simp) (by simp) ?_; intro v' w1 hown' hgrow _)
      go_ret
      exact ⟨_, rfl, hown', ((Below.refl _ _).alloc (Nat.le_refl _) _).grown hgrow (by simp) (fun j e => by cases e; exact Nat.le_refl _)⟩
  · obtain ⟨b, off, rfl, hb, hc⟩ := hin.get 0 h0
    have hcon := AnyE.slices_Clone Try.layCloneE i0 _ 3 24 hi0 hz0 hz1 hz2 rfl (by decide) sizeOfE b off l.length c (cat l) w (cat_len l) (by simp [maxLen]; omega) (by omega) (sg_cells hc) (cat_one l)
    refine Calls.mono hcon ?_
    rintro e w' ⟨v, rfl, hown, _, hB⟩
    exact ⟨v, rfl, hown, hB⟩
end Go.Proofs.Ytkcapbdcmhdcmaa
namespace Go.Proofs.Ytkcapbdcmhdcmaa
open Go.RowKit Go.Sort Go.Shelf Go.Lib

theorem own_setCell {w : World} {B e size g n cap i : Nat} {xs : List Value} (h : w.ownsRow B e size (.slice (some ⟨g, 0, none⟩) n cap) n xs) (u : Value) :
    (w.setCell ⟨g, i, none⟩ u).ownsRow B e size (.slice (some ⟨g, 0, none⟩) n cap) n (xs.set i u) := by
  rcases h.2 with ⟨e0, _⟩ | ⟨g', cap', cur, e0, hg, hh, hc, hm, hs, ht⟩
  · cases e0
  · cases e0
    have hlt : g < w.heap.size := (Array.getElem?_eq_some_iff.1 hh).1
    have hgv : w.heap[g] = .cells cur e (0, 0) := (Array.getElem?_eq_some_iff.1 hh).2
    refine ⟨by rw [List.length_set]; exact h.1, .inr ⟨g, cap, cur.setIfInBounds i u, rfl, hg, ?_, hc, hm, by simpa using hs, ?_⟩⟩
    · rw [setCell_eq]; simp [mapBlock, hlt, Array.getElem_modify, hgv, onCells]
    · rw [Array.toList_setIfInBounds, List.take_set, ht]
theorem cat_set (d : List Ed) (x : Ed) : ∀ k, (((cat d).set (k * 3) (.int .i64 x.f)).set (k * 3 + 1) (.int .i64 x.l)).set (k * 3 + 2) (.int .i64 x.t) = cat (d.set k x) := by
  induction d with
  | nil => intro k; rfl
  | cons y d ih =>
    intro k
    cases k with
    | zero => simp [cat, edE]
    | succ k =>
      have := ih k
      simp only [cat, List.flatMap_cons, List.set_cons_succ] at *
      rw [← this]
      simp [edE, Nat.succ_mul]
theorem own_set3 {w : World} {B e g n cap k : Nat} {d : List Ed} (h : w.ownsRow B e 3 (.slice (some ⟨g, 0, none⟩) n cap) n (cat d)) (x : Ed) :
    (((w.setCell ⟨g, k * 3, none⟩ (.int .i64 x.f)).setCell ⟨g, k * 3 + 1, none⟩ (.int .i64 x.l)).setCell ⟨g, k * 3 + 2, none⟩ (.int .i64 x.t)).ownsRow B e 3 (.slice (some ⟨g, 0, none⟩) n cap) n (cat (d.set k x)) := by
  rw [← cat_set]
  exact own_setCell (own_setCell (own_setCell h _) _) _
/-- How two edges are compared by the program. -/
theorem eqlE (a b : Ed) (w : World) : (binOp .eql 45 (.agg #[.int .i64 a.f, .int .i64 a.l, .int .i64 a.t]) (.agg #[.int .i64 b.f, .int .i64 b.l, .int .i64 b.t])).run Try.prog w = .ok (.bool (decide (a = b))) w := by
  have hS : Try.prog.underlying 45 = some (.struct (Try.prog.fieldsOf 45)) := by kernel_rfl
  have hp : Try.prog.stoodInHeld 45 = false := by kernel_rfl
  have hr : (Op.eqFields 9999 #[.int .i64 a.f, .int .i64 a.l, .int .i64 a.t] #[.int .i64 b.f, .int .i64 b.l, .int .i64 b.t] (Try.prog.fieldsOf 45).toList).run Try.prog w = .ok (decide (a = b)) w := by
    simp only [Program.fieldsOf, Try.underlying45]
    have u3 := Try.underlying3
    have a3 := Try.isAgg3
    have z3 := Try.sizeOf3
    go_simp
    have he : a = b ↔ a.f = b.f ∧ a.l = b.l ∧ a.t = b.t := ⟨fun h => by subst h; exact ⟨rfl, rfl, rfl⟩, fun ⟨h1, h2, h3⟩ => by cases a; cases b; simp_all⟩
    by_cases h1 : a.f = b.f <;> by_cases h2 : a.l = b.l <;> by_cases h3 : a.t = b.t <;> simp [he, h1, h2, h3]
  rw [run_eql_struct, show (10000 : Nat) = 9999 + 1 from rfl, run_equalIn_agg w 9999 45 _ _ hS hp, hr]
  rfl
theorem neqE (a b : Ed) (w : World) : (binOp .neq 45 (.agg #[.int .i64 a.f, .int .i64 a.l, .int .i64 a.t]) (.agg #[.int .i64 b.f, .int .i64 b.l, .int .i64 b.t])).run Try.prog w = .ok (.bool (!decide (a = b))) w := by
  have h := eqlE a b w
  rw [run_eql_struct] at h
  rw [run_neq_struct]
  cases hq : (Op.equalIn 10000 45 (.agg #[.int .i64 a.f, .int .i64 a.l, .int .i64 a.t]) (.agg #[.int .i64 b.f, .int .i64 b.l, .int .i64 b.t])).run Try.prog w with
  | ok v w' => rw [hq] at h; simp [Result.andThen] at h ⊢; exact ⟨h.1, h.2⟩
  | _ => rw [hq] at h; cases h
theorem guardE (op : BinOp) (a b : Operand) (x y : Ed) (w : World) : (eqGuard op 45 a b (.agg #[.int .i64 x.f, .int .i64 x.l, .int .i64 x.t]) (.agg #[.int .i64 y.f, .int .i64 y.l, .int .i64 y.t])).run Try.prog w = .ok () w :=
  GuardAt.agg (P := Try.prog) (T := 45) (fun x : Ed => #[.int .i64 x.f, .int .i64 x.l, .int .i64 x.t]) (by kernel_rfl) op a b x y w
theorem cat_take : ∀ (d : List Ed) (k : Nat), cat (d.take k) = (cat d).take (k * 3)
  | [], k => by simp [cat]
  | x :: d, 0 => by simp [cat]
  | x :: d, k + 1 => by
    have ih := cat_take d k
    simp only [cat, List.take_succ_cons, List.flatMap_cons] at *
    rw [ih]; simp [edE, Nat.succ_mul]
theorem own_clear {w : World} {B g n cap : Nat} {d : List Ed} (h : w.ownsRow B 45 3 (.slice (some ⟨g, 0, none⟩) n cap) n (cat d)) (kk : Nat) (hk : kk < n) :
    ∃ W', (∀ ty, (Builtin.clear_ #[39] ty #[.slice (some ⟨g, kk * 3, none⟩) (n - kk) (cap - kk)]).run Try.prog w = .ok (.tuple #[]) W') ∧
      W'.ownsRow B 45 3 (.slice (some ⟨g, 0, none⟩) kk cap) kk (cat (d.take kk)) ∧ w.grownBy W' (some g) := by
  have hn : d.length = n := by have := h.1; rw [cat_len] at this; omega
  rcases h.2 with ⟨e0, _⟩ | ⟨g', cap', cur, e0, hg, hh, hc, hm, hs, ht⟩
  · cases e0
  · cases e0
    have hlt : g < w.heap.size := (Array.getElem?_eq_some_iff.1 hh).1
    have hgv : w.heap[g] = .cells cur 45 (0, 0) := (Array.getElem?_eq_some_iff.1 hh).2
    obtain ⟨zs, hzs⟩ : ∃ zs, (Builtin.zeroCells #[.int .i64 0, .int .i64 0, .int .i64 0] (n - kk)).toList = zs := ⟨_, rfl⟩
    have hzl : zs.length = (n - kk) * 3 := by rw [← hzs]; simp [Builtin.zeroCells]
    have hz1 : ∀ v ∈ zs, v.oneCell' = true := by
      intro v hv
      rw [← hzs, Builtin.zeroCells] at hv
      simp at hv
      obtain ⟨i, _, rfl⟩ := hv
      have : i % 3 = 0 ∨ i % 3 = 1 ∨ i % 3 = 2 := by omega
      rcases this with e | e | e <;> simp [e, Value.oneCell']
    have hb : n * 3 ≤ cap * 3 := Nat.mul_le_mul_right _ hc
    have hst := run_storeCells_at (P := Try.prog) g (kk * 3) 45 zs 0 cur w hh (by rw [hzl, Nat.sub_mul, hs]; omega) hz1
    rw [Nat.add_zero] at hst
    refine ⟨w.setRow g (cur.toList.take (kk * 3) ++ zs ++ cur.toList.drop (kk * 3 + zs.length)).toArray, fun ty => ?_, ⟨by rw [cat_len, List.length_take]; omega, .inr ⟨g, cap, _, rfl, hg, setRow_heap w g cur _ 45 (0, 0) hh, by omega, hm, ?_, ?_⟩⟩, ?_⟩
    · obtain ⟨m, hm1⟩ : ∃ m, n - kk = m + 1 := ⟨n - kk - 1, by omega⟩
      have hv : (zeroValue 45).run Try.prog w = .ok (.agg #[.int .i64 0, .int .i64 0, .int .i64 0]) w := by kernel_rfl
      rw [hm1] at hzs ⊢
      simp [Builtin.clear_, run_underlying Try.underlying39, hv, Value.cells, hzs, hst]
    · simp [hzl, hs, Nat.sub_mul]; omega
    · simp only [List.take_append, List.length_take]
      have : kk * 3 ≤ cur.toList.length := by simp [hs]; omega
      rw [Nat.min_eq_left this, Nat.sub_self, List.take_zero, List.append_nil, List.take_take, Nat.min_self,
        show kk * 3 - (cur.toList.take (kk * 3) ++ zs).length = 0 by rw [List.length_append, List.length_take, Nat.min_eq_left this]; omega,
        List.take_zero, List.append_nil, cat_take, ← ht, List.take_take, Nat.min_eq_left (Nat.mul_le_mul_right 3 (Nat.le_of_lt hk))]
    · refine ⟨rfl, rfl, rfl, by simp [World.setRow], fun i hi hne => ?_⟩
      have hne' : g ≠ i := fun e => hne (by rw [e])
      simp [World.setRow, Array.getElem?_modify, hne']
theorem own_cell3 {w : World} {B e g n cap : Nat} {d : List Ed} (h : w.ownsRow B e 3 (.slice (some ⟨g, 0, none⟩) n cap) n (cat d)) (k : Nat) (hk : k < d.length) :
    w.cell? ⟨g, k * 3, none⟩ = some (.int .i64 d[k].f) ∧ w.cell? ⟨g, k * 3 + 1, none⟩ = some (.int .i64 d[k].l) ∧ w.cell? ⟨g, k * 3 + 2, none⟩ = some (.int .i64 d[k].t) ∧ (∀ j, w.frozen? ⟨g, j, none⟩ = false) ∧ g < w.heap.size := by
  obtain ⟨p, c, hv, hs, _, hn⟩ := own_sg h
  cases hv
  obtain ⟨b, off, hp, _, e0, e1, e2⟩ := hs.get3 k hk rfl
  cases hp
  simp only [Nat.zero_add] at e0 e1 e2
  refine ⟨e0, e1, e2, fun j => ?_, ?_⟩
  · rcases h.2 with ⟨e0, _⟩ | ⟨g', cap', cur, e0, hg, hh, hc, hm, hs, ht⟩
    · cases e0
    · cases e0; simp [World.frozen?, hh]
  · rcases h.2 with ⟨e0, _⟩ | ⟨g', cap', cur, e0, hg, hh, hc, hm, hs, ht⟩
    · cases e0
    · cases e0; exact (Array.getElem?_eq_some_iff.1 hh).1
end Go.Proofs.Ytkcapbdcmhdcmaa
