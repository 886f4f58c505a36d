/-
  Words, plain lemmas and walks, merged: Fa, Word, Fb, Fc, Fd, Fe, Ff, Fg, Fh, Fi, Fj, Fk, Map, Fl.
-/
import Derived.Test.YtaclgmhinljkbaaGreatDoorZpd
import Derived.Lib.IndexMore
import Derived.Test.YtaclgmhinljkbaaGreatDoorProg
import Derived.Test.YtaclgmhinljkbaaGreatDoorZpb
import Derived.WalkKit
import Derived.WalkSpells
import Derived.WalkLawsBesides
import Derived.Deep.QuietTactic
import Derived.BigQuiet
import Derived.Test.YtaclgmhinljkbaaGreatDoorZpe
import Derived.ArgAppend
import Derived.Maps.OwnIn
import Derived.DeepKeys4
import Derived.Maps.RangeRun
set_option linter.unusedVariables false
set_option linter.unusedSimpArgs false
namespace Go.Proofs.YtaclgmhinljkbaaGreatDoor
open Go.RowKit

/-- By length, then by the letters. -/
def ordB (a b : ByteArray) : Int := if c3 a.size b.size = 0 then Lib.compareBytes a.data.toList b.data.toList else c3 a.size b.size
theorem ordB_eq {a b : ByteArray} (h : c3 a.size b.size = 0) : ordB a b = Lib.compareBytes a.data.toList b.data.toList := if_pos h
theorem ordB_ne {a b : ByteArray} (h : c3 a.size b.size ≠ 0) : ordB a b = c3 a.size b.size := if_neg h
/-- Why a word cannot be forbidden. -/
def oneA (q : Int) (s : ByteArray) : Int := if s = (⟨#[]⟩ : ByteArray) then 5 else if 32 < s.size then 4 else wchk q s.data.toList
def fst1 (q : Int) : List ByteArray → Int
  | [] => 0
  | s :: l => if oneA q s ≠ 0 then oneA q s else fst1 q l
/-- The first error where the order does not matter. -/
def errA (q : Int) (l : List ByteArray) : Int := if q < 1 ∨ 16 < q then 12 else if 64 < l.length then 4 else fst1 q l
/-- The first error from a place on; p: the word before. -/
def chk2 (q : Int) : Option ByteArray → List ByteArray → Int
  | _, [] => 0
  | p, s :: l => if oneA q s ≠ 0 then oneA q s else if (match p with | some a => decide (0 ≤ ordB a s) | none => false) = true then 10 else chk2 q (some s) l
def chkF (q : Int) (l : List ByteArray) : Int := if q < 1 ∨ 16 < q then 12 else if 64 < l.length then 4 else chk2 q none l
/-- No word of a list is a factor. -/
def alwA (l : List ByteArray) (w : ByteArray) : Bool := !l.any (fun u => Lib.contains w.data.toList u.data.toList)
def alwR (q : Int) (l : List ByteArray) (w : ByteArray) : Bool × Int := if chkF q l ≠ 0 then (false, 1) else if wchk q w.data.toList ≠ 0 then (false, wchk q w.data.toList) else (alwA l w, 0)
def lngA (l : List ByteArray) : Int := l.foldl (fun n w => max n (w.size : Int)) 0
theorem fst1_at {q : Int} {l : List ByteArray} {k : Nat} (hk : k < l.length) : fst1 q (l.drop k) = if oneA q l[k] ≠ 0 then oneA q l[k] else fst1 q (l.drop (k + 1)) := by
  rw [List.drop_eq_getElem_cons hk]; rfl
theorem fst1_end {q : Int} {l : List ByteArray} {k : Nat} (hk : l.length ≤ k) : fst1 q (l.drop k) = 0 := by
  rw [List.drop_eq_nil_of_le hk]; rfl
def pvB (l : List ByteArray) (k : Nat) : Option ByteArray := if k = 0 then none else l[k - 1]?
theorem chk2_at {q : Int} {l : List ByteArray} {k : Nat} (hk : k < l.length) : chk2 q (pvB l k) (l.drop k) = if oneA q l[k] ≠ 0 then oneA q l[k] else if (match pvB l k with | some a => decide (0 ≤ ordB a l[k]) | none => false) = true then 10 else chk2 q (pvB l (k + 1)) (l.drop (k + 1)) := by
  rw [List.drop_eq_getElem_cons hk, show pvB l (k + 1) = some l[k] by simp [pvB, hk]]
  rfl
theorem chk2_end {q : Int} {l : List ByteArray} {k : Nat} (hk : l.length ≤ k) : chk2 q (pvB l k) (l.drop k) = 0 := by
  rw [List.drop_eq_nil_of_le hk]; rfl
theorem lngA_snoc (l : List ByteArray) (k : Nat) (h : k < l.length) : lngA (l.take (k + 1)) = max (lngA (l.take k)) (l[k].size : Int) := by
  unfold lngA; rw [List.take_succ_eq_append_getElem h, List.foldl_append]; rfl
theorem lngA_bd : ∀ (l : List ByteArray), 0 ≤ lngA l := by
  intro l
  unfold lngA
  suffices h : ∀ (l : List ByteArray) (n : Int), 0 ≤ n → 0 ≤ l.foldl (fun n w => max n (w.size : Int)) n from h l 0 (Int.le_refl _)
  intro l
  induction l with
  | nil => intro n h; exact h
  | cons a l ih => intro n h; exact ih _ (Int.le_trans h (Int.le_max_left _ _))
end Go.Proofs.YtaclgmhinljkbaaGreatDoor
namespace Go.Proofs.YtaclgmhinljkbaaGreatDoor
open Go.RowKit

set_option maxHeartbeats 400000 in
theorem known_t (q : Int) (w : World) (h1 : 1 ≤ q) (h2 : q ≤ 16) :
    Calls Tryz.prog 64 #[.int .i64 q] w fun e w' => e = .returned (.bool true) ∧ w = w' := by
  go_enter Tryz.func64, Tryz.ntmps64
  go_wp2
  go_ret
  exact ⟨rfl, rfl⟩

set_option maxHeartbeats 400000 in
theorem known_f (q : Int) (w : World) (h : q < 1 ∨ 16 < q) :
    Calls Tryz.prog 64 #[.int .i64 q] w fun e w' => e = .returned (.bool false) ∧ w = w' := by
  by_cases h1 : 1 ≤ q
  · have h2 : 16 < q := by omega
    go_enter Tryz.func64, Tryz.ntmps64
    go_wp2
    go_ret
    exact ⟨ret_bool (by simp; omega), rfl⟩
  · go_enter Tryz.func64, Tryz.ntmps64
    go_wp2
    go_ret
    exact ⟨rfl, rfl⟩

set_option maxHeartbeats 400000 in
theorem wcheck_any (q : Int) (s : ByteArray) (w : World) (hs : s.size ≤ maxLen) :
    Calls Tryz.prog 30 #[.int .i64 q, .string s] w fun e w' => e = .returned (.int .i64 (wchk q s.data.toList)) ∧ Dr w w' := by
  unfold maxLen at hs
  have hl : s.data.toList.length = s.size := by simp
  by_cases h1 : q < 1
  · have HP := hidI (wchk_alpha q s.data.toList (.inl h1))
    go_enter Tryz.func30, Tryz.ntmps30
    go_wp2_with (go_at_call 64; refine (known_f _ _ (.inl h1)).mono ?_; rintro e w' ⟨rfl, rfl⟩)
    go_ret
    exact ⟨ret_int HP.out.symm, Dr.refl _⟩
  by_cases h2 : 16 < q
  · have HP := hidI (wchk_alpha q s.data.toList (.inr h2))
    go_enter Tryz.func30, Tryz.ntmps30
    go_wp2_with (go_at_call 64; refine (known_f _ _ (.inr h2)).mono ?_; rintro e w' ⟨rfl, rfl⟩)
    go_ret
    exact ⟨ret_int HP.out.symm, Dr.refl _⟩
  by_cases h3 : 65536 < s.size
  · have HP := hidI (wchk_long q s.data.toList (by omega) (by omega) (by omega))
    clear hl
    go_enter Tryz.func30, Tryz.ntmps30
    go_wp2_with (go_at_call 64; refine (known_t _ _ (by omega) (by omega)).mono ?_; rintro e w' ⟨rfl, rfl⟩)
    go_ret
    exact ⟨ret_int HP.out.symm, Dr.refl _⟩
  have HB := hidI (wchk_bad q s.data.toList (by omega) (by omega) (by omega))
  have HO := hidI (wchk_ok q s.data.toList (by omega) (by omega) (by omega))
  clear hl
  go_enter Tryz.func30, Tryz.ntmps30
  go_wp2_with (go_at_call 64; refine (known_t _ _ (by omega) (by omega)).mono ?_; rintro e w' ⟨rfl, rfl⟩)
  go_loopw [16] (fun i wr => ∃ k : Nat, k ≤ s.size ∧ i = .int .i64 k ∧ Hid (okw q (s.data.toList.take k) = true) ∧ Dr w wr) (fun i _ => s.size - (intOf i).toNat)
  case atStart => exact ⟨0, by omega, rfl, by simp [Hid, okw], Dr.refl _⟩
  case round =>
    obtain ⟨k, hk, rfl, hj, hD⟩ := hrel
    by_cases hlt : k < s.size
    · go_wp2_with fail
      have hq0 : 0 ≤ q := by omega
      have hq0' : 1 ≤ q := by omega
      have hq16 : q ≤ 16 := by omega
      go_quiet ((go_at_call 65; exact Calls.quiet_of_same (Tryz.strings_IndexByte _ _ _)))
      go_wp2
      · have hc := idx_lt q s[k] hq0' hq16 ‹_›
        go_ret
        exact ⟨ret_int (HB.out (okw_bad q s k hlt hc)).symm, hD.one _⟩
      · have hc := idx_ge q s[k] hq0' hq16 ‹_›
        go_roundw
        case rel => exact ⟨k + 1, by omega, by go_num, okw_snoc q s k hlt hj.out hc, hD.one _⟩
        case measure => simp [intOf]; omega
    · have HP := hidI (HO.out (okw_of_take q _ k (by simp; omega) hj.out))
      go_wp2
      go_ret
      exact ⟨ret_int HP.out.symm, hD⟩
end Go.Proofs.YtaclgmhinljkbaaGreatDoor
namespace Go.Proofs.YtaclgmhinljkbaaGreatDoor
open Go.RowKit

def or2 (x y : Int) : Int := if x = 0 then y else x
set_option maxRecDepth 100000 in
theorem cmpOr_any (x y : Int) (b c : Nat) (w : World) (h : VRow w b 3 [.int .i64 x, .int .i64 y]) :
    Calls Tryz.prog 31 #[.slice (some ⟨b, 0, none⟩) 2 c] w fun e w' => e = .returned (.int .i64 (or2 x y)) ∧ w = w' := by
  have c0 := h.at 0 rfl; have c1 := h.at 1 rfl
  go_enter Tryz.func31, Tryz.ntmps31
  go_wp2
  go_loop [8] (fun i => ∃ k : Nat, k ≤ 2 ∧ i = .int .i64 k ∧ (0 < k → x = 0) ∧ (1 < k → y = 0)) (fun i => 2 - (intOf i).toNat)
  case atStart => exact ⟨0, by omega, rfl, (fun h => by omega), (fun h => by omega)⟩
  case round =>
    obtain ⟨k, hk, rfl, h0, h1⟩ := hrel
    have hk3 : k = 0 ∨ k = 1 ∨ k = 2 := by omega
    rcases hk3 with rfl | rfl | rfl
    · by_cases hx : x = 0
      · have hxn : (x != 0) = false := by simpa using hx
        have HX := hidI hx
        clear hx
        go_wp2
        go_round
        case rel => exact ⟨1, by omega, rfl, fun _ => HX.out, (fun h => by omega)⟩
        case measure => simp [intOf]
      · have hxn : (x != 0) = true := by simpa using hx
        have HX : Hid (or2 x y = x) := if_neg hx
        clear hx h0 h1
        go_wp2
        go_ret
        exact ⟨ret_int HX.out.symm, rfl⟩
    · have hx := hidI (h0 (by omega))
      have HX : Hid (or2 x y = y) := if_pos hx.out
      by_cases hy : y = 0
      · have hyn : (y != 0) = false := by simpa using hy
        have HY := hidI hy
        clear hy h0 h1
        go_wp2
        go_round
        case rel => exact ⟨2, by omega, rfl, fun _ => hx.out, fun _ => HY.out⟩
        case measure => simp [intOf]
      · have hyn : (y != 0) = true := by simpa using hy
        clear hy h0 h1
        go_wp2
        go_ret
        exact ⟨ret_int HX.out.symm, rfl⟩
    · have hx := hidI (h0 (by omega))
      have hy := hidI (h1 (by omega))
      have HX : Hid (or2 x y = 0) := by unfold Hid or2; rw [if_pos hx.out, hy.out]
      clear h0 h1
      go_wp2
      go_ret
      exact ⟨ret_int HX.out.symm, rfl⟩
set_option maxRecDepth 100000 in
theorem fOrder_any (a b : ByteArray) (w : World) :
    Calls Tryz.prog 12 #[.string a, .string b] w fun e w' => e = .returned (.int .i64 (ordB a b)) ∧ w' = w.alloc (.cells #[.int .i64 (c3 a.size b.size), .int .i64 (Lib.compareBytes a.data.toList b.data.toList)] 3) := by
  obtain ⟨w1, hw1⟩ : ∃ w1, w1 = w.alloc (.cells #[.int .i64 (c3 a.size b.size), .int .i64 (Lib.compareBytes a.data.toList b.data.toList)] 3) := ⟨_, rfl⟩
  have r1 : VRow w1 w.heap.size 3 [.int .i64 (c3 a.size b.size), .int .i64 (Lib.compareBytes a.data.toList b.data.toList)] := by subst hw1; exact VRow.new w _ _
  have HO := hidI (cmpOr_any _ _ w.heap.size 2 w1 r1)
  have HX : Hid (or2 (c3 a.size b.size) (Lib.compareBytes a.data.toList b.data.toList) = ordB a b) := rfl
  have HW := hidI hw1
  rw [HX.out] at HO
  have HC := hidI (cmpc_any (a.size : Int) (b.size : Int) w)
  have HS := hidI (Tryz.strings_Compare a b w)
  generalize c3 (a.size : Int) (b.size : Int) = c at *
  generalize Lib.compareBytes a.data.toList b.data.toList = d at *
  generalize ordB a b = r at *
  rw [← hw1]
  clear hw1 r1
  go_enter Tryz.func12, Tryz.ntmps12
  go_wp2_with fail
  refine HC.out.mono ?_
  rintro e w2 ⟨rfl, hw2⟩
  subst hw2
  go_wp2_with fail
  refine HS.out.mono ?_
  rintro e w2 ⟨rfl, hw2⟩
  have hw2 := hw2.symm
  subst hw2
  go_wp2_with fail
  rw [← HW.out]
  refine HO.out.mono ?_
  rintro e w2 ⟨rfl, hw2⟩
  subst hw2
  go_wp2
  go_ret
  exact ⟨rfl, rfl⟩

set_option maxRecDepth 100000 in
theorem fSingle_all (q : Int) (s : ByteArray) (w : World) :
    Calls Tryz.prog 11 #[.int .i64 q, .string s] w fun e w' => e = .returned (.int .i64 (oneA q s)) ∧ Dr w w' := by
  by_cases h0 : s = (⟨#[]⟩ : ByteArray)
  · have HX : Hid (oneA q s = 5) := if_pos h0
    subst h0
    go_enter Tryz.func11, Tryz.ntmps11
    go_wp2
    go_ret
    exact ⟨ret_int HX.out.symm, Dr.refl _⟩
  · have hb : s.toList.isEmpty = false := by have := bts_f h0; simpa using this
    by_cases h1 : 32 < s.size
    · have HX : Hid (oneA q s = 4) := by unfold Hid oneA; rw [if_neg h0, if_pos h1]
      have h1I : (32 : Int) < (s.size : Int) := by omega
      clear h0
      go_enter Tryz.func11, Tryz.ntmps11
      go_wp2
      go_ret
      exact ⟨ret_int HX.out.symm, Dr.refl _⟩
    · have HX : Hid (oneA q s = wchk q s.data.toList) := by unfold Hid oneA; rw [if_neg h0, if_neg h1]
      have h1I : ¬ (32 : Int) < (s.size : Int) := by omega
      have HW := hidI (wcheck_any q s w (by unfold maxLen; omega))
      generalize wchk q s.data.toList = r at *
      clear h0
      go_enter Tryz.func11, Tryz.ntmps11
      go_wp2_with fail
      refine HW.out.mono ?_
      rintro e w2 ⟨rfl, hD⟩
      go_wp2
      go_ret
      exact ⟨ret_int HX.out.symm, hD⟩

theorem fSingle_any (q : Int) (s : ByteArray) (w : World) (_ : s.size ≤ 140737488355328) :
    Calls Tryz.prog 11 #[.int .i64 q, .string s] w fun e w' => e = .returned (.int .i64 (oneA q s)) ∧ Dr w w' := fSingle_all q s w

/-! ### Lists -/
/-- No word is too great. -/
def Sz (l : List ByteArray) : Prop := ∀ s ∈ l, s.size ≤ 1000000
set_option maxRecDepth 100000 in
set_option maxHeartbeats 1000000 in
theorem fErrors_all (q : Int) (l : List ByteArray) (p : Option Addr) (c : Nat) (w : World) (hin : Sl w Value.string p l) (hl : l.length ≤ 9223372036854775807) :
    Calls Tryz.prog 10 #[.int .i64 q, .slice p l.length c] w fun e w' => e = .returned (.int .i64 (errA q l)) ∧ Dr w w' := by
  have HIN := hidI hin
  clear hin
  by_cases h1 : q < 1
  · have HX : Hid (errA q l = 12) := if_pos (.inl h1)
    go_enter Tryz.func10, Tryz.ntmps10
    go_wp2
    go_ret
    exact ⟨ret_int HX.out.symm, Dr.refl _⟩
  by_cases h2 : 16 < q
  · have HX : Hid (errA q l = 12) := if_pos (.inr h2)
    go_enter Tryz.func10, Tryz.ntmps10
    go_wp2
    go_ret
    exact ⟨ret_int HX.out.symm, Dr.refl _⟩
  by_cases h3 : 64 < l.length
  · have HX : Hid (errA q l = 4) := by unfold Hid errA; rw [if_neg (by omega), if_pos h3]
    have h3I : (64 : Int) < (l.length : Int) := by omega
    go_enter Tryz.func10, Tryz.ntmps10
    go_wp2
    go_ret
    exact ⟨ret_int HX.out.symm, Dr.refl _⟩
  have HX : Hid (errA q l = fst1 q l) := by unfold Hid errA; rw [if_neg (by omega), if_neg h3]
  have h3I : ¬ (64 : Int) < (l.length : Int) := by omega
  go_enter Tryz.func10, Tryz.ntmps10
  go_wp2
  go_loopw [19] (fun iv wr => ∃ k : Nat, k ≤ l.length ∧ iv = .int .i64 k ∧ Hid (fst1 q (l.drop k) = fst1 q l) ∧ Dr w wr) (fun iv _ => l.length - (intOf iv).toNat)
  case atStart => exact ⟨0, by omega, rfl, rfl, Dr.refl _⟩
  case round =>
    obtain ⟨k, hk, rfl, hj, hD⟩ := hrel
    by_cases hlt : k < l.length
    · have hltI : (k : Int) < (l.length : Int) := by omega
      obtain ⟨b1, o1, rfl, hb1, hc1⟩ := (HIN.out.dr hD).get k hlt
      have e0 := hc1 k hlt
      have HS := hidI (fun W => fSingle_all q l[k] W)
      have HF := hidI (fst1_at (q := q) hlt)
      generalize l[k] = s at *
      generalize oneA q s = r at *
      clear hc1
      go_wp2_with fail
      refine (HS.out wr).mono ?_
      rintro e w2 ⟨rfl, hD2⟩
      by_cases hr : r = 0
      · have hrn : (r != 0) = false := by simpa using hr
        have HJ : Hid (fst1 q (l.drop (k + 1)) = fst1 q l) := by rw [Hid, ← hj.out, HF.out, if_neg (by simpa using hr)]
        clear hr
        go_wp2
        go_roundw
        case rel => exact ⟨k + 1, by omega, by go_num, HJ, hD.trans hD2⟩
        case measure => simp [intOf]; omega
      · have hrn : (r != 0) = true := by simpa using hr
        have HJ : Hid (errA q l = r) := by rw [Hid, HX.out, ← hj.out, HF.out, if_pos hr]
        clear hr
        go_wp2
        go_ret
        exact ⟨ret_int HJ.out.symm, hD.trans hD2⟩
    · obtain rfl : k = l.length := by omega
      have hltI : ¬ (l.length : Int) < (l.length : Int) := by omega
      have HJ : Hid (errA q l = 0) := by rw [Hid, HX.out, ← hj.out, fst1_end (Nat.le_refl _)]
      go_wp2
      go_ret
      exact ⟨ret_int HJ.out.symm, hD⟩

theorem fErrors_any (q : Int) (l : List ByteArray) (p : Option Addr) (c : Nat) (w : World) (hin : Sl w Value.string p l) (hl : l.length ≤ 9223372036854775807) (_ : Sz l) :
    Calls Tryz.prog 10 #[.int .i64 q, .slice p l.length c] w fun e w' => e = .returned (.int .i64 (errA q l)) ∧ Dr w w' := fErrors_all q l p c w hin hl

set_option maxRecDepth 100000 in
theorem fLongest_any (l : List ByteArray) (p : Option Addr) (c : Nat) (w : World) (hin : Sl w Value.string p l) (hl : l.length ≤ 9223372036854775807) :
    Calls Tryz.prog 5 #[.slice p l.length c] w fun e w' => e = .returned (.int .i64 (lngA l)) ∧ w' = w := by
  go_enter Tryz.func5, Tryz.ntmps5
  go_wp2
  go_loop [3, 8] (fun nv i => ∃ k : Nat, k ≤ l.length ∧ i = .int .i64 k ∧ nv = .int .i64 (lngA (l.take k))) (fun _ i => l.length - (intOf i).toNat)
  case atStart => exact ⟨0, by omega, rfl, rfl⟩
  case round =>
    obtain ⟨k, hk, rfl, rfl⟩ := hrel
    by_cases hlt : k < l.length
    · have hltI : (k : Int) < (l.length : Int) := by omega
      obtain ⟨b1, o1, rfl, hb1, hc1⟩ := hin.get k hlt
      have e0 := hc1 k hlt
      have HS := hidI (lngA_snoc l k hlt)
      have hsz := Nat.zero_le (l[k].size)
      generalize lngA (l.take k) = n at *
      go_wp2
      go_round
      case rel => exact ⟨k + 1, by omega, by go_num, by rw [HS.out]⟩
      case measure => simp [intOf]; omega
    · obtain rfl : k = l.length := by omega
      have hltI : ¬ (l.length : Int) < (l.length : Int) := by omega
      rw [List.take_length]
      go_wp2
      go_ret
      exact ⟨rfl, rfl⟩
end Go.Proofs.YtaclgmhinljkbaaGreatDoor
namespace Go.Proofs.YtaclgmhinljkbaaGreatDoor
open Go.RowKit Go.Shelf

set_option maxRecDepth 100000 in
set_option maxHeartbeats 2000000 in
theorem fCheck_all (q : Int) (l : List ByteArray) (p : Option Addr) (c : Nat) (w : World) (hin : Sl w Value.string p l) (hl : l.length ≤ 9223372036854775807) :
    Calls Tryz.prog 4 #[.int .i64 q, .slice p l.length c] w fun e w' => e = .returned (.int .i64 (chkF q l)) ∧ RowKit.Below w.heap.size w w' := by
  have HIN := hidI hin
  have HER := hidI (fErrors_all q l p c w hin hl)
  clear hin
  by_cases h1 : q < 1
  · have HX : Hid (chkF q l = 12) := if_pos (.inl h1)
    have HY : Hid (errA q l = 12) := if_pos (.inl h1)
    rw [HY.out] at HER
    go_enter Tryz.func4, Tryz.ntmps4
    go_wp2_with fail
    refine HER.out.mono ?_
    rintro e w2 ⟨rfl, hD⟩
    go_wp2
    go_ret
    exact ⟨ret_int HX.out.symm, hD.below _⟩
  by_cases h2 : 16 < q
  · have HX : Hid (chkF q l = 12) := if_pos (.inr h2)
    have HY : Hid (errA q l = 12) := if_pos (.inr h2)
    rw [HY.out] at HER
    go_enter Tryz.func4, Tryz.ntmps4
    go_wp2_with fail
    refine HER.out.mono ?_
    rintro e w2 ⟨rfl, hD⟩
    go_wp2
    go_ret
    exact ⟨ret_int HX.out.symm, hD.below _⟩
  by_cases h3 : 64 < l.length
  · have HX : Hid (chkF q l = 4) := by unfold Hid chkF; rw [if_neg (by omega), if_pos h3]
    have HY : Hid (errA q l = 4) := by unfold Hid errA; rw [if_neg (by omega), if_pos h3]
    rw [HY.out] at HER
    have h3I : (64 : Int) < (l.length : Int) := by omega
    go_enter Tryz.func4, Tryz.ntmps4
    go_wp2_with fail
    refine HER.out.mono ?_
    rintro e w2 ⟨rfl, hD⟩
    go_wp2
    go_ret
    exact ⟨ret_int HX.out.symm, hD.below _⟩
  have HX : Hid (chkF q l = chk2 q none l) := by unfold Hid chkF; rw [if_neg (by omega), if_neg h3]
  have h3I : ¬ (64 : Int) < (l.length : Int) := by omega
  clear HER
  go_enter Tryz.func4, Tryz.ntmps4
  go_wp2
  go_loopw [24] (fun iv wr => ∃ k : Nat, k ≤ l.length ∧ iv = .int .i64 k ∧ Hid (chk2 q (pvB l k) (l.drop k) = chk2 q none l) ∧ RowKit.Below w.heap.size w wr) (fun iv _ => l.length - (intOf iv).toNat)
  case atStart => exact ⟨0, by omega, rfl, rfl, RowKit.Below.refl _ _⟩
  case round =>
    obtain ⟨k, hk, rfl, hj, hB⟩ := hrel
    by_cases hlt : k < l.length
    · have hltI : (k : Int) < (l.length : Int) := by omega
      obtain ⟨b1, o1, rfl, hb1, hc1⟩ := (HIN.out.below hB).get k hlt
      have e0 := hc1 k hlt
      have HS := hidI (fun W => fSingle_all q l[k] W)
      have HF := hidI (chk2_at (q := q) hlt)
      by_cases hr : oneA q l[k] = 0
      · rw [hr] at HS
        rw [hr] at HF
        by_cases hk0 : k = 0
        · subst hk0
          have HJ : Hid (chk2 q (pvB l (0 + 1)) (l.drop (0 + 1)) = chk2 q none l) := by
            rw [Hid, ← hj.out, HF.out]; simp [pvB]
          have e0 : wr.cell? ⟨b1, o1, none⟩ = some (.string l[0]) := e0
          generalize l[0] = s at *
          clear hc1 hr
          go_wp2_with fail
          refine (HS.out wr).mono ?_
          rintro e w2 ⟨rfl, hD2⟩
          go_wp2
          go_roundw
          case rel => exact ⟨1, by omega, rfl, HJ, hB.trans (hD2.below _)⟩
          case measure => simp [intOf]; omega
        · obtain ⟨m, rfl⟩ : ∃ m, k = m + 1 := ⟨k - 1, by omega⟩
          have hml' : m < l.length := by omega
          have e1' := hc1 m hml'
          obtain ⟨r, hr2⟩ : ∃ r, r = ordB l[m] l[m + 1] := ⟨_, rfl⟩
          have HF2 : Hid (chk2 q (pvB l (m + 1)) (l.drop (m + 1)) = if 0 ≤ r then 10 else chk2 q (pvB l (m + 1 + 1)) (l.drop (m + 1 + 1))) := by
            rw [Hid, HF.out, hr2]
            simp [pvB, hml']
          have HO : Hid (∀ W, Calls Tryz.prog 12 #[.string l[m], .string l[m + 1]] W fun e w' => e = .returned (.int .i64 r) ∧ RowKit.Below W.heap.size W w') := fun W => by
            rw [hr2]
            exact (fOrder_any l[m] l[m + 1] W).mono (fun e w' h => ⟨h.1, by rw [h.2]; exact (RowKit.Below.refl _ _).alloc (Nat.le_refl _) _⟩)
          clear HF
          have hml : (m : Int) < (l.length : Int) := by omega
          have hm0 : ¬ m + 1 = 0 := by omega
          generalize l[m] = u at *
          generalize l[m + 1] = s at *
          clear hc1 hr hr2
          go_wp2_with fail
          refine (HS.out wr).mono ?_
          rintro e w2 ⟨rfl, hD2⟩
          have e1'' := (hD2.cell _).trans e1'
          go_wp2_with fail
          refine (HO.out w2).mono ?_
          rintro e w3 ⟨rfl, hB3'⟩
          have hB2 := hB.trans (hD2.below w.heap.size)
          have hB3 := hB2.trans (hB3'.mono hB2.size)
          by_cases hr : 0 ≤ r
          · have HJ : Hid (chkF q l = 10) := by rw [Hid, HX.out, ← hj.out, HF2.out, if_pos hr]
            go_wp2
            go_ret
            exact ⟨ret_int HJ.out.symm, hB3⟩
          · have HJ : Hid (chk2 q (pvB l (m + 1 + 1)) (l.drop (m + 1 + 1)) = chk2 q none l) := by rw [Hid, ← hj.out, HF2.out, if_neg hr]
            go_wp2
            go_roundw
            case rel => exact ⟨m + 1 + 1, by omega, by go_num, HJ, hB3⟩
            case measure => simp [intOf]; omega
      · have hrn : (oneA q l[k] != 0) = true := by simpa using hr
        have HJ : Hid (chkF q l = oneA q l[k]) := by rw [Hid, HX.out, ← hj.out, HF.out, if_pos hr]
        generalize oneA q l[k] = r at *
        clear hr hc1
        go_wp2_with fail
        refine (HS.out wr).mono ?_
        rintro e w2 ⟨rfl, hD2⟩
        go_wp2
        go_ret
        exact ⟨ret_int HJ.out.symm, hB.trans (hD2.below _)⟩
    · obtain rfl : k = l.length := by omega
      have hltI : ¬ (l.length : Int) < (l.length : Int) := by omega
      have HJ : Hid (chkF q l = 0) := by rw [Hid, HX.out, ← hj.out, chk2_end (Nat.le_refl _)]
      go_wp2
      go_ret
      exact ⟨ret_int HJ.out.symm, hB⟩
theorem fCheck_any (q : Int) (l : List ByteArray) (p : Option Addr) (c : Nat) (w : World) (hin : Sl w Value.string p l) (hl : l.length ≤ 9223372036854775807) (_ : Sz l) :
    Calls Tryz.prog 4 #[.int .i64 q, .slice p l.length c] w fun e w' => e = .returned (.int .i64 (chkF q l)) ∧ RowKit.Below w.heap.size w w' := fCheck_all q l p c w hin hl
end Go.Proofs.YtaclgmhinljkbaaGreatDoor
namespace Go.Proofs.YtaclgmhinljkbaaGreatDoor
open Go.RowKit Go.Shelf

/-- The library's variable holds a number. -/
def Mx (w : World) : Prop := ∃ m, w.cell? ⟨0, 0, none⟩ = some (.int .i64 m)
theorem Mx.below {w w' : World} (h : Mx w) (hB : RowKit.Below w.heap.size w w') : Mx w' := by
  obtain ⟨m, hm⟩ := h
  exact ⟨m, (hB.cell (World.block_lt_of_cell? w _ hm)).trans hm⟩
theorem Mx.dr {w w' : World} (h : Mx w) (hD : Dr w w') : Mx w' := h.below (hD.below _)
theorem sContains_any (s u : ByteArray) (w : World) (hm : Mx w) (hs : s.size < 4294967281) :
    Calls Tryz.prog 27 #[.string s, .string u] w fun e w' => e = .returned (.bool (Lib.contains s.data.toList u.data.toList)) ∧ w' = w := by
  obtain ⟨m, hm⟩ := hm
  exact Tryz.strings_Contains s u m w hs hm
theorem fallow1_any (s u : ByteArray) (b : Nat) (w : World) (hm : Mx w) (hs : s.size < 4294967281) (hb : w.cell? ⟨b, 0, none⟩ = some (.string s)) :
    Calls Tryz.prog 35 #[.string u, .pointer (some ⟨b, 0, none⟩)] w fun e w' => e = .returned (.bool (Lib.contains s.data.toList u.data.toList)) ∧ w' = w := by
  have HC := hidI (sContains_any s u w hm hs)
  generalize Lib.contains s.data.toList u.data.toList = r at *
  go_enter Tryz.func35, Tryz.ntmps35
  go_wp2_with fail
  refine HC.out.mono ?_
  rintro e w' ⟨rfl, hw⟩
  have hw := hw.symm
  subst hw
  go_wp2
  go_ret
  exact ⟨rfl, rfl⟩
set_option maxRecDepth 100000 in
set_option maxHeartbeats 1000000 in
theorem fallow_any (l : List ByteArray) (p : Option Addr) (c : Nat) (s : ByteArray) (w : World) (hin : Sl w Value.string p l) (hl : l.length ≤ 9223372036854775807) (hm : Mx w) (hs : s.size < 4294967281) :
    Calls Tryz.prog 16 #[.slice p l.length c, .string s] w fun e w' => e = .returned (.bool (alwA l s)) ∧ RowKit.Below w.heap.size w w' := by
  obtain ⟨w0, hw0⟩ : ∃ w0, w0 = w.alloc (.cells #[.string s] 9) := ⟨_, rfl⟩
  have b0 : VRow w0 w.heap.size 9 [.string s] := by subst hw0; exact VRow.new w _ _
  have hB0 : RowKit.Below w.heap.size w w0 := by subst hw0; exact (RowKit.Below.refl _ _).alloc (Nat.le_refl _) _
  have hm0 := hm.below hB0
  have hin0 := hin.below hB0
  have HC : Hid (Calls Tryz.prog 19 #[.slice p l.length c, .func (.func 35) #[] #[.pointer (some ⟨w.heap.size, 0, none⟩)]] w0 fun e w' => e = .returned (.bool (l.any (fun u => Lib.contains s.data.toList u.data.toList))) ∧ Dr w0 w') := by
    rcases Nat.eq_zero_or_pos l.length with h0 | h0
    · have : l = [] := List.length_eq_zero_iff.1 h0
      subst this
      refine (Tryz.slices_ContainsFunc_empty (α := ByteArray) p c _ w0).mono ?_
      rintro e w' ⟨rfl, rfl⟩
      exact ⟨rfl, Dr.refl _⟩
    · obtain ⟨b, off, rfl, hb, hc⟩ := hin0.get 0 h0
      refine (Tryz.slices_ContainsFunc Value.string (fun u => Lib.contains s.data.toList u.data.toList) 35 #[.pointer (some ⟨w.heap.size, 0, none⟩)] (enters_of Tryz.func35 (by kernel_rfl) rfl) b off l.length c l w0 ?_ (Nat.le_refl _) hl ?_).mono ?_
      · intro W x hW
        exact (fallow1_any s x w.heap.size W (hm0.below hW) hs ((b0.below hW b0.lt).at 0 rfl)).mono (fun e w' h => ⟨h.1, 0, h.2⟩)
      · intro j hj
        rw [hc j hj, getElem!_pos _ j hj]
      · rintro e w' ⟨rfl, q, rfl⟩
        rw [List.take_length]
        exact ⟨rfl, ⟨q, rfl⟩⟩
  obtain ⟨r, hr⟩ : ∃ r, r = l.any (fun u => Lib.contains s.data.toList u.data.toList) := ⟨_, rfl⟩
  have HX : Hid (alwA l s = !r) := by rw [Hid, hr]; rfl
  rw [← hr] at HC
  clear hr hin hin0
  go_enter Tryz.func16, Tryz.ntmps16
  go_wp2_with fail
  rw [← hw0]
  clear hw0
  refine HC.mono ?_
  rintro e w' ⟨rfl, hD⟩
  go_wp2
  go_ret
  exact ⟨ret_bool HX.out.symm, hB0.trans ((hD.below _).mono hB0.size)⟩

end Go.Proofs.YtaclgmhinljkbaaGreatDoor
namespace Go.Proofs.YtaclgmhinljkbaaGreatDoor
open Go.RowKit Go.Shelf

theorem bless_cmp : ∀ x y : List UInt8, Op.bytesLess x y = decide (Lib.compareBytes x y < 0)
  | [], [] => by simp [Op.bytesLess, Lib.compareBytes]
  | _ :: _, [] => by simp [Op.bytesLess, Lib.compareBytes]
  | [], _ :: _ => by simp [Op.bytesLess, Lib.compareBytes]
  | a :: x, b :: y => by
    unfold Op.bytesLess Lib.compareBytes
    by_cases h : a < b
    · simp [h]
    · by_cases h2 : b < a
      · have h3 : ¬ a = b := by rintro rfl; exact h h2
        simp [h, h2, h3]
      · have h3 : a = b := UInt8.le_antisymm (UInt8.not_lt.1 h2) (UInt8.not_lt.1 h)
        subst h3
        simp [h, bless_cmp x y]
end Go.Proofs.YtaclgmhinljkbaaGreatDoor
namespace Go.Proofs.YtaclgmhinljkbaaGreatDoor
open Go.RowKit Go.Shelf

theorem alw_take (l : List ByteArray) (s : ByteArray) (k : Nat) (h : k < l.length) : (l.take (k + 1)).any (fun u => Lib.contains s.data.toList u.data.toList) = ((l.take k).any (fun u => Lib.contains s.data.toList u.data.toList) || Lib.contains s.data.toList l[k].data.toList) := by
  rw [List.take_succ_eq_append_getElem h, List.any_append, List.any_cons, List.any_nil, Bool.or_false]
end Go.Proofs.YtaclgmhinljkbaaGreatDoor
namespace Go.Proofs.YtaclgmhinljkbaaGreatDoor
open Go.RowKit Go.Shelf

/-- Larger than the statements examine. -/
def gr1 (s : ByteArray) : Bool := (decide (6 < s.size) && decide (s.size ≤ 32)) || decide (35 < s.size)
def gr14 (l : List ByteArray) : Bool := l.any gr1 || (decide (6 < l.length) && decide (l.length ≤ 64)) || decide (67 < l.length)
theorem gr1_take (l : List ByteArray) (k : Nat) (h : k < l.length) : (l.take (k + 1)).any gr1 = ((l.take k).any gr1 || gr1 l[k]) := by
  rw [List.take_succ_eq_append_getElem h, List.any_append, List.any_cons, List.any_nil, Bool.or_false]
end Go.Proofs.YtaclgmhinljkbaaGreatDoor
namespace Go.Proofs.YtaclgmhinljkbaaGreatDoor
open Go.RowKit Go.Sort Go.Shelf Go.Lib

/-- A word put ahead of the first one that is not less; no change where this is the word. -/
def insB (s : ByteArray) : List ByteArray → List ByteArray
  | [] => [s]
  | y :: l => if ordB y s < 0 then y :: insB s l else if y = s then y :: l else s :: y :: l
def posB (s : ByteArray) (l : List ByteArray) (k : Nat) : Prop := k ≤ l.length ∧ ∀ m (h : m < l.length), m < k → ordB l[m] s < 0
theorem insB_at {s : ByteArray} : ∀ {l : List ByteArray} {k : Nat}, posB s l k → (∀ h : k < l.length, ¬ ordB l[k] s < 0) → (∀ h : k < l.length, l[k] ≠ s) → insB s l = l.take k ++ s :: l.drop k
  | [], k, hp, _, _ => by have := hp.1; simp at this; subst this; rfl
  | y :: l, 0, _, h1, h2 => by
    have h1 := h1 (by simp); have h2 := h2 (by simp)
    simp only [List.getElem_cons_zero] at h1 h2
    unfold insB
    rw [if_neg h1, if_neg h2]; rfl
  | y :: l, k + 1, hp, h1, h2 => by
    have hy := hp.2 0 (by simp) (by omega)
    simp only [List.getElem_cons_zero] at hy
    have ih := insB_at (s := s) (l := l) (k := k) ⟨by have := hp.1; simp at this; omega, fun m hm hk => by have := hp.2 (m + 1) (by simpa using hm) (by omega); simpa using this⟩
      (fun h => by have := h1 (by simpa using h); simpa using this) (fun h => by have := h2 (by simpa using h); simpa using this)
    unfold insB
    rw [if_pos hy, ih]; rfl
theorem insB_in {s : ByteArray} : ∀ {l : List ByteArray} {k : Nat}, posB s l k → (∀ h : k < l.length, ¬ ordB l[k] s < 0) → ∀ h : k < l.length, l[k] = s → insB s l = l
  | [], k, _, _, h, _ => by simp at h
  | y :: l, 0, _, h1, _, h2 => by
    have h1 := h1 (by simp)
    simp only [List.getElem_cons_zero] at h1 h2
    unfold insB
    rw [if_neg h1, if_pos h2]
  | y :: l, k + 1, hp, h1, h, h2 => by
    have hy := hp.2 0 (by simp) (by omega)
    simp only [List.getElem_cons_zero] at hy
    have ih := insB_in (s := s) (l := l) (k := k) ⟨by have := hp.1; simp at this; omega, fun m hm hk => by have := hp.2 (m + 1) (by simpa using hm) (by omega); simpa using this⟩
      (fun h => by have := h1 (by simpa using h); simpa using this) (by simpa using h) (by simpa using h2)
    unfold insB
    rw [if_pos hy, ih]
theorem insB_len (s : ByteArray) : ∀ l : List ByteArray, (insB s l).length ≤ l.length + 1
  | [] => by simp [insB]
  | y :: l => by
    have := insB_len s l
    unfold insB; split
    · simp; omega
    · split <;> simp

/-! ### Appending words -/
theorem infoStrF : (Tryz.prog.info? 9).map (fun i => (i.zero, i.size, i.bytes)) = some (some (.string ⟨#[]⟩), 1, 16) := by kernel_rfl
theorem one_strs (l : List ByteArray) : ∀ u ∈ l.map Value.string, u.oneCell' = true := by
  intro u hu; obtain ⟨x, _, rfl⟩ := List.mem_map.1 hu; rfl
theorem news_strs {w : World} {b off : Nat} {l : List ByteArray} (h : ∀ i (h : i < l.length), w.cell? ⟨b, off + i, none⟩ = some (.string l[i])) : ∀ j u, (l.map Value.string)[j]? = some u → w.cell? ((⟨b, off, none⟩ : Addr).add j) = some u := by
  intro j u hu
  rw [List.getElem?_map] at hu
  obtain ⟨x, hx, rfl⟩ := Option.map_eq_some_iff.1 hu
  obtain ⟨hj, rfl⟩ := List.getElem?_eq_some_iff.1 hx
  rw [Addr.add_lit]; exact h j hj
/-- A list that lies in memory, behind words of the call's own. -/
theorem run_app1 (w : World) (base : Nat) (ty : TypeId) (v : Value) (xs : List ByteArray) (n : Nat) (hown : w.ownsRow base 9 1 v n (xs.map Value.string)) (p : Option Addr) (c m : Nat) (l : List ByteArray) (hm : l.length = m) (hl : Sl w Value.string p l)
    (h63 : n + m ≤ 1000000) (hbase : base ≤ w.heap.size) :
    ∃ v' w', (Builtin.append_ #[22, 22] ty #[v, .slice p m c]).run Tryz.prog w = .ok v' w' ∧ w'.ownsRow base 9 1 v' (n + m) ((xs ++ l).map Value.string) ∧ w.grownBy w' v.ownBlock := by
  obtain ⟨i0, hi, hz, hs, hb⟩ := info_parts infoStrF
  subst hm
  cases p with
  | none =>
    rcases hl with h0 | ⟨_, _, hp, _⟩
    · subst h0
      refine ⟨v, w, ?_, by simpa using hown, World.grownBy.refl w _⟩
      rcases hown.2 with ⟨rfl, h0⟩ | ⟨g, cap, cur, rfl, _, _, hnc, _⟩
      · simp [Builtin.append_, run_underlying Tryz.underlying22, sizeOf, typeInfo, hi, Builtin.lenOf, Builtin.firstCells]
      · simp [Builtin.append_, run_underlying Tryz.underlying22, sizeOf, typeInfo, hi, Builtin.lenOf, Builtin.firstCells, hnc, storeCells]
    · cases hp
  | some ad =>
    have hn : ∀ j u, (l.map Value.string)[j]? = some u → w.cell? (ad.add j) = some u := by
      rcases hl with h0 | ⟨b, off, hp, _, hc⟩
      · subst h0; simp
      · cases hp; exact news_strs hc
    obtain ⟨v', w', h1, h2, h3, _, _⟩ := run_append_own_at w base 22 ty 9 i0 (.string ⟨#[]⟩) 1 16 Tryz.underlying22 hi hz hs hb rfl (by decide) v n _ hown ad l.length c (l.map Value.string) (by simp) hn (one_strs l) (by simp only [maxLen]; omega) (by omega) hbase
    exact ⟨v', w', h1, by rw [List.map_append]; exact h2, h3⟩
/-- Words of the call's own behind a full slice. -/
theorem run_app2 (w : World) (ty : TypeId) (po : Option Addr) (xs : List ByteArray) (n : Nat) (hn : xs.length = n) (hx : Sl w Value.string po xs) (u : Value) (B m : Nat) (ys : List ByteArray) (hu : w.ownsRow B 9 1 u m (ys.map Value.string)) (hm : 0 < m) (h63 : n + m ≤ 1000000) :
    ∃ v' w', (Builtin.append_ #[22, 22] ty #[.slice po n n, u]).run Tryz.prog w = .ok v' w' ∧ w'.ownsRow w.heap.size 9 1 v' (n + m) ((xs ++ ys).map Value.string) ∧ Below w.heap.size w w' := by
  obtain ⟨i0, hi, hz, hs, hb⟩ := info_parts infoStrF
  subst hn
  rcases hu.2 with ⟨rfl, h0⟩ | ⟨g, cap, cur, rfl, hbg⟩
  · have := hu.1; rw [h0] at this; simp at this; omega
  have hnews := hu.cells (g := g) rfl
  have hl : (ys.map Value.string).length = m * 1 := hu.1
  cases po with
  | some b =>
    have ho : ∀ j v, (xs.map Value.string)[j]? = some v → w.cell? (b.add j) = some v := by
      rcases hx with h0 | ⟨b', off, hp, _, hc⟩
      · subst h0; simp
      · cases hp; exact news_strs hc
    obtain ⟨v', w', h1, h2, h3⟩ := run_append_arg_grows (P := Tryz.prog) w 22 ty 9 i0 (.string ⟨#[]⟩) 1 16 Tryz.underlying22 hi hz hs hb rfl (by decide) b xs.length xs.length (xs.map Value.string) (by simp) ho ⟨g, 0, none⟩ m cap (ys.map Value.string) hl hnews (by omega) (by simp only [maxLen]; omega) (by omega)
    exact ⟨v', w', h1, by rw [List.map_append]; exact h2, (Below.refl _ _).grown h3 (Nat.le_refl _) (by simp)⟩
  | none =>
    have h0 : xs = [] := by rcases hx with h | ⟨_, _, hp, _⟩; exact h; cases hp
    subst h0
    obtain ⟨v', w', h1, h2, h3, _⟩ := run_append_own_at w w.heap.size 22 ty 9 i0 (.string ⟨#[]⟩) 1 16 Tryz.underlying22 hi hz hs hb rfl (by decide) (.slice none 0 0) 0 [] (World.ownsRow_nil w _ _ 1) ⟨g, 0, none⟩ m cap (ys.map Value.string) hl hnews (one_strs ys) (by simp only [maxLen]; omega) (by omega) (Nat.le_refl _)
    exact ⟨v', w', h1, by simpa using h2, (Below.refl _ _).grown h3 (Nat.le_refl _) (by simp [Value.ownBlock])⟩
theorem own_one1 (w : World) (s : ByteArray) {B : Nat} (hB : B ≤ w.heap.size) : (w.alloc (.cells #[.string s] 9)).ownsRow B 9 1 (.slice (some ⟨w.heap.size, 0, none⟩) 1 1) 1 ([s].map Value.string) :=
  ⟨rfl, .inr ⟨w.heap.size, 1, _, rfl, hB, heap_alloc_new w _, Nat.le_refl _, by simp [maxLen], rfl, rfl⟩⟩
theorem step_app1 {w : World} {ops : Array Oper} {o : Oper} {a : Act} {K : Act → World → Prop} {Q : Exit → Act → World → Prop} {E : Prop} (hgd : o.guard = none) (s x : Operand)
    (ho : o.op = .call { callee := .builtin .append, args := #[s, x], argTypes := #[22, 22] }) (base : Nat) (sv : Value) (xs : List ByteArray) (n : Nat) (p : Option Addr) (c m : Nat) (l : List ByteArray) (hs : a.eval s = sv) (hx : a.eval x = .slice p m c)
    (hown : w.ownsRow base 9 1 sv n (xs.map Value.string)) (hm : l.length = m) (hl : Sl w Value.string p l) (h63 : n + m ≤ 1000000) (hbase : base ≤ w.heap.size)
    (h : ∀ v' w', w'.ownsRow base 9 1 v' (n + m) ((xs ++ l).map Value.string) → w.grownBy w' sv.ownBlock → K (a.put o.dst v') w') : if Region.wanted o (yielded ops a.tmps) = true then Oper.wp Tryz.prog o a w K Q else E := by
  obtain ⟨v', w', h1, h2, h3⟩ := run_app1 w base o.type sv xs n hown p c m l hm hl h63 hbase
  exact step_append_run hgd s x 22 ho sv _ hs hx v' w' h1 (h v' w' h2 h3)
theorem step_app2 {w : World} {ops : Array Oper} {o : Oper} {a : Act} {K : Act → World → Prop} {Q : Exit → Act → World → Prop} {E : Prop} (hgd : o.guard = none) (s x : Operand)
    (ho : o.op = .call { callee := .builtin .append, args := #[s, x], argTypes := #[22, 22] }) (po : Option Addr) (xs : List ByteArray) (n : Nat) (u : Value) (hs : a.eval s = .slice po n n) (hx : a.eval x = u) (hn : xs.length = n) (hxs : Sl w Value.string po xs)
    (B m : Nat) (ys : List ByteArray) (hu : w.ownsRow B 9 1 u m (ys.map Value.string)) (hm : 0 < m) (h63 : n + m ≤ 1000000)
    (h : ∀ v' w', w'.ownsRow w.heap.size 9 1 v' (n + m) ((xs ++ ys).map Value.string) → Below w.heap.size w w' → K (a.put o.dst v') w') : if Region.wanted o (yielded ops a.tmps) = true then Oper.wp Tryz.prog o a w K Q else E := by
  obtain ⟨v', w', h1, h2, h3⟩ := run_app2 w o.type po xs n hn hxs u B m ys hu hm h63
  exact step_append_run hgd s x 22 ho _ _ hs hx v' w' h1 (h v' w' h2 h3)
/-- How a slice's head can look. -/
def Sh (q : Option Addr) (c : Nat) : Prop := (q = none ∧ c = 0) ∨ ∃ b o, q = some ⟨b, o, none⟩
/-- A list of words is handed back: in memory, new or as it came. -/
def RetSt (l : List ByteArray) (w : World) (e : Ending) (w' : World) : Prop := ∃ q n c, e = .returned (.slice q n c) ∧ n = l.length ∧ n ≤ c ∧ Sh q c ∧ Sl w' Value.string q l ∧ Below w.heap.size w w'
theorem RetSt.own {l xs : List ByteArray} {w w' : World} {v : Value} {B n : Nat} (h : w'.ownsRow B 9 1 v n (xs.map Value.string)) (hx : xs = l) (hB : Below w.heap.size w w') : RetSt l w (.returned v) w' := by
  subst hx
  obtain ⟨q, c, rfl, hs⟩ := own_sl h
  refine ⟨q, _, c, rfl, rfl, ?_, ?_, hs, hB⟩
  · rcases h.2 with ⟨he, h0⟩ | ⟨g, cap, cur, he, _, _, hc, _⟩
    · simp only [Value.slice.injEq] at he; omega
    · simp only [Value.slice.injEq] at he; have := h.1; simp at this; omega
  · rcases h.2 with ⟨he, h0⟩ | ⟨g, cap, cur, he, _⟩
    · simp only [Value.slice.injEq] at he; exact .inl ⟨he.1, he.2.2⟩
    · simp only [Value.slice.injEq] at he; exact .inr ⟨g, 0, he.1⟩
theorem Sl.drop1 {w : World} {b off : Nat} {l : List ByteArray} (h : Sl w Value.string (some ⟨b, off, none⟩) l) (k : Nat) : Sl w Value.string (some ⟨b, off + k, none⟩) (l.drop k) := by
  rcases h with h | ⟨b', off', hp, hb, hc⟩
  · subst h; exact .inl (by simp)
  · cases hp
    refine .inr ⟨b, off + k, rfl, hb, fun i hi => ?_⟩
    rw [List.length_drop] at hi
    have := hc (k + i) (by omega)
    rw [List.getElem_drop, ← this]
    congr 2
    omega

end Go.Proofs.YtaclgmhinljkbaaGreatDoor
namespace Go.Proofs.YtaclgmhinljkbaaGreatDoor
open Go.RowKit Go.Sort Go.Shelf Go.Lib

/-- No other word of the list is a factor. -/
def okB (w u : ByteArray) : Bool := decide (u = w) || !Lib.contains w.data.toList u.data.toList
def minB (l : List ByteArray) (w : ByteArray) : Bool := l.all (okB w)
def redL (l : List ByteArray) : Nat → List ByteArray
  | 0 => []
  | k + 1 => match l[k]? with
    | some x => if minB l x = true then insB x (redL l k) else redL l k
    | none => redL l k
def redA (q : Int) (l : List ByteArray) : List ByteArray × Int := if errA q l ≠ 0 then ([], errA q l) else (redL l l.length, 0)
theorem redL_succ {l : List ByteArray} {k : Nat} (h : k < l.length) : redL l (k + 1) = if minB l l[k] = true then insB l[k] (redL l k) else redL l k := by
  rw [redL, List.getElem?_eq_getElem h]
theorem redL_len (l : List ByteArray) : ∀ k, (redL l k).length ≤ k
  | 0 => by simp [redL]
  | k + 1 => by
    have ih := redL_len l k
    rw [redL]
    split
    · rename_i x _
      have := insB_len x (redL l k)
      split <;> omega
    · omega
theorem okB_take (l : List ByteArray) (w : ByteArray) (k : Nat) (h : k < l.length) : (l.take (k + 1)).all (okB w) = ((l.take k).all (okB w) && okB w l[k]) := by
  rw [List.take_succ_eq_append_getElem h, List.all_append, List.all_cons, List.all_nil, Bool.and_true]
theorem okB_eq {w u : ByteArray} (h : u = w) : okB w u = true := by simp [okB, h]
theorem okB_ne {w u : ByteArray} (h : u ≠ w) : okB w u = !Lib.contains w.data.toList u.data.toList := by simp [okB, h]
/-- A list of words and an error. -/
def RetSe (x : List ByteArray × Int) (w : World) (e : Ending) (w' : World) : Prop := ∃ q n c, e = .returned (.tuple #[.slice q n c, .int .i64 x.2]) ∧ n = x.1.length ∧ n ≤ c ∧ Sh q c ∧ Sl w' Value.string q x.1 ∧ RowKit.Below w.heap.size w w'
theorem RetSe.of {l : List ByteArray} {k : Int} {x : List ByteArray × Int} {w w' : World} {q : Option Addr} {n c : Nat} (hr : x = (l, k)) (hn : n = l.length) (hc : n ≤ c) (hq : Sh q c) (hs : Sl w' Value.string q l) (hB : RowKit.Below w.heap.size w w') :
    RetSe x w (.returned (.tuple #[.slice q n c, .int .i64 k])) w' := by subst hr; exact ⟨q, n, c, rfl, hn, hc, hq, hs, hB⟩

end Go.Proofs.YtaclgmhinljkbaaGreatDoor
namespace Go.Proofs.YtaclgmhinljkbaaGreatDoor
open Go.RowKit Go.Sort

/-! ### The order -/
theorem cmpB_refl : ∀ x : List UInt8, Lib.compareBytes x x = 0
  | [] => rfl
  | a :: x => by unfold Lib.compareBytes; simp [cmpB_refl x]
theorem cmpB_zero : ∀ {x y : List UInt8}, Lib.compareBytes x y = 0 → x = y
  | [], [], _ => rfl
  | [], _ :: _, h => by simp [Lib.compareBytes] at h
  | _ :: _, [], h => by simp [Lib.compareBytes] at h
  | a :: x, b :: y, h => by
    unfold Lib.compareBytes at h
    by_cases h1 : a < b
    · simp [h1] at h
    · by_cases h2 : b < a
      · simp [h1, h2] at h
      · simp only [h1, h2, if_false] at h
        rw [cmpB_zero h, UInt8.le_antisymm (UInt8.not_lt.1 h2) (UInt8.not_lt.1 h1)]
theorem cmpB_swap : ∀ x y : List UInt8, Lib.compareBytes y x = - Lib.compareBytes x y
  | [], [] => rfl
  | [], _ :: _ => rfl
  | _ :: _, [] => rfl
  | a :: x, b :: y => by
    unfold Lib.compareBytes
    by_cases h1 : a < b
    · have h2 : ¬ b < a := fun h => by have := UInt8.lt_trans h1 h; exact absurd this (UInt8.lt_irrefl _)
      simp [h1, h2]
    · by_cases h2 : b < a
      · simp [h1, h2]
      · simp only [h1, h2, if_false]; exact cmpB_swap x y
theorem cmpB_trans : ∀ {x y z : List UInt8}, Lib.compareBytes x y < 0 → Lib.compareBytes y z < 0 → Lib.compareBytes x z < 0
  | [], [], _, h, _ => by simp [Lib.compareBytes] at h
  | [], _ :: _, [], _, h => by simp [Lib.compareBytes] at h
  | [], _ :: _, _ :: _, _, _ => by simp [Lib.compareBytes]
  | _ :: _, [], _, h, _ => by simp [Lib.compareBytes] at h
  | _ :: _, _ :: _, [], _, h => by simp [Lib.compareBytes] at h
  | a :: x, b :: y, c :: z, h1, h2 => by
    unfold Lib.compareBytes at h1 h2 ⊢
    by_cases p1 : a < b
    · by_cases p2 : b < c
      · simp [UInt8.lt_trans p1 p2]
      · by_cases p3 : c < b
        · simp [p2, p3] at h2
        · have : b = c := UInt8.le_antisymm (UInt8.not_lt.1 p3) (UInt8.not_lt.1 p2)
          subst this; simp [p1]
    · by_cases p3 : b < a
      · simp [p1, p3] at h1
      · have : a = b := UInt8.le_antisymm (UInt8.not_lt.1 p3) (UInt8.not_lt.1 p1)
        subst this
        simp only [p1, if_false] at h1
        by_cases p2 : a < c
        · simp [p2]
        · by_cases p4 : c < a
          · simp [p2, p4] at h2
          · simp only [p2, p4, if_false] at h2 ⊢
            exact cmpB_trans h1 h2
theorem c3_swap (a b : Int) : c3 b a = - c3 a b := by unfold c3; split <;> split <;> (try split) <;> (try split) <;> omega
theorem ordB_swap (a b : ByteArray) : ordB b a = - ordB a b := by
  by_cases h : a.size = b.size
  · rw [ordB_eq (c3_zero.2 (by omega)), ordB_eq (c3_zero.2 (by omega)), cmpB_swap]
  · rw [ordB_ne (fun e => h (by have := c3_zero.1 e; omega)), ordB_ne (fun e => h (by have := c3_zero.1 e; omega)), c3_swap]
theorem ordB_refl (a : ByteArray) : ordB a a = 0 := by rw [ordB_eq (c3_zero.2 rfl), cmpB_refl]
theorem ordB_zero {a b : ByteArray} (h : ordB a b = 0) : a = b := by
  by_cases hs : a.size = b.size
  · rw [ordB_eq (c3_zero.2 (by omega))] at h
    have := cmpB_zero h
    cases a; cases b
    simp at this
    rw [this]
  · rw [ordB_ne (fun e => hs (by have := c3_zero.1 e; omega))] at h
    exact absurd (c3_zero.1 h) (by omega)
theorem ordB_neg {a b : ByteArray} : ordB a b < 0 ↔ a.size < b.size ∨ (a.size = b.size ∧ Lib.compareBytes a.data.toList b.data.toList < 0) := by
  by_cases hs : a.size = b.size
  · rw [ordB_eq (c3_zero.2 (by omega))]; exact ⟨fun h => .inr ⟨hs, h⟩, fun h => h.elim (fun h => by omega) (·.2)⟩
  · rw [ordB_ne (fun e => hs (by have := c3_zero.1 e; omega)), c3_neg]
    exact ⟨fun h => .inl (by omega), fun h => h.elim (fun h => by omega) (fun h => absurd h.1 hs)⟩
theorem ordB_trans {a b c : ByteArray} (h1 : ordB a b < 0) (h2 : ordB b c < 0) : ordB a c < 0 := by
  rw [ordB_neg] at *
  rcases h1 with h1 | ⟨h1, k1⟩ <;> rcases h2 with h2 | ⟨h2, k2⟩
  · exact .inl (by omega)
  · exact .inl (by omega)
  · exact .inl (by omega)
  · exact .inr ⟨by omega, cmpB_trans k1 k2⟩
theorem ordB_total {a b : ByteArray} (h1 : ¬ ordB a b < 0) (h2 : ¬ ordB b a < 0) : a = b := ordB_zero (by have := ordB_swap a b; omega)
theorem swoB : SWO (ltOf ordB) where
  irrefl x := by unfold ltOf; rw [ordB_refl]; rfl
  trans x y z h1 h2 := by unfold ltOf at *; exact decide_eq_true (ordB_trans (of_decide_eq_true h1) (of_decide_eq_true h2))
  ntrans x y z h1 h2 := by
    unfold ltOf at *
    have h1 := of_decide_eq_false h1; have h2 := of_decide_eq_false h2
    refine decide_eq_false (fun h => ?_)
    by_cases hb : ordB y x < 0
    · exact h2 (ordB_trans hb h)
    · have := ordB_total h1 hb; subst this; exact h2 h
theorem totB (x y : ByteArray) (h1 : ltOf ordB x y = false) (h2 : ltOf ordB y x = false) : x = y := by
  unfold ltOf at *; exact ordB_total (of_decide_eq_false h1) (of_decide_eq_false h2)

/-! ### Sorted lists of words -/
def SrtB (l : List ByteArray) : Prop := l.Pairwise (fun a b => ordB a b < 0)
theorem SrtB.unique : ∀ {l m : List ByteArray}, SrtB l → SrtB m → (∀ z, z ∈ l ↔ z ∈ m) → l = m
  | [], [], _, _, _ => rfl
  | [], y :: m, _, _, h => by have := (h y).2 (by simp); simp at this
  | x :: l, [], _, _, h => by have := (h x).1 (by simp); simp at this
  | x :: l, y :: m, hl, hm, h => by
    unfold SrtB at hl hm
    have hl' := List.pairwise_cons.1 hl; have hm' := List.pairwise_cons.1 hm
    have hxy : x = y := by
      rcases List.mem_cons.1 ((h x).1 (by simp)) with e | e
      · exact e
      · rcases List.mem_cons.1 ((h y).2 (by simp)) with e' | e'
        · exact e'.symm
        · have h1 := hm'.1 x e; have h2 := hl'.1 y e'
          have := ordB_trans h1 h2
          rw [ordB_refl] at this; omega
    subst hxy
    congr 1
    refine SrtB.unique hl'.2 hm'.2 (fun z => ?_)
    constructor
    · intro hz
      rcases List.mem_cons.1 ((h z).1 (List.mem_cons_of_mem _ hz)) with e | e
      · subst e; have := hl'.1 z hz; rw [ordB_refl] at this; omega
      · exact e
    · intro hz
      rcases List.mem_cons.1 ((h z).2 (List.mem_cons_of_mem _ hz)) with e | e
      · subst e; have := hm'.1 z hz; rw [ordB_refl] at this; omega
      · exact e
theorem mem_insB {x z : ByteArray} : ∀ {l : List ByteArray}, z ∈ insB x l ↔ z = x ∨ z ∈ l
  | [] => by simp [insB]
  | y :: l => by
    unfold insB
    split
    · rw [List.mem_cons, mem_insB, List.mem_cons]
      constructor
      · rintro (h | h | h) <;> simp [h]
      · rintro (h | h | h) <;> simp [h]
    · split
      · rename_i h; subst h; simp
      · simp
theorem insB_srt {x : ByteArray} : ∀ {l : List ByteArray}, SrtB l → SrtB (insB x l)
  | [], _ => by simp [insB, SrtB]
  | y :: l, h => by
    have h' := List.pairwise_cons.1 h
    unfold insB
    split
    · rename_i hy
      refine List.pairwise_cons.2 ⟨fun z hz => ?_, insB_srt h'.2⟩
      rcases mem_insB.1 hz with e | e
      · subst e; exact hy
      · exact h'.1 z e
    · rename_i hy
      split
      · exact h
      · rename_i hne
        refine List.pairwise_cons.2 ⟨fun z hz => ?_, h⟩
        have hxy : ordB x y < 0 := by
          by_cases hb : ordB x y < 0
          · exact hb
          · exact absurd (ordB_total hy hb) hne
        rcases List.mem_cons.1 hz with e | e
        · subst e; exact hxy
        · exact ordB_trans hxy (h'.1 z e)
theorem redL_srt (l : List ByteArray) : ∀ k, SrtB (redL l k)
  | 0 => by simp [redL, SrtB]
  | k + 1 => by
    rw [redL]
    split
    · split
      · exact insB_srt (redL_srt l k)
      · exact redL_srt l k
    · exact redL_srt l k
theorem mem_redL {l : List ByteArray} {z : ByteArray} : ∀ {k}, k ≤ l.length → (z ∈ redL l k ↔ z ∈ l.take k ∧ minB l z = true)
  | 0, _ => by simp [redL]
  | k + 1, h => by
    rw [redL_succ (by omega), List.take_succ_eq_append_getElem (by omega : k < l.length)]
    have ih := mem_redL (l := l) (z := z) (k := k) (by omega)
    split
    · rename_i hm
      rw [mem_insB, ih]
      simp only [List.mem_append, List.mem_singleton]
      constructor
      · rintro (e | e)
        · subst e; exact ⟨.inr rfl, hm⟩
        · exact ⟨.inl e.1, e.2⟩
      · rintro ⟨e | e, h2⟩
        · exact .inr ⟨e, h2⟩
        · exact .inl e
    · rename_i hm
      rw [ih]
      simp only [List.mem_append, List.mem_singleton]
      constructor
      · rintro ⟨e, h2⟩; exact ⟨.inl e, h2⟩
      · rintro ⟨e | e, h2⟩
        · exact ⟨e, h2⟩
        · subst e; exact absurd h2 hm
theorem sort_srt {l : List ByteArray} (hn : l.Nodup) : SrtB (l.mergeSort (fun x y => !(ltOf ordB) y x)) := by
  have hp := List.pairwise_mergeSort (le := fun x y => !(ltOf ordB) y x)
    (fun a b c h1 h2 => by
      simp only [Bool.not_eq_true'] at *
      exact swoB.ntrans _ _ _ h2 h1)
    (fun a b => by
      simp only [Bool.or_eq_true, Bool.not_eq_true']
      cases h : ltOf ordB b a
      · exact .inl rfl
      · refine .inr ?_
        unfold ltOf at *
        have := of_decide_eq_true h
        exact decide_eq_false (by have := ordB_swap a b; omega)) l
  have hnd : (l.mergeSort (fun x y => !(ltOf ordB) y x)).Nodup := (List.mergeSort_perm l _).nodup_iff.2 hn
  refine List.Pairwise.imp₂ ?_ hp hnd
  intro a b h1 h2
  simp only [Bool.not_eq_true'] at h1
  by_cases hb : ordB a b < 0
  · exact hb
  · exact absurd (ordB_total hb (of_decide_eq_false h1)) h2
/-- What the program collects, sorted, is what the reference inserts. -/
theorem red_sort {l out : List ByteArray} (hn : out.Nodup) (hm : ∀ z, z ∈ out ↔ z ∈ l ∧ minB l z = true) : out.mergeSort (fun x y => !(ltOf ordB) y x) = redL l l.length := by
  refine SrtB.unique (sort_srt hn) (redL_srt l _) (fun z => ?_)
  rw [List.mem_mergeSort, hm, mem_redL (Nat.le_refl _), List.take_length]

/-! ### Factors -/
/-- The factors that begin at i. -/
def facI (s : ByteArray) (i : Nat) : List ByteArray := (List.range (s.size - i)).map (fun j => s.extract i (i + j + 1))
def facU (s : ByteArray) (n : Nat) : List ByteArray := (List.range n).flatMap (facI s)
def facL (s : ByteArray) : List ByteArray := facU s s.size
theorem facU_succ (s : ByteArray) (n : Nat) : facU s (n + 1) = facU s n ++ facI s n := by
  unfold facU; rw [List.range_succ, List.flatMap_append]; simp
theorem facI_len (s : ByteArray) (i : Nat) : (facI s i).length = s.size - i := by simp [facI]
theorem facU_len (s : ByteArray) : ∀ n, (facU s n).length ≤ n * s.size
  | 0 => by simp [facU]
  | n + 1 => by rw [facU_succ, List.length_append, facI_len, Nat.add_mul]; have := facU_len s n; omega
theorem mem_facL {s u : ByteArray} : u ∈ facL s ↔ ∃ i k, i < k ∧ k ≤ s.size ∧ u = s.extract i k := by
  unfold facL facU facI
  simp only [List.mem_flatMap, List.mem_range, List.mem_map]
  constructor
  · rintro ⟨i, hi, j, hj, rfl⟩; exact ⟨i, i + j + 1, by omega, by omega, rfl⟩
  · rintro ⟨i, k, h1, h2, rfl⟩; exact ⟨i, by omega, k - i - 1, by omega, by congr 1; omega⟩
theorem least_at {p : Nat → Bool} (n : Nat) : p n = true → ∃ m, m ≤ n ∧ p m = true ∧ ∀ i, i < m → p i = false := by
  induction n using Nat.strongRecOn with
  | _ n ih =>
    intro h
    rcases Classical.em (∃ i, i < n ∧ p i = true) with ⟨i, hi, hp⟩ | hn
    · obtain ⟨m, h1, h2, h3⟩ := ih i hi hp
      exact ⟨m, by omega, h2, h3⟩
    · exact ⟨n, Nat.le_refl _, h, fun i hi => by
        cases hp : p i
        · rfl
        · exact absurd ⟨i, hi, hp⟩ hn⟩
theorem contains_iff {s u : ByteArray} (hu : u ≠ (⟨#[]⟩ : ByteArray)) : Lib.contains s.data.toList u.data.toList = true ↔ u ∈ facL s := by
  have hne : u.data.toList ≠ [] := fun h => hu (by cases u; simp at h; rw [h])
  have hpos : 0 < u.size := by
    have hl : u.data.toList.length = u.size := by simp
    rcases Nat.eq_zero_or_pos u.size with h | h
    · rw [h] at hl; exact absurd (List.length_eq_zero_iff.1 hl) hne
    · exact h
  have hocc : Lib.contains s.data.toList u.data.toList = true ↔ ∃ j, Lib.occAt s.data.toList u.data.toList j = true := by
    constructor
    · intro h
      rcases Classical.em (∃ j, Lib.occAt s.data.toList u.data.toList j = true) with h1 | h1
      · exact h1
      · have hn : Lib.index s.data.toList u.data.toList = -1 := Lib.index_none (fun j _ => by
          cases ho : Lib.occAt s.data.toList u.data.toList j
          · rfl
          · exact absurd ⟨j, ho⟩ h1)
        unfold Lib.contains at h
        rw [hn] at h; simp at h
    · rintro ⟨j, hj⟩
      obtain ⟨m, _, hf, hmn⟩ := least_at (p := fun j => Lib.occAt s.data.toList u.data.toList j) j hj
      have hr := Lib.occAt_room hf
      have hle : m ≤ s.data.toList.length := by
        rcases hr with h | h
        · omega
        · exact absurd h hne
      unfold Lib.contains
      rw [Lib.index_first hle hf hmn]; simp
  rw [hocc, mem_facL]
  constructor
  · rintro ⟨j, hj⟩
    have hr : j + u.size ≤ s.size := by
      rcases Lib.occAt_room hj with h | h
      · simpa using h
      · exact absurd h hne
    rw [Lib.occ_of_piece s u j hr] at hj
    exact ⟨j, j + u.size, by omega, hr, ((Lib.bytes_beq_iff _ _).1 hj).symm⟩
  · rintro ⟨i, k, h1, h2, rfl⟩
    have hsz : (s.extract i k).size = k - i := by simp; omega
    refine ⟨i, ?_⟩
    rw [Lib.occ_of_piece s (s.extract i k) i (by rw [hsz]; omega), hsz]
    exact (Lib.bytes_beq_iff _ _).2 (by congr 1; omega)
/-- A word is minimal exactly if none of its factors, but it, is of the list. -/
theorem fac_min {l : List ByteArray} {w : ByteArray} {f : ByteArray → Bool} (hf : ∀ u, f u = true ↔ u ∈ l) (hl : ∀ u ∈ l, u ≠ (⟨#[]⟩ : ByteArray)) : (facL w).all (fun u => decide (u = w) || !f u) = minB l w := by
  rw [Bool.eq_iff_iff]
  unfold minB
  rw [List.all_eq_true, List.all_eq_true]
  constructor
  · intro h u hu
    by_cases he : u = w
    · exact okB_eq he
    · rw [okB_ne he]
      cases hc : Lib.contains w.data.toList u.data.toList
      · rfl
      · have := h u ((contains_iff (hl u hu)).1 hc)
        simp [he, (hf u).2 hu] at this
  · intro h u hu
    by_cases he : u = w
    · simp [he]
    · by_cases hul : u ∈ l
      · have := h u hul
        rw [okB_ne he, (contains_iff (hl u hul)).2 hu] at this
        simp at this
      · have : f u = false := by
          cases h2 : f u
          · rfl
          · exact absurd ((hf u).1 h2) hul
        simp [this]
end Go.Proofs.YtaclgmhinljkbaaGreatDoor
namespace Go.Proofs.YtaclgmhinljkbaaGreatDoor
open Go.RowKit Go.Shelf
attribute [local go_sem] Oper.semAt_some

/-- A word that is no longer than a given one. -/
abbrev SubB (s : ByteArray) := {u : ByteArray // u.size ≤ s.size}
def encS (s : ByteArray) (u : SubB s) : Array Value := #[.string u.1]
theorem ext_le (s : ByteArray) (i k : Nat) (h : k ≤ s.size) : (s.extract i k).size ≤ s.size := by simp; omega
theorem facI_take (s : ByteArray) (i j : Nat) (h : i + j + 1 ≤ s.size) : (facI s i).take (j + 1) = (facI s i).take j ++ [s.extract i (i + j + 1)] := by
  have hj : j < (facI s i).length := by rw [facI_len]; omega
  rw [List.take_succ_eq_append_getElem hj]
  congr 2
  simp [facI]
theorem fac_bd {s : ByteArray} {i j : Nat} (h : i + j + 1 ≤ s.size) : (facU s i ++ (facI s i).take j).length < s.size * s.size := by
  rw [List.length_append, List.length_take, facI_len]
  have h1 := facU_len s i
  have h2 : (i + 1) * s.size ≤ s.size * s.size := Nat.mul_le_mul_right _ (by omega)
  rw [Nat.add_mul] at h2
  omega

set_option maxHeartbeats 1000000 in
theorem factors_in (F : Fence) (n : Nat) (hf : F.fn 34) (hro : F.round = none) (s : ByteArray) (w : World) :
    CallsIn F n Tryz.prog 34 #[.string s] w fun e w' => e = .returned (.func (.func 68) #[] #[.pointer (some ⟨w.heap.size, 0, none⟩)]) ∧ w' = w.alloc (.cells #[.string s] 9) := by
  refine callsIn_of_wp Tryz.func34 rfl hf ?_ hro
  simp only [Tryz.ntmps34, List.size_toArray, List.length_cons, List.length_nil, Nat.reduceAdd, Nat.reduceSub, Array.replicate_succ, Array.replicate_zero, List.push_toArray, List.append_toArray, List.nil_append, List.cons_append]
  gi_wp2
  go_ret
  exact ⟨rfl, rfl⟩

set_option maxRecDepth 100000 in
set_option maxHeartbeats 1000000 in
theorem factors1_in (F : Fence) (n : Nat) (hf : F.fn 68) (hro : F.round = none) (hn : 1 ≤ n) (l a b Bs : Nat) (s : ByteArray) (hs2 : s.size ≤ 1000000) (J Jx : List (SubB s) → World → Prop)
    (hY : ∀ pre x W, J pre W → pre.length < s.size * s.size → YieldAt F (n - 1) Tryz.prog l (encS s x) W fun e W' =>
      (e = .returned (.bool true) ∧ J (pre ++ [x]) W' ∧ KX a b W W') ∨ (e = .returned (.bool false) ∧ Jx (pre ++ [x]) W'))
    (W : World) (hBs : Bs < b) (hBa : Bs ≠ a) (hs : Boxed W Bs 9 (.string s)) (h0 : J [] W) :
    CallsIn F n Tryz.prog 68 #[.func (.yield l) #[] #[], .pointer (some ⟨Bs, 0, none⟩)] W fun e W' => (∃ v, e = .returned v) ∧
      ((∃ ys : List (SubB s), ys.map (·.1) = facL s ∧ J ys W') ∨ (∃ pre : List (SubB s), True ∧ Jx pre W')) := by
  refine callsIn_of_wp Tryz.func68 rfl hf ?_ hro
  simp only [Tryz.ntmps68, List.size_toArray, List.length_cons, List.length_nil, Nat.reduceAdd, Nat.reduceSub, Array.replicate_succ, Array.replicate_zero, List.push_toArray, List.append_toArray, List.nil_append, List.cons_append]
  have f0 := hs.cell
  gi_wp2
  clear f0
  gi_loopw [7] (fun i wr => ∃ (k : Nat) (pre : List (SubB s)), k ≤ s.size ∧ i = .int .i64 k ∧ Hid (pre.map (·.1) = facU s k) ∧ J pre wr ∧ Boxed wr Bs 9 (.string s)) (fun i _ => s.size - (intOf i).toNat)
  case atStart => exact ⟨0, [], Nat.zero_le _, rfl, rfl, h0, hs⟩
  case round =>
    obtain ⟨i, pre, hk, rfl, hp, hJs, hnx⟩ := hrel
    by_cases hlt : i < s.size
    · have hltI : (i : Int) < (s.size : Int) := by omega
      have HU := hidI (facU_succ s i)
      have hw0 : IntKind.i64.wrap ((i : Int) + 1) = (i : Int) + 1 := by rw [IntKind.wrap_i64]; omega
      gi_wp2
      gi_loopw [4] (fun kv wr => ∃ (j : Nat) (pre : List (SubB s)), i + j ≤ s.size ∧ kv = .int .i64 ((i : Int) + 1 + j) ∧ Hid (pre.map (·.1) = facU s i ++ (facI s i).take j) ∧ J pre wr ∧ Boxed wr Bs 9 (.string s)) (fun kv _ => s.size + 1 - (intOf kv).toNat)
      case atStart => exact ⟨0, pre, by omega, by simp, by unfold Hid; rw [hp.out]; simp, hJs, hnx⟩
      case round =>
        obtain ⟨j, pre2, hj, rfl, hp2, hJ2, hnx2⟩ := hrel
        have f0 := hnx2.cell
        by_cases hlt2 : i + j + 1 ≤ s.size
        · have hI2 : (i : Int) + 1 + (j : Int) ≤ (s.size : Int) := by omega
          have hI3 : (i : Int) ≤ (i : Int) + 1 + (j : Int) := by omega
          have hI4 : ((i : Int) + 1 + (j : Int)).toNat = i + j + 1 := by omega
          have HN := hidI (facI_take s i j hlt2)
          have HY := hidI (hY pre2 ⟨s.extract i (i + j + 1), ext_le s _ _ hlt2⟩ _ hJ2 (by rw [show pre2.length = (pre2.map (·.1)).length by simp, hp2.out]; exact fac_bd hlt2))
          obtain ⟨fn, tmps, assign, body, hy, hR⟩ := HY.out
          unfold encS at hy
          simp only at hy
          gi_wp2
          refine hR.mono ?_
          rintro e W3 (⟨rfl, hJ3, hk3⟩ | ⟨rfl, hJx3⟩)
          · gi_wp2
            go_roundw
            case rel => exact ⟨j + 1, _, by omega, by go_num, by unfold Hid; rw [HN.out, ← List.append_assoc, ← hp2.out, List.map_append]; rfl, hJ3, hk3.boxed hBs hBa hnx2⟩
            case measure => simp [intOf]; omega
          · gi_wp2
            refine bodyPost_ret (results_none rfl _ _ _) rfl ?_
            exact ⟨⟨_, rfl⟩, .inr ⟨_, trivial, hJx3⟩⟩
        · have hI2 : ¬ (i : Int) + 1 + (j : Int) ≤ (s.size : Int) := by omega
          have HF : Hid (pre2.map (·.1) = facU s (i + 1)) := by
            rw [Hid, hp2.out, HU.out, List.take_of_length_le (by rw [facI_len]; omega)]
          gi_wp2
          go_roundw
          case rel => exact ⟨i + 1, pre2, by omega, by go_num, HF, hJ2, hnx2⟩
          case measure => simp [intOf]; omega
    · obtain rfl : i = s.size := by omega
      have hltI : ¬ (s.size : Int) < (s.size : Int) := by omega
      gi_wp2
      go_end0
      first
        | exact ⟨⟨_, rfl⟩, .inl ⟨_, hp.out, hJs⟩⟩
        | exact ⟨⟨_, rfl⟩, .inl ⟨_, hp.out, hJs⟩⟩

/-- The sequence, as the law of the loop takes it. -/
theorem factors_stops (F : Fence) (n : Nat) (hf : F.fn 68) (hro : F.round = none) (hn : 1 ≤ n) (a b Bs : Nat) (s : ByteArray) (hs2 : s.size ≤ 1000000) (w : World) (hBs : Bs < b) (hBa : Bs ≠ a) (hs : Boxed w Bs 9 (.string s)) :
    SeqStopsK F n Tryz.prog 68 #[.pointer (some ⟨Bs, 0, none⟩)] (encS s) (KX a b) (fun ys => ys.map (·.1) = facL s) (fun _ => True) (s.size * s.size) w := fun l J Jx W hW _ _ hY h0 =>
  factors1_in F n hf hro hn l a b Bs s hs2 J Jx hY W hBs hBa ((KH.of_below hW hs.lt).boxed hs) h0
end Go.Proofs.YtaclgmhinljkbaaGreatDoor
namespace Go.Proofs.YtaclgmhinljkbaaGreatDoor
open Go.RowKit Go.ChangeMaps Go.MapKept Go.WideShapes Go.Maps

/-- The keys of a kind, as they lie in memory. -/
structure KeyBy {α : Type} (P : Program) (k : TypeId) (kv : α → Value) (ok : α → Prop) : Prop where
  law : Keyed P k
  reads : ∀ a, ok a → ∃ l, keyOf P k (kv a) = some l
  inj : ∀ a b, ok a → ok b → kv a = kv b → a = b

/-- Block b is a map that answers as f does. -/
def Mp {α β : Type} (kv : α → Value) (ok : α → Prop) (vv : β → Value) (w : World) (b : Nat) (f : α → Option β) : Prop :=
  ∃ es clock, w.heap[b]? = some (.map es clock) ∧ es.toList.Pairwise (fun x y => x.key ≠ y.key) ∧
    (∀ e ∈ es.toList, ∃ a x, e.key = kv a ∧ ok a ∧ e.val = vv x ∧ f a = some x) ∧ (∀ a x, f a = some x → ∃ e ∈ es.toList, e.key = kv a)

section
variable {α β : Type} {kv : α → Value} {ok : α → Prop} {vv : β → Value} {w : World} {b : Nat} {f : α → Option β} {P : Program} {k : TypeId}

theorem Mp.lt (h : Mp kv ok vv w b f) : b < w.heap.size := by
  obtain ⟨es, clock, hb, _⟩ := h
  exact (Array.getElem?_eq_some_iff.1 hb).1
theorem Mp.same {w' : World} (h : Mp kv ok vv w b f) (hb : w'.heap[b]? = w.heap[b]?) : Mp kv ok vv w' b f := by
  obtain ⟨es, clock, hb', r⟩ := h
  exact ⟨es, clock, hb.trans hb', r⟩
theorem Mp.alloc (h : Mp kv ok vv w b f) (o : Obj) : Mp kv ok vv (w.alloc o) b f := h.same (Below.heap_alloc w o b h.lt)
theorem Mp.drewN (h : Mp kv ok vv w b f) (n : Nat) : Mp kv ok vv (w.drewN n) b f := h
theorem Mp.drew (h : Mp kv ok vv w b f) : Mp kv ok vv w.drew b f := h
theorem Mp.below {w' : World} {B : Nat} (h : Mp kv ok vv w b f) (hB : Below B w w') (hb : b < B) : Mp kv ok vv w' b f := h.same (hB.block b hb)
theorem Mp.kept {w' : World} {row : Option Nat} (h : Mp kv ok vv w b f) (hg : w.grownBy w' row) (hne : some b ≠ row) : Mp kv ok vv w' b f :=
  h.same (hg.block b h.lt hne)
theorem Mp.setCell (h : Mp kv ok vv w b f) {a : Addr} (ha : b ≠ a.block) (u : Value) : Mp kv ok vv (w.setCell a u) b f := h.same (Below.heap_setCell _ _ _ _ ha)
theorem Mp.made (w : World) : Mp kv ok vv (w.alloc (.map #[] 0)) w.heap.size (fun _ => none) :=
  ⟨#[], 0, heap_alloc_new w _, by simp, by simp, by simp⟩
theorem Mp.congr {g : α → Option β} (h : Mp kv ok vv w b f) (e : ∀ a, f a = g a) : Mp kv ok vv w b g := by
  have : f = g := funext e
  exact this ▸ h

theorem Mp.look {t e : TypeId} (h : Mp kv ok vv w b f) (K : KeyBy P k kv ok) (ht : P.underlying t = some (.map k e)) {z : Value} (hz : (zeroValue e).run P w = .ok z w) (a : α) (ha : ok a) (c : Bool) :
    (Instr.lookup t (.map (some b)) (kv a) c).run P w = .ok (match f a with | some x => if c then .tuple #[vv x, .bool true] else vv x | none => if c then .tuple #[z, .bool false] else z) w := by
  obtain ⟨es, clock, hb, hd, hr, hc⟩ := h
  obtain ⟨kl, hkey⟩ := K.reads a ha
  have hkeys : ∀ e ∈ es.toList, ∃ l, keyOf P k e.key = some l := fun e he => by
    obtain ⟨a', x, h1, h2, _⟩ := hr e he
    rw [h1]; exact K.reads a' h2
  rcases K.law.find w hkey es.toList hkeys with ⟨h1, h2⟩ | ⟨j, e0, h1, h2, h3⟩
  · have hf : f a = none := by
      cases hfa : f a with
      | none => rfl
      | some x => obtain ⟨e, he, hk⟩ := hc a x hfa; exact absurd hk (h2 e he)
    rw [hf]
    simp [Instr.lookup, run_underlying ht, MapKept.run_getObj_map hb, K.law.check w _ hkey, h1, hz, Result.andThen]
  · obtain ⟨a', x, g1, g2, g3, g4⟩ := hr e0 (List.mem_of_getElem? h2)
    obtain rfl := K.inj a' a g2 ha (g1.symm.trans h3)
    rw [g4]
    simp [Instr.lookup, run_underlying ht, MapKept.run_getObj_map hb, K.law.check w _ hkey, h1, g3, Result.andThen]

/-- One key more, or another value at it. -/
def mset [DecidableEq α] (f : α → Option β) (a : α) (x : β) : α → Option β := fun a' => if a' = a then some x else f a'
theorem mset_at [DecidableEq α] (f : α → Option β) (a : α) (x : β) : mset f a x a = some x := by simp [mset]
theorem mset_ne [DecidableEq α] (f : α → Option β) (a a' : α) (x : β) (h : a' ≠ a) : mset f a x a' = f a' := by simp [mset, h]

theorem Mp.store [DecidableEq α] {t e : TypeId} (h : Mp kv ok vv w b f) (K : KeyBy P k kv ok) (ht : P.underlying t = some (.map k e)) (a : α) (ha : ok a) (x : β) :
    ∃ w', (Instr.mapUpdate t (.map (some b)) (kv a) (vv x)).run P w = .ok () w' ∧ Mp kv ok vv w' b (mset f a x) ∧ w.mapTurned w' b := by
  obtain ⟨es, clock, hb, hd, hr, hc⟩ := h
  obtain ⟨kl, hkey⟩ := K.reads a ha
  have hkeys : ∀ e ∈ es.toList, ∃ l, keyOf P k e.key = some l := fun e he => by
    obtain ⟨a', x, h1, h2, _⟩ := hr e he
    rw [h1]; exact K.reads a' h2
  rcases K.law.find w hkey es.toList hkeys with ⟨h1, h2⟩ | ⟨j, e0, h1, h2, h3⟩
  · refine ⟨_, ?_, ⟨es.push ⟨kv a, vv x, clock⟩, clock + 1, heap_setBlock_same hb _, ?_, ?_, ?_⟩, ⟨es, clock, _, _, hb, rfl⟩⟩
    · simp [Instr.mapUpdate, run_underlying ht, MapKept.run_getObj_map hb, K.law.check w false hkey, h1, MapKept.run_setObj_map _ hb, Result.andThen, setBlock]
    · rw [Array.toList_push, List.pairwise_append]
      refine ⟨hd, by simp, fun y hy z hz => ?_⟩
      simp only [List.mem_singleton] at hz; subst hz
      exact h2 y hy
    · intro y hy
      rw [Array.toList_push, List.mem_append, List.mem_singleton] at hy
      rcases hy with hy | rfl
      · obtain ⟨a', x', g1, g2, g3, g4⟩ := hr y hy
        refine ⟨a', x', g1, g2, g3, ?_⟩
        rw [mset_ne _ _ _ _ (fun e => h2 y hy (by rw [g1, e]))]; exact g4
      · exact ⟨a, x, rfl, ha, rfl, mset_at _ _ _⟩
    · intro a' x' hfa
      by_cases e : a' = a
      · subst e; exact ⟨⟨kv a', vv x, clock⟩, by simp, rfl⟩
      · rw [mset_ne _ _ _ _ e] at hfa
        obtain ⟨y, hy, hk⟩ := hc a' x' hfa
        exact ⟨y, by simp [Array.toList_push]; exact .inl (by simpa using hy), hk⟩
  · have hj : es[j]? = some e0 := by simpa using h2
    have hjl : j < es.toList.length := (List.getElem?_eq_some_iff.1 h2).1
    have hlist : (es.modify j (fun e' => { e' with key := kv a, val := vv x })).toList = es.toList.set j { e0 with key := kv a, val := vv x } := by rw [Array.toList_modify, modify_eq_set _ _ _ _ h2]
    have hkm : (es.toList.set j { e0 with key := kv a, val := vv x }).map MapEntry.key = es.toList.map MapEntry.key := by
      rw [List.map_set]
      apply List.ext_getElem?
      intro i
      rw [List.getElem?_set]
      split
      · rename_i hi; subst hi
        rw [if_pos (by simpa using hjl), List.getElem?_map, h2]
        simp [h3]
      · rfl
    have hd' : (es.toList.set j { e0 with key := kv a, val := vv x }).Pairwise (fun x y => x.key ≠ y.key) := by
      have hn : (es.toList.map MapEntry.key).Pairwise (· ≠ ·) := List.pairwise_map.2 hd
      rw [← hkm] at hn
      exact List.pairwise_map.1 hn
    refine ⟨_, ?_, ⟨es.modify j (fun e' => { e' with key := kv a, val := vv x }), clock, heap_setBlock_same hb _, ?_, ?_, ?_⟩, ⟨es, clock, _, _, hb, rfl⟩⟩
    · have hst := K.law.stays w hkey
      simp [Instr.mapUpdate, run_underlying ht, MapKept.run_getObj_map hb, K.law.check w false hkey, h1, hj, h3, hst, MapKept.run_setObj_map _ hb, Result.andThen, setBlock]
    · rw [hlist]; exact hd'
    · intro y hy
      rw [hlist] at hy
      obtain ⟨i, hi, hyi⟩ := List.mem_iff_getElem.1 hy
      rw [List.getElem_set] at hyi
      split at hyi
      · subst hyi; exact ⟨a, x, rfl, ha, rfl, mset_at _ _ _⟩
      · rename_i hne
        have hi' : i < es.toList.length := by simpa using hi
        have hym : y ∈ es.toList := by rw [← hyi]; exact List.getElem_mem _
        obtain ⟨a', x', g1, g2, g3, g4⟩ := hr y hym
        refine ⟨a', x', g1, g2, g3, ?_⟩
        rw [mset_ne]
        · exact g4
        · rintro rfl
          have e1 : es.toList[i].key = es.toList[j].key := by
            rw [hyi, g1]
            have : es.toList[j] = e0 := by have := List.getElem?_eq_getElem hjl; rw [h2] at this; exact (Option.some.inj this).symm
            rw [this, h3]
          rcases Nat.lt_or_gt_of_ne (fun e => hne e) with hlt | hlt
          · exact (List.pairwise_iff_getElem.1 hd j i hjl hi' hlt) e1.symm
          · exact (List.pairwise_iff_getElem.1 hd i j hi' hjl hlt) e1
    · intro a' x' hfa
      rw [hlist]
      by_cases e : a' = a
      · subst e
        exact ⟨_, List.mem_of_getElem? (by rw [List.getElem?_set_self hjl]), rfl⟩
      · rw [mset_ne _ _ _ _ e] at hfa
        obtain ⟨y, hy, hk⟩ := hc a' x' hfa
        have : y.key ∈ (es.toList.set j { e0 with key := kv a, val := vv x }).map MapEntry.key := by rw [hkm]; exact List.mem_map_of_mem hy
        obtain ⟨y', hy', e'⟩ := List.mem_map.1 this
        exact ⟨y', hy', e'.trans hk⟩

/-! ### at the operation, for the walk -/
theorem wpList_lookup_mp {ops : Array Oper} {rest : List Oper} {o : Oper} {a : Act} {Q : Exit → Act → World → Prop}
    (hg : o.guard = none) (m x : Operand) (t : TypeId) (c : Bool) (hop : o.op = Op.lookup t m x c) (e : TypeId) (K : KeyBy P k kv ok) (ht : P.underlying t = some (.map k e)) (z : Value) (hz : (zeroValue e).run P w = .ok z w)
    (b : Nat) (f : α → Option β) (hm : a.eval m = .map (some b)) (hown : Mp kv ok vv w b f) (key : α) (hx : a.eval x = kv key) (hkey : ok key) (r : Value)
    (hr : (match f key with | some x => if c then .tuple #[vv x, .bool true] else vv x | none => if c then .tuple #[z, .bool false] else z) = r)
    (hK : wpList P ops Q rest (a.put o.dst r) w) : wpList P ops Q (o :: rest) a w := by
  refine wpList_plain hg fun K' hK' => ?_
  have hrun := hown.look K ht hz key hkey c
  rw [hr] at hrun
  unfold Oper.wp
  simp [execOp, hop, hm, hx, hrun, Result.andThen]
  exact hK' _ _ hK
theorem wpList_update_mp [DecidableEq α] {ops : Array Oper} {rest : List Oper} {o : Oper} {a : Act} {Q : Exit → Act → World → Prop}
    (hg : o.guard = none) (m x v : Operand) (t : TypeId) (hop : o.op = Op.mapUpdate t m x v) (e : TypeId) (K : KeyBy P k kv ok) (ht : P.underlying t = some (.map k e))
    (b : Nat) (f : α → Option β) (hm : a.eval m = .map (some b)) (hown : Mp kv ok vv w b f) (key : α) (hx : a.eval x = kv key) (hkey : ok key) (val : β) (hv : a.eval v = vv val)
    (hK : ∀ w', Mp kv ok vv w' b (mset f key val) → w.mapTurned w' b → wpList P ops Q rest (a.put o.dst undef) w') : wpList P ops Q (o :: rest) a w := by
  refine wpList_plain hg fun K' hK' => ?_
  obtain ⟨w', hrun, r1, r2⟩ := hown.store K ht key hkey val
  unfold Oper.wp
  simp [execOp, hop, hm, hx, hv, hrun, Result.andThen]
  exact hK' _ _ (hK w' r1 r2)
variable {F : Fence} {nF : Nat}
theorem wpListIn_lookup_mp {ops : Array Oper} {rest : List Oper} {o : Oper} {a : Act} {Q : Exit → Act → World → Prop}
    (hg : o.guard = none) (m x : Operand) (t : TypeId) (c : Bool) (hop : o.op = Op.lookup t m x c) (e : TypeId) (K : KeyBy P k kv ok) (ht : P.underlying t = some (.map k e)) (z : Value) (hz : (zeroValue e).run P w = .ok z w)
    (b : Nat) (f : α → Option β) (hm : a.eval m = .map (some b)) (hown : Mp kv ok vv w b f) (key : α) (hx : a.eval x = kv key) (hkey : ok key) (r : Value)
    (hr : (match f key with | some x => if c then .tuple #[vv x, .bool true] else vv x | none => if c then .tuple #[z, .bool false] else z) = r)
    (hK : wpListIn F nF P ops Q rest (a.put o.dst r) w) : wpListIn F nF P ops Q (o :: rest) a w := by
  refine wpListIn_plain hg fun K' hK' => ?_
  have hrun := hown.look K ht hz key hkey c
  rw [hr] at hrun
  unfold Oper.wpIn
  refine ⟨by simp [Oper.about, hop], ?_⟩
  rw [Oper.semAt_plain F _ _ (by rw [hop]; intro c hc'; cases hc')]
  simp [execOp, hop, hm, hx, hrun, Result.andThen]
  exact hK' _ _ hK
theorem wpListIn_update_mp [DecidableEq α] {ops : Array Oper} {rest : List Oper} {o : Oper} {a : Act} {Q : Exit → Act → World → Prop}
    (hg : o.guard = none) (m x v : Operand) (t : TypeId) (hop : o.op = Op.mapUpdate t m x v) (e : TypeId) (K : KeyBy P k kv ok) (ht : P.underlying t = some (.map k e))
    (b : Nat) (f : α → Option β) (hm : a.eval m = .map (some b)) (hown : Mp kv ok vv w b f) (key : α) (hx : a.eval x = kv key) (hkey : ok key) (val : β) (hv : a.eval v = vv val)
    (hK : ∀ w', Mp kv ok vv w' b (mset f key val) → w.mapTurned w' b → wpListIn F nF P ops Q rest (a.put o.dst undef) w') : wpListIn F nF P ops Q (o :: rest) a w := by
  refine wpListIn_plain hg fun K' hK' => ?_
  obtain ⟨w', hrun, r1, r2⟩ := hown.store K ht key hkey val
  unfold Oper.wpIn
  refine ⟨by simp [Oper.about, hop], ?_⟩
  rw [Oper.semAt_plain F _ _ (by rw [hop]; intro c hc'; cases hc')]
  simp [execOp, hop, hm, hx, hv, hrun, Result.andThen]
  exact hK' _ _ (hK w' r1 r2)
end
end Go.Proofs.YtaclgmhinljkbaaGreatDoor
namespace Go.Proofs.YtaclgmhinljkbaaGreatDoor
open Go.RowKit Go.Sort Go.Shelf Go.ChangeMaps Go.MapKept Go.Maps

/-! ### Sorting -/
theorem heap_srtB {w : World} {g n : Nat} {os : Array Obj} {cur : Array Value} {e : TypeId} {fr : Nat × Nat} (d : Array ByteArray) (hb : w.heap[g]? = some (.cells cur e fr)) :
    (grow (putRow Value.string (Sort.ahead w n) g 0 d) os).heap[g]? = some (.cells (putCells Value.string 0 d cur) e fr) := by
  have hg : g < w.heap.size := (Array.getElem?_eq_some_iff.1 hb).1
  rw [heap_grow_old _ _ (by simpa using hg)]
  simp [putRow, mapBlock, Sort.ahead, Array.getElem?_modify, hb, onCells]
theorem grown_srtB {w : World} {g n : Nat} {os : Array Obj} (d : Array ByteArray) : w.grownBy (grow (putRow Value.string (Sort.ahead w n) g 0 d) os) (some g) := by
  refine ⟨rfl, rfl, rfl, by simp, fun k hk hne => ?_⟩
  rw [heap_grow_old _ _ (by simpa using hk)]
  have : g ≠ k := fun e => hne (by rw [e])
  simp [putRow, mapBlock, Sort.ahead, Array.getElem?_modify, this]
theorem take_srtB (cur : Array Value) (ts : List ByteArray) (h : ts.length ≤ cur.size) : (putCells Value.string 0 ts.toArray cur).toList.take ts.length = ts.map Value.string := by
  apply List.ext_getElem?
  intro j
  by_cases hj : j < ts.length
  · rw [List.getElem?_take_of_lt hj, Array.getElem?_toList]
    simp [putCells, hj, show j < cur.size by omega]
  · rw [List.getElem?_take_eq_none (by omega), List.getElem?_eq_none (by simp; omega)]
theorem oneS : OneCell Value.string := by intro x; rfl
/-- A slice of words of the call's own is sorted by 'order'. -/
theorem sortB_own (l : List ByteArray) (B n : Nat) (v : Value) (w : World) (h : w.ownsRow B 9 1 v n (l.map Value.string)) (hn : n ≤ 100000) :
    Calls Tryz.prog 17 #[v, .func (.func 12) #[] #[]] w fun e w' => e = .returned (.tuple #[]) ∧ w'.ownsRow B 9 1 v n ((l.mergeSort (fun x y => !(ltOf ordB) y x)).map Value.string) ∧ w.grownBy w' v.ownBlock := by
  have hl : l.length = n := by have := h.1; simpa using this
  subst hl
  rcases h.2 with ⟨rfl, h0⟩ | ⟨g, cap, cur, rfl, hg, hh, hc, hcm, hs, ht⟩
  · have hl0 : l = [] := by cases l with
      | nil => rfl
      | cons a l => simp at h0
    subst hl0
    refine (Tryz.slices_SortFunc_none (α := ByteArray) none 0 _ w).mono ?_
    rintro e w' ⟨rfl, rfl⟩
    exact ⟨rfl, by simpa using h, World.grownBy.refl _ _⟩
  · have eg : ∀ args w, (callFunc 12 args).run Tryz.prog w = .ok (.enter 12 args) w := enters_of Tryz.func12 (by kernel_rfl) rfl
    have hH : Holds Value.string w g 0 l.toArray := by
      intro j hj
      have hj' : j < l.length := by simpa using hj
      refine ⟨?_, by simp [World.frozen?, hh]⟩
      have h1 : (cur.toList.take l.length)[j]? = (l.map Value.string)[j]? := by rw [show l.length = l.length * 1 by omega, ht]
      rw [List.getElem?_take_of_lt hj'] at h1
      simp only [World.cell?, hh, Nat.zero_add]
      rw [← Array.getElem?_toList, h1]
      simp [hj']
    have hcmp : CmpLays1 Tryz.prog 12 #[] Value.string ordB g 0 l.toArray.size w := fun m os dk hs' x y => by
      refine (fOrder_any x y _).mono ?_
      rintro e w' ⟨rfl, rfl⟩
      exact ⟨rfl, Up.alloc _ _⟩
    have hcon := Tryz.slices_SortFunc_total Value.string oneS ordB swoB 12 #[] g 0 cap l.toArray w eg hcmp hH (Array.getElem?_eq_some_iff.1 hh).1 (by simp; omega) totB
    have hcon' : Calls Tryz.prog 17 #[.slice (some ⟨g, 0, none⟩) l.toArray.size cap, .func (.func 12) #[] #[]] w _ := hcon
    rw [show l.toArray.size = l.length by simp] at hcon'
    refine hcon'.mono ?_
    rintro e' w' ⟨rfl, q, os, rfl⟩
    have hml : (l.mergeSort (fun x y => !(ltOf ordB) y x)).length = l.length := List.length_mergeSort l
    exact ⟨rfl, ⟨by simp [hml], .inr ⟨g, cap, _, rfl, hg, heap_srtB _ hh, hc, hcm, by simp [putCells, hs], by rw [Nat.mul_one, ← hml]; exact take_srtB cur _ (by omega)⟩⟩, grown_srtB _⟩

/-! ### Maps -/
theorem keyS : KeyBy Tryz.prog 9 Value.string (fun s => s.size ≤ maxLen) where
  law := string_keyed Tryz.underlying9
  reads := fun a ha => ⟨.string a.data.toList, by simp [keyOf, Tryz.underlying9, mapKey, ha]⟩
  inj := fun a b _ _ h => by cases h; rfl
/-- The entries' numbers. -/
def Bn (w : World) (b : Nat) : Prop := ∃ es clock, w.heap[b]? = some (.map es clock) ∧ (es.toList.map (·.born)).Nodup ∧ ∀ e ∈ es.toList, e.born < clock
theorem Bn.same {w w' : World} {b : Nat} (h : Bn w b) (hb : w'.heap[b]? = w.heap[b]?) : Bn w' b := by
  obtain ⟨es, clock, h1, h2⟩ := h
  exact ⟨es, clock, hb.trans h1, h2⟩
theorem Bn.made (w : World) : Bn (w.alloc (.map #[] 0)) w.heap.size := ⟨#[], 0, heap_alloc_new w _, by simp, by simp⟩
def vT (_ : Unit) : Value := .bool true
def MpT (w : World) (b : Nat) (f : ByteArray → Option Unit) : Prop := Mp Value.string (fun s => s.size ≤ maxLen) vT w b f ∧ Bn w b
theorem MpT.same {w w' : World} {b : Nat} {f : ByteArray → Option Unit} (h : MpT w b f) (hb : w'.heap[b]? = w.heap[b]?) : MpT w' b f := ⟨h.1.same hb, h.2.same hb⟩
theorem MpT.lt {w : World} {b : Nat} {f : ByteArray → Option Unit} (h : MpT w b f) : b < w.heap.size := h.1.lt
theorem MpT.made (w : World) : MpT (w.alloc (.map #[] 0)) w.heap.size (fun _ => none) := ⟨Mp.made w, Bn.made w⟩
def msetB (f : ByteArray → Option Unit) (a : ByteArray) : ByteArray → Option Unit := fun a' => if a' = a then some () else f a'
theorem MpT.store {w : World} {b : Nat} {f : ByteArray → Option Unit} (h : MpT w b f) (a : ByteArray) (ha : a.size ≤ maxLen) :
    ∃ w', (Instr.mapUpdate 57 (.map (some b)) (.string a) (.bool true)).run Tryz.prog w = .ok () w' ∧ MpT w' b (msetB f a) ∧ w.mapTurned w' b := by
  classical
  obtain ⟨w', hrun, h2, h3⟩ := Mp.store (t := 57) h.1 keyS Tryz.underlying57 a ha ()
  refine ⟨w', hrun, ⟨?_, ?_⟩, h3⟩
  · refine Mp.congr h2 (fun a' => ?_)
    unfold mset msetB
    by_cases e : a' = a
    · simp [e]
    · simp [e]
  · obtain ⟨es, clock, hb, hd, hr, hc⟩ := h.1
    obtain ⟨es', clock', hb', hbn, hbl⟩ := h.2
    rw [hb] at hb'; cases hb'
    obtain ⟨kl, hkey⟩ := keyS.reads a ha
    have hkeys : ∀ e ∈ es.toList, ∃ l, keyOf Tryz.prog 9 e.key = some l := fun e he => by
      obtain ⟨a', x, h1, h2, _⟩ := hr e he
      rw [h1]; exact keyS.reads a' h2
    have hrun' : (Instr.mapUpdate 57 (.map (some b)) (.string a) (vT ())).run Tryz.prog w = .ok () w' := hrun
    rcases keyS.law.find w hkey es.toList hkeys with ⟨h1, _⟩ | ⟨j, e0, h1, h2', h3'⟩
    · have hr2 : (Instr.mapUpdate 57 (.map (some b)) (.string a) (vT ())).run Tryz.prog w = .ok () (setBlock w b (.map (es.push ⟨.string a, vT (), clock⟩) (clock + 1))) := by
        simp [Instr.mapUpdate, run_underlying Tryz.underlying57, MapKept.run_getObj_map hb, keyS.law.check w false hkey, h1, MapKept.run_setObj_map _ hb, Result.andThen, setBlock]
      rw [hrun'] at hr2
      cases hr2
      refine ⟨_, _, heap_setBlock_same hb _, ?_, ?_⟩
      · rw [Array.toList_push, List.map_append, List.nodup_append]
        refine ⟨hbn, by simp, ?_⟩
        intro x hx y hy
        simp at hy; subst hy
        obtain ⟨e, he, rfl⟩ := List.mem_map.1 hx
        have := hbl e he; omega
      · intro e he
        rw [Array.toList_push, List.mem_append, List.mem_singleton] at he
        rcases he with he | rfl
        · have := hbl e he; omega
        · show clock < clock + 1
          omega
    · have hj : es[j]? = some e0 := by simpa using h2'
      have hst := keyS.law.stays w hkey
      have hr2 : (Instr.mapUpdate 57 (.map (some b)) (.string a) (vT ())).run Tryz.prog w = .ok () (setBlock w b (.map (es.modify j (fun e' => { e' with key := .string a, val := vT () })) clock)) := by
        simp [Instr.mapUpdate, run_underlying Tryz.underlying57, MapKept.run_getObj_map hb, keyS.law.check w false hkey, h1, hj, h3', hst, MapKept.run_setObj_map _ hb, Result.andThen, setBlock]
      rw [hrun'] at hr2
      cases hr2
      have hlist : (es.modify j (fun e' => { e' with key := .string a, val := vT () })).toList = es.toList.set j { e0 with key := .string a, val := vT () } := by rw [Array.toList_modify, modify_eq_set _ _ _ _ h2']
      have hbm : (es.toList.set j { e0 with key := .string a, val := vT () }).map (·.born) = es.toList.map (·.born) := by
        rw [List.map_set]
        apply List.ext_getElem?
        intro i
        rw [List.getElem?_set]
        split
        · rename_i hi; subst hi
          have hjl : j < es.toList.length := (List.getElem?_eq_some_iff.1 h2').1
          rw [if_pos (by simpa using hjl), List.getElem?_map, h2']
          rfl
        · rfl
      refine ⟨_, _, heap_setBlock_same hb _, by rw [hlist, hbm]; exact hbn, ?_⟩
      intro e he
      have : e.born ∈ (es.toList.set j { e0 with key := .string a, val := vT () }).map (·.born) := by rw [← hlist]; exact List.mem_map_of_mem he
      rw [hbm] at this
      obtain ⟨e', he', hb'⟩ := List.mem_map.1 this
      rw [← hb']; exact hbl e' he'
end Go.Proofs.YtaclgmhinljkbaaGreatDoor
