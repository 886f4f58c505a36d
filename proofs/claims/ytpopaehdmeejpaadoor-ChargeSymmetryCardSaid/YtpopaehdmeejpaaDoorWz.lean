/-
  Walks: the statement ChargeSymmetry (door seat).
-/
import Derived.Test.YtpopaehdmeejpaaDoorWn
import Derived.Test.YtpopaehdmeejpaaDoorWs
import Derived.Test.YtpopaehdmeejpaaDoorWr
import Derived.Test.YtpopaehdmeejpaaDoorWy
namespace Go.Proofs.YtpopaehdmeejpaaDoor
open Go.RowKit

theorem bin_t (s : ByteArray) (n : Int) (h : bin s n = true) : s.size ≤ n ∧ wchk 2 s.data.toList = 0 := by
  simp only [bin, Bool.and_eq_true, decide_eq_true_eq, beq_iff_eq] at h; exact h
theorem turn1_nat (x : Nat) (h : x ≤ 1114111) : 0 ≤ turn1 x ∧ turn1 x ≤ 2147483647 := by
  have h1 : (x ^^^ 1 : Nat) < 2 ^ 21 := Nat.xor_lt_two_pow (by omega) (by omega)
  have h2 : (BitVec.ofInt 32 (x : Int) ^^^ BitVec.ofInt 32 1).toNat = x ^^^ 1 := by
    rw [BitVec.toNat_xor]
    congr 1
    rw [BitVec.toNat_ofInt]
    omega
  have h3 : turn1 x = IntKind.i32.wrap (((x ^^^ 1 : Nat)) : Int) := by
    unfold turn1 bits
    exact congrArg (fun n : Nat => IntKind.i32.wrap (n : Int)) h2
  rw [h3, IntKind.wrap_i32]
  omega
theorem enters1 : ∀ args w, (callFunc 8 args).run Tryd.prog w = .ok (.enter 8 args) w := enters_of Tryd.func8 (by kernel_rfl) rfl
theorem smap_any (s : ByteArray) (w : World) (hs : s.size ≤ 60) (hT : Lib.Utf8Tabs 0 1 w) (hb : okw 2 s.data.toList = true) :
    Calls Tryd.prog 7 #[.func (.func 8) #[] #[], .string s] w fun e w' => e = .returned (.string ⟨(s.data.toList.map (· ^^^ 1)).toArray⟩) ∧ Below w.heap.size w w' := by
  have h := Tryd.strings_Map_runes 8 #[] enters1 turn1 s w (by omega) (fun W x _ _ => symmetry1_any W x) turn1_nat hT
  rw [map_turn (f := turn1) (by decide) (by decide) hb] at h
  exact h

set_option maxRecDepth 100000 in
set_option maxHeartbeats 2000000 in
theorem lawSymmetry_any (m : Int) (s : ByteArray) (w : World) (hm0 : 0 ≤ m) (hm1 : m ≤ 255) (hs : s.size ≤ maxLen) (hT : Lib.Utf8Tabs 0 1 w) :
    Calls Tryd.prog 3 #[.int .u8 m, .string s] w fun e w' => e = .returned (.bool true) ∧ Below w.heap.size w w' := by
  have HTB := hidI hT
  clear hT
  cases hb : bin s 60
  · have HB := hidI hb
    clear hb
    go_enter Tryd.func3, Tryd.ntmps3
    go_wp2_with fail
    refine (binary_any s 60 _ hs).mono ?_
    rintro e w1 ⟨rfl, hD⟩
    rw [HB.out]
    go_wp2_with (go_at_call 5; refine (awake_any _).mono ?_; rintro e w' ⟨rfl, hB⟩)
    go_ret
    exact ⟨rfl, (hD.below _).trans (hB.mono (hD.below 0).size)⟩
  · have HB := hidI hb
    obtain ⟨hl, hok⟩ := bin_t s 60 hb
    have HK := hidI hok
    have HOK := hidI (wchk_bin hok).1
    obtain ⟨k, hk⟩ : ∃ k, k = 1 + m % 30 := ⟨_, rfl⟩
    have hk1 : 1 ≤ k := by omega
    have hk2 : k ≤ 30 := by omega
    have hv1 := vld_ok false 63 k s hk1 (by omega) hok
    have hv2 := vld_ok true 31 k s hk1 (by omega) hok
    have HR1 : Hid (∀ s' : ByteArray, s'.data.toList = s.data.toList.reverse → vld false 63 k s' = vld false 63 k s ∧ vld true 31 k s' = vld true 31 k s) := fun s' h => ⟨vld_rev _ _ _ hok h, vld_rev _ _ _ hok h⟩
    have HR2 : Hid (∀ s' : ByteArray, s'.data.toList = s.data.toList.map (· ^^^ 1) → vld false 63 k s' = vld false 63 k s ∧ vld true 31 k s' = vld true 31 k s) := fun s' h => ⟨vld_turn _ _ _ hok h, vld_turn _ _ _ hok h⟩
    rw [hv1, hv2] at HR1 HR2
    generalize decide (wid false s ≤ k) = A at *
    generalize decide (wid true s ≤ k) = B at *
    have HV1 := hidI hv1; have HV2 := hidI hv2
    clear hb hok hv1 hv2
    go_enter Tryd.func3, Tryd.ntmps3
    go_wp2_with fail
    refine (binary_any s 60 _ hs).mono ?_
    rintro e w1 ⟨rfl, hD⟩
    rw [HB.out]
    have x1 : Below w.heap.size w w1 := hD.below _
    clear hD
    go_wp2_with fail
    rw [← hk]
    clear hk
    refine (wreverse_any s w1 hs).mono ?_
    rintro e w2 ⟨s', rfl, hs', hB2⟩
    have x2 := x1.trans (hB2.mono x1.size)
    have hz' := size_rev hs'
    have HS' := hidI (HR1.out s' hs')
    have HZ' := hidI hz'
    clear hs' hB2 x1 hz' HR1
    go_wp2_with fail
    refine (smap_any s w2 (by omega) (Utf8Tabs_below HTB.out x2) HOK.out).mono ?_
    rintro e w3 ⟨rfl, hB3⟩
    have x3 := x2.trans (hB3.mono x2.size)
    obtain ⟨s2, hs2⟩ : ∃ s2 : ByteArray, s2 = ⟨(s.data.toList.map (· ^^^ 1)).toArray⟩ := ⟨_, rfl⟩
    rw [← hs2]
    have hd2 : s2.data.toList = s.data.toList.map (· ^^^ 1) := by rw [hs2]
    have HZ2 := hidI (size_turn hd2)
    have HS2 := hidI (HR2.out s2 hd2)
    clear hs2 hd2 hB3 x2 HR2
    go_wp2_with fail
    refine (valid_any k s w3 hs).mono ?_
    rw [HV1.out]
    rintro e w4 ⟨rfl, hB4⟩
    have x4 := x3.trans (hB4.mono x3.size)
    clear hB4 x3
    go_wp2_with fail
    refine (nullv_any k s w4 hs).mono ?_
    rw [HV2.out]
    rintro e w5 ⟨rfl, hB5⟩
    have x5 := x4.trans (hB5.mono x4.size)
    clear hB5 x4
    have hA6 : Below w.heap.size w (w5.alloc (.cells #[.string s', .string s2] 9)) := x5.alloc x5.size _
    have y6 : w5.heap.size < (w5.alloc (.cells #[.string s', .string s2] 9)).heap.size := by simp
    have c0 : (w5.alloc (.cells #[.string s', .string s2] 9)).cell? ⟨w5.heap.size, 0, none⟩ = some (.string s') := by unfold World.cell?; rw [heap_alloc_new]; rfl
    have c1 : (w5.alloc (.cells #[.string s', .string s2] 9)).cell? ⟨w5.heap.size, 1, none⟩ = some (.string s2) := by unfold World.cell?; rw [heap_alloc_new]; rfl
    go_wp2_with fail
    generalize w5.alloc (.cells #[.string s', .string s2] 9) = w6 at *
    generalize w5.heap.size = B6 at *
    go_loopw [46] (fun iv wr => ∃ j : Nat, j ≤ 2 ∧ iv = .int .i64 j ∧ Below w6.heap.size w6 wr) (fun iv _ => 2 - (intOf iv).toNat)
    case atStart => exact ⟨0, by omega, rfl, Below.refl _ _⟩
    case round =>
      obtain ⟨j, hj, rfl, hB⟩ := hrel
      rcases (by omega : j = 0 ∨ j = 1 ∨ j = 2) with rfl | rfl | rfl
      · skip
        have c := (hB.cell (p := ⟨B6, 0, none⟩) y6).trans c0
        go_wp2_with fail
        refine (valid_any k s' wr (by rw [HZ'.out]; exact hs)).mono ?_
        rw [HS'.out.1]
        rintro e w7 ⟨rfl, hB7⟩
        have x7 := hB.trans (hB7.mono hB.size)
        clear hB7 c
        go_wp2_with fail
        refine (nullv_any k s' w7 (by rw [HZ'.out]; exact hs)).mono ?_
        rw [HS'.out.2]
        rintro e w8 ⟨rfl, hB8⟩
        have x8 := x7.trans (hB8.mono x7.size)
        have nA : (A != A) = false := by simp
        have nB : (B != B) = false := by simp
        go_wp2
        go_roundw
        case rel => exact ⟨1, by omega, rfl, x8⟩
        case measure => simp [intOf]
      · skip
        have c := (hB.cell (p := ⟨B6, 1, none⟩) y6).trans c1
        go_wp2_with fail
        refine (valid_any k s2 wr (by rw [HZ2.out]; exact hs)).mono ?_
        rw [HS2.out.1]
        rintro e w7 ⟨rfl, hB7⟩
        have x7 := hB.trans (hB7.mono hB.size)
        clear hB7 c
        go_wp2_with fail
        refine (nullv_any k s2 w7 (by rw [HZ2.out]; exact hs)).mono ?_
        rw [HS2.out.2]
        rintro e w8 ⟨rfl, hB8⟩
        have x8 := x7.trans (hB8.mono x7.size)
        have nA : (A != A) = false := by simp
        have nB : (B != B) = false := by simp
        go_wp2
        go_roundw
        case rel => exact ⟨2, by omega, rfl, x8⟩
        case measure => simp [intOf]
      · go_wp2_with fail
        have x6 := hA6.trans (hB.mono hA6.size)
        refine (awake_any wr).mono ?_
        rintro e w7 ⟨rfl, hB7⟩
        go_wp2
        go_ret
        exact ⟨rfl, x6.trans (hB7.mono x6.size)⟩
end Go.Proofs.YtpopaehdmeejpaaDoor
