/-
  Walks: the reference's Balanced, the disparity of the program, small functions of the statements.
-/
import Derived.Test.YtccdocnaijdcnaaPlainB
import Derived.Test.YtccdocnaijdcnaaPlainP
import Derived.Test.YtccdocnaijdcnaaWe
namespace Go.Proofs.Ytccdocnaijdcnaa
open Go.RowKit

set_option maxRecDepth 100000 in
set_option maxHeartbeats 2000000 in
theorem rbalanced_any (n : Int) (w : World) :
    Calls Try.prog 19 #[.int .i64 n] w fun e w' => e = .returned (.tuple #[.int .i64 (blc n).1, .int .i64 (blc n).2]) ∧ Below w.heap.size w w' := by
  obtain ⟨i0, hi0, hz0, hz1, hz2⟩ := info_parts infoInt
  by_cases h1 : n < 0
  · have HP := hidI (blc_out n (.inl h1))
    go_enter Try.func19, Try.ntmps19
    go_wp2
    go_ret2
    exact ⟨ret_ii HP.out, Below.refl _ _⟩
  by_cases h2 : 30 < n
  · have HP := hidI (blc_out n (.inr h2))
    go_enter Try.func19, Try.ntmps19
    go_wp2
    go_ret2
    exact ⟨ret_ii HP.out, Below.refl _ _⟩
  obtain ⟨n, rfl⟩ : ∃ m : Nat, n = m := ⟨n.toNat, by omega⟩
  have hn : n < 31 := by omega
  have HE := hidI (tab_end n hn)
  clear h1 h2
  go_enter Try.func19, Try.ntmps19
  go_wp2_with (at_make; refine wpList_make_full _ rfl _ _ 57 rfl w.heap.size 3 i0 (.int .i64 0) 1 Try.underlying57 hi0 hz0 hz1 .i64 .i64 _ _ (2 * n + 1) rfl rfl (by omega) (by omega) (by rw [hz2]; omega) (by unfold maxLen; omega) (Nat.le_refl _) ?_; intro w1 hown hgrow; have hv := made_row hown; have hc := hv.cell n; rw [cint_getD _ _ (by simp; omega)] at hc; have hf := hv.frozen n)
  have hv0 : VRow (w1.setCell ⟨w.heap.size, n, none⟩ (.int .i64 1)) w.heap.size 3 (cint (tab n 0)) := by
    have := hv.set (i := n) (.int .i64 1)
    rwa [cint_set] at this
  have hB0 : Below w.heap.size w (w1.setCell ⟨w.heap.size, n, none⟩ (.int .i64 1)) := ((Below.refl _ _).grown hgrow (Nat.le_refl _) (by simp)).setCell (p := ⟨w.heap.size, n, none⟩) (Nat.le_refl _) _
  clear hv hc hf hown hgrow
  go_loopw [4, 5] (fun lv iv wr => ∃ (i g : Nat), i ≤ n ∧ iv = .int .i64 i ∧ lv = .slice (some ⟨g, 0, none⟩) (2 * n + 1) (2 * n + 1) ∧ w.heap.size ≤ g ∧ VRow wr g 3 (cint (tab n i)) ∧ Below w.heap.size w wr) (fun _ iv _ => n - (intOf iv).toNat)
  case atStart => exact ⟨0, w.heap.size, by omega, rfl, rfl, Nat.le_refl _, hv0, hB0⟩
  case round =>
    obtain ⟨i, g, hi, rfl, rfl, hg, hv, hB⟩ := hrel
    by_cases hlt : i < n
    · have hsz := hB.size
      go_wp2_with (at_make; refine wpList_make_full _ rfl _ _ 57 rfl w.heap.size 3 i0 (.int .i64 0) 1 Try.underlying57 hi0 hz0 hz1 .i64 .i64 _ _ (2 * n + 1) rfl rfl (by omega) (by omega) (by rw [hz2]; omega) (by unfold maxLen; omega) hsz ?_; intro w2 hown hgrow)
      obtain ⟨wo, rfl⟩ : ∃ wo : World, wo = wr := ⟨_, rfl⟩
      have hgl := hv.lt
      have hv2 := hv.grown hgrow
      have hn2 := made_row hown
      have hB2 : Below w.heap.size w w2 := hB.grown hgrow hsz (by simp)
      clear hown hgrow hv
      go_loopw [7] (fun dv wx => ∃ d : Nat, d ≤ 2 * n + 1 ∧ dv = .int .i64 d ∧ VRow wx g 3 (cint (tab n i)) ∧ VRow wx wo.heap.size 3 (cint (nx (tab n i) d)) ∧ Below w.heap.size w wx) (fun dv _ => 2 * n + 1 - (intOf dv).toNat)
      case atStart => exact ⟨0, by omega, rfl, hv2, by rw [show nx (tab n i) 0 = List.replicate (2 * n + 1) 0 by simp [nx, tab_len]]; exact hn2, hB2⟩
      case round =>
        obtain ⟨d, hd, rfl, hl, hx, hBx⟩ := hrel
        by_cases hdl : d < 2 * n + 1
        · have hcl := hl.cell d
          rw [cint_getD _ _ (by rw [tab_len]; exact hdl)] at hcl
          have hbl := tab_bd n i (by omega) hlt d
          by_cases hpos : 0 < (tab n i).getD d 0
          · have h0 := (tab_all n (by omega) i hlt).2
            have hd0 : d ≠ 0 := by rintro rfl; omega
            have hd1 : d ≠ 2 * n := by rintro rfl; omega
            obtain ⟨e, rfl⟩ : ∃ e, d = e + 1 := ⟨d - 1, by omega⟩
            have hnx := hidI (nx_pos (tab n i) e hpos)
            have bx0 := nx_bd n i (by omega) hlt (e + 1) hd e (by omega)
            have bx1 := nx_bd n i (by omega) hlt (e + 1) hd (e + 2) (by omega)
            have hx0 := hx.cell e
            rw [cint_getD _ _ (by rw [nx_len, tab_len]; omega)] at hx0
            have hx1 := hx.cell (e + 1 + 1)
            rw [cint_getD _ _ (by rw [nx_len, tab_len]; omega)] at hx1
            have hfx := hx.frozen
            have hed : e + 1 < 2 * n := by omega
            generalize (tab n i).getD (e + 1) 0 = lv at *
            generalize (nx (tab n i) (e + 1)).getD e 0 = x0 at *
            generalize (nx (tab n i) (e + 1)).getD (e + 1 + 1) 0 = x1 at *
            clear h0 hd0 hd1 hv2 hn2 hB2
            go_wp2
            go_region
            go_wp2
            have k1 : IntKind.i64.wrap ((e : Int) + 1 + 1) = (e : Int) + 1 + 1 := IntWalk.i64_in _ (by omega)
            have k2 : ((e : Int) + 1 + 1).toNat = e + 1 + 1 := by omega
            have k3 : (0 : Int) ≤ (e : Int) + 1 + 1 := by omega
            have k4 : (e : Int) + 1 + 1 < 2 * (n : Int) + 1 := by omega
            go_region
            clear k1 k2 k3 k4
            go_wp2
            go_roundw
            case rel =>
              have hne : g ≠ wo.heap.size := by omega
              refine ⟨e + 1 + 1, by omega, by go_num, VRow.other _ (VRow.other _ hl hne) hne, ?_, (((hBx.setCell (p := ⟨wo.heap.size, e, none⟩) hsz (.int .i64 (x0 + lv))).setCell (p := ⟨wo.heap.size, e + 1 + 1, none⟩) hsz (.int .i64 (x1 + lv))).drew).drew⟩
              rw [hnx.out, ← cint_set, ← cint_set]
              exact VRow.set _ (VRow.set _ hx)
            case measure => simp [intOf]; omega
          · have hnx : Hid (nx (tab n i) (d + 1) = nx (tab n i) d) := by unfold Hid; rw [nx, if_neg hpos]
            go_wp2
            go_roundw
            case rel => exact ⟨d + 1, by omega, by go_num, hl, by rw [hnx.out]; exact hx, hBx⟩
            case measure => simp [intOf]; omega
        · obtain rfl : d = 2 * n + 1 := by omega
          have hfull := hidI (nx_full n i (by omega) hlt)
          rw [hfull.out] at hx
          go_wp2
          go_roundw
          case rel => exact ⟨i + 1, wo.heap.size, by omega, by go_num, rfl, hsz, hx, hBx⟩
          case measure => simp [intOf]; omega
    · obtain rfl : i = n := by omega
      have hc := hv.cell i
      rw [cint_getD _ _ (by rw [tab_len]; omega)] at hc
      go_wp2
      go_ret2
      exact ⟨ret_ii (Prod.ext HE.out.1.symm HE.out.2), hB⟩

theorem dsp_count (s : ByteArray) : 2 * (Lib.countByte s.data.toList 49 : Int) - s.size = dsp s := by
  have h : ∀ k, k ≤ s.size → 2 * (((s.data.toList.take k).count 49 : Nat) : Int) - k = Su (vAt false s) k := by
    intro k
    induction k with
    | zero => intro _; simp [Su]
    | succ k ih =>
      intro hk
      have := ih (by omega)
      rw [take_snoc s k (by omega), List.count_append, Su, vAt_f s k (by omega)]
      have hc : ([s[k]] : List UInt8).count 49 = if s[k] = 49 then 1 else 0 := by
        by_cases e : s[k] = 49
        · simp [e]
        · simp [e]
      rw [hc]
      unfold val1
      by_cases e : s[k] = 49
      · rw [if_pos e, if_pos (by rw [e]; rfl)]; omega
      · have e' : ¬ ((s[k].toNat : Int) = 49) := fun h => e (UInt8.toNat.inj (by show s[k].toNat = 49; omega))
        rw [if_neg e, if_neg e']; omega
  have := h s.size (Nat.le_refl _)
  rw [List.take_of_length_le (by simp)] at this
  exact this

/-- What Disparity answers. -/
def dis (s : ByteArray) : Int × Int := if wchk 2 s.data.toList ≠ 0 then (0, wchk 2 s.data.toList) else (dsp s, 0)

set_option maxHeartbeats 400000 in
theorem disparity_any (s : ByteArray) (w : World) (hs : s.size ≤ maxLen) :
    Calls Try.prog 24 #[.string s] w fun e w' => e = .returned (.tuple #[.int .i64 (dis s).1, .int .i64 (dis s).2]) ∧ Dr w w' := by
  by_cases hc : wchk 2 s.data.toList = 0
  · have HP : Hid (dis s = (dsp s, 0)) := by unfold Hid dis; rw [if_neg (by omega)]
    have hl := wchk_long2 s hc
    have HC := hidI hc
    have HD := hidI (dsp_count s)
    have hcb : Lib.countByte s.data.toList 49 ≤ s.size := by
      have := List.count_le_length (a := (49 : UInt8)) (l := s.data.toList)
      simpa [Lib.countByte] using this
    clear hc
    go_enter Try.func24, Try.ntmps24
    go_wp2_with fail
    refine (wcheck_any 2 s _ hs).mono ?_
    rintro e w1 ⟨rfl, hD⟩
    rw [HC.out]
    go_wp2_with (go_at_call 35; refine (Try.strings_Count_one s 49 _).mono ?_; rintro e w' ⟨rfl, rfl⟩)
    go_ret2
    exact ⟨ret_ii (by rw [HP.out, ← HD.out]), hD⟩
  · have HP : Hid (dis s = (0, wchk 2 s.data.toList)) := by unfold Hid dis; rw [if_pos hc]
    have hc' : (wchk 2 s.data.toList == 0) = false := by simpa using hc
    clear hc
    go_enter Try.func24, Try.ntmps24
    go_wp2_with fail
    refine (wcheck_any 2 s _ hs).mono ?_
    rintro e w1 ⟨rfl, hD⟩
    go_wp2
    go_ret2
    exact ⟨ret_ii HP.out, hD⟩

/-- A binary word, and short enough. -/
def bin (s : ByteArray) (n : Int) : Bool := decide ((s.size : Int) ≤ n) && (wchk 2 s.data.toList == 0)

set_option maxHeartbeats 400000 in
theorem binary_any (s : ByteArray) (n : Int) (w : World) (hs : s.size ≤ maxLen) :
    Calls Try.prog 23 #[.string s, .int .i64 n] w fun e w' => e = .returned (.bool (bin s n)) ∧ Dr w w' := by
  by_cases h1 : (s.size : Int) ≤ n
  · have HB : Hid (bin s n = (wchk 2 s.data.toList == 0)) := by unfold Hid bin; rw [decide_eq_true h1]; rfl
    go_enter Try.func23, Try.ntmps23
    go_wp2_with fail
    refine (wcheck_any 2 s _ hs).mono ?_
    rintro e w1 ⟨rfl, hD⟩
    go_wp2
    go_ret
    exact ⟨ret_bool HB.out.symm, hD⟩
  · have HB : Hid (bin s n = false) := by unfold Hid bin; rw [decide_eq_false h1]; rfl
    have hd := decide_eq_false h1
    go_enter Try.func23, Try.ntmps23
    go_wp2
    go_ret
    exact ⟨ret_bool HB.out.symm, Dr.refl _⟩

def iabs (x : Int) : Int := max x (-x)
set_option maxHeartbeats 400000 in
theorem abs_any (x : Int) (w : World) (h1 : -1000000000000 ≤ x) (h2 : x ≤ 1000000000000) :
    Calls Try.prog 25 #[.int .i64 x] w fun e w' => e = .returned (.int .i64 (iabs x)) ∧ w = w' := by
  go_enter Try.func25, Try.ntmps25
  go_wp2
  go_ret
  exact ⟨rfl, rfl⟩
end Go.Proofs.Ytccdocnaijdcnaa
