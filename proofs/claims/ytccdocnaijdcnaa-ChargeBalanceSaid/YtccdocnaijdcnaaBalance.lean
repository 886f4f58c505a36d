/-
  ChargeBalance: for every number the law returns true, and its argument reads as it did.
-/
import Derived.Test.YtccdocnaijdcnaaWt
import Derived.Test.YtccdocnaijdcnaaWg
import Derived.Test.YtccdocnaijdcnaaWr
import Derived.Test.YtccdocnaijdcnaaLaw
namespace Go.Proofs.Ytccdocnaijdcnaa
open Go.ChangeShapes Go.WideShapes Go.ChangeAt Go.RowKit

def sums : Nat → List Int | 0 => [0] | n + 1 => (sums n).flatMap fun x => [x - 1, x + 1]
theorem dsp_ext (s : ByteArray) : dsp (s ++ ⟨#[48]⟩) = dsp s - 1 ∧ dsp (s ++ ⟨#[49]⟩) = dsp s + 1 := by
  rw [← dsp_count, ← dsp_count, ← dsp_count]
  have h0 : (s ++ ⟨#[48]⟩ : ByteArray).data.toList = s.data.toList ++ [48] := by simp
  have h1 : (s ++ ⟨#[49]⟩ : ByteArray).data.toList = s.data.toList ++ [49] := by simp
  have s0 : (s ++ ⟨#[48]⟩ : ByteArray).size = s.size + 1 := by rw [ByteArray.size_append]; rfl
  have s1 : (s ++ ⟨#[49]⟩ : ByteArray).size = s.size + 1 := by rw [ByteArray.size_append]; rfl
  rw [h0, h1, s0, s1]
  simp [Lib.countByte, List.count_append]
  omega
theorem flat_sums (l : List ByteArray) : (l.flatMap ext2).map dsp = (l.map dsp).flatMap fun x => [x - 1, x + 1] := by
  induction l with
  | nil => rfl
  | cons s l ih => simp [ext2, (dsp_ext s).1, (dsp_ext s).2, ih]
theorem allW_sums (n : Nat) : (allW n).map dsp = sums n := by
  induction n with
  | zero => rfl
  | succ n ih => rw [allW, flat_sums, ih]; rfl
def cz (l : List Int) : Nat := l.countP (fun x => x == 0)
theorem cz_tab : ∀ k : Nat, k < 11 → blc (k : Int) = ((cz (sums k) : Int), 0) := by decide +kernel
theorem cz_snoc (l : List ByteArray) (k : Nat) (h : k < l.length) : cz ((l.map dsp).take (k + 1)) = cz ((l.map dsp).take k) + if dsp l[k] = 0 then 1 else 0 := by
  rw [← List.map_take, ← List.map_take, List.take_succ_eq_append_getElem h, List.map_append]
  simp only [cz, List.countP_append, List.map_cons, List.map_nil, List.countP_cons, List.countP_nil, beq_iff_eq, Nat.zero_add]
theorem cz_bd (l : List ByteArray) (k : Nat) : cz ((l.map dsp).take k) ≤ l.length :=
  Nat.le_trans List.countP_le_length (by simp; omega)
theorem flat_ok (l : List ByteArray) (h : ∀ s ∈ l, okw 2 s.data.toList = true) : ∀ s ∈ l.flatMap ext2, okw 2 s.data.toList = true := by
  intro s hs
  obtain ⟨r, hr, hs⟩ := List.mem_flatMap.1 hs
  simp only [ext2, List.mem_cons, List.not_mem_nil, or_false] at hs
  have := h r hr
  rcases hs with rfl | rfl <;> simp [okw] at this ⊢ <;> exact ⟨this, by decide⟩
theorem allW_ok (n : Nat) : ∀ s ∈ allW n, okw 2 s.data.toList = true := by
  induction n with
  | zero => simp [allW]; rfl
  | succ n ih => exact flat_ok _ ih
theorem allW_dis (n : Nat) (hn : n ≤ 10) (s : ByteArray) (hs : s ∈ allW n) : dis s = (dsp s, 0) := by
  unfold dis
  have h := allW_size n s hs
  rw [if_neg]
  rw [wchk_ok 2 _ (by omega) (by omega) (by simpa using (by omega : s.size ≤ 65536)) (allW_ok n s hs)]
  simp

set_option maxRecDepth 100000 in
set_option maxHeartbeats 1000000 in
theorem lawBalance_any (n : Int) (w : World) (hn0 : 0 ≤ n) (hn1 : n ≤ 255) :
    Calls Try.prog 7 #[.int .u8 n] w fun e w' => e = .returned (.bool true) ∧ Below w.heap.size w w' := by
  obtain ⟨k, hk⟩ : ∃ k : Nat, n % 11 = k := ⟨(n % 11).toNat, by omega⟩
  have hk' : k ≤ 10 := by omega
  go_enter Try.func7, Try.ntmps7
  go_wp2_with fail
  refine (wall_any k _ hk').mono ?_
  rintro e w1 ⟨v, rfl, hown, hB1⟩
  have hlen := allW_len k
  have hp1 : 1 ≤ 2 ^ k := Nat.one_le_two_pow
  have hp2 : 2 ^ k ≤ 2 ^ 10 := Nat.pow_le_pow_right (by omega) hk'
  have hT := cz_tab k (by omega)
  have HS := hidI (allW_sums k)
  have HD := hidI (allW_dis k hk')
  have HZ := hidI (allW_size k)
  generalize allW k = L at *
  generalize 2 ^ k = N at *
  obtain ⟨N, rfl⟩ : ∃ m, N = m + 1 := ⟨N - 1, by omega⟩
  obtain ⟨g, c, rfl⟩ := ownsRow_succ hown
  have hg := (hown.lt g rfl).2
  have HL := hidI hlen
  have hcell : Hid (∀ i (h : i < L.length), w1.cell? ⟨g, i, none⟩ = some (.string L[i])) := fun i h => by
    rw [hown.cellAt i (by have := HL.out; omega)]; simp [h]
  clear hlen hown
  go_wp2_with fail
  refine (balanced_any _ _).mono ?_
  rintro e w' ⟨rfl, rfl⟩
  rw [hT]
  clear hT
  go_wp2_with fail
  go_loopw [8, 34] (fun ct iv wr => ∃ i : Nat, i ≤ N + 1 ∧ iv = .int .i64 i ∧ ct = .int .i64 (cz ((L.map dsp).take i) : Nat) ∧ Dr w1 wr) (fun _ iv _ => N + 1 - (intOf iv).toNat)
  case atStart => exact ⟨0, by omega, rfl, rfl, Dr.refl _⟩
  case round =>
    obtain ⟨i, hi, rfl, rfl, hD⟩ := hrel
    have hcb : cz ((L.map dsp).take i) ≤ 1024 := by have := cz_bd L i; have := HL.out; omega
    by_cases hlt : i < N + 1
    · have hil : i < L.length := by have := HL.out; omega
      have hc1 : _ = some (Value.string L[i]) := (hD.cell ⟨g, i, none⟩).trans (hcell.out i hil)
      have hd := HD.out _ (List.getElem_mem hil)
      have hz := HZ.out _ (List.getElem_mem hil)
      have hcs := hidI (cz_snoc L i hil)
      generalize L[i] = s at hc1 hd hz hcs
      have hbd := dsp_bd s
      go_wp2_with fail
      refine (disparity_any s _ (by simp [maxLen]; omega)).mono ?_
      rintro e w' ⟨rfl, hD'⟩
      rw [hd]
      have hD2 := hD.trans hD'
      by_cases hds : dsp s = 0
      · have hcs1 := hcs.out
        rw [if_pos hds] at hcs1
        have hdb : (dsp s == 0) = true := by simpa using hds
        have HX := hidI hcs1
        clear hcs hcs1 hds
        go_wp2
        go_roundw
        case rel => exact ⟨i + 1, by omega, by go_num, int_eq (by rw [HX.out]; omega), hD2⟩
        case measure => simp [intOf]; omega
      · have hcs1 := hcs.out
        rw [if_neg hds] at hcs1
        have hdb : (dsp s == 0) = false := by simpa using hds
        have HX := hidI hcs1
        clear hcs hcs1 hds
        go_wp2
        go_roundw
        case rel => exact ⟨i + 1, by omega, by go_num, int_eq (by rw [HX.out]; omega), hD2⟩
        case measure => simp [intOf]; omega
    · have hF : cz ((L.map dsp).take i) = cz (sums k) := by rw [List.take_of_length_le (by rw [List.length_map]; have := HL.out; omega), HS.out]
      rw [hF]
      clear hF hcb
      go_wp2_with (go_at_call 10; refine (awake_any _).mono ?_; rintro e w' ⟨rfl, hB⟩)
      go_ret
      exact ⟨rfl, hB1.trans (((hD.below _).trans (hB.mono (Nat.le_trans hB1.size (hD.below 0).size))))⟩

theorem readU8 : Try.prog.readableRec 5 = true ∧ 5 < Try.prog.types.size := ⟨by kernel_rfl, of_decide_eq_true (by kernel_rfl)⟩

set_option maxRecDepth 100000 in
theorem balance_lifted (os : Os) (started : os.Started) (H : Type) (enc : TypeId × Value → H) :
    ReturnsInHanded {} Try.checked os 7 .any (Rows.chargeBalanceSpec.pre6 enc Try.prog Try.f7 Rows.chargeBalanceRow.domain false) (Rows.chargeBalanceSpec.post enc Try.prog Try.f7 false true false false) := by
  refine returnsInHanded_of_change (C := Try.checked) own started (by kernel_rfl) Try.func7
    (ChangeSpec.witness6 (enc := enc) (C := Try.checked) false ⟨#[], #[.int .u8 0], []⟩ 8 (by kernel_rfl) (by kernel_rfl) (by kernel_rfl) (by kernel_rfl)) ?_
  intro W base args ds gs before hval0 hW hcnd _
  have hval : ∀ (j : Nat) t v, Try.f7.params[j]? = some t → args[j]? = some v → Value.okWide Try.prog W .any base t v := hval0
  have hW' := hW
  obtain ⟨p, q, hA0, hV, rfl, hfz, hnd⟩ := hW
  have hA : DataW.TrodAll enc Try.prog W 0 (fun _ => true) true Try.f7.params.toList args.toList ds p := hA0
  rw [Try.params7] at hA hval
  obtain ⟨v0, d0, rfl, rfl, h0⟩ := trodAll_one hA
  obtain ⟨rfl, rfl⟩ := trodVars_none hV
  obtain ⟨a0, rfl, rfl, rfl, w0⟩ := open_int Try.underlying5 (hval 0 5 v0 rfl rfl) h0
  have hb := bounds_u8 w0
  refine (lawBalance_any a0 W hb.1 hb.2).mono fun e W' ⟨he, hB⟩ => ?_
  subst he
  refine ⟨_, rfl, law_post hW' rfl (by kernel_rfl) ?_ rfl rfl rfl hB⟩
  rw [Try.params7]
  intro t ht
  simp only [List.mem_cons, List.not_mem_nil, or_false] at ht
  subst ht
  exact readU8

theorem chargeBalance_holds : Rows.ChargeBalanceSaid :=
  OpenClaim.holds_of_wide 7 Try.f7 rfl rfl rfl rfl rfl rfl rfl ⟨rfl, rfl, rfl, rfl, rfl⟩ rfl rfl rfl rfl rfl (by kernel_rfl) Try.func7 (by kernel_rfl)
    (of_decide_eq_true (by kernel_rfl)) (by unfold Func.isWrapper; rw [if_neg (of_decide_eq_false (by kernel_rfl))]; exact ⟨rfl, rfl⟩)
    (fun os started H enc _ => balance_lifted os started H enc)
#print axioms chargeBalance_holds
end Go.Proofs.Ytccdocnaijdcnaa
