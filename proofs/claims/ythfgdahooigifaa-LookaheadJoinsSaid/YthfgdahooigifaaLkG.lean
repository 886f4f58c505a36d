/-
  Walks: Encode of the reference.
-/
import Derived.Test.YthfgdahooigifaaLkF
namespace Go.Proofs.Ythfgdahooigifaa
open Go.RowKit

theorem any_t {α : Type} {f : α → Bool} {l : List α} (k : Nat) (hk : k < l.length) (h : f l[k] = true) : l.any f = true := List.any_eq_true.2 ⟨l[k], List.getElem_mem hk, h⟩
theorem any_n {α : Type} {f : α → Bool} {l : List α} (h : ∀ k (hk : k < l.length), f l[k] = false) : l.any f = false := by
  rw [List.any_eq_false]; intro x hx
  obtain ⟨k, hk, rfl⟩ := List.mem_iff_getElem.1 hx
  simp [h k hk]
theorem outB_lo {N : Nat} {a : Int} (h : a < 0) : outB N a = true := by simp [outB, h]
theorem outB_hi {N : Nat} {a : Int} (h : (N : Int) ≤ a) : outB N a = true := by simp [outB, h]
theorem outB_in {N : Nat} {a : Int} (h : 0 ≤ a) (h2 : a < N) : outB N a = false := by simp [outB]; omega

theorem ne_empty {s : ByteArray} (h : 0 < s.size) : s.toList.isEmpty = false := by
  cases hh : s.toList with
  | nil =>
    have : (s.toList == (⟨#[]⟩ : ByteArray).toList) = true := by rw [hh]; decide +kernel
    have := (Lib.bytes_beq_iff _ _).1 this
    subst this; exact absurd h (by decide)
  | cons a b => rfl

set_option maxRecDepth 100000 in
set_option maxHeartbeats 4000000 in
theorem rlkEncode_any (T : Tb) (p1 p2 : Option Addr) (c1 c2 : Nat) (l : List Int) (pl : Option Addr) (cl : Nat) (w : World) (hin : TbIn w T p1 p2 c1 c2) (hl : Sl w (Value.int .i64) pl l) (hln : l.length ≤ 1000) :
    Calls Try.prog 8 #[.agg #[.int .i64 T.q, .int .i64 T.n, .slice p1 T.base.length c1, .slice p2 T.swaps.length c2], .slice pl l.length cl] w fun e w' => e = .returned (.tuple #[.string (encA T l).1, .int .i64 (encA T l).2]) ∧ Below w.heap.size w w' := by
  have hB0 : Below w.heap.size w (w.alloc (.cells #[.int .i64 T.q, .int .i64 T.n, .slice p1 T.base.length c1, .slice p2 T.swaps.length c2] 25)) := (Below.refl _ _).alloc (Nat.le_refl _) _
  have b0 : VRow (w.alloc (.cells #[.int .i64 T.q, .int .i64 T.n, .slice p1 T.base.length c1, .slice p2 T.swaps.length c2] 25)) w.heap.size 25 [.int .i64 T.q, .int .i64 T.n, .slice p1 T.base.length c1, .slice p2 T.swaps.length c2] := VRow.new w _ _
  cases hf : fmd T
  · have HF := hidI hf
    have HR := hidI (encA_bad l hf)
    clear hf
    go_enter Try.func8, Try.ntmps8
    go_wp2_with fail
    refine (rlkFormed_any T p1 p2 c1 c2 _ (hin.below hB0)).mono ?_
    rintro e w1 ⟨rfl, hB1⟩
    rw [HF.out]
    go_wp2
    go_ret2
    exact ⟨ret_si HR.out, hB0.trans (hB1.mono hB0.size)⟩
  have HF := hidI hf
  obtain ⟨n1, n2⟩ := fmd_bd hf
  have HL := hidI hl
  have HIN := hidI hin
  clear hf
  go_enter Try.func8, Try.ntmps8
  go_wp2_with fail
  refine (rlkFormed_any T p1 p2 c1 c2 _ (hin.below hB0)).mono ?_
  rintro e w1 ⟨rfl, hB1⟩
  rw [HF.out]
  have hBa := hB0.trans (hB1.mono hB0.size)
  have hb1 := b0.below hB1 (by simp)
  clear hB1 b0 hB0 hin
  go_wp2
  go_loopw [6] (fun iv wr => ∃ k : Nat, k ≤ l.length ∧ iv = .int .i64 k ∧ Hid (∀ j (hj : j < l.length), j < k → outB T.base.length l[j] = false) ∧ Dr w1 wr) (fun iv _ => l.length - (intOf iv).toNat)
  case atStart => exact ⟨0, by omega, rfl, fun _ _ h => by omega, Dr.refl _⟩
  case round =>
    obtain ⟨k, hk, rfl, hj, hD⟩ := hrel
    have hb := hb1.dr hD
    have hB := hBa.trans (hD.below _)
    have f1 := hb.at 1 rfl; have f2 := hb.at 2 rfl
    by_cases hlt : k < l.length
    · obtain ⟨b2, o2, rfl, _, hc2⟩ := (HL.out.below hB).get k hlt
      have e0 := hc2 k hlt
      clear hc2 hl
      by_cases h0 : l[k] < 0
      · have HR := hidI (encA_out HF.out (any_t k hlt (outB_lo h0)))
        go_wp2_with fail
        (refine wp_region_quiet_lit (by kernel_rfl) (by kernel_rfl) ?_; (repeat (first | go_big_quiet_step (fail) | quiet_step (fail))); refine wpQuiet_nil ?_; intro _ hwq; obtain ⟨nq, hwq2⟩ := hwq; subst hwq2)
        go_wp2
        go_ret2
        exact ⟨ret_si HR.out, below_drewN hB _⟩
      · have d0 := decide_eq_false h0
        by_cases h1 : (T.base.length : Int) ≤ l[k]
        · have HR := hidI (encA_out HF.out (any_t k hlt (outB_hi h1)))
          go_wp2_with fail
          (refine wp_region_quiet_lit (by kernel_rfl) (by kernel_rfl) ?_; (repeat (first | go_big_quiet_step (fail) | quiet_step (fail))); refine wpQuiet_nil ?_; intro _ hwq; obtain ⟨nq, hwq2⟩ := hwq; subst hwq2)
          go_wp2
          go_ret2
          exact ⟨ret_si HR.out, below_drewN hB _⟩
        · have d1 := decide_eq_false h1
          have HO := hidI (outB_in (N := T.base.length) (by omega : 0 ≤ l[k]) (by omega))
          go_wp2_with fail
          (refine wp_region_quiet_lit (by kernel_rfl) (by kernel_rfl) ?_; (repeat (first | go_big_quiet_step (fail) | quiet_step (fail))); refine wpQuiet_nil ?_; intro _ hwq; obtain ⟨nq, hwq2⟩ := hwq; subst hwq2)
          go_wp2
          go_roundw
          case rel => exact ⟨k + 1, by omega, by go_num, fun j h1 h2 => by
            rcases Nat.lt_succ_iff_lt_or_eq.1 h2 with h3 | h3
            · exact hj.out j h1 h3
            · subst h3; exact HO.out, hD.one _⟩
          case measure => simp [intOf]; omega
    · have HO : Hid (l.any (outB T.base.length) = false) := any_n (fun j h => hj.out j h (by omega))
      have HR := hidI (encA_ok HF.out HO.out)
      have hm1 : (l.length : Int) * T.n ≤ 8000 := by
        have := Int.mul_le_mul (show (l.length : Int) ≤ 1000 by omega) n2 (by omega) (by omega)
        omega
      have hq : (l.length : Int) ≤ 65536 / T.n := (Int.le_ediv_iff_mul_le (by omega)).2 (by omega)
      have hqd : decide (65536 / T.n < (l.length : Int)) = false := decide_eq_false (by omega)
      have hb0 := hb
      have hB0' := hB
      clear hj hm1 f1 f2
      have f1 := hb0.at 1 rfl
      go_wp2
      clear f1 hq hqd hlt hk
      go_loopw [7, 8] (fun ov iv wr => ∃ (m : Nat) (out : ByteArray), m ≤ l.length ∧ iv = .int .i64 m ∧ ov = .string out ∧ Hid (out.data.toList ++ encB T (l.drop m) = encB T l) ∧ out.size ≤ 16 * m ∧
          VRow wr w.heap.size 25 [.int .i64 T.q, .int .i64 T.n, .slice p1 T.base.length c1, .slice p2 T.swaps.length c2] ∧ Below w.heap.size w wr) (fun _ iv _ => l.length - (intOf iv).toNat)
      case atStart => exact ⟨0, ⟨#[]⟩, by omega, rfl, rfl, rfl, Nat.le_of_eq rfl, hb0, hB0'⟩
      case round =>
        clear hb hB hb0 hB0' hD
        obtain ⟨m, out, hm, rfl, rfl, ho, hol, hbx, HBX⟩ := hrel
        by_cases hlt : m < l.length
        · have ho0 := outB_f (any_f HO.out m hlt)
          have hp16 := of_decide_eq_true (show preB T = true from (fmd_split HF.out).1)
          obtain ⟨b2, o2, rfl, hb2, hc2⟩ := (HL.out.below HBX).get m hlt
          have e0 := hc2 m hlt
          have f0 := hbx.at 0 rfl; have f1 := hbx.at 1 rfl; have GF2 := hbx.at 2 rfl; have f3 := hbx.at 3 rfl
          by_cases hlt2 : m + 1 < l.length
          · have e1 := hc2 (m + 1) hlt2
            have ho1 := outB_f (any_f HO.out (m + 1) hlt2)
            clear hc2
            have q1 : (m : Int) + 1 < (l.length : Int) := by omega
            have q2 : 0 ≤ (m : Int) + 1 := by omega
            have q3 : ((m : Int) + 1).toNat = m + 1 := by omega
            have q4 : IntKind.i64.wrap ((m : Int) + 1) = (m : Int) + 1 := IntWalk.i64_in _ (by omega)
            go_wp2_with fail
            refine region_tail 10 (by kernel_rfl) (by kernel_rfl) fun W hD => ?_
            have g0 := (hD.cell _).trans e0; have g1 := (hD.cell _).trans e1
            have k0 := (hD.cell _).trans f0; have k1 := (hD.cell _).trans f1; have k2' := (hD.cell _).trans GF2; have k3 := (hD.cell _).trans f3
            simp only [List.take_succ_cons, List.take_zero, List.drop_succ_cons, List.drop_zero]
            iterate 10 still_step
            refine wpStill_nil ?_
            clear q4
            go_wp2_with fail
            have HBW := HBX.trans (hD.below _)
            refine (rlkSwap_any T l[m] l[m + 1] p1 p2 c1 c2 _ (HIN.out.swaps.below HBW) HIN.out.l2).mono ?_
            rintro e w4 ⟨rfl, hB4⟩
            have HBX4 := HBW.trans (hB4.mono HBW.size)
            have hbx4 := (hbx.dr hD).below hB4 (by rw [hD.size]; exact hbx.lt)
            cases hsw : swapW T.swaps l[m] l[m + 1] with
            | some wd =>
              have HE := hidI (encB_swap T l m hlt2 wd hsw)
              have HS := hidI (swapW_size HF.out hsw)
              have hsS : swS T.swaps l[m] l[m + 1] = wd := by unfold swS; rw [hsw]; rfl
              have hne : wd.toList.isEmpty = false := ne_empty (by have := HS.out; omega)
              have HE2 : Hid ((out ++ wd).data.toList ++ encB T (l.drop (m + 2)) = encB T l) := by unfold Hid; rw [ByteArray.data_append, Array.toList_append, List.append_assoc, ← HE.out]; exact ho.out
              rw [hsS]
              have hs4 := HS.out
              clear hsw hsS e0 e1 f0 f1 GF2 f3 g0 g1 k0 k1 k2' k3
              go_wp2
              go_roundw
              case rel => exact ⟨m + 2, out ++ wd, by omega, by go_num, rfl, HE2, by rw [ByteArray.size_append]; omega, hbx4, HBX4⟩
              case measure => simp [intOf]; omega
            | none =>
              have HE := hidI (encB_base T l m hlt2 hsw)
              have hsS : swS T.swaps l[m] l[m + 1] = ⟨#[]⟩ := by unfold swS; rw [hsw]; rfl
              rw [hsS]
              have e0' := (HL.out.below HBX4).get m hlt
              obtain ⟨b2', o2', he, _, hc4⟩ := e0'
              cases he
              have e0'' := hc4 m hlt
              have GF2 := hbx4.at 2 rfl
              have GBOX := hbx4
              clear hsw hsS e0 e1 f0 f1 f3 g0 g1 k0 k1 k2' k3 hc4 q1 q2 q3
              go_wp2_with fail
              have hin0 : l[m].toNat < T.base.length := by omega
              obtain ⟨b3, o3, hp1, _, hc3⟩ := (HIN.out.base.below HBX4).get l[m].toNat hin0
              have g3 := hc3 l[m].toNat hin0
              have GF2' := GF2
              rw [hp1] at GF2'
              clear hp1 hc3 GF2
              have HWD : Hid (baseW T l[m] = T.base[l[m].toNat]) := bget_eq _ _ hin0
              have HS := hidI (base_size HF.out l[m] ho0.1 ho0.2)
              rw [HWD.out] at HS HE
              have ho00 := ho0.1
              have ho01 := ho0.2
              have hsum : out.size + T.base[l[m].toNat].size ≤ 9223372036854775807 := by have := HS.out; omega
              go_wp2_with fail
              (refine wp_region_quiet_lit (by kernel_rfl) (by kernel_rfl) ?_; (repeat (first | go_big_quiet_step (fail) | quiet_step (fail))); refine wpQuiet_nil ?_; intro _ hwq; obtain ⟨nq, hwq2⟩ := hwq; subst hwq2)
              have hs4 := HS.out
              have HE2 : Hid ((out ++ T.base[l[m].toNat]).data.toList ++ encB T (l.drop (m + 1)) = encB T l) := by unfold Hid; rw [ByteArray.data_append, Array.toList_append, List.append_assoc, ← HE.out]; exact ho.out
              go_wp2
              go_roundw
              case rel => exact ⟨m + 1, out ++ T.base[l[m].toNat], by omega, by go_num, rfl, HE2, by rw [ByteArray.size_append]; omega, GBOX, below_drewN HBX4 _⟩
              case measure => simp [intOf]; omega
          · have HE := hidI (encB_one T l m hlt hlt2)
            have q1 : decide ((m : Int) + 1 < (l.length : Int)) = false := decide_eq_false (by omega)
            have GBOX := hbx
            clear hc2 f0 f1 f3
            have hin0 : l[m].toNat < T.base.length := by omega
            obtain ⟨b3, o3, hp1, _, hc3⟩ := (HIN.out.base.below HBX).get l[m].toNat hin0
            have g3 := hc3 l[m].toNat hin0
            have GF2' := GF2
            rw [hp1] at GF2'
            clear hp1 hc3 GF2
            have HWD : Hid (baseW T l[m] = T.base[l[m].toNat]) := bget_eq _ _ hin0
            have HS := hidI (base_size HF.out l[m] ho0.1 ho0.2)
            rw [HWD.out] at HS HE
            have ho00 := ho0.1
            have ho01 := ho0.2
            have hsum : out.size + T.base[l[m].toNat].size ≤ 9223372036854775807 := by have := HS.out; omega
            go_wp2_with fail
            (refine wp_region_quiet_lit (by kernel_rfl) (by kernel_rfl) ?_; (repeat (first | go_big_quiet_step (fail) | quiet_step (fail))); refine wpQuiet_nil ?_; intro _ hwq; obtain ⟨nq, hwq2⟩ := hwq; subst hwq2)
            have hs4 := HS.out
            have HE2 : Hid ((out ++ T.base[l[m].toNat]).data.toList ++ encB T (l.drop (m + 1)) = encB T l) := by unfold Hid; rw [ByteArray.data_append, Array.toList_append, List.append_assoc, ← HE.out]; exact ho.out
            go_wp2
            go_roundw
            case rel => exact ⟨m + 1, out ++ T.base[l[m].toNat], by omega, by go_num, rfl, HE2, by rw [ByteArray.size_append]; omega, GBOX, below_drewN HBX _⟩
            case measure => simp [intOf]; omega
        · obtain rfl : m = l.length := by omega
          have HE : Hid (encB T l = out.data.toList) := by unfold Hid; rw [← ho.out, List.drop_length]; simp [encB]
          go_wp2
          go_ret2
          exact ⟨ret_si (by rw [HR.out]; unfold encW; rw [HE.out]), HBX⟩
end Go.Proofs.Ythfgdahooigifaa
