/-
  Walks: Encode of the program.
-/
import Derived.Test.YthfgdahooigifaaLkE
namespace Go.Proofs.Ythfgdahooigifaa
open Go.RowKit

theorem ret_si {a a' : ByteArray} {b b' : Int} (h : (a', b') = (a, b)) : Ending.returned (.tuple #[.string a, .int .i64 b]) = .returned (.tuple #[.string a', .int .i64 b']) := by
  obtain ⟨rfl, rfl⟩ := Prod.mk.inj h; rfl
def slLen : Value → Nat | .slice _ n _ => n | _ => 0
theorem sl_drop1 {α : Type} {w : World} {enc : α → Value} {b off : Nat} {l : List α} (h : Sl w enc (some ⟨b, off, none⟩) l) (k : Nat) (hl : k < l.length) : Sl w enc (some ⟨b, off + k, none⟩) (l.drop k) := by
  obtain ⟨b', off', hp, hb, hc⟩ := h.get 0 (by omega)
  cases hp
  exact .inr ⟨b, off + k, rfl, hb, fun i hi => by rw [Nat.add_assoc, hc (k + i) (by rw [List.length_drop] at hi; omega)]; simp⟩
theorem sl_adv {α : Type} {w : World} {enc : α → Value} {b off : Nat} {l : List α} {m : Nat} (h : Sl w enc (some ⟨b, off, none⟩) (l.drop m)) (k : Nat) : Sl w enc (some ⟨b, off + k, none⟩) (l.drop (m + k)) := by
  by_cases hl : k < (l.drop m).length
  · have := sl_drop1 h k hl
    rwa [List.drop_drop] at this
  · exact .inl (List.drop_eq_nil_of_le (by rw [List.length_drop] at hl; omega))
theorem sl_nil' {α : Type} {w : World} {enc : α → Value} {p : Option Addr} {l : List α} {m : Nat} (h : l.length ≤ m) : Sl w enc p (l.drop m) := .inl (List.drop_eq_nil_of_le h)
theorem isb_dr {T e : TypeId} {B b : Nat} {bs : List Value} {w w' : World} (h : Lib.IsBuilderF T e B b bs w) (hD : Dr w w') : Lib.IsBuilderF T e B b bs w' := by obtain ⟨k, rfl⟩ := hD; exact h
theorem bc_app (o : List UInt8) (s : ByteArray) : Lib.byteCells o ++ Lib.strCells s = Lib.byteCells (o ++ s.data.toList) := by simp [Lib.byteCells, Lib.strCells]
theorem swaps_ok2 {T : Tb} (h : fmd T = true) : ∀ j (hj : j < T.swaps.length), ok2 (T.swaps[j].i, T.swaps[j].j) := by
  intro j hj
  have h1 := allB_get (fmd_split h).2.1 j hj
  unfold sOk at h1
  rw [sget_eq _ _ hj] at h1
  have h2 := (Bool.and_eq_true_iff.1 h1).1
  simp [inB] at h2
  have hp := of_decide_eq_true (show preB T = true from (fmd_split h).1)
  exact ⟨WalkArith.wf_i64 (by simp; omega), WalkArith.wf_i64 (by simp; omega)⟩

set_option maxRecDepth 100000 in
set_option maxHeartbeats 4000000 in
theorem lkEncode_any (T : Tb) (p1 p2 : Option Addr) (c1 c2 : Nat) (l : List Int) (pl : Option Addr) (cl : Nat) (w : World) (hin : TbIn w T p1 p2 c1 c2) (hl : Sl w (Value.int .i64) pl l) (hln : l.length ≤ 1000) (hcl : l.length ≤ cl) :
    Calls Try.prog 7 #[.agg #[.int .i64 T.q, .int .i64 T.n, .slice p1 T.base.length c1, .slice p2 T.swaps.length c2], .slice pl l.length cl] w fun e w' => e = .returned (.tuple #[.string (encA T l).1, .int .i64 (encA T l).2]) ∧ Below w.heap.size w w' := by
  have hB0 : Below w.heap.size w (w.alloc (.cells #[.int .i64 T.q, .int .i64 T.n, .slice p1 T.base.length c1, .slice p2 T.swaps.length c2] 25)) := (Below.refl _ _).alloc (Nat.le_refl _) _
  have b0 : VRow (w.alloc (.cells #[.int .i64 T.q, .int .i64 T.n, .slice p1 T.base.length c1, .slice p2 T.swaps.length c2] 25)) w.heap.size 25 [.int .i64 T.q, .int .i64 T.n, .slice p1 T.base.length c1, .slice p2 T.swaps.length c2] := VRow.new w _ _
  cases hf : fmd T
  · have HF := hidI hf
    have HR := hidI (encA_bad l hf)
    clear hf
    go_enter Try.func7, Try.ntmps7
    go_wp2_with fail
    refine (lkFormed_any T p1 p2 c1 c2 _ (hin.below hB0)).mono ?_
    rintro e w1 ⟨rfl, hB1⟩
    rw [HF.out]
    go_wp2
    go_ret2
    exact ⟨ret_si HR.out, hB0.trans (hB1.mono hB0.size)⟩
  cases ho : l.any (outB T.base.length)
  · have HF := hidI hf
    have HO := hidI ho
    have HR := hidI (encA_ok hf ho)
    obtain ⟨n1, n2⟩ := fmd_bd hf
    have hm0 : 0 ≤ (l.length : Int) * T.n := Int.mul_nonneg (by omega) (by omega)
    have hm1 : (l.length : Int) * T.n ≤ 8000 := by
      have := Int.mul_le_mul (show (l.length : Int) ≤ 1000 by omega) n2 (by omega) (by omega)
      omega
    clear hf ho
    go_enter Try.func7, Try.ntmps7
    go_wp2_with fail
    refine (lkFormed_any T p1 p2 c1 c2 _ (hin.below hB0)).mono ?_
    rintro e w1 ⟨rfl, hB1⟩
    rw [HF.out]
    have hBa := hB0.trans (hB1.mono hB0.size)
    have hb1 := b0.below hB1 (by simp)
    have f0 := hb1.at 0 rfl; have f1 := hb1.at 1 rfl; have f2 := hb1.at 2 rfl; have f3 := hb1.at 3 rfl
    clear hB1 b0
    go_wp2_with fail
    refine (containsI58_any l (outB T.base.length) w.heap.size pl cl _ (hl.below hBa) (by omega) (fun x => lkEncode1_any x _ _ _ _ _ f2)).mono ?_
    rintro e w1 ⟨rfl, rfl⟩
    rw [HO.out]
    have q0 : IntKind.i64.wrap ((l.length : Int) * T.n) = (l.length : Int) * T.n := IntWalk.i64_in _ (by omega)
    go_wp2_with fail
    refine (lkPairs_any T p1 p2 c1 c2 _ (hin.swaps.below hBa) hin.l2 (swaps_ok2 HF.out)).mono ?_
    rintro e w2 ⟨rfl, hM, hB2⟩
    clear q0 hm0 hm1
    have hBb := hBa.trans (hB2.mono hBa.size)
    have hz1 : w.heap.size < w1.heap.size := hb1.lt
    have hb2 := hb1.below hB2 hz1
    have hz2 : w1.heap.size + 1 < w2.heap.size := hM.lt
    clear f0 f1 f2 f3 hb1
    have HLL := hidI hl
    have HIN := hidI hin
    go_wp2
    go_loopw [1] (fun iv wr => ∃ (m r : Nat) (p' : Option Addr) (c' : Nat) (o : List UInt8), m + r = l.length ∧ iv = .slice p' r c' ∧ Sl w (Value.int .i64) p' (l.drop m) ∧ r ≤ c' ∧ Hid (o ++ encB T (l.drop m) = encB T l) ∧ o.length ≤ 16 * m ∧
        Lib.IsBuilderF 52 5 w2.heap.size w2.heap.size (Lib.byteCells o) wr ∧ Below w2.heap.size w2 wr) (fun iv _ => slLen iv)
    case atStart =>
      refine ⟨0, l.length, pl, cl, [], by omega, rfl, HLL.out, hcl, rfl, by simp, ?_, (Below.refl _ _).alloc (Nat.le_refl _) _⟩
      exact Lib.IsBuilderF.of (.inl ⟨Nat.le_refl _, .slice none 0 0, World.alloc_heap_new _ _, World.ownsRow_nil _ _ _ _, by simp [Value.ownBlock]⟩)
    case round =>
      obtain ⟨m, r, p', c', o, hmr, rfl, hs, hrc, ho, hol, hbd, hB⟩ := hrel
      have hB3 := hBb.trans (hB.mono hBb.size)
      have hb3 := hb2.below hB (by omega)
      have hM3 : SwM T.swaps wr (w1.heap.size + 1) := hM.below hB hz2
      have f2 := hb3.at 2 rfl
      by_cases hr : 0 < r
      · have hml : m < l.length := by omega
        have hdl : (l.drop m).length = r := by rw [List.length_drop]; omega
        obtain ⟨b1, o1, rfl, hb1, hc1⟩ := (hs.below hB3).get 0 (by omega)
        have e0 := hc1 0 (by omega)
        simp only [List.getElem_drop, Nat.add_zero] at e0
        have ho0 := outB_f (any_f HO.out m hml)
        have hp16 := of_decide_eq_true (show preB T = true from (fmd_split HF.out).1)
        by_cases hr2 : 1 < r
        · have hml2 : m + 1 < l.length := by omega
          have e1 := hc1 1 (by omega)
          simp only [List.getElem_drop] at e1
          have ho1 := outB_f (any_f HO.out (m + 1) hml2)
          have hlk := fun a : Nat => Mp.look (hM3.drewN a) key2 Try.underlying48 (zeroStr (wr.drewN a)) (l[m], l[m + 1]) ⟨WalkArith.wf_i64 (by simp; omega), WalkArith.wf_i64 (by simp; omega)⟩ true
          simp only [swapF_eq HF.out] at hlk
          cases hsw : swapW T.swaps l[m] l[m + 1] with
          | some wd =>
            have HE := hidI (encB_swap T l m hml2 wd hsw)
            have HS := hidI (swapW_size HF.out hsw)
            simp only [hsw, if_true, k2] at hlk
            clear hsw hc1
            have hr0' : (0 : Int) < (r : Int) := by omega
            have hr1' : (1 : Int) < (r : Int) := by omega
            go_wp2_with fail
            (refine wp_region_quiet_lit (by kernel_rfl) (by kernel_rfl) ?_; (repeat (first | go_big_quiet_step (fail) | quiet_step (fail))); refine wpQuiet_nil ?_; intro _ hwq; obtain ⟨nq, hwq2⟩ := hwq; subst hwq2)
            have hbdq : Lib.IsBuilderF 52 5 w2.heap.size w2.heap.size (Lib.byteCells o) (wr.drewN nq) := hbd
            go_wp2_with fail
            refine (bwrite_any _ _ _ wd _ hbdq (by have := HS.out; simp [Lib.byteCells]; omega) hB.size).mono ?_
            rintro e w4 ⟨rfl, hbd4, hB4⟩
            have hs4 := HS.out
            have hB5 : Below w2.heap.size w2 w4 := (below_drewN hB nq).trans hB4
            rw [bc_app] at hbd4
            have HE2 : Hid ((o ++ wd.data.toList) ++ encB T (l.drop (m + 2)) = encB T l) := by unfold Hid; rw [List.append_assoc, ← HE.out]; exact ho.out
            by_cases hc2 : c' = 2
            · subst hc2
              go_wp2
              go_roundw
              case rel => exact ⟨m + 2, 0, _, _, o ++ wd.data.toList, by omega, rfl, sl_nil' (by omega), by omega, HE2, by rw [List.length_append]; simp; omega, .inr hbd4, hB5⟩
              case measure => simp [slLen]; omega
            · go_wp2
              go_roundw
              case rel => exact ⟨m + 2, r - 2, _, _, o ++ wd.data.toList, by omega, rfl, sl_adv hs 2, by omega, HE2, by rw [List.length_append]; simp; omega, .inr hbd4, hB5⟩
              case measure => simp [slLen]; omega
          | none =>
            have HE := hidI (encB_base T l m hml2 hsw)
            simp only [hsw, if_true] at hlk
            simp only [k2] at hlk
            clear hsw hc1
            have hr0' : (0 : Int) < (r : Int) := by omega
            have hr1' : (1 : Int) < (r : Int) := by omega
            go_wp2_with fail
            (refine wp_region_quiet_lit (by kernel_rfl) (by kernel_rfl) ?_; (repeat (first | go_big_quiet_step (fail) | quiet_step (fail))); refine wpQuiet_nil ?_; intro _ hwq; obtain ⟨nq, hwq2⟩ := hwq; subst hwq2)
            have HBX : Below w2.heap.size w2 (wr.drewN nq) := below_drewN hB nq
            have GE0 : (wr.drewN nq).cell? ⟨b1, o1, none⟩ = some (.int .i64 l[m]) := e0
            have GF2 : (wr.drewN nq).cell? ⟨w.heap.size, 2, none⟩ = some (.slice p1 T.base.length c1) := f2
            have HBDX : Lib.IsBuilderF 52 5 w2.heap.size w2.heap.size (Lib.byteCells o) (wr.drewN nq) := hbd
            clear e0 e1 f2 hlk
            go_wp2_with fail
            refine region_tail 7 (by kernel_rfl) (by kernel_rfl) fun W hD => ?_
            have hBW : Below w2.heap.size w2 W := HBX.trans (hD.below _)
            have g0 := (hD.cell _).trans GE0
            have g2 := (hD.cell _).trans GF2
            have hin0 : l[m].toNat < T.base.length := by omega
            obtain ⟨b3, o3, hp1, _, hc3⟩ := (HIN.out.base.below (hBb.trans (hBW.mono hBb.size))).get l[m].toNat hin0
            have g3 := hc3 l[m].toNat hin0
            rw [hp1] at g2
            clear hp1
            have HWD : Hid (baseW T l[m] = T.base[l[m].toNat]) := bget_eq _ _ hin0
            have HS := hidI (base_size HF.out l[m] ho0.1 ho0.2)
            rw [HWD.out] at HS HE
            have ho00 := ho0.1
            have ho01 := ho0.2
            clear hc3
            simp only [List.take_succ_cons, List.take_zero, List.drop_succ_cons, List.drop_zero]
            iterate 7 still_step
            refine wpStill_nil ?_
            have hbdW : Lib.IsBuilderF 52 5 w2.heap.size w2.heap.size (Lib.byteCells o) W := isb_dr HBDX hD
            go_wp2_with fail
            refine (bwrite_any _ _ _ T.base[l[m].toNat] _ hbdW (by have := HS.out; simp [Lib.byteCells]; omega) hBW.size).mono ?_
            rintro e w4 ⟨rfl, hbd4, hB4⟩
            have hs4 := HS.out
            have hB5 : Below w2.heap.size w2 w4 := hBW.trans hB4
            rw [bc_app] at hbd4
            have HE2 : Hid ((o ++ T.base[l[m].toNat].data.toList) ++ encB T (l.drop (m + 1)) = encB T l) := by unfold Hid; rw [List.append_assoc, ← HE.out]; exact ho.out
            clear g0 g2 g3 HBX GE0 GF2 HBDX
            by_cases hc2 : c' = 1
            · subst hc2
              go_wp2
              go_roundw
              case rel => exact ⟨m + 1, 0, _, _, o ++ T.base[l[m].toNat].data.toList, by omega, rfl, sl_nil' (by omega), by omega, HE2, by rw [List.length_append]; simp; omega, .inr hbd4, hB5⟩
              case measure => simp [slLen]; omega
            · go_wp2
              go_roundw
              case rel => exact ⟨m + 1, r - 1, _, _, o ++ T.base[l[m].toNat].data.toList, by omega, rfl, sl_adv hs 1, by omega, HE2, by rw [List.length_append]; simp; omega, .inr hbd4, hB5⟩
              case measure => simp [slLen]; omega
        · have HE := hidI (encB_one T l m hml (by omega))
          have hrd : decide ((1 : Int) < (r : Int)) = false := decide_eq_false (by omega)
          have hrd2 : decide (1 < r) = false := decide_eq_false (by omega)
          have hr0' : (0 : Int) < (r : Int) := by omega
          have HBX := hB
          have GE0 := e0
          have GF2 := f2
          have HBDX := hbd
          clear hc1 e0 f2
          go_wp2_with fail
          refine region_tail 7 (by kernel_rfl) (by kernel_rfl) fun W hD => ?_
          have hBW : Below w2.heap.size w2 W := HBX.trans (hD.below _)
          have g0 := (hD.cell _).trans GE0
          have g2 := (hD.cell _).trans GF2
          have hin0 : l[m].toNat < T.base.length := by omega
          obtain ⟨b3, o3, hp1, _, hc3⟩ := (HIN.out.base.below (hBb.trans (hBW.mono hBb.size))).get l[m].toNat hin0
          have g3 := hc3 l[m].toNat hin0
          rw [hp1] at g2
          clear hp1
          have HWD : Hid (baseW T l[m] = T.base[l[m].toNat]) := bget_eq _ _ hin0
          have HS := hidI (base_size HF.out l[m] ho0.1 ho0.2)
          rw [HWD.out] at HS HE
          have ho00 := ho0.1
          have ho01 := ho0.2
          clear hc3
          simp only [List.take_succ_cons, List.take_zero, List.drop_succ_cons, List.drop_zero]
          iterate 7 still_step
          refine wpStill_nil ?_
          have hbdW : Lib.IsBuilderF 52 5 w2.heap.size w2.heap.size (Lib.byteCells o) W := isb_dr HBDX hD
          go_wp2_with fail
          refine (bwrite_any _ _ _ T.base[l[m].toNat] _ hbdW (by have := HS.out; simp [Lib.byteCells]; omega) hBW.size).mono ?_
          rintro e w4 ⟨rfl, hbd4, hB4⟩
          have hs4 := HS.out
          have hB5 : Below w2.heap.size w2 w4 := hBW.trans hB4
          rw [bc_app] at hbd4
          have HE2 : Hid ((o ++ T.base[l[m].toNat].data.toList) ++ encB T (l.drop (m + 1)) = encB T l) := by unfold Hid; rw [List.append_assoc, ← HE.out]; exact ho.out
          clear g0 g2 g3 HBX GE0 GF2 HBDX
          by_cases hc2 : c' = 1
          · subst hc2
            go_wp2
            go_roundw
            case rel => exact ⟨m + 1, 0, _, _, o ++ T.base[l[m].toNat].data.toList, by omega, rfl, sl_nil' (by omega), by omega, HE2, by rw [List.length_append]; simp; omega, .inr hbd4, hB5⟩
            case measure => simp [slLen]; omega
          · go_wp2
            go_roundw
            case rel => exact ⟨m + 1, r - 1, _, _, o ++ T.base[l[m].toNat].data.toList, by omega, rfl, sl_adv hs 1, by omega, HE2, by rw [List.length_append]; simp; omega, .inr hbd4, hB5⟩
            case measure => simp [slLen]; omega
      · have hr00 : r = 0 := by omega
        have hml : m = l.length := by omega
        have HE : Hid (encB T l = o) := by unfold Hid; rw [← ho.out, hml, List.drop_length]; simp [encB]
        clear hml
        subst hr00
        go_wp2_with (go_at_call 24; refine (Try.Builder_String_any_f w2.heap.size w2.heap.size o _ hbd hB.size).mono ?_; rintro e w4 ⟨rfl, hbd4, hB4⟩)
        go_ret2
        have hB5 : Below w2.heap.size w2 w4 := hB.trans hB4
        exact ⟨ret_si (by rw [HR.out]; unfold encW; rw [HE.out]), hBb.trans (hB5.mono hBb.size)⟩
  · have HF := hidI hf
    have HO := hidI ho
    have HR := hidI (encA_out hf ho)
    clear hf ho
    go_enter Try.func7, Try.ntmps7
    go_wp2_with fail
    refine (lkFormed_any T p1 p2 c1 c2 _ (hin.below hB0)).mono ?_
    rintro e w1 ⟨rfl, hB1⟩
    rw [HF.out]
    have hBa := hB0.trans (hB1.mono hB0.size)
    have hb1 := b0.below hB1 (by simp)
    have f2 := hb1.at 2 rfl
    clear hB1 b0
    go_wp2_with fail
    refine (containsI58_any l (outB T.base.length) w.heap.size pl cl _ (hl.below hBa) (by omega) (fun x => lkEncode1_any x _ _ _ _ _ f2)).mono ?_
    rintro e w' ⟨rfl, rfl⟩
    rw [HO.out]
    go_wp2
    go_ret2
    exact ⟨ret_si HR.out, hBa⟩
end Go.Proofs.Ythfgdahooigifaa
