/-
  ChargeSpectrum: for every number and every string the law returns true, and its arguments read as they did.
-/
import Derived.Test.YtccdocnaijdcnaaPlainS
import Derived.Test.YtccdocnaijdcnaaWn
import Derived.Test.YtccdocnaijdcnaaWs
import Derived.Test.YtccdocnaijdcnaaWr
import Derived.Test.YtccdocnaijdcnaaLaw
namespace Go.Proofs.Ytccdocnaijdcnaa
open Go.ChangeShapes Go.WideShapes Go.ChangeAt Go.RowKit
open Go.ChangeMaps (open_string shut_string)

theorem spe4 (s : ByteArray) (h : wchk 2 s.data.toList = 0) : ∃ A0 A1 A2 A3 : Int,
    (spe 0 s = (A0 + A1 + A2 + A3, 0, 0) ∧ spe 1 s = (A0 - A2, A1 - A3, 0) ∧ spe 2 s = (A0 + A2 - (A1 + A3), 0, 0) ∧ spe 3 s = (A0 - A2, A3 - A1, 0)) ∧
    dsp s = A0 + A1 + A2 + A3 ∧ Su (vAt true s) s.size = A0 + A2 - (A1 + A3) ∧ A0 = Pa 1 (vAt false s) 0 s.size ∧
    (-(s.size : Int) ≤ A0 ∧ A0 ≤ s.size) ∧ (-(s.size : Int) ≤ A1 ∧ A1 ≤ s.size) ∧ (-(s.size : Int) ≤ A2 ∧ A2 ≤ s.size) ∧ (-(s.size : Int) ≤ A3 ∧ A3 ≤ s.size) := by
  obtain ⟨t1, t2, t3, t4, t5, t6, t7, t8, t9, t10, t11, t12, t13⟩ := Pa_tab (vAt false s) s.size
  refine ⟨Pa 1 (vAt false s) 0 s.size, Pa 1 (vAt false s) 1 s.size, Pa 1 (vAt false s) 2 s.size, Pa 1 (vAt false s) 3 s.size, ⟨?_, ?_, ?_, ?_⟩, ?_, ?_, rfl, Pa_bd 1 _ 0 (vAt_bd false s) _, Pa_bd 1 _ 1 (vAt_bd false s) _, Pa_bd 1 _ 2 (vAt_bd false s) _, Pa_bd 1 _ 3 (vAt_bd false s) _⟩
  · rw [spe_ok 0 s (by omega) (by omega) h, t1, t2, t3, t4]; simp; omega
  · rw [spe_ok 1 s (by omega) (by omega) h]
  · rw [spe_ok 2 s (by omega) (by omega) h, t5, t6, t7, t8]; simp
  · rw [spe_ok 3 s (by omega) (by omega) h, t9, t10, t11, t12]
  · unfold dsp; omega
  · rw [Su_alt, t7, t8]

theorem bin_t (s : ByteArray) (n : Int) (h : bin s n = true) : s.size ≤ n ∧ wchk 2 s.data.toList = 0 := by
  simp only [bin, Bool.and_eq_true, decide_eq_true_eq, beq_iff_eq] at h; exact h

set_option maxRecDepth 100000 in
set_option maxHeartbeats 2000000 in
theorem lawSpectrum_any (n : Int) (s : ByteArray) (w : World) (hn0 : 0 ≤ n) (hn1 : n ≤ 255) (hs : s.size ≤ maxLen) :
    Calls Try.prog 6 #[.int .u8 n, .string s] w fun e w' => e = .returned (.bool true) ∧ Below w.heap.size w w' := by
  cases hb : bin s 60
  · have HB := hidI hb
    clear hb
    go_enter Try.func6, Try.ntmps6
    go_wp2_with fail
    refine (binary_any s 60 _ hs).mono ?_
    rintro e w1 ⟨rfl, hD⟩
    rw [HB.out]
    go_wp2_with (go_at_call 10; refine (awake_any _).mono ?_; rintro e w' ⟨rfl, hB⟩)
    go_ret
    exact ⟨rfl, (hD.below _).trans (hB.mono (hD.below 0).size)⟩
  · have HB := hidI hb
    obtain ⟨hl, hok⟩ := bin_t s 60 hb
    obtain ⟨A0, A1, A2, A3, ⟨s0, s1, s2, s3⟩, hd, halt, hA0, b0, b1, b2, b3⟩ := spe4 s hok
    have S0 := hidI s0; have S1 := hidI s1; have S2 := hidI s2; have S3 := hidI s3
    have HD := hidI hd; have HT := hidI halt; have HA := hidI hA0; have HK := hidI hok
    clear hb s0 s1 s2 s3 hd halt hA0 hok
    go_enter Try.func6, Try.ntmps6
    go_wp2_with fail
    refine (binary_any s 60 _ hs).mono ?_
    rintro e w1 ⟨rfl, hD⟩
    rw [HB.out]
    go_wp2_with fail
    refine wp_loop_rounds 5 ?_
    rw [rounds_succ]
    go_wp2_with fail
    refine (spectrum_any 0 s _ hs).mono ?_
    rintro e w2 ⟨rfl, hB2⟩
    rw [S0.out]
    have r0 : VRow w2 w1.heap.size 44 [.int .i64 0, .int .i64 0, .int .i64 0, .int .i64 0] := ((VRow.new w1 44 _).alloc _).below hB2 (by simp; omega)
    have r1 : VRow w2 (w1.heap.size + 1) 44 [.int .i64 0, .int .i64 0, .int .i64 0, .int .i64 0] := by
      have h := VRow.new (w1.alloc (.cells #[.int .i64 0, .int .i64 0, .int .i64 0, .int .i64 0] 44)) 44 [.int .i64 0, .int .i64 0, .int .i64 0, .int .i64 0]
      rw [World.size_alloc] at h
      exact h.below hB2 (by simp)
    have c0 := r0.cell 0; have c1 := r1.cell 0
    have f0 := r0.frozen 0; have f1 := r1.frozen 0
    simp only [List.getElem?_cons_zero] at c0 c1
    have z2 : w1.heap.size + 2 ≤ w2.heap.size := by have := hB2.size; simp at this; omega
    go_wp2_with fail
    rw [rounds_succ]
    go_wp2_with fail
    refine (spectrum_any 1 s _ hs).mono ?_
    rintro e w3 ⟨rfl, hB3⟩
    rw [S1.out]
    replace r0 : VRow w3 w1.heap.size 44 [.int .i64 (A0 + A1 + A2 + A3), .int .i64 0, .int .i64 0, .int .i64 0] := (((r0.set (i := 0) (.int .i64 (A0 + A1 + A2 + A3))).other (C := w1.heap.size + 1) (i := 0) (.int .i64 (0)) (by omega))).below hB3 (by simp; omega)
    replace r1 : VRow w3 (w1.heap.size + 1) 44 [.int .i64 (0), .int .i64 0, .int .i64 0, .int .i64 0] := (((r1.other (C := w1.heap.size) (i := 0) (.int .i64 (A0 + A1 + A2 + A3)) (by omega)).set (i := 0) (.int .i64 (0)))).below hB3 (by simp; omega)
    clear c0 c1 f0 f1
    have c0 := r0.cell 1; have c1 := r1.cell 1
    have f0 := r0.frozen 1; have f1 := r1.frozen 1
    simp only [List.getElem?_cons_zero, List.getElem?_cons_succ] at c0 c1
    have z3 : w1.heap.size + 2 ≤ w3.heap.size := by have := hB3.size; simp at this; omega
    go_wp2_with fail
    rw [rounds_succ]
    go_wp2_with fail
    refine (spectrum_any 2 s _ hs).mono ?_
    rintro e w4 ⟨rfl, hB4⟩
    rw [S2.out]
    replace r0 : VRow w4 w1.heap.size 44 [.int .i64 (A0 + A1 + A2 + A3), .int .i64 (A0 - A2), .int .i64 0, .int .i64 0] := (((r0.set (i := 1) (.int .i64 (A0 - A2))).other (C := w1.heap.size + 1) (i := 1) (.int .i64 (A1 - A3)) (by omega))).below hB4 (by simp; omega)
    replace r1 : VRow w4 (w1.heap.size + 1) 44 [.int .i64 (0), .int .i64 (A1 - A3), .int .i64 0, .int .i64 0] := (((r1.other (C := w1.heap.size) (i := 1) (.int .i64 (A0 - A2)) (by omega)).set (i := 1) (.int .i64 (A1 - A3)))).below hB4 (by simp; omega)
    clear c0 c1 f0 f1
    have c0 := r0.cell 2; have c1 := r1.cell 2
    have f0 := r0.frozen 2; have f1 := r1.frozen 2
    simp only [List.getElem?_cons_zero, List.getElem?_cons_succ] at c0 c1
    have z4 : w1.heap.size + 2 ≤ w4.heap.size := by have := hB4.size; simp at this; omega
    go_wp2_with fail
    rw [rounds_succ]
    go_wp2_with fail
    refine (spectrum_any 3 s _ hs).mono ?_
    rintro e w5 ⟨rfl, hB5⟩
    rw [S3.out]
    replace r0 : VRow w5 w1.heap.size 44 [.int .i64 (A0 + A1 + A2 + A3), .int .i64 (A0 - A2), .int .i64 (A0 + A2 - (A1 + A3)), .int .i64 0] := (((r0.set (i := 2) (.int .i64 (A0 + A2 - (A1 + A3)))).other (C := w1.heap.size + 1) (i := 2) (.int .i64 (0)) (by omega))).below hB5 (by simp; omega)
    replace r1 : VRow w5 (w1.heap.size + 1) 44 [.int .i64 (0), .int .i64 (A1 - A3), .int .i64 (0), .int .i64 0] := (((r1.other (C := w1.heap.size) (i := 2) (.int .i64 (A0 + A2 - (A1 + A3))) (by omega)).set (i := 2) (.int .i64 (0)))).below hB5 (by simp; omega)
    clear c0 c1 f0 f1
    have c0 := r0.cell 3; have c1 := r1.cell 3
    have f0 := r0.frozen 3; have f1 := r1.frozen 3
    simp only [List.getElem?_cons_zero, List.getElem?_cons_succ] at c0 c1
    have z5 : w1.heap.size + 2 ≤ w5.heap.size := by have := hB5.size; simp at this; omega
    go_wp2_with fail
    replace r0 : VRow ((w5.setCell ⟨w1.heap.size, 3, none⟩ (.int .i64 (A0 - A2))).setCell ⟨w1.heap.size + 1, 3, none⟩ (.int .i64 (A3 - A1))) w1.heap.size 44 [.int .i64 (A0 + A1 + A2 + A3), .int .i64 (A0 - A2), .int .i64 (A0 + A2 - (A1 + A3)), .int .i64 (A0 - A2)] :=
      (r0.set (i := 3) (.int .i64 (A0 - A2))).other (C := w1.heap.size + 1) (i := 3) (.int .i64 (A3 - A1)) (by omega)
    replace r1 : VRow ((w5.setCell ⟨w1.heap.size, 3, none⟩ (.int .i64 (A0 - A2))).setCell ⟨w1.heap.size + 1, 3, none⟩ (.int .i64 (A3 - A1))) (w1.heap.size + 1) 44 [.int .i64 0, .int .i64 (A1 - A3), .int .i64 0, .int .i64 (A3 - A1)] :=
      (r1.other (C := w1.heap.size) (i := 3) (.int .i64 (A0 - A2)) (by omega)).set (i := 3) (.int .i64 (A3 - A1))
    clear c0 c1 f0 f1
    have z6 : w5.heap.size = ((w5.setCell ⟨w1.heap.size, 3, none⟩ (.int .i64 (A0 - A2))).setCell ⟨w1.heap.size + 1, 3, none⟩ (.int .i64 (A3 - A1))).heap.size := by simp
    have hB6 : Below w1.heap.size w5 ((w5.setCell ⟨w1.heap.size, 3, none⟩ (.int .i64 (A0 - A2))).setCell ⟨w1.heap.size + 1, 3, none⟩ (.int .i64 (A3 - A1))) :=
      ((Below.refl _ _).setCell (p := ⟨w1.heap.size, 3, none⟩) (Nat.le_refl _) _).setCell (p := ⟨w1.heap.size + 1, 3, none⟩) (Nat.le_succ _) _
    generalize ((w5.setCell ⟨w1.heap.size, 3, none⟩ (.int .i64 (A0 - A2))).setCell ⟨w1.heap.size + 1, 3, none⟩ (.int .i64 (A3 - A1))) = W at r0 r1 z6 hB6 ⊢
    rw [rounds_succ]
    go_wp2_with fail
    go_loop [14, 15] (fun sm i => ∃ k j : Nat, j = 4 * k ∧ j ≤ s.size + 3 ∧ i = .int .i64 j ∧ sm = .int .i64 (q4 (vAt false s) k)) (fun _ i => s.size + 3 - (intOf i).toNat)
    case atStart => exact ⟨0, 0, rfl, by omega, rfl, rfl⟩
    case round =>
      obtain ⟨k, j, hj, hjs, rfl, rfl⟩ := hrel
      have hq := q4_bd _ (vAt_bd false s) k
      have hq2 : -70 ≤ q4 (vAt false s) k ∧ q4 (vAt false s) k ≤ 70 := by omega
      clear hq
      by_cases hlt : j < s.size
      · have hv := hidI (vAt_f s j hlt)
        have hjj := hidI hj
        clear hj
        rcases vals_bin s HK.out j hlt with hc | hc
        · have hx : vAt false s (4 * k) = -1 := by rw [← hjj.out, hv.out, hc]; rfl
          have hq1 : q4 (vAt false s) (k + 1) = q4 (vAt false s) k + vAt false s (4 * k) := rfl
          go_wp2
          go_round
          case rel => exact ⟨k + 1, j + 4, by have := hjj.out; omega, by omega, int_eq (by omega), int_eq (by rw [hq1, hx])⟩
          case measure => simp [intOf]; omega
        · have hx : vAt false s (4 * k) = 1 := by rw [← hjj.out, hv.out, hc]; rfl
          have hq1 : q4 (vAt false s) (k + 1) = q4 (vAt false s) k + vAt false s (4 * k) := rfl
          go_wp2
          go_round
          case rel => exact ⟨k + 1, j + 4, by have := hjj.out; omega, by omega, int_eq (by omega), int_eq (by rw [hq1, hx])⟩
          case measure => simp [intOf]; omega
      · have hF : q4 (vAt false s) k = A0 := (q4_Pa _ k s.size (by omega) (by omega)).trans HA.out.symm
        rw [hF]
        clear hF hq2 hj hjs
        go_wp2_with fail
        refine (disparity_any s _ hs).mono ?_
        rintro e w6 ⟨rfl, hB7⟩
        have HDis : dis s = (A0 + A1 + A2 + A3, 0) := by unfold dis; rw [if_neg (by simp [HK.out]), HD.out]
        rw [HDis]
        clear HDis
        go_wp2_with fail
        refine (valid_any _ s _ hs).mono ?_
        rintro e w7 ⟨rfl, hB8⟩
        rw [vld_ok false 63 (1 + n % 30) s (by omega) (by omega) HK.out]
        have ha : decide (wid false s ≤ 1 + n % 30) = true → -(1 + n % 30) ≤ A0 + A1 + A2 + A3 ∧ A0 + A1 + A2 + A3 ≤ 1 + n % 30 := fun h => by
          have := wid_Su false s _ (of_decide_eq_true h); rw [show Su (vAt false s) s.size = dsp s from rfl, HD.out] at this; exact this
        generalize decide (wid false s ≤ 1 + n % 30) = a at ha ⊢
        have HAA := hidI ha; clear ha
        go_wp2_with fail
        refine (nullv_any _ s _ hs).mono ?_
        rintro e w8 ⟨rfl, hB9⟩
        rw [vld_ok true 31 (1 + n % 30) s (by omega) (by omega) HK.out]
        have hb : decide (wid true s ≤ 1 + n % 30) = true → -(1 + n % 30) ≤ A0 + A2 - (A1 + A3) ∧ A0 + A2 - (A1 + A3) ≤ 1 + n % 30 := fun h => by
          have := wid_Su true s _ (of_decide_eq_true h); rw [HT.out] at this; exact this
        generalize decide (wid true s ≤ 1 + n % 30) = b at hb ⊢
        have HBB := hidI hb; clear hb
        have y6 : w1.heap.size + 2 ≤ w6.heap.size := by have := (hB7.below 0).size; omega
        have y7 : w1.heap.size + 2 ≤ w7.heap.size := by have := hB8.size; omega
        replace r0 := ((r0.below (hB7.below W.heap.size) (by omega)).below hB8 (by omega)).below hB9 (by omega)
        replace r1 := ((r1.below (hB7.below W.heap.size) (by omega)).below hB8 (by omega)).below hB9 (by omega)
        have k2 : Below w1.heap.size w1 w2 := (((Below.refl _ w1).alloc (Nat.le_refl _) _).alloc (by simp) _).trans (hB2.mono (by simp; omega))
        have k3 : Below w1.heap.size w2 w3 := (((Below.refl _ _).setCell (p := ⟨w1.heap.size, 0, none⟩) (Nat.le_refl _) _).setCell (p := ⟨w1.heap.size + 1, 0, none⟩) (Nat.le_succ _) _).trans (hB3.mono (by simp; omega))
        have k4 : Below w1.heap.size w3 w4 := (((Below.refl _ _).setCell (p := ⟨w1.heap.size, 1, none⟩) (Nat.le_refl _) _).setCell (p := ⟨w1.heap.size + 1, 1, none⟩) (Nat.le_succ _) _).trans (hB4.mono (by simp; omega))
        have k5 : Below w1.heap.size w4 w5 := (((Below.refl _ _).setCell (p := ⟨w1.heap.size, 2, none⟩) (Nat.le_refl _) _).setCell (p := ⟨w1.heap.size + 1, 2, none⟩) (Nat.le_succ _) _).trans (hB5.mono (by simp; omega))
        have hall : Below w.heap.size w w8 := by
          have hz : w1.heap.size = w.heap.size := by obtain ⟨k, rfl⟩ := hD; rfl
          rw [← hz]
          exact (hD.below _).trans (k2.trans (k3.trans (k4.trans (k5.trans (hB6.trans ((hB7.below _).trans ((hB8.mono (by omega)).trans (hB9.mono (by omega)))))))))
        have c00 := r0.cell 0; have c01 := r0.cell 1; have c02 := r0.cell 2; have c03 := r0.cell 3
        have c10 := r1.cell 0; have c11 := r1.cell 1; have c12 := r1.cell 2; have c13 := r1.cell 3
        simp only [List.getElem?_cons_zero, List.getElem?_cons_succ] at c00 c01 c02 c03 c10 c11 c12 c13
        clear hB2 hB3 hB4 hB5 hB6 hB7 hB8 hB9 k2 k3 k4 k5
        have hA' : a = false ∨ iabs (A0 + A1 + A2 + A3) ≤ 1 + n % 30 := by
          cases a
          · exact .inl rfl
          · exact .inr (by have := HAA.out rfl; unfold iabs; omega)
        have hB' : b = false ∨ iabs (A0 + A2 - (A1 + A3)) ≤ 1 + n % 30 := by
          cases b
          · exact .inl rfl
          · exact .inr (by have := HBB.out rfl; unfold iabs; omega)
        clear HAA HBB
        rcases hA' with rfl | hA' <;> rcases hB' with rfl | hB'
        all_goals go_wp2_with (first | (go_at_call 25; refine (abs_any _ _ (by omega) (by omega)).mono ?_; rintro e w' ⟨rfl, rfl⟩) | (go_at_call 10; refine (awake_any _).mono ?_; rintro e w' ⟨rfl, hB⟩))
        all_goals go_ret
        all_goals exact ⟨rfl, hall.trans (hB.mono hall.size)⟩
theorem readU8 : Try.prog.readableRec 5 = true ∧ 5 < Try.prog.types.size := ⟨by kernel_rfl, of_decide_eq_true (by kernel_rfl)⟩
theorem readString' : Try.prog.readableRec 9 = true ∧ 9 < Try.prog.types.size := ⟨by kernel_rfl, of_decide_eq_true (by kernel_rfl)⟩

set_option maxRecDepth 100000 in
theorem spectrum_lifted (os : Os) (started : os.Started) (H : Type) (enc : TypeId × Value → H) :
    ReturnsInHanded {} Try.checked os 6 .any (Rows.chargeSpectrumSpec.pre6 enc Try.prog Try.f6 Rows.chargeSpectrumRow.domain false) (Rows.chargeSpectrumSpec.post enc Try.prog Try.f6 false true false false) := by
  refine returnsInHanded_of_change (C := Try.checked) own started (by kernel_rfl) Try.func6
    (ChangeSpec.witness6 (enc := enc) (C := Try.checked) false ⟨#[], #[.int .u8 0, .string ByteArray.empty], []⟩ 8 (by kernel_rfl) (by kernel_rfl) (by kernel_rfl) (by kernel_rfl)) ?_
  intro W base args ds gs before hval0 hW hcnd _
  have hval : ∀ (j : Nat) t v, Try.f6.params[j]? = some t → args[j]? = some v → Value.okWide Try.prog W .any base t v := hval0
  have hW' := hW
  obtain ⟨p, q, hA0, hV, rfl, hfz, hnd⟩ := hW
  have hA : DataW.TrodAll enc Try.prog W 0 (fun _ => true) true Try.f6.params.toList args.toList ds p := hA0
  rw [Try.params6] at hA hval
  obtain ⟨v0, v1, d0, d1, p0, p1, rfl, rfl, rfl, h0, h1⟩ := trodAll_two hA
  obtain ⟨rfl, rfl⟩ := trodVars_none hV
  obtain ⟨a0, rfl, rfl, rfl, w0⟩ := open_int Try.underlying5 (hval 0 5 v0 rfl rfl) h0
  obtain ⟨a1, rfl, rfl, rfl, w1⟩ := open_string Try.underlying9 (hval 1 9 v1 rfl rfl) h1
  have hb := bounds_u8 w0
  refine (lawSpectrum_any a0 a1 W hb.1 hb.2 w1).mono fun e W' ⟨he, hB⟩ => ?_
  subst he
  refine ⟨_, rfl, law_post hW' rfl (by kernel_rfl) ?_ rfl rfl rfl hB⟩
  rw [Try.params6]
  intro t ht
  simp only [List.mem_cons, List.not_mem_nil, or_false] at ht
  rcases ht with rfl | rfl
  · exact readU8
  · exact readString'

theorem chargeSpectrum_holds : Rows.ChargeSpectrumSaid :=
  OpenClaim.holds_of_wide 6 Try.f6 rfl rfl rfl rfl rfl rfl rfl ⟨rfl, rfl, rfl, rfl, rfl⟩ rfl rfl rfl rfl rfl (by kernel_rfl) Try.func6 (by kernel_rfl)
    (of_decide_eq_true (by kernel_rfl)) (by unfold Func.isWrapper; rw [if_neg (of_decide_eq_false (by kernel_rfl))]; exact ⟨rfl, rfl⟩)
    (fun os started H enc _ => spectrum_lifted os started H enc)
#print axioms chargeSpectrum_holds
end Go.Proofs.Ytccdocnaijdcnaa
