/-
  ChargePolarity: for every list of words and every number the law returns true, and its arguments read as they did.
-/
import Derived.Test.YtccdocnaijdcnaaPolarities
import Derived.Test.YtccdocnaijdcnaaWs
namespace Go.Proofs.Ytccdocnaijdcnaa
open Go.ChangeShapes Go.WideShapes Go.ChangeAt Go.RowKit

theorem polF_grows (m : List ByteArray) : ∀ y : Int × List Bool, ∃ t, (m.foldl polF y).2 = y.2 ++ t := by
  induction m with
  | nil => intro y; exact ⟨[], by simp⟩
  | cons s m ih =>
    intro y
    obtain ⟨t, ht⟩ := ih (polF y s)
    exact ⟨[inv y.1 s] ++ t, by rw [List.foldl_cons, ht]; simp [polF]⟩
theorem polS_get (x : Int) (l : List ByteArray) (k : Nat) (hk : k < l.length) : (polS x l).2[k]? = some (inv (polS x (l.take k)).1 l[k]) := by
  have h1 := polS_take x l k hk
  obtain ⟨t, ht⟩ := polF_grows (l.drop (k + 1)) (polS x (l.take (k + 1)))
  have h2 : polS x l = (l.drop (k + 1)).foldl polF (polS x (l.take (k + 1))) := by
    unfold polS; rw [← List.foldl_append, List.take_append_drop]
  have h3 : (polS x (l.take k)).2.length = k := by rw [polS_len, List.length_take]; omega
  rw [h2, ht, h1]
  simp [polF, h3]
theorem inv_abs (c : Int) (s : ByteArray) : inv c s = decide (iabs (c - dsp s) < iabs (c + dsp s)) := by
  unfold inv iabs; rw [decide_eq_decide]; omega
theorem abs_yes (c d : Int) (h : iabs (c - d) < iabs (c + d)) : iabs (c - d) = iabs (iabs c - iabs d) := by
  unfold iabs at *; omega
theorem abs_no (c d : Int) (h : ¬ iabs (c - d) < iabs (c + d)) : iabs (c + d) = iabs (iabs c - iabs d) := by
  unfold iabs at *; omega
theorem iabs_bd (x b : Int) (h1 : -b ≤ x) (h2 : x ≤ b) : 0 ≤ iabs x ∧ iabs x ≤ b := by unfold iabs; omega
theorem abs_q (x : Int) (w : World) (h1 : -1000000000000 ≤ x) (h2 : x ≤ 1000000000000) :
    Calls Try.prog 25 #[.int .i64 x] w fun e w' => e = .returned (.int .i64 (iabs x)) ∧ w' = w :=
  (abs_any x w h1 h2).mono fun _ _ ⟨a, b⟩ => ⟨a, b.symm⟩

/-- A word is not binary, too long, or of another length. -/
def badS (n : Nat) (s : ByteArray) : Bool := !bin s 40 || !((s.size : Int) == (n : Int))
theorem badS_f (n : Nat) (s : ByteArray) (h : bin s 40 = false) : badS n s = true := by simp [badS, h]
theorem badS_t (n : Nat) (s : ByteArray) (h : bin s 40 = true) : badS n s = !((s.size : Int) == (n : Int)) := by simp [badS, h]

set_option maxHeartbeats 400000 in
theorem polarity1_any (s : ByteArray) (l : List ByteArray) (p : Option Addr) (c B : Nat) (w : World) (hl : 0 < l.length) (hb : w.cell? ⟨B, 0, none⟩ = some (.slice p l.length c)) (hp : Sl w Value.string p l) (hs : s.size ≤ maxLen) :
    Calls Try.prog 22 #[.string s, .pointer (some ⟨B, 0, none⟩)] w fun e w' => e = .returned (.bool (badS l[0].size s)) ∧ Dr w w' := by
  cases hbin : bin s 40
  · have HB := hidI (badS_f l[0].size s hbin)
    have HX := hidI hbin
    clear hbin
    go_enter Try.func22, Try.ntmps22
    go_wp2_with fail
    refine (binary_any s 40 _ hs).mono ?_
    rintro e w' ⟨rfl, hD⟩
    rw [HX.out]
    go_wp2
    go_ret
    exact ⟨ret_bool HB.out.symm, hD⟩
  · have HB := hidI (badS_t l[0].size s hbin)
    have HX := hidI hbin
    clear hbin
    go_enter Try.func22, Try.ntmps22
    go_wp2_with fail
    refine (binary_any s 40 _ hs).mono ?_
    rintro e w' ⟨rfl, hD⟩
    rw [HX.out]
    have hb' := (hD.cell _).trans hb
    obtain ⟨b1, o1, rfl, hb1, hc1⟩ := (hp.dr hD).get 0 hl
    have e1 := hc1 0 hl
    rw [Nat.add_zero] at e1
    clear hc1
    go_wp2
    go_ret
    exact ⟨ret_bool HB.out.symm, hD⟩

set_option maxHeartbeats 400000 in
theorem indexSP_any (n : Nat) (l : List ByteArray) (hn : 0 < l.length → l[0]!.size = n) (p : Option Addr) (c B : Nat) (w : World) (hb : w.cell? ⟨B, 0, none⟩ = some (.slice p l.length c)) (hp : Sl w Value.string p l) (hl : l.length ≤ 9223372036854775807) (hz : ∀ j (hj : j < l.length), l[j].size ≤ maxLen) :
    Calls Try.prog 27 #[.slice p l.length c, .func (.func 22) #[] #[.pointer (some ⟨B, 0, none⟩)]] w fun e w' => e = .returned (.int .i64 (idxP (badS n) l)) ∧ Dr w w' := by
  have HNN := hidI hn
  clear hn
  go_enter Try.func27, Try.ntmps27
  go_wp2
  go_loopw [8] (fun i wr => ∃ k : Nat, k ≤ l.length ∧ i = .int .i64 k ∧ Hid (∀ j (hj : j < l.length), j < k → badS n l[j] = false) ∧ Dr w wr) (fun i _ => l.length - (intOf i).toNat)
  case atStart => exact ⟨0, by omega, rfl, fun _ _ h => by omega, Dr.refl _⟩
  case round =>
    obtain ⟨k, hk, rfl, hj, hD⟩ := hrel
    by_cases hlt : k < l.length
    · obtain ⟨b1, o1, rfl, hb1, hc1⟩ := (hp.dr hD).get k hlt
      have e1 := hc1 k hlt
      clear hc1
      have hbr := (hD.cell _).trans hb
      have HH : Hid (l[0].size = n) := by have := HNN.out (by omega); rwa [getElem!_pos l 0 (by omega)] at this
      have hzk := hz k hlt
      go_wp2_with fail
      refine (polarity1_any l[k] l _ c B _ (by omega) hbr (hp.dr hD) hzk).mono ?_
      rintro e w' ⟨rfl, hD'⟩
      rw [HH.out]
      go_wp2
      · have hh : badS n l[k] = true := ‹_›
        go_ret
        exact ⟨ret_int (idxP_hit _ l k hlt hj.out hh).symm, hD.trans hD'⟩
      · have hh : badS n l[k] = false := ‹_›
        go_roundw
        case rel => exact ⟨k + 1, by omega, by go_num, fun j h1 h2 => by
          rcases Nat.lt_succ_iff_lt_or_eq.1 h2 with h3 | h3
          · exact hj.out j h1 h3
          · subst h3; exact hh, hD.trans hD'⟩
        case measure => simp [intOf]; omega
    · have HM := hidI (idxP_miss (badS n) l (fun j h => hj.out j h (by omega)))
      go_wp2
      go_ret
      exact ⟨ret_int HM.out.symm, hD⟩

set_option maxHeartbeats 400000 in
theorem containsSP_any (n : Nat) (l : List ByteArray) (hn : 0 < l.length → l[0]!.size = n) (p : Option Addr) (c B : Nat) (w : World) (hb : w.cell? ⟨B, 0, none⟩ = some (.slice p l.length c)) (hp : Sl w Value.string p l) (hl : l.length ≤ 9223372036854775807) (hz : ∀ j (hj : j < l.length), l[j].size ≤ maxLen) :
    Calls Try.prog 8 #[.slice p l.length c, .func (.func 22) #[] #[.pointer (some ⟨B, 0, none⟩)]] w fun e w' => e = .returned (.bool (l.any (badS n))) ∧ Dr w w' := by
  have HA := hidI (idxP_any (badS n) l)
  go_enter Try.func8, Try.ntmps8
  go_wp2_with (go_at_call 27; refine (indexSP_any n l hn p c B _ hb hp hl hz).mono ?_; rintro e w' ⟨rfl, hD⟩)
  go_ret
  exact ⟨ret_bool HA.out, hD⟩

theorem none_bad (n : Nat) (l : List ByteArray) (h : l.any (badS n) = false) : ∀ j (hj : j < l.length), wchk 2 l[j].data.toList = 0 ∧ l[j].size = n ∧ l[j].size ≤ 40 := by
  intro j hj
  have := List.any_eq_false.1 h l[j] (List.getElem_mem hj)
  simp only [badS, bin, Bool.or_eq_true, Bool.not_eq_true', not_or, Bool.not_eq_false, Bool.and_eq_true, decide_eq_true_eq, beq_iff_eq] at this
  omega
theorem polS_b20 (w : Int) (l : List ByteArray) (k : Nat) (hj : ∀ j (hj : j < l.length), l[j].size ≤ 40) (hk : k ≤ l.length) (h1 : -32768 ≤ w) (h2 : w ≤ 32767) :
    -(40 * (k : Int) + 32768) ≤ (polS w (l.take k)).1 ∧ (polS w (l.take k)).1 ≤ 40 * k + 32768 := by
  induction k with
  | zero => simp [polS]; omega
  | succ k ih =>
    have := ih (by omega)
    rw [polS_take w l k (by omega)]
    have hd := dsp_bd l[k]
    have hs := hj k (by omega)
    simp only [polF]
    split <;> omega

set_option maxRecDepth 100000 in
set_option maxHeartbeats 1000000 in
theorem lawPolarity_any (l : List ByteArray) (p : Option Addr) (c : Nat) (x : Int) (w : World) (hl : l.length ≤ 9223372036854775807) (hp : Sl w Value.string p l) (hz : ∀ j (hj : j < l.length), l[j].size ≤ maxLen) (hx1 : -32768 ≤ x) (hx2 : x ≤ 32767) :
    Calls Try.prog 5 #[.slice p l.length c, .int .i16 x] w fun e w' => e = .returned (.bool true) ∧ Below w.heap.size w w' := by
  have hB0 : Below w.heap.size w (w.alloc (.cells #[.slice p l.length c] 22)) := (Below.refl _ w).alloc (Nat.le_refl _) _
  by_cases h1 : 20 < l.length
  · go_enter Try.func5, Try.ntmps5
    go_wp2_with (go_at_call 10; refine (awake_any _).mono ?_; rintro e w' ⟨rfl, hB⟩)
    go_ret
    exact ⟨rfl, hB0.trans (hB.mono (by simp))⟩
  cases hany : l.any (badS (l.headD ByteArray.empty).size)
  · have HA := hidI hany
    have HN := hidI (none_bad _ l hany)
    have HE := hidI (pol_ok x l (by omega) (by omega) (by omega) (chkL_ok _ l (fun j h => ⟨(HN.out j h).1, (HN.out j h).2.1⟩)))
    clear hany
    have b0 : Boxed (w.alloc (.cells #[.slice p l.length c] 22)) w.heap.size 22 (.slice p l.length c) := Boxed.new w 22 _
    go_enter Try.func5, Try.ntmps5
    go_wp2_with fail
    refine (containsSP_any (l.headD ByteArray.empty).size l (fun h => by rw [getElem!_pos l 0 h, headD_size l h]) p c w.heap.size _ b0.cell (hp.below hB0) hl hz).mono ?_
    rintro e w1 ⟨rfl, hD1⟩
    rw [HA.out]
    have hB1 := hB0.trans ((hD1.below w.heap.size))
    have c1 := (hD1.cell _).trans b0.cell
    have z1 : w.heap.size < w1.heap.size := Nat.lt_of_lt_of_le (by simp) (hD1.below 0).size
    clear b0
    go_wp2_with fail
    refine (polar_any l p c x _ hl (hp.below hB1) hz).mono ?_
    rintro e w2 ⟨q, d, rfl, hs2, hB2⟩
    rw [HE.out.1, HE.out.2, polS_len]
    rw [HE.out.2] at hs2
    have hB12 := hB1.trans (hB2.mono hB1.size)
    have c2 := (hB2.cell (p := ⟨w.heap.size, 0, none⟩) z1).trans c1
    have hp2 := hp.below hB12
    clear c1 hB1 hB2
    go_wp2
    go_loopw [7, 42] (fun cv iv wr => ∃ k : Nat, k ≤ l.length ∧ iv = .int .i64 k ∧ cv = .int .i64 (polS x (l.take k)).1 ∧ Dr w2 wr) (fun _ iv _ => l.length - (intOf iv).toNat)
    case atStart => exact ⟨0, by omega, rfl, rfl, Dr.refl _⟩
    case round =>
      obtain ⟨k, hk, rfl, rfl, hD⟩ := hrel
      have hbd := polS_b20 x l k (fun j h => (HN.out j h).2.2) hk hx1 hx2
      by_cases hlt : k < l.length
      · have hst := hidI (congrArg Prod.fst (polS_take x l k hlt))
        have hg := hidI (polS_get x l k hlt)
        have hsz := (HN.out k hlt).2.2
        have hdis : Hid (dis l[k] = (dsp l[k], 0)) := by unfold Hid dis; rw [if_neg (by simp [(HN.out k hlt).1])]
        have hzk := hz k hlt
        have hdd := dsp_bd l[k]
        obtain ⟨b1, o1, rfl, hb1, hc1⟩ := (hp2.dr hD).get k hlt
        have e1 := hc1 k hlt
        clear hc1
        have hkr : k < (polS x l).2.length := by rw [polS_len]; exact hlt
        obtain ⟨b2, o2, rfl, hb2, hc2⟩ := hs2.get k hkr
        have hg' : (polS x l).2[k] = inv (polS x (l.take k)).1 l[k] := by have := hg.out; rw [List.getElem?_eq_getElem hkr] at this; exact Option.some.inj this
        have e2 := hc2 k hkr
        rw [hg', inv_abs] at e2
        clear hc2 hg' hg
        have hpf : Hid ((polS x (l.take (k + 1))).1 = (polS x (l.take k)).1 + (if iabs ((polS x (l.take k)).1 - dsp l[k]) < iabs ((polS x (l.take k)).1 + dsp l[k]) then -(dsp l[k]) else dsp l[k])) := by
          unfold Hid; rw [hst.out]; simp only [polF, inv_abs, decide_eq_true_eq]
        clear hst
        obtain ⟨y', hy'⟩ : ∃ y', (polS x (l.take (k + 1))).1 = y' := ⟨_, rfl⟩
        rw [hy'] at hpf
        have HY0 := hidI hy'
        clear hy'
        generalize (polS x (l.take k)).1 = y at *
        generalize l[k] = s at *
        go_wp2_with fail
        refine (disparity_any s _ hzk).mono ?_
        rintro e w3 ⟨rfl, hD3⟩
        rw [hdis.out]
        clear hdis
        generalize dsp s = d at *
        have e2' := (hD3.cell ⟨b2, o2 + k, none⟩).trans ((hD.cell ⟨b2, o2 + k, none⟩).trans e2)
        clear e2
        have hyb : -40000 ≤ y ∧ y ≤ 40000 := by omega
        have hdb : -40 ≤ d ∧ d ≤ 40 := by omega
        clear hbd hdd hsz
        have ia := iabs_bd y 40000 (by omega) (by omega)
        have ib := iabs_bd d 40 (by omega) (by omega)
        have hD0 := hD.trans hD3
        by_cases hi : iabs (y - d) < iabs (y + d)
        · have HY : Hid (y' = y - d) := by unfold Hid; rw [hpf.out, if_pos hi]; omega
          have hq : (iabs (y - d) == iabs (iabs y - iabs d)) = true := by simpa using abs_yes y d hi
          rw [decide_eq_true hi] at e2'
          clear hpf
          go_wp2
          have q1 : IntKind.i64.wrap (y - d) = y - d := IntWalk.i64_in _ (by omega)
          have q2 : IntKind.i64.wrap (y + d) = y + d := IntWalk.i64_in _ (by omega)
          go_quiet ((go_at_call 25; exact Calls.quiet_of_same (abs_q _ _ (by omega) (by omega))))
          clear q1 q2
          go_wp2_with (go_at_call 25; refine (abs_any _ _ (by omega) (by omega)).mono ?_; rintro e w' ⟨rfl, rfl⟩)
          go_roundw
          case rel => exact ⟨k + 1, by omega, by go_num, int_eq (HY.out.symm.trans HY0.out.symm), hD0.one _⟩
          case measure => simp [intOf]; omega
        · have HY : Hid (y' = y + d) := by unfold Hid; rw [hpf.out, if_neg hi]
          have hq : (iabs (y + d) == iabs (iabs y - iabs d)) = true := by simpa using abs_no y d hi
          rw [decide_eq_false hi] at e2'
          clear hpf
          go_wp2
          have q1 : IntKind.i64.wrap (y - d) = y - d := IntWalk.i64_in _ (by omega)
          have q2 : IntKind.i64.wrap (y + d) = y + d := IntWalk.i64_in _ (by omega)
          go_quiet ((go_at_call 25; exact Calls.quiet_of_same (abs_q _ _ (by omega) (by omega))))
          clear q1 q2
          go_wp2_with (go_at_call 25; refine (abs_any _ _ (by omega) (by omega)).mono ?_; rintro e w' ⟨rfl, rfl⟩)
          go_roundw
          case rel => exact ⟨k + 1, by omega, by go_num, int_eq (HY.out.symm.trans HY0.out.symm), hD0.one _⟩
          case measure => simp [intOf]; omega
      · obtain rfl : k = l.length := by omega
        go_wp2_with (go_at_call 10; refine (awake_any _).mono ?_; rintro e w' ⟨rfl, hB⟩)
        go_ret
        exact ⟨rfl, hB12.trans ((hD.below _).trans (hB.mono (Nat.le_trans hB12.size (hD.below 0).size)))⟩
  · have HA := hidI hany
    clear hany
    have b0 : Boxed (w.alloc (.cells #[.slice p l.length c] 22)) w.heap.size 22 (.slice p l.length c) := Boxed.new w 22 _
    go_enter Try.func5, Try.ntmps5
    go_wp2_with fail
    refine (containsSP_any (l.headD ByteArray.empty).size l (fun h => by rw [getElem!_pos l 0 h, headD_size l h]) p c w.heap.size _ b0.cell (hp.below hB0) hl hz).mono ?_
    rintro e w1 ⟨rfl, hD1⟩
    rw [HA.out]
    go_wp2_with (go_at_call 10; refine (awake_any _).mono ?_; rintro e w' ⟨rfl, hB⟩)
    go_ret
    exact ⟨rfl, (hB0.trans (hD1.below _)).trans (hB.mono (Nat.le_trans (by simp) (hD1.below 0).size))⟩

theorem readI16 : Try.prog.readableRec 39 = true ∧ 39 < Try.prog.types.size := ⟨by kernel_rfl, of_decide_eq_true (by kernel_rfl)⟩

set_option maxRecDepth 100000 in
theorem polarity_lifted (os : Os) (started : os.Started) (H : Type) (enc : TypeId × Value → H) :
    ReturnsInHanded {} Try.checked os 5 .any (Rows.chargePolaritySpec.pre6 enc Try.prog Try.f5 Rows.chargePolarityRow.domain false) (Rows.chargePolaritySpec.post enc Try.prog Try.f5 false true false false) := by
  refine returnsInHanded_of_change (C := Try.checked) own started (by kernel_rfl) Try.func5
    (ChangeSpec.witness6 (enc := enc) (C := Try.checked) false ⟨#[], #[.slice none 0 0, .int .i16 0], []⟩ 8 (by kernel_rfl) (by kernel_rfl) (by kernel_rfl) (by kernel_rfl)) ?_
  intro W base args ds gs before hval0 hW hcnd _
  have hval : ∀ (j : Nat) t v, Try.f5.params[j]? = some t → args[j]? = some v → Value.okWide Try.prog W .any base t v := hval0
  have hW' := hW
  obtain ⟨p, q, hA0, hV, rfl, hfz, hnd⟩ := hW
  have hA : DataW.TrodAll enc Try.prog W 0 (fun _ => true) true Try.f5.params.toList args.toList ds p := hA0
  rw [Try.params5] at hA hval
  obtain ⟨v0, v1, d0, d1, p0, p1, rfl, rfl, rfl, h0, h1⟩ := trodAll_two hA
  obtain ⟨rfl, rfl⟩ := trodVars_none hV
  have hlt : ∀ x ∈ p0, x.block < W.heap.size := fun x hx => hW'.lt x (List.mem_append_left _ (List.mem_append_left _ hx))
  obtain ⟨pa, l, c, rfl, hsl, hz, hl⟩ := strings_in (hval 0 22 v0 rfl rfl) h0 hlt
  obtain ⟨x, rfl, rfl, rfl, wx⟩ := open_int Try.underlying39 (hval 1 39 v1 rfl rfl) h1
  have hb := bounds_i16 wx
  refine (lawPolarity_any l pa c x W hl hsl hz hb.1 hb.2).mono fun e W' ⟨he, hB⟩ => ?_
  subst he
  refine ⟨_, rfl, law_post hW' rfl (by kernel_rfl) ?_ rfl rfl rfl hB⟩
  rw [Try.params5]
  intro t ht
  simp only [List.mem_cons, List.not_mem_nil, or_false] at ht
  rcases ht with rfl | rfl
  · exact readStrings
  · exact readI16

theorem chargePolarity_holds : Rows.ChargePolaritySaid :=
  OpenClaim.holds_of_wide 5 Try.f5 rfl rfl rfl rfl rfl rfl rfl ⟨rfl, rfl, rfl, rfl, rfl⟩ rfl rfl rfl rfl rfl (by kernel_rfl) Try.func5 (by kernel_rfl)
    (of_decide_eq_true (by kernel_rfl)) (by unfold Func.isWrapper; rw [if_neg (of_decide_eq_false (by kernel_rfl))]; exact ⟨rfl, rfl⟩)
    (fun os started H enc _ => polarity_lifted os started H enc)
#print axioms chargePolarity_holds
end Go.Proofs.Ytccdocnaijdcnaa
