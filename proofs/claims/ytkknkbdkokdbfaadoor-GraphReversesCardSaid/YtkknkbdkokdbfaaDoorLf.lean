/-
  Walks: the statement GraphReverses (door seat).
-/
import Derived.Test.YtkknkbdkokdbfaaDoorLb
import Derived.Test.YtkknkbdkokdbfaaDoorHj
namespace Go.Proofs.YtkknkbdkokdbfaaDoor
open Go.RowKit Go.Sort Go.Shelf Go.Lib

theorem u8_bd {n : Int} (h : (Lit.int .u8 n).wf = true) : 0 ≤ n ∧ n ≤ 255 := by
  simp [Lit.wf, IntKind.min, IntKind.max, IntKind.signed, IntKind.bits] at h
  omega
theorem retLi_open {r : List Int} {k : Int} {w w' : World} {e : Ending} (h : RetLi r k w e w') : ∃ p c, e = .returned (.tuple #[.slice p r.length c, .int .i64 k]) ∧ Sl w' (Value.int .i64) p r ∧ RowKit.Below w.heap.size w w' := by
  obtain ⟨p, m, c, rfl, ho, hB⟩ := h
  obtain ⟨p', c', hv, hs⟩ := own_sl ho
  cases hv
  exact ⟨p, c, rfl, hs, hB⟩
theorem run_mx4 (w : World) : (Builtin.max_ #[27, 27, 27, 27] 27 #[.int .i64 0, .int .i64 0, .int .i64 0, .int .i64 0]).run Tryd.prog w = .ok (.int .i64 0) w := by kernel_rfl
/-- A graph is valid, and not larger than the statements examine. -/
def fineB (G : Gr) : Bool := !greatG G && decide (chkG G = 0)
set_option maxRecDepth 100000 in
theorem fine_any (G : Gr) (p : Option Addr) (c : Nat) (w : World) (hin : Sg 3 w edE p G.es) (hl : G.es.length ≤ 9223372036854775807) :
    Calls Tryd.prog 28 #[(.agg #[.int .i64 G.q, .int .i64 G.n, .slice p G.es.length c])] w fun e w' => e = .returned (.bool (fineB G)) ∧ RowKit.Below w.heap.size w w' := by
  have HIN := hidI hin
  clear hin
  have b0 : VRow (w.alloc (.cells #[.int .i64 G.q, .int .i64 G.n, .slice p G.es.length c] 24)) w.heap.size 24 [.int .i64 G.q, .int .i64 G.n, .slice p G.es.length c] := VRow.new w _ _
  have x0 : RowKit.Below w.heap.size w (w.alloc (.cells #[.int .i64 G.q, .int .i64 G.n, .slice p G.es.length c] 24)) := (RowKit.Below.refl _ _).alloc (Nat.le_refl _) _
  cases hg : greatG G
  · obtain ⟨r, hr⟩ : ∃ r, chkG G = r := ⟨_, rfl⟩
    have HF : Hid (fineB G = (r == 0)) := by
      unfold Hid fineB; rw [hg, hr]
      by_cases e : r = 0 <;> simp [e]
    have HG := hidI hg; have HR := hidI hr
    clear hg hr
    go_enter Tryd.func28, Tryd.ntmps28
    go_wp2_with fail
    refine (rGreat_any G p c _ hl).mono ?_
    rw [HG.out]
    rintro e w1 ⟨rfl, hB1⟩
    have b1 := b0.below hB1 b0.lt
    have x1 := x0.trans (hB1.mono x0.size)
    have f0 := b1.at 0 rfl; have f1 := b1.at 1 rfl; have f2 := b1.at 2 rfl
    go_wp2_with fail
    refine (rCheck_r G p c w1 r HR.out (HIN.out.below x1) hl).mono ?_
    rintro e w2 ⟨rfl, hB2⟩
    clear f0 f1 f2
    go_wp2
    go_ret
    exact ⟨by rw [HF.out]; rfl, x1.trans (hB2.mono x1.size)⟩
  · have HF : Hid (fineB G = false) := by unfold Hid fineB; rw [hg]; rfl
    have HG := hidI hg
    clear hg
    go_enter Tryd.func28, Tryd.ntmps28
    go_wp2_with fail
    refine (rGreat_any G p c _ hl).mono ?_
    rw [HG.out]
    rintro e w1 ⟨rfl, hB1⟩
    go_wp2
    go_ret
    exact ⟨by rw [HF.out]; rfl, x0.trans (hB1.mono x0.size)⟩
theorem fine_ok {G : Gr} (h : fineB G = true) : Vg G ∧ G.es.length ≤ 30 ∧ G.n ≤ 10 := by
  unfold fineB at h
  rw [Bool.and_eq_true, Bool.not_eq_true', decide_eq_true_eq] at h
  have hv := chkG_ok.1 h.2
  have h1 := great_small h.1
  have h2 := hv.n2
  exact ⟨hv, h1.1, by omega⟩
theorem containsIn_any (l : List Int) (p : Option Addr) (c : Nat) (x : Int) (w : World) (hl : Sl w (Value.int .i64) p l) (hb : l.length ≤ 9223372036854775807) :
    Calls Tryd.prog 31 #[.slice p l.length c, .int .i64 x] w fun e w' => e = .returned (.bool (decide (x ∈ l))) ∧ w' = w := by
  rcases Nat.eq_zero_or_pos l.length with h0 | h0
  · have : l = [] := List.length_eq_zero_iff.1 h0
    subst this
    refine (Tryd.slices_Contains_int_empty p c x w).mono ?_
    rintro e w' ⟨rfl, rfl⟩
    exact ⟨by simp, rfl⟩
  · obtain ⟨b, off, rfl, _, hc⟩ := hl.get 0 h0
    refine (Tryd.slices_Contains_int b off l.length c l x w (Nat.le_refl _) hb (fun j hj => by rw [hc j hj, List.getD_eq_getElem?_getD, List.getElem?_eq_getElem hj]; rfl)).mono ?_
    rintro e w' ⟨rfl, rfl⟩
    rw [List.take_length]
    exact ⟨by rw [show l.contains x = decide (x ∈ l) by rw [Bool.eq_iff_iff]; simp], rfl⟩

set_option maxRecDepth 100000 in
set_option maxHeartbeats 4000000 in
theorem lawGReverses_any (G : Gr) (p : Option Addr) (c : Nat) (s t b : Int) (w : World) (hin : Sg 3 w edE p G.es) (hl : G.es.length ≤ 9223372036854775807) (hs : 0 ≤ s ∧ s ≤ 255) (ht : 0 ≤ t ∧ t ≤ 255) (hb : 0 ≤ b ∧ b ≤ 255) :
    Calls Tryd.prog 7 #[(.agg #[.int .i64 G.q, .int .i64 G.n, .slice p G.es.length c]), .int .u8 s, .int .u8 t, .int .u8 b] w fun e w' => e = .returned (.bool true) ∧ RowKit.Below w.heap.size w w' := by
  have HIN := hidI hin
  clear hin
  have b0 : VRow (w.alloc (.cells #[.int .i64 G.q, .int .i64 G.n, .slice p G.es.length c] 24)) w.heap.size 24 [.int .i64 G.q, .int .i64 G.n, .slice p G.es.length c] := VRow.new w _ _
  have x0 : RowKit.Below w.heap.size w (w.alloc (.cells #[.int .i64 G.q, .int .i64 G.n, .slice p G.es.length c] 24)) := (RowKit.Below.refl _ _).alloc (Nat.le_refl _) _
  by_cases hf : fineB G = true ∧ ¬ G.n = 0
  · obtain ⟨hf, hn⟩ := hf
    obtain ⟨hv, hes, hn10⟩ := fine_ok hf
    have HF := hidI hf; have HV := hidI hv
    have h1 := hv.q1; have h2 := hv.q2; have h3 := hv.n1
    have hnb : (G.n == 0) = false := by simpa using hn
    clear hf hv
    go_enter Tryd.func7, Tryd.ntmps7
    go_wp2_with fail
    refine (fine_any G p c _ (HIN.out.below x0) hl).mono ?_
    rw [HF.out]
    rintro e w1 ⟨rfl, hB1⟩
    have b1 := b0.below hB1 b0.lt
    have x1 := x0.trans (hB1.mono x0.size)
    clear hB1 b0 x0
    have f0 := b1.at 0 rfl; have f1 := b1.at 1 rfl; have f2 := b1.at 2 rfl
    have hrv := gReverse_any G p c w1 (HIN.out.below x1) (by omega)
    rw [revA_ok HV.out] at hrv
    have HRV := hidI hrv
    have HRR : Hid (revA ⟨G.q, G.n, norm (G.es.map rvE)⟩ = (G, 0)) := rev_rev HV.out
    have HVR : Hid (Vg ⟨G.q, G.n, norm (G.es.map rvE)⟩) := vg_rev HV.out
    have HST : Hid (∀ s t b : Int, (t ∈ nextA G [s] b ↔ s ∈ nextA ⟨G.q, G.n, norm (G.es.map rvE)⟩ [t] b)) := fun s t b => rev_step HV.out s t b
    have hRl : (norm (G.es.map rvE)).length ≤ 30 := by have := norm_le (G.es.map rvE); rw [List.length_map] at this; omega
    clear hrv
    generalize norm (G.es.map rvE) = E at *
    go_wp2_with fail
    refine HRV.out.mono ?_
    rintro e v2 ⟨p2, c2, rfl, r2, _, hB2⟩
    have hA2 : RowKit.Below w1.heap.size w1 (v2.alloc (.cells #[.int .i64 G.q, .int .i64 G.n, .slice p2 E.length c2] 24)) := hB2.alloc hB2.size _
    have b2 := b1.below hA2 b1.lt
    have x2 := x1.trans (hA2.mono x1.size)
    have r2' := r2.below ((RowKit.Below.refl _ v2).alloc (Nat.le_refl _) (.cells #[.int .i64 G.q, .int .i64 G.n, .slice p2 E.length c2] 24))
    have y2 : VRow (v2.alloc (.cells #[.int .i64 G.q, .int .i64 G.n, .slice p2 E.length c2] 24)) v2.heap.size 24 [.int .i64 G.q, .int .i64 G.n, .slice p2 E.length c2] := VRow.new v2 _ _
    clear hA2 hB2 b1 x1 f0 f1 f2 r2 HRV
    go_upto_region 4 with fail
    generalize v2.alloc (.cells #[.int .i64 G.q, .int .i64 G.n, .slice p2 E.length c2] 24) = w2 at *
    generalize v2.heap.size = B2 at *
    have hrv := gReverse_any ⟨G.q, G.n, E⟩ p2 c2 w2 r2' (show E.length ≤ 10000 by omega)
    rw [HRR.out] at hrv
    have HRV := hidI hrv
    clear hrv
    have g0 := y2.at 0 rfl; have g1 := y2.at 1 rfl; have g2 := y2.at 2 rfl
    go_wp2_with fail
    refine HRV.out.mono ?_
    rintro e v3 ⟨p3, c3, rfl, r3, _, hB3⟩
    have hA3 : RowKit.Below w2.heap.size w2 (v3.alloc (.cells #[.int .i64 G.q, .int .i64 G.n, .slice p3 G.es.length c3] 24)) := hB3.alloc hB3.size _
    have b3 := b2.below hA3 b2.lt
    have x3 := x2.trans (hA3.mono x2.size)
    have r2 := r2'.below hA3
    have y3 := y2.below hA3 y2.lt
    have r3' := r3.below ((RowKit.Below.refl _ v3).alloc (Nat.le_refl _) (.cells #[.int .i64 G.q, .int .i64 G.n, .slice p3 G.es.length c3] 24))
    have z3 : VRow (v3.alloc (.cells #[.int .i64 G.q, .int .i64 G.n, .slice p3 G.es.length c3] 24)) v3.heap.size 24 [.int .i64 G.q, .int .i64 G.n, .slice p3 G.es.length c3] := VRow.new v3 _ _
    clear hA3 hB3 b2 x2 r2' y2 g0 g1 g2 HRV r3
    go_upto_region 5 with fail
    generalize v3.alloc (.cells #[.int .i64 G.q, .int .i64 G.n, .slice p3 G.es.length c3] 24) = w3 at *
    generalize v3.heap.size = B3 at *
    have f0 := b3.at 0 rfl; have f1 := b3.at 1 rfl; have f2 := b3.at 2 rfl
    have hqb : (G.q == 0) = false := by rw [beq_eq_false_iff_ne]; omega
    have hSb : 0 ≤ s % G.n ∧ s % G.n < G.n := ⟨Int.emod_nonneg _ hn, Int.emod_lt_of_pos _ (by omega)⟩
    have hTb : 0 ≤ t % G.n ∧ t % G.n < G.n := ⟨Int.emod_nonneg _ hn, Int.emod_lt_of_pos _ (by omega)⟩
    have hNb : 0 ≤ b % G.q ∧ b % G.q < G.q := ⟨Int.emod_nonneg _ (by omega), Int.emod_lt_of_pos _ (by omega)⟩
    (refine wp_region_quiet_lit (by kernel_rfl) (by kernel_rfl) ?_; (repeat (first | go_big_quiet_step (fail) | quiet_step (fail))); refine wpQuiet_nil ?_; intro _ hwq; obtain ⟨nq, hwq2⟩ := hwq; subst hwq2)
    go_wp2_with fail
    generalize s % G.n = S at *
    generalize t % G.n = T at *
    generalize b % G.q = N at *
    have hD : Dr w3 (w3.drewN nq) := ⟨nq, rfl⟩
    have b4 := (b3.dr hD).alloc (.cells #[.int .i64 S] 3)
    have x4 := (x3.trans (hD.below _)).alloc ((x3.trans (hD.below _)).size) (.cells #[.int .i64 S] 3)
    have hA4 : RowKit.Below w3.heap.size w3 ((w3.drewN nq).alloc (.cells #[.int .i64 S] 3)) := (hD.below _).alloc (Nat.le_refl _) _
    have r24 := r2.below hA4; have r34 := r3'.below hA4
    have y4 := (y3.dr hD).alloc (.cells #[.int .i64 S] 3)
    have z4 := (z3.dr hD).alloc (.cells #[.int .i64 S] 3)
    have l4 : Sl ((w3.drewN nq).alloc (.cells #[.int .i64 S] 3)) (Value.int .i64) (some ⟨w3.heap.size, 0, none⟩) [S] := Sl.of_vrow (VRow.new (w3.drewN nq) 3 [.int .i64 S])
    clear b3 x3 r2 r3' y3 z3 hA4 f0 f1 f2
    have hst := gStep_any G p c [S] (some ⟨w3.heap.size, 0, none⟩) 1 N _ (HIN.out.below x4) l4 (by omega) (by simp)
    rw [stepA_one HV.out hSb.1 hSb.2 hNb.1 hNb.2] at hst
    generalize (w3.drewN nq).alloc (.cells #[.int .i64 S] 3) = w4 at *
    have HSTP := hidI hst
    clear hst
    refine HSTP.out.mono ?_
    rintro e w5 hret
    obtain ⟨pa, ca, rfl, a5, hB5⟩ := retLi_open hret
    have b5 := b4.below hB5 b4.lt
    have x5 := x4.trans (hB5.mono x4.size)
    have r25 := r24.below hB5; have r35 := r34.below hB5
    have y5 := y4.below hB5 y4.lt; have z5 := z4.below hB5 z4.lt
    clear hret hB5 b4 x4 r24 r34 y4 z4 l4 HSTP
    have f0 := y5.at 0 rfl; have f1 := y5.at 1 rfl; have f2 := y5.at 2 rfl
    go_wp2_with fail
    have b6 := b5.alloc (.cells #[.int .i64 T] 3)
    have x6 := x5.alloc x5.size (.cells #[.int .i64 T] 3)
    have hA6 : RowKit.Below w5.heap.size w5 (w5.alloc (.cells #[.int .i64 T] 3)) := (RowKit.Below.refl _ _).alloc (Nat.le_refl _) _
    have r26 := r25.below hA6; have r36 := r35.below hA6; have a6 := a5.below hA6
    have y6 := y5.alloc (.cells #[.int .i64 T] 3)
    have z6 := z5.alloc (.cells #[.int .i64 T] 3)
    have l6 : Sl (w5.alloc (.cells #[.int .i64 T] 3)) (Value.int .i64) (some ⟨w5.heap.size, 0, none⟩) [T] := Sl.of_vrow (VRow.new w5 3 [.int .i64 T])
    clear b5 x5 r25 r35 y5 z5 hA6 a5 f0 f1 f2
    have hst := gStep_any ⟨G.q, G.n, E⟩ p2 c2 [T] (some ⟨w5.heap.size, 0, none⟩) 1 N _ r26 l6 (show E.length ≤ 10000 by omega) (by simp)
    rw [stepA_one HVR.out hTb.1 hTb.2 hNb.1 hNb.2] at hst
    generalize w5.alloc (.cells #[.int .i64 T] 3) = w6 at *
    have HSTP := hidI hst
    clear hst
    refine HSTP.out.mono ?_
    rintro e w7 hret
    obtain ⟨pb, cb, rfl, a7', hB7⟩ := retLi_open hret
    have b7 := b6.below hB7 b6.lt
    have x7 := x6.trans (hB7.mono x6.size)
    have r37 := r36.below hB7; have a7 := a6.below hB7
    have z7 := z6.below hB7 z6.lt
    have hlA : (nextA G [S] N).length ≤ 64 := by have := uptof_len (nxP G.es [S] N) G.n.toNat; show ((upto G.n.toNat).filter (nxP G.es [S] N)).length ≤ 64; omega
    have hlB : (nextA ⟨G.q, G.n, E⟩ [T] N).length ≤ 64 := by have := uptof_len (nxP E [T] N) G.n.toNat; show ((upto G.n.toNat).filter (nxP E [T] N)).length ≤ 64; omega
    have HEQ : Hid (decide (T ∈ nextA G [S] N) = decide (S ∈ nextA ⟨G.q, G.n, E⟩ [T] N)) := by unfold Hid; rw [Bool.eq_iff_iff, decide_eq_true_eq, decide_eq_true_eq]; exact HST.out S T N
    clear hret hB7 b6 x6 r26 r36 y6 z6 l6 HSTP a6 HST
    have f0 := z7.at 0 rfl; have f1 := z7.at 1 rfl; have f2 := z7.at 2 rfl
    have g0 := b7.at 0 rfl; have g1 := b7.at 1 rfl; have g2 := b7.at 2 rfl
    have HIN7 := HIN.out.below x7
    have mx := run_mx4 w7
    generalize nextA G [S] N = LA at *
    generalize nextA ⟨G.q, G.n, E⟩ [T] N = LB at *
    go_wp2_with fail
    refine (gSame_s G G p3 p c3 c true w7 (sameG_refl _) r37 HIN7 (by omega) (by omega)).mono ?_
    rintro e w8 ⟨rfl, hB8⟩
    have x8 := x7.trans (hB8.mono x7.size)
    have a8 := a7.below hB8; have a8' := a7'.below hB8
    clear f0 f1 f2 g0 g1 g2 HIN7 hB8
    go_wp2_with fail
    refine (containsIn_any LA pa ca T w8 a8 (by omega)).mono ?_
    rintro e w9 ⟨rfl, rfl⟩
    rw [HEQ.out]
    go_wp2_with fail
    refine (containsIn_any LB pb cb S w9 a8' (by omega)).mono ?_
    rintro e w10 ⟨rfl, rfl⟩
    go_wp2_with fail
    refine (awake_any w10).mono ?_
    rintro e w11 ⟨rfl, hB11⟩
    go_wp2
    go_ret
    exact ⟨rfl, x8.trans (hB11.mono x8.size)⟩
  · cases hf1 : fineB G
    · have HF := hidI hf1
      clear hf1 hf
      go_enter Tryd.func7, Tryd.ntmps7
      go_wp2_with fail
      refine (fine_any G p c _ (HIN.out.below x0) hl).mono ?_
      rw [HF.out]
      rintro e w1 ⟨rfl, hB1⟩
      have x1 := x0.trans (hB1.mono x0.size)
      go_wp2_with fail
      refine (awake_any w1).mono ?_
      rintro e w2 ⟨rfl, hB2⟩
      go_wp2
      go_ret
      exact ⟨rfl, x1.trans (hB2.mono x1.size)⟩
    · have HF := hidI hf1
      have hn : G.n = 0 := Classical.byContradiction (fun h => hf ⟨hf1, h⟩)
      have hnb : (G.n == 0) = true := by simpa using hn
      clear hf1 hf hn
      go_enter Tryd.func7, Tryd.ntmps7
      go_wp2_with fail
      refine (fine_any G p c _ (HIN.out.below x0) hl).mono ?_
      rw [HF.out]
      rintro e w1 ⟨rfl, hB1⟩
      have b1 := b0.below hB1 b0.lt
      have x1 := x0.trans (hB1.mono x0.size)
      have f1 := b1.at 1 rfl
      go_wp2_with fail
      refine (awake_any w1).mono ?_
      rintro e w2 ⟨rfl, hB2⟩
      go_wp2
      go_ret
      exact ⟨rfl, x1.trans (hB2.mono x1.size)⟩
end Go.Proofs.YtkknkbdkokdbfaaDoor
