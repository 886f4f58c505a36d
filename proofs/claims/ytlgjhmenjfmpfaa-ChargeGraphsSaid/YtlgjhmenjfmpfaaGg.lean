/-
  Walks: how the reference compares edges; why a graph is not valid, of the reference.
-/
import Derived.Test.YtlgjhmenjfmpfaaGb
namespace Go.Proofs.Ytlgjhmenjfmpfaa
open Go.RowKit Go.Sort

def TwoRows (w : World) (a b : Ed) (u v : Value) (wx : World) : Prop :=
  ∃ g h, u = .slice (some ⟨g, 0, none⟩) 3 3 ∧ v = .slice (some ⟨h, 0, none⟩) 3 3 ∧ VRow wx g 3 ((edL a).map (Value.int .i64)) ∧ VRow wx h 3 ((edL b).map (Value.int .i64)) ∧ Up w wx
theorem edL_len (x : Ed) : (edL x).length = 3 := rfl
set_option maxRecDepth 100000 in
set_option maxHeartbeats 1000000 in
theorem rCompare_up (a b : Ed) (w : World) : Calls Try.prog 61 #[(.agg #[.int .i64 a.f, .int .i64 a.l, .int .i64 a.t]), (.agg #[.int .i64 b.f, .int .i64 b.l, .int .i64 b.t])] w fun e w' => e = .returned (.int .i64 (cmpE a b)) ∧ Up w w' := by
  have hU0 : Up w ((w.alloc (.cells #[.int .i64 a.f, .int .i64 a.l, .int .i64 a.t] 47)).alloc (.cells #[.int .i64 b.f, .int .i64 b.l, .int .i64 b.t] 47)) := (Up.alloc w _).trans (Up.alloc _ _)
  have ha0 : VRow ((w.alloc (.cells #[.int .i64 a.f, .int .i64 a.l, .int .i64 a.t] 47)).alloc (.cells #[.int .i64 b.f, .int .i64 b.l, .int .i64 b.t] 47)) w.heap.size 47 [.int .i64 a.f, .int .i64 a.l, .int .i64 a.t] := (VRow.new w 47 _).alloc _
  have hb0 : VRow ((w.alloc (.cells #[.int .i64 a.f, .int .i64 a.l, .int .i64 a.t] 47)).alloc (.cells #[.int .i64 b.f, .int .i64 b.l, .int .i64 b.t] 47)) (w.heap.size + 1) 47 [.int .i64 b.f, .int .i64 b.l, .int .i64 b.t] := VRow.new1 w _ 47 [.int .i64 b.f, .int .i64 b.l, .int .i64 b.t]
  go_enter Try.func61, Try.ntmps61
  go_wp2_with fail
  generalize (w.alloc (.cells #[.int .i64 a.f, .int .i64 a.l, .int .i64 a.t] 47)).alloc (.cells #[.int .i64 b.f, .int .i64 b.l, .int .i64 b.t] 47) = w0 at *
  have a0 := ha0.at 0 rfl; have a1 := ha0.at 1 rfl; have a2 := ha0.at 2 rfl
  have b0 := hb0.at 0 rfl; have b1 := hb0.at 1 rfl; have b2 := hb0.at 2 rfl
  go_upto_region 1 with fail
  go_cut [5, 6] (fun s5 s6 wx => TwoRows w0 a b s5 s6 wx)
  case first =>
    go_region_held3 (fun w' => w'.cell? ⟨w.heap.size, 0, none⟩ = some (.int .i64 a.f) ∧ w'.cell? ⟨w.heap.size, 1, none⟩ = some (.int .i64 a.l) ∧ w'.cell? ⟨w.heap.size, 2, none⟩ = some (.int .i64 a.t) ∧
        w'.cell? ⟨w.heap.size + 1, 0, none⟩ = some (.int .i64 b.f) ∧ w'.cell? ⟨w.heap.size + 1, 1, none⟩ = some (.int .i64 b.l) ∧ w'.cell? ⟨w.heap.size + 1, 2, none⟩ = some (.int .i64 b.t))
      (first | go_keep) (first | fail)
    all_goals (go_wp2_with fail; go_meet)
    · exact ⟨_, _, rfl, rfl, ((VRow.new w0 3 [.int .i64 a.f, .int .i64 a.l, .int .i64 a.t]).alloc _).dr ⟨1, rfl⟩, (VRow.new1 w0 _ 3 [.int .i64 b.f, .int .i64 b.l, .int .i64 b.t]).dr ⟨1, rfl⟩, ((Up.alloc w0 _).trans (Up.alloc _ _)).trans (Up.drew _)⟩
    · exact ⟨_, _, rfl, rfl, (VRow.new1 w0 _ 3 [.int .i64 a.f, .int .i64 a.l, .int .i64 a.t]).dr ⟨1, rfl⟩, ((VRow.new w0 3 [.int .i64 b.f, .int .i64 b.l, .int .i64 b.t]).alloc _).dr ⟨1, rfl⟩, ((Up.alloc w0 _).trans (Up.alloc _ _)).trans (Up.drew _)⟩
  case rest =>
    obtain ⟨g, h, rfl, rfl, hra, hrb, hU1⟩ := hcut
    have hUw := hU0.trans hU1
    have hsa := Sl.of_vrow (enc := Value.int .i64) (l := edL a) hra
    have hsb := Sl.of_vrow (enc := Value.int .i64) (l := edL b) hrb
    clear a0 a1 a2 b0 b1 b2 ha0 hb0 hra hrb hU0 hU1
    go_wp2
    go_loopw [7] (fun iv wr => ∃ k : Nat, k ≤ 3 ∧ iv = .int .i64 k ∧ Hid (cmpE a b = cmpL ((edL a).drop k) ((edL b).drop k)) ∧ Dr wc wr) (fun iv _ => 3 - (intOf iv).toNat)
    case atStart => exact ⟨0, by omega, rfl, rfl, Dr.refl _⟩
    case round =>
      obtain ⟨k, hk, rfl, hj, hD⟩ := hrel
      by_cases hlt : k < 3
      · obtain ⟨b1, o1, he1, _, hc1⟩ := (hsa.dr hD).get k hlt
        obtain ⟨b2, o2, he2, _, hc2⟩ := (hsb.dr hD).get k hlt
        cases he1; cases he2
        have e1 := hc1 k hlt
        have e2 := hc2 k hlt
        simp only [Nat.zero_add] at e1 e2
        have h3 : (k : Int) < 3 := by omega
        have HD1 := hidI (cmpL_diff k (show k < (edL a).length from hlt) (show k < (edL b).length from hlt))
        have HS1 := hidI (cmpL_same k (show k < (edL a).length from hlt) (show k < (edL b).length from hlt))
        generalize (edL a)[k] = x at *
        generalize (edL b)[k] = y at *
        clear hc1 hc2
        by_cases h1 : x < y
        · have HE : Hid (cmpE a b = -1) := hj.out.trans ((HD1.out (by unfold c3; rw [if_pos h1]; decide)).trans (by unfold c3; rw [if_pos h1]))
          go_wp2_with fail
          (refine wp_region_quiet_lit (by kernel_rfl) (by kernel_rfl) ?_; (repeat (first | go_big_quiet_step (fail) | quiet_step (fail))); refine wpQuiet_nil ?_; intro _ hwq; obtain ⟨nq, hwq2⟩ := hwq; subst hwq2)
          go_wp2
          go_ret
          exact ⟨ret_int HE.out.symm, hUw.trans (Up.of_dr (hD.one nq))⟩
        · by_cases h2 : y < x
          · have HE : Hid (cmpE a b = 1) := hj.out.trans ((HD1.out (by unfold c3; rw [if_neg h1, if_pos h2]; decide)).trans (by unfold c3; rw [if_neg h1, if_pos h2]))
            have h1' : decide (x < y) = false := decide_eq_false h1
            go_wp2_with fail
            (refine wp_region_quiet_lit (by kernel_rfl) (by kernel_rfl) ?_; (repeat (first | go_big_quiet_step (fail) | quiet_step (fail))); refine wpQuiet_nil ?_; intro _ hwq; obtain ⟨nq, hwq2⟩ := hwq; subst hwq2)
            go_wp2_with fail
            (refine wp_region_quiet_lit (by kernel_rfl) (by kernel_rfl) ?_; (repeat (first | go_big_quiet_step (fail) | quiet_step (fail))); refine wpQuiet_nil ?_; intro _ hwq; obtain ⟨nq, hwq2⟩ := hwq; subst hwq2)
            go_wp2
            go_ret
            exact ⟨ret_int HE.out.symm, hUw.trans (Up.of_dr ((hD.one _).one _))⟩
          · have HE : Hid (cmpE a b = cmpL ((edL a).drop (k + 1)) ((edL b).drop (k + 1))) := hj.out.trans (HS1.out (by omega))
            have h1' : decide (x < y) = false := decide_eq_false h1
            have h2' : decide (y < x) = false := decide_eq_false h2
            go_wp2_with fail
            (refine wp_region_quiet_lit (by kernel_rfl) (by kernel_rfl) ?_; (repeat (first | go_big_quiet_step (fail) | quiet_step (fail))); refine wpQuiet_nil ?_; intro _ hwq; obtain ⟨nq, hwq2⟩ := hwq; subst hwq2)
            go_wp2_with fail
            (refine wp_region_quiet_lit (by kernel_rfl) (by kernel_rfl) ?_; (repeat (first | go_big_quiet_step (fail) | quiet_step (fail))); refine wpQuiet_nil ?_; intro _ hwq; obtain ⟨nq, hwq2⟩ := hwq; subst hwq2)
            go_wp2
            go_roundw
            case rel => exact ⟨k + 1, by omega, by go_num, HE, hD.one _⟩
            case measure => simp [intOf]; omega
      · have HE : Hid (cmpE a b = 0) := hj.out.trans (cmpL_ends k (by rw [edL_len]; omega) (by rw [edL_len]; omega))
        have h3 : ¬ ((k : Int) < 3) := by omega
        go_wp2
        go_ret
        exact ⟨ret_int HE.out.symm, hUw.trans (Up.of_dr hD)⟩

theorem rCheck_pre (G : Gr) (p : Option Addr) (c : Nat) (w : World) (hl : G.es.length ≤ 9223372036854775807) (h : ¬ (1 ≤ G.q ∧ G.q ≤ 256 ∧ 0 ≤ G.n ∧ G.n ≤ 64 ∧ G.es.length ≤ 1024)) :
    Calls Try.prog 45 #[(.agg #[.int .i64 G.q, .int .i64 G.n, .slice p G.es.length c])] w fun e w' => e = .returned (.int .i64 (chkG G)) ∧ Below w.heap.size w w' := by
  have hB0 : Below w.heap.size w (w.alloc (.cells #[.int .i64 G.q, .int .i64 G.n, .slice p G.es.length c] 24)) := (Below.refl _ _).alloc (Nat.le_refl _) _
  by_cases h1 : G.q < 1
  · have HR := hidI (chkG_q (G := G) (.inl h1))
    clear h
    go_enter Try.func45, Try.ntmps45
    go_wp2
    go_ret
    exact ⟨ret_int HR.out.symm, hB0⟩
  by_cases h2 : 256 < G.q
  · have HR := hidI (chkG_q (G := G) (.inr h2))
    clear h
    go_enter Try.func45, Try.ntmps45
    go_wp2
    go_ret
    exact ⟨ret_int HR.out.symm, hB0⟩
  by_cases h3 : G.n < 0
  · have HR := hidI (chkG_n (G := G) (by omega) (by omega) h3)
    clear h
    go_enter Try.func45, Try.ntmps45
    go_wp2
    go_ret
    exact ⟨ret_int HR.out.symm, hB0⟩
  have HR := hidI (chkG_l (G := G) (by omega) (by omega) (by omega) (by omega))
  by_cases h4 : 64 < G.n
  · clear h
    go_enter Try.func45, Try.ntmps45
    go_wp2
    go_ret
    exact ⟨ret_int HR.out.symm, hB0⟩
  · have h5 : (1024 : Int) < (G.es.length : Int) := by omega
    clear h
    go_enter Try.func45, Try.ntmps45
    go_wp2
    go_ret
    exact ⟨ret_int HR.out.symm, hB0⟩


set_option maxRecDepth 100000 in
set_option maxHeartbeats 2000000 in
theorem rCheck_ok (G : Gr) (p : Option Addr) (c : Nat) (w : World) (hin : Sg 3 w edE p G.es) (q1 : 1 ≤ G.q) (q2 : G.q ≤ 256) (n1 : 0 ≤ G.n) (n2 : G.n ≤ 64) (hl : G.es.length ≤ 1024) :
    Calls Try.prog 45 #[(.agg #[.int .i64 G.q, .int .i64 G.n, .slice p G.es.length c])] w fun e w' => e = .returned (.int .i64 (chkG G)) ∧ Below w.heap.size w w' := by
  have hB0 : Below w.heap.size w (w.alloc (.cells #[.int .i64 G.q, .int .i64 G.n, .slice p G.es.length c] 24)) := (Below.refl _ _).alloc (Nat.le_refl _) _
  have b0 : VRow (w.alloc (.cells #[.int .i64 G.q, .int .i64 G.n, .slice p G.es.length c] 24)) w.heap.size 24 [.int .i64 G.q, .int .i64 G.n, .slice p G.es.length c] := VRow.new w _ _
  have HE := hidI (chkG_e q1 q2 n1 n2 hl)
  have HIN := hidI hin
  have l1 : (G.es.length : Int) ≤ 1024 := by omega
  have d1 : decide (G.q < 1) = false := decide_eq_false (by omega)
  have d2 : decide (256 < G.q) = false := decide_eq_false (by omega)
  have d3 : decide (G.n < 0) = false := decide_eq_false (by omega)
  have d4 : decide (64 < G.n) = false := decide_eq_false (by omega)
  have d5 : decide ((1024 : Int) < (G.es.length : Int)) = false := decide_eq_false (by omega)
  clear hin
  go_enter Try.func45, Try.ntmps45
  go_wp2
  clear d1 d2 d3 d4 d5
  generalize (w.alloc (.cells #[.int .i64 G.q, .int .i64 G.n, .slice p G.es.length c] 24)) = w0 at *
  go_loopw [3] (fun iv wr => ∃ k : Nat, k ≤ G.es.length ∧ iv = .int .i64 k ∧ Hid (errTo G.q G.n G.es k = 0) ∧ Below w0.heap.size w0 wr) (fun iv _ => G.es.length - (intOf iv).toNat)
  case atStart => exact ⟨0, by omega, rfl, rfl, Below.refl _ _⟩
  case round =>
    obtain ⟨k, hk, rfl, hj, hB⟩ := hrel
    have hBr := hB0.trans (hB.mono hB0.size)
    have br := b0.below hB b0.lt
    have f0 := br.at 0 rfl; have f1 := br.at 1 rfl; have f2 := br.at 2 rfl
    by_cases hlt : k < G.es.length
    · obtain ⟨b1, o1, rfl, hb1, e0, e1, e2⟩ := (HIN.out.below hBr).get3 k hlt rfl
      cases ho : outE G.q G.n G.es[k]
      · obtain ⟨i1, i2, i3, i4, i5, i6⟩ := outE_no.1 ho
        have HO := hidI ho
        clear ho
        have m1 : decide (G.es[k].f < 0) = false := decide_eq_false (by omega)
        have m2 : decide (G.n ≤ G.es[k].f) = false := decide_eq_false (by omega)
        have m3 : decide (G.es[k].t < 0) = false := decide_eq_false (by omega)
        have m4 : decide (G.n ≤ G.es[k].t) = false := decide_eq_false (by omega)
        have m5 : decide (G.es[k].l < 0) = false := decide_eq_false (by omega)
        have m6 : decide (G.q ≤ G.es[k].l) = false := decide_eq_false (by omega)
        have hz := br.lt
        rcases Nat.eq_zero_or_pos k with hk0 | hk0
        · have hkd : decide ((0 : Int) < (k : Int)) = false := decide_eq_false (by omega)
          have hkd2 : decide (0 < k) = false := decide_eq_false (by omega)
          have HN : Hid (errTo G.q G.n G.es (k + 1) = 0) := errTo_next hj.out (by subst hk0; exact errAt_first hlt HO.out)
          clear hk0
          go_wp2_with fail
          (refine wp_region_quiet_lit (by kernel_rfl) (by kernel_rfl) ?_; (repeat (first | go_big_quiet_step (fail) | quiet_step (fail))); refine wpQuiet_nil ?_; intro _ hwq; obtain ⟨nq, hwq2⟩ := hwq; subst hwq2)
          clear m1 m2 m3 m4 m5 m6 hkd hkd2
          go_wp2
          go_roundw
          case rel => exact ⟨k + 1, by omega, by go_num, HN, below_dN (hB.alloc hB.size _) nq⟩
          case measure => simp [intOf]; omega
        · obtain ⟨m, rfl⟩ : ∃ m, k = m + 1 := ⟨k - 1, by omega⟩
          have HS := hidI (errAt_succ hlt HO.out)
          go_wp2_with fail
          refine region_tail 10 (by kernel_rfl) (by kernel_rfl) fun W hD => ?_
          have hcW : VRow W wr.heap.size 47 [.int .i64 G.es[m + 1].f, .int .i64 G.es[m + 1].l, .int .i64 G.es[m + 1].t] := (VRow.new wr 47 _).dr hD
          have hbW : VRow W w.heap.size 24 [.int .i64 G.q, .int .i64 G.n, .slice (some ⟨b1, o1, none⟩) G.es.length c] := (br.alloc _).dr hD
          have hBW : Below w0.heap.size w0 W := (hB.alloc hB.size _).trans (hD.below _)
          have hBw : Below w.heap.size w W := hB0.trans (hBW.mono hB0.size)
          obtain ⟨b1', o1', he, _, e3, e4, e5⟩ := (HIN.out.below hBw).get3 m (by omega) rfl
          cases he
          clear e0 e1 e2 f0 f1 f2
          have f2 := hbW.at 2 rfl
          have e0 := hcW.at 0 rfl; have e1 := hcW.at 1 rfl; have e2 := hcW.at 2 rfl
          simp only [List.take_succ_cons, List.take_zero, List.drop_succ_cons, List.drop_zero]
          have n0 : (0 : Int) ≤ (m : Int) := by omega
          have n1 : (m : Int) < (G.es.length : Int) := by omega
          have q1' : IntKind.i64.wrap (m : Int) = (m : Int) := IntWalk.i64_in _ (by omega)
          iterate 10 still_step
          refine wpStill_nil ?_
          clear q1'
          go_wp2_with fail
          refine (rCompare_up G.es[m] G.es[m + 1] _).mono ?_
          rintro e w1 ⟨rfl, hU1⟩
          have hB1 := hBW.trans (hU1.below.mono hBW.size)
          clear m1 m2 m3 m4 m5 m6 e0 e1 e2 e3 e4 e5 f2
          by_cases hcs : 0 ≤ cmpE G.es[m] G.es[m + 1]
          · have HF : Hid (chkG G = 10) := HE.out.trans ((errTo_hit hj.out (by rw [HS.out, if_pos hcs]; decide) hlt).trans (by rw [HS.out, if_pos hcs]))
            go_wp2
            go_ret
            exact ⟨ret_int HF.out.symm, hB0.trans (hB1.mono hB0.size)⟩
          · have HN : Hid (errTo G.q G.n G.es (m + 1 + 1) = 0) := errTo_next hj.out (by rw [HS.out, if_neg hcs])
            have hcs' : cmpE G.es[m] G.es[m + 1] < 0 := by omega
            go_wp2
            go_roundw
            case rel => exact ⟨m + 1 + 1, by omega, by go_num, HN, hB1⟩
            case measure => simp [intOf]; omega
      · have HO := hidI ho
        have HF : Hid (chkG G = 2) := HE.out.trans ((errTo_hit hj.out (by rw [errAt_out hlt ho]; decide) hlt).trans (errAt_out hlt ho))
        have hz := br.lt
        have hBx := (hB.alloc hB.size (.cells #[.int .i64 G.es[k].f, .int .i64 G.es[k].l, .int .i64 G.es[k].t] 47))
        clear ho
        by_cases m1 : G.es[k].f < 0
        · have m' := decide_eq_true m1
          clear m1
          go_wp2
          go_ret
          exact ⟨ret_int HF.out.symm, hB0.trans (hBx.mono hB0.size)⟩
        have e1' := decide_eq_false m1
        by_cases m2 : G.n ≤ G.es[k].f
        · have m' := decide_eq_true m2
          clear m2
          go_wp2
          go_ret
          exact ⟨ret_int HF.out.symm, hB0.trans (hBx.mono hB0.size)⟩
        have e2' := decide_eq_false m2
        by_cases m3 : G.es[k].t < 0
        · have m' := decide_eq_true m3
          clear m3
          go_wp2
          go_ret
          exact ⟨ret_int HF.out.symm, hB0.trans (hBx.mono hB0.size)⟩
        have e3' := decide_eq_false m3
        by_cases m4 : G.n ≤ G.es[k].t
        · have m' := decide_eq_true m4
          clear m4
          go_wp2
          go_ret
          exact ⟨ret_int HF.out.symm, hB0.trans (hBx.mono hB0.size)⟩
        have e4' := decide_eq_false m4
        by_cases m5 : G.es[k].l < 0
        · have m' := decide_eq_true m5
          clear m5
          go_wp2
          go_ret
          exact ⟨ret_int HF.out.symm, hB0.trans (hBx.mono hB0.size)⟩
        have e5' := decide_eq_false m5
        have m6 : G.q ≤ G.es[k].l := by
          have h1 := outE_iff.1 HO.out
          omega
        have m' := decide_eq_true m6
        clear m1 m2 m3 m4 m5 m6
        go_wp2
        go_ret
        exact ⟨ret_int HF.out.symm, hB0.trans (hBx.mono hB0.size)⟩
    · obtain rfl : k = G.es.length := by omega
      have HF : Hid (chkG G = 0) := HE.out.trans hj.out
      go_wp2
      go_ret
      exact ⟨ret_int HF.out.symm, hBr⟩

theorem rCheck_any (G : Gr) (p : Option Addr) (c : Nat) (w : World) (hin : Sg 3 w edE p G.es) (hl : G.es.length ≤ 9223372036854775807) :
    Calls Try.prog 45 #[(.agg #[.int .i64 G.q, .int .i64 G.n, .slice p G.es.length c])] w fun e w' => e = .returned (.int .i64 (chkG G)) ∧ Below w.heap.size w w' := by
  by_cases h : 1 ≤ G.q ∧ G.q ≤ 256 ∧ 0 ≤ G.n ∧ G.n ≤ 64 ∧ G.es.length ≤ 1024
  · exact rCheck_ok G p c w hin h.1 h.2.1 h.2.2.1 h.2.2.2.1 h.2.2.2.2
  · exact rCheck_pre G p c w hl h
theorem rCheck_r (G : Gr) (p : Option Addr) (c : Nat) (w : World) (r : Int) (hr : chkG G = r) (hin : Sg 3 w edE p G.es) (hl : G.es.length ≤ 9223372036854775807) :
    Calls Try.prog 45 #[(.agg #[.int .i64 G.q, .int .i64 G.n, .slice p G.es.length c])] w fun e w' => e = .returned (.int .i64 r) ∧ Below w.heap.size w w' := by
  subst hr; exact rCheck_any G p c w hin hl
end Go.Proofs.Ytlgjhmenjfmpfaa
