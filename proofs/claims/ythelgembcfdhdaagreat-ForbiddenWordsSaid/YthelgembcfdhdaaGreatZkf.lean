/-
  Words, plain lemmas and walks, merged: Gg, Gh, Gi, Gj, Fh, Fi.
-/
import Derived.Test.YthelgembcfdhdaaGreatZke
import Derived.Maps.AppendAt
import Derived.Deep.CutBlock
import Derived.ArgAppend
set_option linter.unusedVariables false
set_option linter.unusedSimpArgs false
namespace Go.Proofs.YthelgembcfdhdaaGreat
open Go.RowKit Go.Sort

def TwoRows (w : World) (a b : Ed) (u v : Value) (wx : World) : Prop :=
  ∃ g h, u = .slice (some ⟨g, 0, none⟩) 3 3 ∧ v = .slice (some ⟨h, 0, none⟩) 3 3 ∧ VRow wx g 3 ((edL a).map (Value.int .i64)) ∧ VRow wx h 3 ((edL b).map (Value.int .i64)) ∧ Up w wx
theorem edL_len (x : Ed) : (edL x).length = 3 := rfl
set_option maxRecDepth 100000 in
set_option maxHeartbeats 1000000 in
theorem rCompare_up (a b : Ed) (w : World) : Calls Tryz.prog 97 #[(.agg #[.int .i64 a.f, .int .i64 a.l, .int .i64 a.t]), (.agg #[.int .i64 b.f, .int .i64 b.l, .int .i64 b.t])] w fun e w' => e = .returned (.int .i64 (cmpE a b)) ∧ Up w w' := by
  have hU0 : Up w ((w.alloc (.cells #[.int .i64 a.f, .int .i64 a.l, .int .i64 a.t] 47)).alloc (.cells #[.int .i64 b.f, .int .i64 b.l, .int .i64 b.t] 47)) := (Up.alloc w _).trans (Up.alloc _ _)
  have ha0 : VRow ((w.alloc (.cells #[.int .i64 a.f, .int .i64 a.l, .int .i64 a.t] 47)).alloc (.cells #[.int .i64 b.f, .int .i64 b.l, .int .i64 b.t] 47)) w.heap.size 47 [.int .i64 a.f, .int .i64 a.l, .int .i64 a.t] := (VRow.new w 47 _).alloc _
  have hb0 : VRow ((w.alloc (.cells #[.int .i64 a.f, .int .i64 a.l, .int .i64 a.t] 47)).alloc (.cells #[.int .i64 b.f, .int .i64 b.l, .int .i64 b.t] 47)) (w.heap.size + 1) 47 [.int .i64 b.f, .int .i64 b.l, .int .i64 b.t] := VRow.new1 w _ 47 [.int .i64 b.f, .int .i64 b.l, .int .i64 b.t]
  go_enter Tryz.func97, Tryz.ntmps97
  go_wp2_with fail
  generalize (w.alloc (.cells #[.int .i64 a.f, .int .i64 a.l, .int .i64 a.t] 47)).alloc (.cells #[.int .i64 b.f, .int .i64 b.l, .int .i64 b.t] 47) = w0 at *
  have a0 := ha0.at 0 rfl; have a1 := ha0.at 1 rfl; have a2 := ha0.at 2 rfl
  have b0 := hb0.at 0 rfl; have b1 := hb0.at 1 rfl; have b2 := hb0.at 2 rfl
  go_upto_region 1 with fail
  go_cut [5, 6] (fun s5 s6 wx => TwoRows w0 a b s5 s6 wx)
  case first =>
    go_region_held3 (fun w' => w'.cell? ⟨w.heap.size, 0, none⟩ = some (.int .i64 a.f) ∧ w'.cell? ⟨w.heap.size, 1, none⟩ = some (.int .i64 a.l) ∧ w'.cell? ⟨w.heap.size, 2, none⟩ = some (.int .i64 a.t) ∧
        w'.cell? ⟨w.heap.size + 1, 0, none⟩ = some (.int .i64 b.f) ∧ w'.cell? ⟨w.heap.size + 1, 1, none⟩ = some (.int .i64 b.l) ∧ w'.cell? ⟨w.heap.size + 1, 2, none⟩ = some (.int .i64 b.t))
      (first | go_keep) (first | fail)
    all_goals (go_wp2_with fail; go_meet)
    · exact ⟨_, _, rfl, rfl, ((VRow.new w0 3 [.int .i64 a.f, .int .i64 a.l, .int .i64 a.t]).alloc _).dr ⟨1, rfl⟩, (VRow.new1 w0 _ 3 [.int .i64 b.f, .int .i64 b.l, .int .i64 b.t]).dr ⟨1, rfl⟩, ((Up.alloc w0 _).trans (Up.alloc _ _)).trans (Up.drew _)⟩
    · exact ⟨_, _, rfl, rfl, (VRow.new1 w0 _ 3 [.int .i64 a.f, .int .i64 a.l, .int .i64 a.t]).dr ⟨1, rfl⟩, ((VRow.new w0 3 [.int .i64 b.f, .int .i64 b.l, .int .i64 b.t]).alloc _).dr ⟨1, rfl⟩, ((Up.alloc w0 _).trans (Up.alloc _ _)).trans (Up.drew _)⟩
  case rest =>
    obtain ⟨g, h, rfl, rfl, hra, hrb, hU1⟩ := hcut
    have hUw := hU0.trans hU1
    have hsa := Sl.of_vrow (enc := Value.int .i64) (l := edL a) hra
    have hsb := Sl.of_vrow (enc := Value.int .i64) (l := edL b) hrb
    clear a0 a1 a2 b0 b1 b2 ha0 hb0 hra hrb hU0 hU1
    go_wp2
    go_loopw [7] (fun iv wr => ∃ k : Nat, k ≤ 3 ∧ iv = .int .i64 k ∧ Hid (cmpE a b = cmpL ((edL a).drop k) ((edL b).drop k)) ∧ Dr wc wr) (fun iv _ => 3 - (intOf iv).toNat)
    case atStart => exact ⟨0, by omega, rfl, rfl, Dr.refl _⟩
    case round =>
      obtain ⟨k, hk, rfl, hj, hD⟩ := hrel
      by_cases hlt : k < 3
      · obtain ⟨b1, o1, he1, _, hc1⟩ := (hsa.dr hD).get k hlt
        obtain ⟨b2, o2, he2, _, hc2⟩ := (hsb.dr hD).get k hlt
        cases he1; cases he2
        have e1 := hc1 k hlt
        have e2 := hc2 k hlt
        simp only [Nat.zero_add] at e1 e2
        have h3 : (k : Int) < 3 := by omega
        have HD1 := hidI (cmpL_diff k (show k < (edL a).length from hlt) (show k < (edL b).length from hlt))
        have HS1 := hidI (cmpL_same k (show k < (edL a).length from hlt) (show k < (edL b).length from hlt))
        generalize (edL a)[k] = x at *
        generalize (edL b)[k] = y at *
        clear hc1 hc2
        by_cases h1 : x < y
        · have HE : Hid (cmpE a b = -1) := hj.out.trans ((HD1.out (by unfold c3; rw [if_pos h1]; decide)).trans (by unfold c3; rw [if_pos h1]))
          go_wp2_with fail
          (refine wp_region_quiet_lit (by kernel_rfl) (by kernel_rfl) ?_; (repeat (first | go_big_quiet_step (fail) | quiet_step (fail))); refine wpQuiet_nil ?_; intro _ hwq; obtain ⟨nq, hwq2⟩ := hwq; subst hwq2)
          go_wp2
          go_ret
          exact ⟨ret_int HE.out.symm, hUw.trans (Up.of_dr (hD.one nq))⟩
        · by_cases h2 : y < x
          · have HE : Hid (cmpE a b = 1) := hj.out.trans ((HD1.out (by unfold c3; rw [if_neg h1, if_pos h2]; decide)).trans (by unfold c3; rw [if_neg h1, if_pos h2]))
            have h1' : decide (x < y) = false := decide_eq_false h1
            go_wp2_with fail
            (refine wp_region_quiet_lit (by kernel_rfl) (by kernel_rfl) ?_; (repeat (first | go_big_quiet_step (fail) | quiet_step (fail))); refine wpQuiet_nil ?_; intro _ hwq; obtain ⟨nq, hwq2⟩ := hwq; subst hwq2)
            go_wp2_with fail
            (refine wp_region_quiet_lit (by kernel_rfl) (by kernel_rfl) ?_; (repeat (first | go_big_quiet_step (fail) | quiet_step (fail))); refine wpQuiet_nil ?_; intro _ hwq; obtain ⟨nq, hwq2⟩ := hwq; subst hwq2)
            go_wp2
            go_ret
            exact ⟨ret_int HE.out.symm, hUw.trans (Up.of_dr ((hD.one _).one _))⟩
          · have HE : Hid (cmpE a b = cmpL ((edL a).drop (k + 1)) ((edL b).drop (k + 1))) := hj.out.trans (HS1.out (by omega))
            have h1' : decide (x < y) = false := decide_eq_false h1
            have h2' : decide (y < x) = false := decide_eq_false h2
            go_wp2_with fail
            (refine wp_region_quiet_lit (by kernel_rfl) (by kernel_rfl) ?_; (repeat (first | go_big_quiet_step (fail) | quiet_step (fail))); refine wpQuiet_nil ?_; intro _ hwq; obtain ⟨nq, hwq2⟩ := hwq; subst hwq2)
            go_wp2_with fail
            (refine wp_region_quiet_lit (by kernel_rfl) (by kernel_rfl) ?_; (repeat (first | go_big_quiet_step (fail) | quiet_step (fail))); refine wpQuiet_nil ?_; intro _ hwq; obtain ⟨nq, hwq2⟩ := hwq; subst hwq2)
            go_wp2
            go_roundw
            case rel => exact ⟨k + 1, by omega, by go_num, HE, hD.one _⟩
            case measure => simp [intOf]; omega
      · have HE : Hid (cmpE a b = 0) := hj.out.trans (cmpL_ends k (by rw [edL_len]; omega) (by rw [edL_len]; omega))
        have h3 : ¬ ((k : Int) < 3) := by omega
        go_wp2
        go_ret
        exact ⟨ret_int HE.out.symm, hUw.trans (Up.of_dr hD)⟩

theorem rCheck_pre (G : Gr) (p : Option Addr) (c : Nat) (w : World) (hl : G.es.length ≤ 9223372036854775807) (h : ¬ (1 ≤ G.q ∧ G.q ≤ 256 ∧ 0 ≤ G.n ∧ G.n ≤ 64 ∧ G.es.length ≤ 1024)) :
    Calls Tryz.prog 69 #[(.agg #[.int .i64 G.q, .int .i64 G.n, .slice p G.es.length c])] w fun e w' => e = .returned (.int .i64 (chkG G)) ∧ Below w.heap.size w w' := by
  have hB0 : Below w.heap.size w (w.alloc (.cells #[.int .i64 G.q, .int .i64 G.n, .slice p G.es.length c] 27)) := (Below.refl _ _).alloc (Nat.le_refl _) _
  by_cases h1 : G.q < 1
  · have HR := hidI (chkG_q (G := G) (.inl h1))
    clear h
    go_enter Tryz.func69, Tryz.ntmps69
    go_wp2
    go_ret
    exact ⟨ret_int HR.out.symm, hB0⟩
  by_cases h2 : 256 < G.q
  · have HR := hidI (chkG_q (G := G) (.inr h2))
    clear h
    go_enter Tryz.func69, Tryz.ntmps69
    go_wp2
    go_ret
    exact ⟨ret_int HR.out.symm, hB0⟩
  by_cases h3 : G.n < 0
  · have HR := hidI (chkG_n (G := G) (by omega) (by omega) h3)
    clear h
    go_enter Tryz.func69, Tryz.ntmps69
    go_wp2
    go_ret
    exact ⟨ret_int HR.out.symm, hB0⟩
  have HR := hidI (chkG_l (G := G) (by omega) (by omega) (by omega) (by omega))
  by_cases h4 : 64 < G.n
  · clear h
    go_enter Tryz.func69, Tryz.ntmps69
    go_wp2
    go_ret
    exact ⟨ret_int HR.out.symm, hB0⟩
  · have h5 : (1024 : Int) < (G.es.length : Int) := by omega
    clear h
    go_enter Tryz.func69, Tryz.ntmps69
    go_wp2
    go_ret
    exact ⟨ret_int HR.out.symm, hB0⟩


set_option maxRecDepth 100000 in
set_option maxHeartbeats 2000000 in
theorem rCheck_ok (G : Gr) (p : Option Addr) (c : Nat) (w : World) (hin : Sg 3 w edE p G.es) (q1 : 1 ≤ G.q) (q2 : G.q ≤ 256) (n1 : 0 ≤ G.n) (n2 : G.n ≤ 64) (hl : G.es.length ≤ 1024) :
    Calls Tryz.prog 69 #[(.agg #[.int .i64 G.q, .int .i64 G.n, .slice p G.es.length c])] w fun e w' => e = .returned (.int .i64 (chkG G)) ∧ Below w.heap.size w w' := by
  have hB0 : Below w.heap.size w (w.alloc (.cells #[.int .i64 G.q, .int .i64 G.n, .slice p G.es.length c] 27)) := (Below.refl _ _).alloc (Nat.le_refl _) _
  have b0 : VRow (w.alloc (.cells #[.int .i64 G.q, .int .i64 G.n, .slice p G.es.length c] 27)) w.heap.size 27 [.int .i64 G.q, .int .i64 G.n, .slice p G.es.length c] := VRow.new w _ _
  have HE := hidI (chkG_e q1 q2 n1 n2 hl)
  have HIN := hidI hin
  have l1 : (G.es.length : Int) ≤ 1024 := by omega
  have d1 : decide (G.q < 1) = false := decide_eq_false (by omega)
  have d2 : decide (256 < G.q) = false := decide_eq_false (by omega)
  have d3 : decide (G.n < 0) = false := decide_eq_false (by omega)
  have d4 : decide (64 < G.n) = false := decide_eq_false (by omega)
  have d5 : decide ((1024 : Int) < (G.es.length : Int)) = false := decide_eq_false (by omega)
  clear hin
  go_enter Tryz.func69, Tryz.ntmps69
  go_wp2
  clear d1 d2 d3 d4 d5
  generalize (w.alloc (.cells #[.int .i64 G.q, .int .i64 G.n, .slice p G.es.length c] 27)) = w0 at *
  go_loopw [3] (fun iv wr => ∃ k : Nat, k ≤ G.es.length ∧ iv = .int .i64 k ∧ Hid (errTo G.q G.n G.es k = 0) ∧ Below w0.heap.size w0 wr) (fun iv _ => G.es.length - (intOf iv).toNat)
  case atStart => exact ⟨0, by omega, rfl, rfl, Below.refl _ _⟩
  case round =>
    obtain ⟨k, hk, rfl, hj, hB⟩ := hrel
    have hBr := hB0.trans (hB.mono hB0.size)
    have br := b0.below hB b0.lt
    have f0 := br.at 0 rfl; have f1 := br.at 1 rfl; have f2 := br.at 2 rfl
    by_cases hlt : k < G.es.length
    · obtain ⟨b1, o1, rfl, hb1, e0, e1, e2⟩ := (HIN.out.below hBr).get3 k hlt rfl
      cases ho : outE G.q G.n G.es[k]
      · obtain ⟨i1, i2, i3, i4, i5, i6⟩ := outE_no.1 ho
        have HO := hidI ho
        clear ho
        have m1 : decide (G.es[k].f < 0) = false := decide_eq_false (by omega)
        have m2 : decide (G.n ≤ G.es[k].f) = false := decide_eq_false (by omega)
        have m3 : decide (G.es[k].t < 0) = false := decide_eq_false (by omega)
        have m4 : decide (G.n ≤ G.es[k].t) = false := decide_eq_false (by omega)
        have m5 : decide (G.es[k].l < 0) = false := decide_eq_false (by omega)
        have m6 : decide (G.q ≤ G.es[k].l) = false := decide_eq_false (by omega)
        have hz := br.lt
        rcases Nat.eq_zero_or_pos k with hk0 | hk0
        · have hkd : decide ((0 : Int) < (k : Int)) = false := decide_eq_false (by omega)
          have hkd2 : decide (0 < k) = false := decide_eq_false (by omega)
          have HN : Hid (errTo G.q G.n G.es (k + 1) = 0) := errTo_next hj.out (by subst hk0; exact errAt_first hlt HO.out)
          clear hk0
          go_wp2_with fail
          (refine wp_region_quiet_lit (by kernel_rfl) (by kernel_rfl) ?_; (repeat (first | go_big_quiet_step (fail) | quiet_step (fail))); refine wpQuiet_nil ?_; intro _ hwq; obtain ⟨nq, hwq2⟩ := hwq; subst hwq2)
          clear m1 m2 m3 m4 m5 m6 hkd hkd2
          go_wp2
          go_roundw
          case rel => exact ⟨k + 1, by omega, by go_num, HN, below_dN (hB.alloc hB.size _) nq⟩
          case measure => simp [intOf]; omega
        · obtain ⟨m, rfl⟩ : ∃ m, k = m + 1 := ⟨k - 1, by omega⟩
          have HS := hidI (errAt_succ hlt HO.out)
          go_wp2_with fail
          refine region_tail 10 (by kernel_rfl) (by kernel_rfl) fun W hD => ?_
          have hcW : VRow W wr.heap.size 47 [.int .i64 G.es[m + 1].f, .int .i64 G.es[m + 1].l, .int .i64 G.es[m + 1].t] := (VRow.new wr 47 _).dr hD
          have hbW : VRow W w.heap.size 27 [.int .i64 G.q, .int .i64 G.n, .slice (some ⟨b1, o1, none⟩) G.es.length c] := (br.alloc _).dr hD
          have hBW : Below w0.heap.size w0 W := (hB.alloc hB.size _).trans (hD.below _)
          have hBw : Below w.heap.size w W := hB0.trans (hBW.mono hB0.size)
          obtain ⟨b1', o1', he, _, e3, e4, e5⟩ := (HIN.out.below hBw).get3 m (by omega) rfl
          cases he
          clear e0 e1 e2 f0 f1 f2
          have f2 := hbW.at 2 rfl
          have e0 := hcW.at 0 rfl; have e1 := hcW.at 1 rfl; have e2 := hcW.at 2 rfl
          simp only [List.take_succ_cons, List.take_zero, List.drop_succ_cons, List.drop_zero]
          have n0 : (0 : Int) ≤ (m : Int) := by omega
          have n1 : (m : Int) < (G.es.length : Int) := by omega
          have q1' : IntKind.i64.wrap (m : Int) = (m : Int) := IntWalk.i64_in _ (by omega)
          iterate 10 still_step
          refine wpStill_nil ?_
          clear q1'
          go_wp2_with fail
          refine (rCompare_up G.es[m] G.es[m + 1] _).mono ?_
          rintro e w1 ⟨rfl, hU1⟩
          have hB1 := hBW.trans (hU1.below.mono hBW.size)
          clear m1 m2 m3 m4 m5 m6 e0 e1 e2 e3 e4 e5 f2
          by_cases hcs : 0 ≤ cmpE G.es[m] G.es[m + 1]
          · have HF : Hid (chkG G = 10) := HE.out.trans ((errTo_hit hj.out (by rw [HS.out, if_pos hcs]; decide) hlt).trans (by rw [HS.out, if_pos hcs]))
            go_wp2
            go_ret
            exact ⟨ret_int HF.out.symm, hB0.trans (hB1.mono hB0.size)⟩
          · have HN : Hid (errTo G.q G.n G.es (m + 1 + 1) = 0) := errTo_next hj.out (by rw [HS.out, if_neg hcs])
            have hcs' : cmpE G.es[m] G.es[m + 1] < 0 := by omega
            go_wp2
            go_roundw
            case rel => exact ⟨m + 1 + 1, by omega, by go_num, HN, hB1⟩
            case measure => simp [intOf]; omega
      · have HO := hidI ho
        have HF : Hid (chkG G = 2) := HE.out.trans ((errTo_hit hj.out (by rw [errAt_out hlt ho]; decide) hlt).trans (errAt_out hlt ho))
        have hz := br.lt
        have hBx := (hB.alloc hB.size (.cells #[.int .i64 G.es[k].f, .int .i64 G.es[k].l, .int .i64 G.es[k].t] 47))
        clear ho
        by_cases m1 : G.es[k].f < 0
        · have m' := decide_eq_true m1
          clear m1
          go_wp2
          go_ret
          exact ⟨ret_int HF.out.symm, hB0.trans (hBx.mono hB0.size)⟩
        have e1' := decide_eq_false m1
        by_cases m2 : G.n ≤ G.es[k].f
        · have m' := decide_eq_true m2
          clear m2
          go_wp2
          go_ret
          exact ⟨ret_int HF.out.symm, hB0.trans (hBx.mono hB0.size)⟩
        have e2' := decide_eq_false m2
        by_cases m3 : G.es[k].t < 0
        · have m' := decide_eq_true m3
          clear m3
          go_wp2
          go_ret
          exact ⟨ret_int HF.out.symm, hB0.trans (hBx.mono hB0.size)⟩
        have e3' := decide_eq_false m3
        by_cases m4 : G.n ≤ G.es[k].t
        · have m' := decide_eq_true m4
          clear m4
          go_wp2
          go_ret
          exact ⟨ret_int HF.out.symm, hB0.trans (hBx.mono hB0.size)⟩
        have e4' := decide_eq_false m4
        by_cases m5 : G.es[k].l < 0
        · have m' := decide_eq_true m5
          clear m5
          go_wp2
          go_ret
          exact ⟨ret_int HF.out.symm, hB0.trans (hBx.mono hB0.size)⟩
        have e5' := decide_eq_false m5
        have m6 : G.q ≤ G.es[k].l := by
          have h1 := outE_iff.1 HO.out
          omega
        have m' := decide_eq_true m6
        clear m1 m2 m3 m4 m5 m6
        go_wp2
        go_ret
        exact ⟨ret_int HF.out.symm, hB0.trans (hBx.mono hB0.size)⟩
    · obtain rfl : k = G.es.length := by omega
      have HF : Hid (chkG G = 0) := HE.out.trans hj.out
      go_wp2
      go_ret
      exact ⟨ret_int HF.out.symm, hBr⟩

theorem rCheck_any (G : Gr) (p : Option Addr) (c : Nat) (w : World) (hin : Sg 3 w edE p G.es) (hl : G.es.length ≤ 9223372036854775807) :
    Calls Tryz.prog 69 #[(.agg #[.int .i64 G.q, .int .i64 G.n, .slice p G.es.length c])] w fun e w' => e = .returned (.int .i64 (chkG G)) ∧ Below w.heap.size w w' := by
  by_cases h : 1 ≤ G.q ∧ G.q ≤ 256 ∧ 0 ≤ G.n ∧ G.n ≤ 64 ∧ G.es.length ≤ 1024
  · exact rCheck_ok G p c w hin h.1 h.2.1 h.2.2.1 h.2.2.2.1 h.2.2.2.2
  · exact rCheck_pre G p c w hl h
theorem rCheck_r (G : Gr) (p : Option Addr) (c : Nat) (w : World) (r : Int) (hr : chkG G = r) (hin : Sg 3 w edE p G.es) (hl : G.es.length ≤ 9223372036854775807) :
    Calls Tryz.prog 69 #[(.agg #[.int .i64 G.q, .int .i64 G.n, .slice p G.es.length c])] w fun e w' => e = .returned (.int .i64 r) ∧ Below w.heap.size w w' := by
  subst hr; exact rCheck_any G p c w hin hl
end Go.Proofs.YthelgembcfdhdaaGreat
namespace Go.Proofs.YthelgembcfdhdaaGreat
open Go.RowKit Go.Sort Go.Shelf Go.Lib

/-! ### Plain -/
def sameG (G H : Gr) : Bool := decide (G.q = H.q) && (decide (G.n = H.n) && decide (G.es = H.es))
theorem sameG_refl (G : Gr) : sameG G G = true := by simp [sameG]
theorem sameG_iff {G H : Gr} : sameG G H = true ↔ G = H := by
  cases G; cases H; simp [sameG]
theorem sameG_len {G H : Gr} (h : G.es.length ≠ H.es.length) : sameG G H = false := by
  simp [sameG]; intro _ _ e; exact h (by rw [e])
theorem es_ne {l m : List Ed} (k : Nat) (h1 : k < l.length) (h2 : k < m.length) (h : l[k] ≠ m[k]) : l ≠ m := by intro e; subst e; exact h rfl
def detB : List Ed → Bool
  | x :: y :: l => !(decide (x.f = y.f) && decide (x.l = y.l)) && detB (y :: l)
  | _ => true
theorem detB_t : ∀ {l : List Ed}, (∀ k (h : k + 1 < l.length), ¬ (l[k].f = l[k + 1].f ∧ l[k].l = l[k + 1].l)) → detB l = true
  | [], _ => rfl
  | [_], _ => rfl
  | x :: y :: l, h => by
    have h0 := h 0 (by simp)
    simp only [List.getElem_cons_zero, List.getElem_cons_succ] at h0
    rw [detB, detB_t (fun k hk => by have := h (k + 1) (by simpa using hk); simpa using this)]
    by_cases h1 : x.f = y.f
    · have : x.l ≠ y.l := fun e => h0 ⟨h1, e⟩
      simp [this]
    · simp [h1]
theorem detB_f : ∀ {l : List Ed} (k : Nat) (h : k + 1 < l.length), l[k].f = l[k + 1].f → l[k].l = l[k + 1].l → detB l = false
  | [], k, h, _, _ => by simp at h
  | [_], k, h, _, _ => by simp at h
  | x :: y :: l, 0, _, h1, h2 => by
    simp only [List.getElem_cons_zero, List.getElem_cons_succ] at h1 h2
    simp [detB, h1, h2]
  | x :: y :: l, k + 1, h, h1, h2 => by
    rw [detB, detB_f k (by simpa using h) (by simpa using h1) (by simpa using h2), Bool.and_false]
/-- Whether a graph is deterministic, and the error number. -/
def detA (G : Gr) : Bool × Int := if chkG G = 0 then (detB G.es, 0) else (false, 1)
theorem detA_bad {G : Gr} (h : chkG G ≠ 0) : detA G = (false, 1) := by unfold detA; rw [if_neg h]
theorem detA_ok {G : Gr} (h : chkG G = 0) : detA G = (detB G.es, 0) := by unfold detA; rw [if_pos h]
def greatG (G : Gr) : Bool := decide (30 < G.es.length) || (decide (10 < G.n) && decide (G.n ≤ 64))

/-! ### Walks -/
set_option maxRecDepth 100000 in
set_option maxHeartbeats 1000000 in
theorem rSame_any (G H : Gr) (p p' : Option Addr) (c c' : Nat) (w : World) (hG : Sg 3 w edE p G.es) (hH : Sg 3 w edE p' H.es) (lG : G.es.length ≤ 9223372036854775807) (lH : H.es.length ≤ 9223372036854775807) :
    Calls Tryz.prog 10 #[(.agg #[.int .i64 G.q, .int .i64 G.n, .slice p G.es.length c]), (.agg #[.int .i64 H.q, .int .i64 H.n, .slice p' H.es.length c'])] w fun e w' => e = .returned (.bool (sameG G H)) ∧ Below w.heap.size w w' := by
  have hB0 : Below w.heap.size w ((w.alloc (.cells #[.int .i64 G.q, .int .i64 G.n, .slice p G.es.length c] 27)).alloc (.cells #[.int .i64 H.q, .int .i64 H.n, .slice p' H.es.length c'] 27)) := ((Below.refl _ _).alloc (Nat.le_refl _) _).alloc (by simp) _
  have b0 : VRow ((w.alloc (.cells #[.int .i64 G.q, .int .i64 G.n, .slice p G.es.length c] 27)).alloc (.cells #[.int .i64 H.q, .int .i64 H.n, .slice p' H.es.length c'] 27)) w.heap.size 27 [.int .i64 G.q, .int .i64 G.n, .slice p G.es.length c] := (VRow.new w _ _).alloc _
  have b1 : VRow ((w.alloc (.cells #[.int .i64 G.q, .int .i64 G.n, .slice p G.es.length c] 27)).alloc (.cells #[.int .i64 H.q, .int .i64 H.n, .slice p' H.es.length c'] 27)) (w.heap.size + 1) 27 [.int .i64 H.q, .int .i64 H.n, .slice p' H.es.length c'] := VRow.new1 w _ _ _
  have HG := hidI hG; have HH := hidI hH
  clear hG hH
  by_cases hq : G.q = H.q
  · by_cases hn : G.n = H.n
    · by_cases hlen : G.es.length = H.es.length
      · have HS : Hid (sameG G H = decide (G.es = H.es)) := by unfold Hid sameG; rw [decide_eq_true hq, decide_eq_true hn]; rfl
        have d1 : (G.q != H.q) = false := by simpa using hq
        have d2 : (G.n != H.n) = false := by simpa using hn
        have d3 : ((G.es.length : Int) != (H.es.length : Int)) = false := by simp; omega
        have HL := hidI hlen
        clear hq hn hlen
        go_enter Tryz.func10, Tryz.ntmps10
        go_wp2
        clear d1 d2 d3
        generalize ((w.alloc (.cells #[.int .i64 G.q, .int .i64 G.n, .slice p G.es.length c] 27)).alloc (.cells #[.int .i64 H.q, .int .i64 H.n, .slice p' H.es.length c'] 27)) = w0 at *
        go_loopw [5] (fun iv wr => ∃ k : Nat, k ≤ G.es.length ∧ iv = .int .i64 k ∧ Hid (G.es.take k = H.es.take k) ∧ Dr w0 wr) (fun iv _ => G.es.length - (intOf iv).toNat)
        case atStart => exact ⟨0, by omega, rfl, by simp [Hid], Dr.refl _⟩
        case round =>
          obtain ⟨k, hk, rfl, hj, hD⟩ := hrel
          have g2 := (b0.dr hD).at 2 rfl
          have h2 := (b1.dr hD).at 2 rfl
          have hBr := hB0.trans (hD.below _)
          by_cases hlt : k < G.es.length
          · have hlt2 : k < H.es.length := by have := HL.out; omega
            obtain ⟨b3, o3, rfl, _, e0, e1, e2⟩ := (HG.out.below hBr).get3 k hlt rfl
            obtain ⟨b4, o4, rfl, _, e3, e4, e5⟩ := (HH.out.below hBr).get3 k hlt2 rfl
            have hI : (k : Int) < (H.es.length : Int) := by omega
            have hq := neqE G.es[k] H.es[k]
            have hgd := guardE .neq
            by_cases heq : G.es[k] = H.es[k]
            · rw [decide_eq_true heq] at hq
              have HN : Hid (G.es.take (k + 1) = H.es.take (k + 1)) := by unfold Hid; rw [List.take_succ_eq_append_getElem hlt, List.take_succ_eq_append_getElem hlt2, hj.out, heq]
              clear heq
              go_wp2_with fail
              (refine wp_region_quiet_lit (by kernel_rfl) (by kernel_rfl) ?_; (repeat (first | go_big_quiet_step (fail) | quiet_step (fail))); refine wpQuiet_nil ?_; intro _ hwq; obtain ⟨nq, hwq2⟩ := hwq; subst hwq2)
              clear e0 e1 e2 e3 e4 e5 hq hgd g2 h2
              go_wp2
              go_roundw
              case rel => exact ⟨k + 1, by omega, by go_num, HN, hD.one _⟩
              case measure => simp [intOf]; omega
            · rw [decide_eq_false heq] at hq
              have HF : Hid (sameG G H = false) := HS.out.trans (decide_eq_false (es_ne k hlt hlt2 heq))
              clear heq
              go_wp2_with fail
              (refine wp_region_quiet_lit (by kernel_rfl) (by kernel_rfl) ?_; (repeat (first | go_big_quiet_step (fail) | quiet_step (fail))); refine wpQuiet_nil ?_; intro _ hwq; obtain ⟨nq, hwq2⟩ := hwq; subst hwq2)
              clear e0 e1 e2 e3 e4 e5 hq hgd g2 h2
              go_wp2
              go_ret
              exact ⟨ret_bool HF.out.symm, hB0.trans ((hD.one _).below _)⟩
          · have HT : Hid (sameG G H = true) := by
              refine HS.out.trans (decide_eq_true ?_)
              have := hj.out
              rwa [List.take_of_length_le (by omega), List.take_of_length_le (by have := HL.out; omega)] at this
            go_wp2
            go_ret
            exact ⟨ret_bool HT.out.symm, hBr⟩
      · have HF := hidI (sameG_len hlen)
        have d1 : (G.q != H.q) = false := by simpa using hq
        have d2 : (G.n != H.n) = false := by simpa using hn
        have d3 : ((G.es.length : Int) != (H.es.length : Int)) = true := by simp; omega
        clear hq hn hlen
        go_enter Tryz.func10, Tryz.ntmps10
        go_wp2
        go_ret
        exact ⟨ret_bool HF.out.symm, hB0⟩
    · have HF : Hid (sameG G H = false) := by unfold Hid sameG; rw [decide_eq_false hn]; simp
      have d1 : (G.q != H.q) = false := by simpa using hq
      have d2 : (G.n != H.n) = true := by simpa using hn
      clear hq hn
      go_enter Tryz.func10, Tryz.ntmps10
      go_wp2
      go_ret
      exact ⟨ret_bool HF.out.symm, hB0⟩
  · have HF : Hid (sameG G H = false) := by unfold Hid sameG; rw [decide_eq_false hq]; rfl
    have d1 : (G.q != H.q) = true := by simpa using hq
    clear hq
    go_enter Tryz.func10, Tryz.ntmps10
    go_wp2
    go_ret
    exact ⟨ret_bool HF.out.symm, hB0⟩

end Go.Proofs.YthelgembcfdhdaaGreat
namespace Go.Proofs.YthelgembcfdhdaaGreat
open Go.RowKit Go.Sort Go.Shelf Go.Lib

theorem ret_bi' {a : Bool} {b : Int} {x : Bool × Int} (h : x = (a, b)) : Ending.returned (.tuple #[.bool a, .int .i64 b]) = .returned (.tuple #[.bool x.1, .int .i64 x.2]) := by subst h; rfl
def TwoEds (w : World) (a b : Ed) (u v : Value) (wx : World) : Prop :=
  ∃ g h, u = .pointer (some ⟨g, 0, none⟩) ∧ v = .pointer (some ⟨h, 0, none⟩) ∧ VRow wx g 47 (edE a) ∧ VRow wx h 47 (edE b) ∧ Below w.heap.size w wx
end Go.Proofs.YthelgembcfdhdaaGreat
namespace Go.Proofs.YthelgembcfdhdaaGreat
open Go.RowKit Go.Sort Go.Shelf Go.Lib

/-! ### Appending -/
section
variable {P : Program} {w : World}
theorem run_append_sg (base : Nat) (t ty e : TypeId) (i : TypeInfo) (z : Value) (ht : P.underlying t = some (.slice e)) (hi : P.info? e = some i) (hz : i.zero = some z) (hs : i.size = 3) (hby : i.bytes = 24) (hzs : z.cells.size = 3)
    (v : Value) (xs : List Ed) (n : Nat) (hown : w.ownsRow base e 3 v n (cat xs)) (p : Option Addr) (c : Nat) (l : List Ed) (m : Nat) (hm : l.length = m) (hl : Sg 3 w edE p l) (h63 : n + m ≤ 100000) (hbase : base ≤ w.heap.size) :
    ∃ v' w', (Builtin.append_ #[t, t] ty #[v, .slice p m c]).run P w = .ok v' w' ∧ w'.ownsRow base e 3 v' (n + m) (cat (xs ++ l)) ∧ w.grownBy w' v.ownBlock := by
  subst hm
  cases p with
  | none =>
    rcases hl with h0 | ⟨_, _, hp, _⟩
    · subst h0
      refine ⟨v, w, ?_, by simpa using hown, World.grownBy.refl w _⟩
      rcases hown.2 with ⟨rfl, h0⟩ | ⟨g, cap, cur, rfl, _, _, hnc, _⟩
      · simp [Builtin.append_, run_underlying ht, sizeOf, typeInfo, hi, Builtin.lenOf, Builtin.firstCells]
      · simp [Builtin.append_, run_underlying ht, sizeOf, typeInfo, hi, Builtin.lenOf, Builtin.firstCells, hnc, storeCells]
    · cases hp
  | some ad =>
    have hn : ∀ j u, (cat l)[j]? = some u → w.cell? (ad.add j) = some u := by
      rcases hl with h0 | ⟨b, off, hp, _, hc⟩
      · subst h0; simp [cat]
      · cases hp
        intro j u hu
        rw [show (⟨b, off, none⟩ : Addr).add j = ⟨b, off + j, none⟩ by unfold Addr.add; split <;> simp_all]; exact sg_cells hc j u hu
    obtain ⟨v', w', h1, h2, h3, _, _⟩ := run_append_own_at w base t ty e i z 3 24 ht hi hz hs hby hzs (by decide) v n _ hown ad l.length c (cat l) (cat_len l) hn (cat_one l) (by simp only [maxLen]; omega) (by omega) hbase
    exact ⟨v', w', h1, by rw [cat_app]; exact h2, h3⟩
theorem step_append_run {ops : Array Oper} {o : Oper} {a : Act} {K : Act → World → Prop} {Q : Exit → Act → World → Prop} {E : Prop} (hgd : o.guard = none) (s x : Operand) (t : TypeId)
    (ho : o.op = .call { callee := .builtin .append, args := #[s, x], argTypes := #[t, t] }) (sv xv : Value) (hs : a.eval s = sv) (hx : a.eval x = xv) (v' : Value) (w' : World)
    (hrun : (Builtin.append_ #[t, t] o.type #[sv, xv]).run P w = .ok v' w') (h : K (a.put o.dst v') w') : if Region.wanted o (yielded ops a.tmps) = true then Oper.wp P o a w K Q else E := by
  have hw : Region.wanted o (yielded ops a.tmps) = true := by simp [Region.wanted, hgd]
  rw [if_pos hw]
  unfold Oper.wp execOp
  simp only [ho, resolve, invoke, builtin, Sem.run_bind, Sem.run_pure, Result.andThen_ok, List.map_toArray, List.map_cons, List.map_nil, hs, hx, hrun]
  exact h
end
theorem step_append_sg {P : Program} {w : World} {ops : Array Oper} {o : Oper} {a : Act} {K : Act → World → Prop} {Q : Exit → Act → World → Prop} {E : Prop} (hgd : o.guard = none) (s x : Operand) (t : TypeId)
    (ho : o.op = .call { callee := .builtin .append, args := #[s, x], argTypes := #[t, t] }) (sv : Value) (p : Option Addr) (m c : Nat) (hs : a.eval s = sv) (hx : a.eval x = .slice p m c)
    (base : Nat) (e : TypeId) (i : TypeInfo) (z : Value) (ht : P.underlying t = some (.slice e)) (hi : P.info? e = some i) (hz : i.zero = some z) (hsz : i.size = 3) (hby : i.bytes = 24) (hzs : z.cells.size = 3)
    (xs : List Ed) (n : Nat) (l : List Ed) (hm : l.length = m) (h63 : n + m ≤ 100000) (hown : w.ownsRow base e 3 sv n (cat xs)) (hl : Sg 3 w edE p l) (hbase : base ≤ w.heap.size)
    (h : ∀ v' w', w'.ownsRow base e 3 v' (n + m) (cat (xs ++ l)) → w.grownBy w' sv.ownBlock → K (a.put o.dst v') w') : if Region.wanted o (yielded ops a.tmps) = true then Oper.wp P o a w K Q else E := by
  obtain ⟨v', w', h1, h2, h3⟩ := run_append_sg base t o.type e i z ht hi hz hsz hby hzs sv xs n hown p c l m hm hl h63 hbase
  exact step_append_run hgd s x t ho sv _ hs hx v' w' h1 (h v' w' h2 h3)
theorem own_conv {w : World} {B B' e n : Nat} {v : Value} {xs ys : List Ed} (h : w.ownsRow B e 3 v n (cat xs)) (he : ys = xs) (hB : B' ≤ B) : w.ownsRow B' e 3 v ys.length (cat ys) := by
  subst he
  have hn : ys.length = n := by have := h.1; rw [cat_len] at this; omega
  subst hn
  refine ⟨h.1, ?_⟩
  rcases h.2 with h | ⟨g, cap, cur, a, b, r⟩
  · exact .inl h
  · exact .inr ⟨g, cap, cur, a, Nat.le_trans hB b, r⟩
theorem heap_old1 (w : World) (o o' : Obj) : ((w.alloc o).alloc o').heap[w.heap.size]? = some o := (Below.heap_alloc _ o' _ (by simp)).trans (heap_alloc_new w o)
theorem drB (B : Nat) (w : World) : RowKit.Below B w w.drew := ⟨rfl, rfl, rfl, Nat.le_refl _, fun _ _ => rfl⟩
theorem keep3 {W W' : World} {b o0 o1 o2 : Nat} {v0 v1 v2 : Value} (hb : b < W.heap.size) (h0 : W.cell? ⟨b, o0, none⟩ = some v0) (h1 : W.cell? ⟨b, o1, none⟩ = some v1) (h2 : W.cell? ⟨b, o2, none⟩ = some v2) (h : RowKit.Below W.heap.size W W') :
    W'.cell? ⟨b, o0, none⟩ = some v0 ∧ W'.cell? ⟨b, o1, none⟩ = some v1 ∧ W'.cell? ⟨b, o2, none⟩ = some v2 ∧ RowKit.Below W.heap.size W W' :=
  ⟨(h.cell (p := ⟨b, o0, none⟩) hb).trans h0, (h.cell (p := ⟨b, o1, none⟩) hb).trans h1, (h.cell (p := ⟨b, o2, none⟩) hb).trans h2, h⟩
theorem heap_new1 (w : World) (o o' : Obj) : ((w.alloc o).alloc o').heap[w.heap.size + 1]? = some o' := by
  have := heap_alloc_new (w.alloc o) o'; rwa [World.size_alloc] at this
theorem Sg.take {w : World} {p : Option Addr} {l : List Ed} (h : Sg 3 w edE p l) (k : Nat) : Sg 3 w edE p (l.take k) := by
  rcases h with h | ⟨b, off, hp, hb, hc⟩
  · subst h; exact .inl (by simp)
  · exact .inr ⟨b, off, hp, hb, fun i hi j hj => by rw [List.getElem_take]; exact hc i (by rw [List.length_take] at hi; omega) j hj⟩
theorem Sg.drop {w : World} {b off : Nat} {l : List Ed} (h : Sg 3 w edE (some ⟨b, off, none⟩) l) (k : Nat) : Sg 3 w edE (some ⟨b, off + k * 3, none⟩) (l.drop k) := by
  rcases h with h | ⟨b', off', hp, hb, hc⟩
  · subst h; exact .inl (by simp)
  · cases hp
    refine .inr ⟨b, off + k * 3, rfl, hb, fun i hi j hj => ?_⟩
    rw [List.length_drop] at hi
    have := hc (k + i) (by omega) j hj
    rw [List.getElem_drop, ← this]
    congr 2
    rw [Nat.add_mul]; omega
theorem own_empty {W : World} {g B : Nat} {e : TypeId} (h : W.heap[g]? = some (.cells #[] e (0, 0))) (hB : B ≤ g) : W.ownsRow B e 3 (.slice (some ⟨g, 0, none⟩) 0 0) 0 (cat []) :=
  ⟨rfl, .inr ⟨g, 0, #[], rfl, hB, h, Nat.le_refl _, by simp, rfl, rfl⟩⟩

/-! ### Insertion -/
/-- Where an edge belongs. -/
def posE (x : Ed) (l : List Ed) (k : Nat) : Prop := k ≤ l.length ∧ ∀ m (h : m < l.length), m < k → ltE l[m] x = true
theorem insE_at {x : Ed} : ∀ {l : List Ed} {k : Nat}, l.Pairwise (fun a b => ltE a b = true) → posE x l k → (∀ h : k < l.length, ltE l[k] x = false) → (∀ h : k < l.length, l[k] ≠ x) → insE x l = l.take k ++ x :: l.drop k
  | [], k, _, hp, _, _ => by have := hp.1; simp at this; subst this; rfl
  | y :: l, 0, _, _, h1, h2 => by
    have h1 := h1 (by simp); have h2 := h2 (by simp)
    simp only [List.getElem_cons_zero] at h1 h2
    unfold insE
    rw [if_pos]
    · rfl
    · cases hb : ltE x y
      · exact absurd (ltE_total h1 hb) h2
      · rfl
  | y :: l, k + 1, hs, hp, h1, h2 => by
    have hy := hp.2 0 (by simp) (by omega)
    simp only [List.getElem_cons_zero] at hy
    have ih := insE_at (x := x) (l := l) (k := k) (List.pairwise_cons.1 hs).2 ⟨by have := hp.1; simp at this; omega, fun m hm hk => by have := hp.2 (m + 1) (by simpa using hm) (by omega); simpa using this⟩
      (fun h => by have := h1 (by simpa using h); simpa using this) (fun h => by have := h2 (by simpa using h); simpa using this)
    unfold insE
    rw [if_neg (by rw [ltE_asymm hy]; decide), if_neg (fun e => by subst e; rw [ltE_irrefl] at hy; cases hy), ih]
    rfl
theorem insE_mem {x : Ed} {l : List Ed} (hs : l.Pairwise (fun a b => ltE a b = true)) (hm : x ∈ l) : insE x l = l :=
  norm_unique (insE_srt hs) hs (fun z => by rw [mem_insE]; exact ⟨fun h => h.elim (fun e => by subst e; exact hm) id, .inr⟩)
theorem norm_take_succ (l : List Ed) (k : Nat) (h : k < l.length) : norm (l.take (k + 1)) = insE l[k] (norm (l.take k)) := by
  rw [List.take_succ_eq_append_getElem h, norm_snoc]
theorem insE_len (x : Ed) : ∀ l : List Ed, (insE x l).length ≤ l.length + 1
  | [] => by simp [insE]
  | y :: l => by
    have := insE_len x l
    unfold insE; split
    · simp
    · split
      · simp
      · simp; omega
theorem norm_len (l : List Ed) : ∀ k, k ≤ l.length → (norm (l.take k)).length ≤ k := by
  intro k
  induction k with
  | zero => intro _; simp [norm]
  | succ k ih =>
    intro h
    rw [norm_take_succ l k (by omega)]
    have := insE_len l[k] (norm (l.take k)); have := ih (by omega); omega

set_option maxRecDepth 100000 in
set_option maxHeartbeats 4000000 in
theorem rSorted_any (l : List Ed) (p : Option Addr) (c : Nat) (w : World) (hin : Sg 3 w edE p l) (hl : l.length ≤ 10000) :
    Calls Tryz.prog 68 #[.slice p l.length c] w (RetOwnE (norm l) w) := by
  have HIN := hidI hin
  obtain ⟨i0, hi0, hz0, hz1, hz2⟩ := info_parts infoE
  clear hin
  go_enter Tryz.func68, Tryz.ntmps68
  go_wp2
  go_loopw [3, 4] (fun ov iv wr => ∃ k : Nat, k ≤ l.length ∧ iv = .int .i64 k ∧ wr.ownsRow w.heap.size 47 3 ov (norm (l.take k)).length (cat (norm (l.take k))) ∧ Below w.heap.size w wr) (fun _ iv _ => l.length - (intOf iv).toNat)
  case atStart => exact ⟨0, by omega, rfl, World.ownsRow_nil _ _ _ _, Below.refl _ _⟩
  case round =>
    obtain ⟨k, hk, rfl, hown, hB⟩ := hrel
    by_cases hlt : k < l.length
    · have HNX := hidI (norm_take_succ l k hlt)
      have hNs := norm_srt (l.take k)
      have hNl := norm_len l k hk
      generalize norm (l.take k) = N at *
      obtain ⟨po, co, rfl, hso, hco, _⟩ := own_sg hown
      have HS := hidI hNs
      obtain ⟨b3, o3, rfl, _⟩ := HIN.out.get k hlt
      clear hNs
      go_upto_block 2 with fail
      go_cut [5] (fun s5 wx => ∃ j : Nat, s5 = .int .i64 j ∧ Hid (posE l[k] N j ∧ ∀ h : j < N.length, ltE N[j] l[k] = false) ∧ Below wr.heap.size wr wx)
      case first =>
        obtain ⟨wo, rfl⟩ : ∃ wo : World, wo = wr := ⟨_, rfl⟩
        go_wp2_with fail
        go_loopw [5] (fun s5 wx => ∃ j : Nat, s5 = .int .i64 j ∧ Hid (posE l[k] N j) ∧ Below wo.heap.size wo wx) (fun s5 _ => N.length - (intOf s5).toNat)
        case atStart => exact ⟨0, rfl, ⟨by omega, fun m _ h => by omega⟩, Below.refl _ _⟩
        case round =>
          obtain ⟨j, rfl, hp, hBx⟩ := hrel
          have hjN := hp.out.1
          by_cases hjl : j < N.length
          · have hI : (j : Int) < (N.length : Int) := by omega
            have hI2 : (k : Int) < (l.length : Int) := by omega
            have HP : Hid (ltE N[j] l[k] = true → posE l[k] N (j + 1)) := fun h => ⟨by omega, fun m hm h1 => by
              by_cases e : m = j
              · subst e; exact h
              · exact hp.out.2 m hm (by omega)⟩
            have HC := hidI (cmpE_neg N[j] l[k])
            have hBy := hBx
            have hBy2 := hB.trans (hBx.mono hB.size)
            obtain ⟨b4, o4, hpo, _⟩ := hso.get j hjl
            subst hpo
            clear hBx
            go_wp2_with fail
            refine region_tail 13 (by kernel_rfl) (by kernel_rfl) fun W hD => ?_
            have hBW := hBy.trans (hD.below _)
            have hBW2 := hBy2.trans (hD.below _)
            obtain ⟨b5, o5, hx5, _, e0, e1, e2⟩ := (hso.below hBW).get3 j hjl rfl
            obtain ⟨b6, o6, hx6, _, e3, e4, e5⟩ := (HIN.out.below hBW2).get3 k hlt rfl
            cases hx5; cases hx6
            simp only [List.take_succ_cons, List.take_zero, List.drop_succ_cons, List.drop_zero]
            iterate 13 still_step
            refine wpStill_nil ?_
            go_wp2_with fail
            refine (rCompare_up N[j] l[k] _).mono ?_
            rintro e w1 ⟨rfl, hU1⟩
            have hB1 := hBW.trans (hU1.below.mono hBW.size)
            clear e0 e1 e2 e3 e4 e5
            by_cases hcs : cmpE N[j] l[k] < 0
            · have HN := hidI (HP.out (by rw [← HC.out, decide_eq_true hcs]))
              go_wp2
              go_roundw
              case rel => exact ⟨j + 1, by go_num, HN, hB1⟩
              case measure => simp [intOf]; omega
            · have HF : Hid (ltE N[j] l[k] = false) := by unfold Hid; rw [← HC.out, decide_eq_false hcs]
              have hcs' : 0 ≤ cmpE N[j] l[k] := by omega
              go_wp2_with fail
              go_meet
              exact ⟨j, rfl, ⟨hp.out, fun _ => HF.out⟩, hB1⟩
          · have hd : decide ((j : Int) < (N.length : Int)) = false := decide_eq_false (by omega)
            have hd2 : decide (j < N.length) = false := decide_eq_false (by omega)
            go_wp2_with fail
            (refine wp_region_quiet_lit (by kernel_rfl) (by kernel_rfl) ?_; (repeat (first | go_big_quiet_step (fail) | quiet_step (fail))); refine wpQuiet_nil ?_; intro _ hwq; obtain ⟨nq, hwq2⟩ := hwq; subst hwq2)
            go_wp2_with fail
            go_meet
            exact ⟨j, rfl, ⟨hp.out, fun h => absurd h hjl⟩, below_dN hBx nq⟩
      case rest =>
        obtain ⟨j, rfl, hp, hBx⟩ := hcut
        have hjN := hp.out.1.1
        have hBw := hB.trans (hBx.mono hB.size)
        have hownc := hown.below hBx
        have hsoc := hso.below hBx
        obtain ⟨b6, o6, hx6, hb3, e3, e4, e5⟩ := (HIN.out.below hBw).get3 k hlt rfl
        cases hx6
        have hI2 : (k : Int) < (l.length : Int) := by omega
        by_cases hjl : j < N.length
        · have hI : (j : Int) < (N.length : Int) := by omega
          obtain ⟨b4, o4, rfl, _, e0, e1, e2⟩ := hsoc.get3 j hjl rfl
          have hq := eqlE N[j] l[k]
          have hgd := guardE .eql
          by_cases heq : N[j] = l[k]
          · rw [decide_eq_true heq] at hq
            have HX : Hid (norm (l.take (k + 1)) = N) := HNX.out.trans (insE_mem HS.out (by rw [← heq]; exact List.getElem_mem hjl))
            clear heq
            go_wp2_with fail
            (refine wp_region_quiet_lit (by kernel_rfl) (by kernel_rfl) ?_; (repeat (first | go_big_quiet_step (fail) | quiet_step (fail))); refine wpQuiet_nil ?_; intro _ hwq; obtain ⟨nq, hwq2⟩ := hwq; subst hwq2)
            clear e0 e1 e2 e3 e4 e5 hq hgd
            go_wp2
            go_roundw
            case rel => exact ⟨k + 1, by omega, by go_num, by rw [HX.out]; exact hownc, below_dN hBw nq⟩
            case measure => simp [intOf]; omega
          · rw [decide_eq_false heq] at hq
            have HX : Hid (norm (l.take (k + 1)) = N.take j ++ l[k] :: N.drop j) := HNX.out.trans (insE_at HS.out hp.out.1 hp.out.2 (fun _ => heq))
            clear heq
            go_wp2_with fail
            (refine wp_region_quiet_lit (by kernel_rfl) (by kernel_rfl) ?_; (repeat (first | go_big_quiet_step (fail) | quiet_step (fail))); refine wpQuiet_nil ?_; intro _ hwq; obtain ⟨nq, hwq2⟩ := hwq; subst hwq2)
            clear e0 e1 e2 hq hgd
            go_wp2_with fail
            have hcj : ¬ co = j := by omega
            have hI3 : (j : Int) ≤ (co : Int) := by omega
            have hI4 : (N.length : Int) ≤ (co : Int) := by omega
            have hownq : (wc.drewN nq).ownsRow w.heap.size 47 3 (.slice (some ⟨b4, o4, none⟩) N.length co) N.length (cat N) := hownc
            have hsoq : Sg 3 (wc.drewN nq) edE (some ⟨b4, o4, none⟩) N := hsoc
            have hBq : Below w.heap.size w (wc.drewN nq) := below_dN hBw nq
            have HNL : Hid ((N.take j).length = j) := by unfold Hid; rw [List.length_take]; omega
            have HDL : Hid ((N.drop j).length = N.length - j) := by unfold Hid; simp
            have k0 : (wc.drewN nq).cell? ⟨b3, o3 + k * 3, none⟩ = some (.int .i64 l[k].f) := e3
            have k1 : (wc.drewN nq).cell? ⟨b3, o3 + k * 3 + 1, none⟩ = some (.int .i64 l[k].l) := e4
            have k2 : (wc.drewN nq).cell? ⟨b3, o3 + k * 3 + 2, none⟩ = some (.int .i64 l[k].t) := e5
            have hb3q : b3 < (wc.drewN nq).heap.size := hb3
            clear hownc hsoc hBx hBw e3 e4 e5
            generalize wc.drewN nq = wq at *
            go_region_held3 (fun w' => w'.cell? ⟨b3, o3 + k * 3, none⟩ = some (.int .i64 l[k].f) ∧ w'.cell? ⟨b3, o3 + k * 3 + 1, none⟩ = some (.int .i64 l[k].l) ∧ w'.cell? ⟨b3, o3 + k * 3 + 2, none⟩ = some (.int .i64 l[k].t) ∧ Below wq.heap.size wq w')
              ((go_split_ands; refine keep3 hb3q k0 k1 k2 ?_; first
                | assumption
                | exact drB _ _
                | exact RowKit.Below.grown (by assumption) hgC (RowKit.Below.size (by assumption)) (fun j0 e => (hoB.lt j0 e).1)
                | exact RowKit.Below.grown (by assumption) hgB (RowKit.Below.size (by assumption)) (fun j0 e => (hoA.lt j0 e).1)
                | exact RowKit.Below.grown (by assumption) hgA (RowKit.Below.size (by assumption)) (fun j0 e => by simp [Value.ownBlock] at e; omega)
                | exact RowKit.Below.alloc (by assumption) (RowKit.Below.size (by assumption)) _
                | exact RowKit.Below.trans (by assumption) (drB _ _)
                | fail))
              (first
                | (go_split_ands; refine step_append_sg (by rfl) _ _ _ (by rfl) (.slice (some ⟨_, 0, none⟩) 0 0) _ j _ (by rfl) (by rfl) wq.heap.size 47 i0 _ Tryz.underlying25 hi0 hz0 hz1 hz2 rfl [] 0 (N.take j) HNL.out (by omega) (own_empty (by first | exact heap_alloc_new wq _ | exact heap_new1 wq _ _ | exact heap_old1 wq _ _) (by omega)) ((hsoq.below (by assumption)).take j) (RowKit.Below.size (by assumption)) ?_; intro vA wA hoA hgA)
                | (go_split_ands; refine step_append_sg (by rfl) _ _ _ (by rfl) vA (some ⟨_, 0, none⟩) 1 1 (by rfl) (by rfl) wq.heap.size 47 i0 _ Tryz.underlying25 hi0 hz0 hz1 hz2 rfl ([] ++ N.take j) (0 + j) [l[k]] rfl (by omega) (by first | exact hoA | exact hoA.alloc _) (by first | exact Sg.of_row (l := [l[k]]) (VRow.new wA 47 _) | exact Sg.of_row (l := [l[k]]) ((VRow.new1 wq _ 47 (cat [l[k]])).grown hgA (by simp [Value.ownBlock])) | exact Sg.of_row (l := [l[k]]) (((VRow.new wq 47 (cat [l[k]])).alloc _).grown hgA (by simp [Value.ownBlock])) | exact Sg.of_row (l := [l[k]]) (((VRow.new1 wq _ 47 (cat [l[k]])).dr ⟨1, rfl⟩).grown hgA (by simp [Value.ownBlock])) | exact Sg.of_row (l := [l[k]]) ((((VRow.new wq 47 (cat [l[k]])).alloc _).dr ⟨1, rfl⟩).grown hgA (by simp [Value.ownBlock]))) (RowKit.Below.size (by assumption)) ?_; intro vB wB hoB hgB)
                | (go_split_ands; refine step_append_sg (by rfl) _ _ _ (by rfl) vB _ _ _ (by rfl) (by rfl) wq.heap.size 47 i0 _ Tryz.underlying25 hi0 hz0 hz1 hz2 rfl ([] ++ N.take j ++ [l[k]]) (0 + j + 1) (N.drop j) (by first | exact HDL.out | simp) (by omega) hoB (by first | exact ((hsoq.below (by assumption)).drop j) | exact .inl (by simp)) (RowKit.Below.size (by assumption)) ?_; intro vC wC hoC hgC)
                | fail)
            all_goals
              go_split_ands
              have hBC : RowKit.Below wq.heap.size wq wC := by assumption
              have hfin := own_conv (ys := norm (l.take (k + 1))) hoC (by rw [HX.out]; simp) hBq.size
              have hBf := hBq.trans (hBC.mono hBq.size)
              clear hoA hgA hoB hgB hoC hgC hBC
              go_wp2
              go_roundw
              case rel => exact ⟨k + 1, by omega, by go_num, hfin, hBf⟩
              case measure => simp [intOf]; omega
        · rcases own_forms hownc with ⟨he, hN0⟩ | ⟨g4, c4, he⟩
          · obtain rfl : N = [] := List.length_eq_zero_iff.1 hN0
            obtain rfl : j = 0 := by simpa using hjN
            simp only [List.length_nil, Value.slice.injEq, true_and] at he
            obtain ⟨rfl, rfl⟩ := he
            have HX : Hid (norm (l.take (k + 1)) = ([] : List Ed).take 0 ++ l[k] :: ([] : List Ed).drop 0) := HNX.out.trans (insE_at HS.out hp.out.1 hp.out.2 (fun h => absurd h hjl))
            go_wp2_with fail
            (refine wp_region_quiet_lit (by kernel_rfl) (by kernel_rfl) ?_; (repeat (first | go_big_quiet_step (fail) | quiet_step (fail))); refine wpQuiet_nil ?_; intro _ hwq; obtain ⟨nq, hwq2⟩ := hwq; subst hwq2)
            go_wp2_with fail
            have hownq : (wc.drewN nq).ownsRow w.heap.size 47 3 (.slice none 0 0) 0 (cat ([] : List Ed)) := hownc
            have hsoq : Sg 3 (wc.drewN nq) edE none ([] : List Ed) := hsoc
            have hBq : Below w.heap.size w (wc.drewN nq) := below_dN hBw nq
            have HNL : Hid ((([] : List Ed).take 0).length = 0) := by unfold Hid; rw [List.length_take]; omega
            have HDL : Hid ((([] : List Ed).drop 0).length = 0 - 0) := by unfold Hid; simp
            have k0 : (wc.drewN nq).cell? ⟨b3, o3 + k * 3, none⟩ = some (.int .i64 l[k].f) := e3
            have k1 : (wc.drewN nq).cell? ⟨b3, o3 + k * 3 + 1, none⟩ = some (.int .i64 l[k].l) := e4
            have k2 : (wc.drewN nq).cell? ⟨b3, o3 + k * 3 + 2, none⟩ = some (.int .i64 l[k].t) := e5
            have hb3q : b3 < (wc.drewN nq).heap.size := hb3
            clear hownc hsoc hBx hBw e3 e4 e5
            generalize wc.drewN nq = wq at *
            go_region_held3 (fun w' => w'.cell? ⟨b3, o3 + k * 3, none⟩ = some (.int .i64 l[k].f) ∧ w'.cell? ⟨b3, o3 + k * 3 + 1, none⟩ = some (.int .i64 l[k].l) ∧ w'.cell? ⟨b3, o3 + k * 3 + 2, none⟩ = some (.int .i64 l[k].t) ∧ Below wq.heap.size wq w')
              ((go_split_ands; refine keep3 hb3q k0 k1 k2 ?_; first
                | assumption
                | exact drB _ _
                | exact RowKit.Below.grown (by assumption) hgC (RowKit.Below.size (by assumption)) (fun j0 e => (hoB.lt j0 e).1)
                | exact RowKit.Below.grown (by assumption) hgB (RowKit.Below.size (by assumption)) (fun j0 e => (hoA.lt j0 e).1)
                | exact RowKit.Below.grown (by assumption) hgA (RowKit.Below.size (by assumption)) (fun j0 e => by simp [Value.ownBlock] at e; omega)
                | exact RowKit.Below.alloc (by assumption) (RowKit.Below.size (by assumption)) _
                | exact RowKit.Below.trans (by assumption) (drB _ _)
                | fail))
              (first
                | (go_split_ands; refine step_append_sg (by rfl) _ _ _ (by rfl) (.slice (some ⟨_, 0, none⟩) 0 0) _ 0 _ (by rfl) (by rfl) wq.heap.size 47 i0 _ Tryz.underlying25 hi0 hz0 hz1 hz2 rfl [] 0 (([] : List Ed).take 0) HNL.out (by omega) (own_empty (by first | exact heap_alloc_new wq _ | exact heap_new1 wq _ _ | exact heap_old1 wq _ _) (by omega)) ((hsoq.below (by assumption)).take 0) (RowKit.Below.size (by assumption)) ?_; intro vA wA hoA hgA)
                | (go_split_ands; refine step_append_sg (by rfl) _ _ _ (by rfl) vA (some ⟨_, 0, none⟩) 1 1 (by rfl) (by rfl) wq.heap.size 47 i0 _ Tryz.underlying25 hi0 hz0 hz1 hz2 rfl ([] ++ ([] : List Ed).take 0) (0 + 0) [l[k]] rfl (by omega) (by first | exact hoA | exact hoA.alloc _) (by first | exact Sg.of_row (l := [l[k]]) (VRow.new wA 47 _) | exact Sg.of_row (l := [l[k]]) ((VRow.new1 wq _ 47 (cat [l[k]])).grown hgA (by simp [Value.ownBlock])) | exact Sg.of_row (l := [l[k]]) (((VRow.new wq 47 (cat [l[k]])).alloc _).grown hgA (by simp [Value.ownBlock])) | exact Sg.of_row (l := [l[k]]) (((VRow.new1 wq _ 47 (cat [l[k]])).dr ⟨1, rfl⟩).grown hgA (by simp [Value.ownBlock])) | exact Sg.of_row (l := [l[k]]) ((((VRow.new wq 47 (cat [l[k]])).alloc _).dr ⟨1, rfl⟩).grown hgA (by simp [Value.ownBlock]))) (RowKit.Below.size (by assumption)) ?_; intro vB wB hoB hgB)
                | (go_split_ands; refine step_append_sg (by rfl) _ _ _ (by rfl) vB _ _ _ (by rfl) (by rfl) wq.heap.size 47 i0 _ Tryz.underlying25 hi0 hz0 hz1 hz2 rfl ([] ++ ([] : List Ed).take 0 ++ [l[k]]) (0 + 0 + 1) (([] : List Ed).drop 0) (by first | exact HDL.out | simp) (by omega) hoB (by first | exact ((hsoq.below (by assumption)).drop 0) | exact .inl (by simp)) (RowKit.Below.size (by assumption)) ?_; intro vC wC hoC hgC)
                | fail)
            all_goals
              go_split_ands
              have hBC : RowKit.Below wq.heap.size wq wC := by assumption
              have hfin := own_conv (ys := norm (l.take (k + 1))) hoC (by rw [HX.out]; simp) hBq.size
              have hBf := hBq.trans (hBC.mono hBq.size)
              clear hoA hgA hoB hgB hoC hgC hBC
              go_wp2
              go_roundw
              case rel => exact ⟨k + 1, by omega, by go_num, hfin, hBf⟩
              case measure => simp [intOf]; omega
          · obtain rfl : j = N.length := by omega
            have HX : Hid (norm (l.take (k + 1)) = N.take N.length ++ l[k] :: N.drop N.length) := HNX.out.trans (insE_at HS.out hp.out.1 hp.out.2 (fun h => absurd h hjl))
            have hd : decide ((N.length : Int) < (N.length : Int)) = false := decide_eq_false (by omega)
            have hd2 : decide (N.length < N.length) = false := decide_eq_false (by omega)
            cases he
            by_cases hcj : co = N.length
            · subst hcj
              go_wp2_with fail
              (refine wp_region_quiet_lit (by kernel_rfl) (by kernel_rfl) ?_; (repeat (first | go_big_quiet_step (fail) | quiet_step (fail))); refine wpQuiet_nil ?_; intro _ hwq; obtain ⟨nq, hwq2⟩ := hwq; subst hwq2)
              go_wp2_with fail
              have hownq : (wc.drewN nq).ownsRow w.heap.size 47 3 (.slice (some ⟨g4, 0, none⟩) N.length N.length) N.length (cat N) := hownc
              have hsoq : Sg 3 (wc.drewN nq) edE (some ⟨g4, 0, none⟩) N := hsoc
              have hBq : Below w.heap.size w (wc.drewN nq) := below_dN hBw nq
              have HNL : Hid ((N.take N.length).length = N.length) := by unfold Hid; rw [List.length_take]; omega
              have HDL : Hid ((N.drop N.length).length = N.length - N.length) := by unfold Hid; simp
              have k0 : (wc.drewN nq).cell? ⟨b3, o3 + k * 3, none⟩ = some (.int .i64 l[k].f) := e3
              have k1 : (wc.drewN nq).cell? ⟨b3, o3 + k * 3 + 1, none⟩ = some (.int .i64 l[k].l) := e4
              have k2 : (wc.drewN nq).cell? ⟨b3, o3 + k * 3 + 2, none⟩ = some (.int .i64 l[k].t) := e5
              have hb3q : b3 < (wc.drewN nq).heap.size := hb3
              clear hownc hsoc hBx hBw e3 e4 e5
              generalize wc.drewN nq = wq at *
              go_region_held3 (fun w' => w'.cell? ⟨b3, o3 + k * 3, none⟩ = some (.int .i64 l[k].f) ∧ w'.cell? ⟨b3, o3 + k * 3 + 1, none⟩ = some (.int .i64 l[k].l) ∧ w'.cell? ⟨b3, o3 + k * 3 + 2, none⟩ = some (.int .i64 l[k].t) ∧ Below wq.heap.size wq w')
                ((go_split_ands; refine keep3 hb3q k0 k1 k2 ?_; first
                  | assumption
                  | exact drB _ _
                  | exact RowKit.Below.grown (by assumption) hgC (RowKit.Below.size (by assumption)) (fun j0 e => (hoB.lt j0 e).1)
                  | exact RowKit.Below.grown (by assumption) hgB (RowKit.Below.size (by assumption)) (fun j0 e => (hoA.lt j0 e).1)
                  | exact RowKit.Below.grown (by assumption) hgA (RowKit.Below.size (by assumption)) (fun j0 e => by simp [Value.ownBlock] at e; omega)
                  | exact RowKit.Below.alloc (by assumption) (RowKit.Below.size (by assumption)) _
                  | exact RowKit.Below.trans (by assumption) (drB _ _)
                  | fail))
                (first
                  | (go_split_ands; refine step_append_sg (by rfl) _ _ _ (by rfl) (.slice (some ⟨_, 0, none⟩) 0 0) _ N.length _ (by rfl) (by rfl) wq.heap.size 47 i0 _ Tryz.underlying25 hi0 hz0 hz1 hz2 rfl [] 0 (N.take N.length) HNL.out (by omega) (own_empty (by first | exact heap_alloc_new wq _ | exact heap_new1 wq _ _ | exact heap_old1 wq _ _) (by omega)) ((hsoq.below (by assumption)).take N.length) (RowKit.Below.size (by assumption)) ?_; intro vA wA hoA hgA)
                  | (go_split_ands; refine step_append_sg (by rfl) _ _ _ (by rfl) vA (some ⟨_, 0, none⟩) 1 1 (by rfl) (by rfl) wq.heap.size 47 i0 _ Tryz.underlying25 hi0 hz0 hz1 hz2 rfl ([] ++ N.take N.length) (0 + N.length) [l[k]] rfl (by omega) (by first | exact hoA | exact hoA.alloc _) (by first | exact Sg.of_row (l := [l[k]]) (VRow.new wA 47 _) | exact Sg.of_row (l := [l[k]]) ((VRow.new1 wq _ 47 (cat [l[k]])).grown hgA (by simp [Value.ownBlock])) | exact Sg.of_row (l := [l[k]]) (((VRow.new wq 47 (cat [l[k]])).alloc _).grown hgA (by simp [Value.ownBlock])) | exact Sg.of_row (l := [l[k]]) (((VRow.new1 wq _ 47 (cat [l[k]])).dr ⟨1, rfl⟩).grown hgA (by simp [Value.ownBlock])) | exact Sg.of_row (l := [l[k]]) ((((VRow.new wq 47 (cat [l[k]])).alloc _).dr ⟨1, rfl⟩).grown hgA (by simp [Value.ownBlock]))) (RowKit.Below.size (by assumption)) ?_; intro vB wB hoB hgB)
                  | (go_split_ands; refine step_append_sg (by rfl) _ _ _ (by rfl) vB _ _ _ (by rfl) (by rfl) wq.heap.size 47 i0 _ Tryz.underlying25 hi0 hz0 hz1 hz2 rfl ([] ++ N.take N.length ++ [l[k]]) (0 + N.length + 1) (N.drop N.length) (by first | exact HDL.out | simp) (by omega) hoB (by first | exact ((hsoq.below (by assumption)).drop N.length) | exact .inl (by simp)) (RowKit.Below.size (by assumption)) ?_; intro vC wC hoC hgC)
                  | fail)
              all_goals
                go_split_ands
                have hBC : RowKit.Below wq.heap.size wq wC := by assumption
                have hfin := own_conv (ys := norm (l.take (k + 1))) hoC (by rw [HX.out]; simp) hBq.size
                have hBf := hBq.trans (hBC.mono hBq.size)
                clear hoA hgA hoB hgB hoC hgC hBC
                go_wp2
                go_roundw
                case rel => exact ⟨k + 1, by omega, by go_num, hfin, hBf⟩
                case measure => simp [intOf]; omega
            · have hI4 : (N.length : Int) ≤ (co : Int) := by omega
              go_wp2_with fail
              (refine wp_region_quiet_lit (by kernel_rfl) (by kernel_rfl) ?_; (repeat (first | go_big_quiet_step (fail) | quiet_step (fail))); refine wpQuiet_nil ?_; intro _ hwq; obtain ⟨nq, hwq2⟩ := hwq; subst hwq2)
              go_wp2_with fail
              have hownq : (wc.drewN nq).ownsRow w.heap.size 47 3 (.slice (some ⟨g4, 0, none⟩) N.length co) N.length (cat N) := hownc
              have hsoq : Sg 3 (wc.drewN nq) edE (some ⟨g4, 0, none⟩) N := hsoc
              have hBq : Below w.heap.size w (wc.drewN nq) := below_dN hBw nq
              have HNL : Hid ((N.take N.length).length = N.length) := by unfold Hid; rw [List.length_take]; omega
              have HDL : Hid ((N.drop N.length).length = N.length - N.length) := by unfold Hid; simp
              have k0 : (wc.drewN nq).cell? ⟨b3, o3 + k * 3, none⟩ = some (.int .i64 l[k].f) := e3
              have k1 : (wc.drewN nq).cell? ⟨b3, o3 + k * 3 + 1, none⟩ = some (.int .i64 l[k].l) := e4
              have k2 : (wc.drewN nq).cell? ⟨b3, o3 + k * 3 + 2, none⟩ = some (.int .i64 l[k].t) := e5
              have hb3q : b3 < (wc.drewN nq).heap.size := hb3
              clear hownc hsoc hBx hBw e3 e4 e5
              generalize wc.drewN nq = wq at *
              go_region_held3 (fun w' => w'.cell? ⟨b3, o3 + k * 3, none⟩ = some (.int .i64 l[k].f) ∧ w'.cell? ⟨b3, o3 + k * 3 + 1, none⟩ = some (.int .i64 l[k].l) ∧ w'.cell? ⟨b3, o3 + k * 3 + 2, none⟩ = some (.int .i64 l[k].t) ∧ Below wq.heap.size wq w')
                ((go_split_ands; refine keep3 hb3q k0 k1 k2 ?_; first
                  | assumption
                  | exact drB _ _
                  | exact RowKit.Below.grown (by assumption) hgC (RowKit.Below.size (by assumption)) (fun j0 e => (hoB.lt j0 e).1)
                  | exact RowKit.Below.grown (by assumption) hgB (RowKit.Below.size (by assumption)) (fun j0 e => (hoA.lt j0 e).1)
                  | exact RowKit.Below.grown (by assumption) hgA (RowKit.Below.size (by assumption)) (fun j0 e => by simp [Value.ownBlock] at e; omega)
                  | exact RowKit.Below.alloc (by assumption) (RowKit.Below.size (by assumption)) _
                  | exact RowKit.Below.trans (by assumption) (drB _ _)
                  | fail))
                (first
                  | (go_split_ands; refine step_append_sg (by rfl) _ _ _ (by rfl) (.slice (some ⟨_, 0, none⟩) 0 0) _ N.length _ (by rfl) (by rfl) wq.heap.size 47 i0 _ Tryz.underlying25 hi0 hz0 hz1 hz2 rfl [] 0 (N.take N.length) HNL.out (by omega) (own_empty (by first | exact heap_alloc_new wq _ | exact heap_new1 wq _ _ | exact heap_old1 wq _ _) (by omega)) ((hsoq.below (by assumption)).take N.length) (RowKit.Below.size (by assumption)) ?_; intro vA wA hoA hgA)
                  | (go_split_ands; refine step_append_sg (by rfl) _ _ _ (by rfl) vA (some ⟨_, 0, none⟩) 1 1 (by rfl) (by rfl) wq.heap.size 47 i0 _ Tryz.underlying25 hi0 hz0 hz1 hz2 rfl ([] ++ N.take N.length) (0 + N.length) [l[k]] rfl (by omega) (by first | exact hoA | exact hoA.alloc _) (by first | exact Sg.of_row (l := [l[k]]) (VRow.new wA 47 _) | exact Sg.of_row (l := [l[k]]) ((VRow.new1 wq _ 47 (cat [l[k]])).grown hgA (by simp [Value.ownBlock])) | exact Sg.of_row (l := [l[k]]) (((VRow.new wq 47 (cat [l[k]])).alloc _).grown hgA (by simp [Value.ownBlock])) | exact Sg.of_row (l := [l[k]]) (((VRow.new1 wq _ 47 (cat [l[k]])).dr ⟨1, rfl⟩).grown hgA (by simp [Value.ownBlock])) | exact Sg.of_row (l := [l[k]]) ((((VRow.new wq 47 (cat [l[k]])).alloc _).dr ⟨1, rfl⟩).grown hgA (by simp [Value.ownBlock]))) (RowKit.Below.size (by assumption)) ?_; intro vB wB hoB hgB)
                  | (go_split_ands; refine step_append_sg (by rfl) _ _ _ (by rfl) vB _ _ _ (by rfl) (by rfl) wq.heap.size 47 i0 _ Tryz.underlying25 hi0 hz0 hz1 hz2 rfl ([] ++ N.take N.length ++ [l[k]]) (0 + N.length + 1) (N.drop N.length) (by first | exact HDL.out | simp) (by omega) hoB (by first | exact ((hsoq.below (by assumption)).drop N.length) | exact .inl (by simp)) (RowKit.Below.size (by assumption)) ?_; intro vC wC hoC hgC)
                  | fail)
              all_goals
                go_split_ands
                have hBC : RowKit.Below wq.heap.size wq wC := by assumption
                have hfin := own_conv (ys := norm (l.take (k + 1))) hoC (by rw [HX.out]; simp) hBq.size
                have hBf := hBq.trans (hBC.mono hBq.size)
                clear hoA hgA hoB hgB hoC hgC hBC
                go_wp2
                go_roundw
                case rel => exact ⟨k + 1, by omega, by go_num, hfin, hBf⟩
                case measure => simp [intOf]; omega
    · obtain rfl : k = l.length := by omega
      rw [List.take_length] at hown
      go_wp2
      go_ret
      exact ⟨_, rfl, hown, hB⟩
end Go.Proofs.YthelgembcfdhdaaGreat
namespace Go.Proofs.YthelgembcfdhdaaGreat
open Go.RowKit Go.Sort Go.Shelf Go.Lib

/-- A word put ahead of the first one that is not less; no change where this is the word. -/
def insB (s : ByteArray) : List ByteArray → List ByteArray
  | [] => [s]
  | y :: l => if ordB y s < 0 then y :: insB s l else if y = s then y :: l else s :: y :: l
def posB (s : ByteArray) (l : List ByteArray) (k : Nat) : Prop := k ≤ l.length ∧ ∀ m (h : m < l.length), m < k → ordB l[m] s < 0
theorem insB_at {s : ByteArray} : ∀ {l : List ByteArray} {k : Nat}, posB s l k → (∀ h : k < l.length, ¬ ordB l[k] s < 0) → (∀ h : k < l.length, l[k] ≠ s) → insB s l = l.take k ++ s :: l.drop k
  | [], k, hp, _, _ => by have := hp.1; simp at this; subst this; rfl
  | y :: l, 0, _, h1, h2 => by
    have h1 := h1 (by simp); have h2 := h2 (by simp)
    simp only [List.getElem_cons_zero] at h1 h2
    unfold insB
    rw [if_neg h1, if_neg h2]; rfl
  | y :: l, k + 1, hp, h1, h2 => by
    have hy := hp.2 0 (by simp) (by omega)
    simp only [List.getElem_cons_zero] at hy
    have ih := insB_at (s := s) (l := l) (k := k) ⟨by have := hp.1; simp at this; omega, fun m hm hk => by have := hp.2 (m + 1) (by simpa using hm) (by omega); simpa using this⟩
      (fun h => by have := h1 (by simpa using h); simpa using this) (fun h => by have := h2 (by simpa using h); simpa using this)
    unfold insB
    rw [if_pos hy, ih]; rfl
theorem insB_in {s : ByteArray} : ∀ {l : List ByteArray} {k : Nat}, posB s l k → (∀ h : k < l.length, ¬ ordB l[k] s < 0) → ∀ h : k < l.length, l[k] = s → insB s l = l
  | [], k, _, _, h, _ => by simp at h
  | y :: l, 0, _, h1, _, h2 => by
    have h1 := h1 (by simp)
    simp only [List.getElem_cons_zero] at h1 h2
    unfold insB
    rw [if_neg h1, if_pos h2]
  | y :: l, k + 1, hp, h1, h, h2 => by
    have hy := hp.2 0 (by simp) (by omega)
    simp only [List.getElem_cons_zero] at hy
    have ih := insB_in (s := s) (l := l) (k := k) ⟨by have := hp.1; simp at this; omega, fun m hm hk => by have := hp.2 (m + 1) (by simpa using hm) (by omega); simpa using this⟩
      (fun h => by have := h1 (by simpa using h); simpa using this) (by simpa using h) (by simpa using h2)
    unfold insB
    rw [if_pos hy, ih]
theorem insB_len (s : ByteArray) : ∀ l : List ByteArray, (insB s l).length ≤ l.length + 1
  | [] => by simp [insB]
  | y :: l => by
    have := insB_len s l
    unfold insB; split
    · simp; omega
    · split <;> simp

/-! ### Appending words -/
theorem infoStrF : (Tryz.prog.info? 9).map (fun i => (i.zero, i.size, i.bytes)) = some (some (.string ⟨#[]⟩), 1, 16) := by kernel_rfl
theorem one_strs (l : List ByteArray) : ∀ u ∈ l.map Value.string, u.oneCell' = true := by
  intro u hu; obtain ⟨x, _, rfl⟩ := List.mem_map.1 hu; rfl
theorem news_strs {w : World} {b off : Nat} {l : List ByteArray} (h : ∀ i (h : i < l.length), w.cell? ⟨b, off + i, none⟩ = some (.string l[i])) : ∀ j u, (l.map Value.string)[j]? = some u → w.cell? ((⟨b, off, none⟩ : Addr).add j) = some u := by
  intro j u hu
  rw [List.getElem?_map] at hu
  obtain ⟨x, hx, rfl⟩ := Option.map_eq_some_iff.1 hu
  obtain ⟨hj, rfl⟩ := List.getElem?_eq_some_iff.1 hx
  rw [Addr.add_lit]; exact h j hj
/-- A list that lies in memory, behind words of the call's own. -/
theorem run_app1 (w : World) (base : Nat) (ty : TypeId) (v : Value) (xs : List ByteArray) (n : Nat) (hown : w.ownsRow base 9 1 v n (xs.map Value.string)) (p : Option Addr) (c m : Nat) (l : List ByteArray) (hm : l.length = m) (hl : Sl w Value.string p l)
    (h63 : n + m ≤ 1000000) (hbase : base ≤ w.heap.size) :
    ∃ v' w', (Builtin.append_ #[22, 22] ty #[v, .slice p m c]).run Tryz.prog w = .ok v' w' ∧ w'.ownsRow base 9 1 v' (n + m) ((xs ++ l).map Value.string) ∧ w.grownBy w' v.ownBlock := by
  obtain ⟨i0, hi, hz, hs, hb⟩ := info_parts infoStrF
  subst hm
  cases p with
  | none =>
    rcases hl with h0 | ⟨_, _, hp, _⟩
    · subst h0
      refine ⟨v, w, ?_, by simpa using hown, World.grownBy.refl w _⟩
      rcases hown.2 with ⟨rfl, h0⟩ | ⟨g, cap, cur, rfl, _, _, hnc, _⟩
      · simp [Builtin.append_, run_underlying Tryz.underlying22, sizeOf, typeInfo, hi, Builtin.lenOf, Builtin.firstCells]
      · simp [Builtin.append_, run_underlying Tryz.underlying22, sizeOf, typeInfo, hi, Builtin.lenOf, Builtin.firstCells, hnc, storeCells]
    · cases hp
  | some ad =>
    have hn : ∀ j u, (l.map Value.string)[j]? = some u → w.cell? (ad.add j) = some u := by
      rcases hl with h0 | ⟨b, off, hp, _, hc⟩
      · subst h0; simp
      · cases hp; exact news_strs hc
    obtain ⟨v', w', h1, h2, h3, _, _⟩ := run_append_own_at w base 22 ty 9 i0 (.string ⟨#[]⟩) 1 16 Tryz.underlying22 hi hz hs hb rfl (by decide) v n _ hown ad l.length c (l.map Value.string) (by simp) hn (one_strs l) (by simp only [maxLen]; omega) (by omega) hbase
    exact ⟨v', w', h1, by rw [List.map_append]; exact h2, h3⟩
/-- Words of the call's own behind a full slice. -/
theorem run_app2 (w : World) (ty : TypeId) (po : Option Addr) (xs : List ByteArray) (n : Nat) (hn : xs.length = n) (hx : Sl w Value.string po xs) (u : Value) (B m : Nat) (ys : List ByteArray) (hu : w.ownsRow B 9 1 u m (ys.map Value.string)) (hm : 0 < m) (h63 : n + m ≤ 1000000) :
    ∃ v' w', (Builtin.append_ #[22, 22] ty #[.slice po n n, u]).run Tryz.prog w = .ok v' w' ∧ w'.ownsRow w.heap.size 9 1 v' (n + m) ((xs ++ ys).map Value.string) ∧ Below w.heap.size w w' := by
  obtain ⟨i0, hi, hz, hs, hb⟩ := info_parts infoStrF
  subst hn
  rcases hu.2 with ⟨rfl, h0⟩ | ⟨g, cap, cur, rfl, hbg⟩
  · have := hu.1; rw [h0] at this; simp at this; omega
  have hnews := hu.cells (g := g) rfl
  have hl : (ys.map Value.string).length = m * 1 := hu.1
  cases po with
  | some b =>
    have ho : ∀ j v, (xs.map Value.string)[j]? = some v → w.cell? (b.add j) = some v := by
      rcases hx with h0 | ⟨b', off, hp, _, hc⟩
      · subst h0; simp
      · cases hp; exact news_strs hc
    obtain ⟨v', w', h1, h2, h3⟩ := run_append_arg_grows (P := Tryz.prog) w 22 ty 9 i0 (.string ⟨#[]⟩) 1 16 Tryz.underlying22 hi hz hs hb rfl (by decide) b xs.length xs.length (xs.map Value.string) (by simp) ho ⟨g, 0, none⟩ m cap (ys.map Value.string) hl hnews (by omega) (by simp only [maxLen]; omega) (by omega)
    exact ⟨v', w', h1, by rw [List.map_append]; exact h2, (Below.refl _ _).grown h3 (Nat.le_refl _) (by simp)⟩
  | none =>
    have h0 : xs = [] := by rcases hx with h | ⟨_, _, hp, _⟩; exact h; cases hp
    subst h0
    obtain ⟨v', w', h1, h2, h3, _⟩ := run_append_own_at w w.heap.size 22 ty 9 i0 (.string ⟨#[]⟩) 1 16 Tryz.underlying22 hi hz hs hb rfl (by decide) (.slice none 0 0) 0 [] (World.ownsRow_nil w _ _ 1) ⟨g, 0, none⟩ m cap (ys.map Value.string) hl hnews (one_strs ys) (by simp only [maxLen]; omega) (by omega) (Nat.le_refl _)
    exact ⟨v', w', h1, by simpa using h2, (Below.refl _ _).grown h3 (Nat.le_refl _) (by simp [Value.ownBlock])⟩
theorem own_one1 (w : World) (s : ByteArray) {B : Nat} (hB : B ≤ w.heap.size) : (w.alloc (.cells #[.string s] 9)).ownsRow B 9 1 (.slice (some ⟨w.heap.size, 0, none⟩) 1 1) 1 ([s].map Value.string) :=
  ⟨rfl, .inr ⟨w.heap.size, 1, _, rfl, hB, heap_alloc_new w _, Nat.le_refl _, by simp [maxLen], rfl, rfl⟩⟩
theorem step_app1 {w : World} {ops : Array Oper} {o : Oper} {a : Act} {K : Act → World → Prop} {Q : Exit → Act → World → Prop} {E : Prop} (hgd : o.guard = none) (s x : Operand)
    (ho : o.op = .call { callee := .builtin .append, args := #[s, x], argTypes := #[22, 22] }) (base : Nat) (sv : Value) (xs : List ByteArray) (n : Nat) (p : Option Addr) (c m : Nat) (l : List ByteArray) (hs : a.eval s = sv) (hx : a.eval x = .slice p m c)
    (hown : w.ownsRow base 9 1 sv n (xs.map Value.string)) (hm : l.length = m) (hl : Sl w Value.string p l) (h63 : n + m ≤ 1000000) (hbase : base ≤ w.heap.size)
    (h : ∀ v' w', w'.ownsRow base 9 1 v' (n + m) ((xs ++ l).map Value.string) → w.grownBy w' sv.ownBlock → K (a.put o.dst v') w') : if Region.wanted o (yielded ops a.tmps) = true then Oper.wp Tryz.prog o a w K Q else E := by
  obtain ⟨v', w', h1, h2, h3⟩ := run_app1 w base o.type sv xs n hown p c m l hm hl h63 hbase
  exact step_append_run hgd s x 22 ho sv _ hs hx v' w' h1 (h v' w' h2 h3)
theorem step_app2 {w : World} {ops : Array Oper} {o : Oper} {a : Act} {K : Act → World → Prop} {Q : Exit → Act → World → Prop} {E : Prop} (hgd : o.guard = none) (s x : Operand)
    (ho : o.op = .call { callee := .builtin .append, args := #[s, x], argTypes := #[22, 22] }) (po : Option Addr) (xs : List ByteArray) (n : Nat) (u : Value) (hs : a.eval s = .slice po n n) (hx : a.eval x = u) (hn : xs.length = n) (hxs : Sl w Value.string po xs)
    (B m : Nat) (ys : List ByteArray) (hu : w.ownsRow B 9 1 u m (ys.map Value.string)) (hm : 0 < m) (h63 : n + m ≤ 1000000)
    (h : ∀ v' w', w'.ownsRow w.heap.size 9 1 v' (n + m) ((xs ++ ys).map Value.string) → Below w.heap.size w w' → K (a.put o.dst v') w') : if Region.wanted o (yielded ops a.tmps) = true then Oper.wp Tryz.prog o a w K Q else E := by
  obtain ⟨v', w', h1, h2, h3⟩ := run_app2 w o.type po xs n hn hxs u B m ys hu hm h63
  exact step_append_run hgd s x 22 ho _ _ hs hx v' w' h1 (h v' w' h2 h3)
/-- How a slice's head can look. -/
def Sh (q : Option Addr) (c : Nat) : Prop := (q = none ∧ c = 0) ∨ ∃ b o, q = some ⟨b, o, none⟩
/-- A list of words is handed back: in memory, new or as it came. -/
def RetSt (l : List ByteArray) (w : World) (e : Ending) (w' : World) : Prop := ∃ q n c, e = .returned (.slice q n c) ∧ n = l.length ∧ n ≤ c ∧ Sh q c ∧ Sl w' Value.string q l ∧ Below w.heap.size w w'
theorem RetSt.own {l xs : List ByteArray} {w w' : World} {v : Value} {B n : Nat} (h : w'.ownsRow B 9 1 v n (xs.map Value.string)) (hx : xs = l) (hB : Below w.heap.size w w') : RetSt l w (.returned v) w' := by
  subst hx
  obtain ⟨q, c, rfl, hs⟩ := own_sl h
  refine ⟨q, _, c, rfl, rfl, ?_, ?_, hs, hB⟩
  · rcases h.2 with ⟨he, h0⟩ | ⟨g, cap, cur, he, _, _, hc, _⟩
    · simp only [Value.slice.injEq] at he; omega
    · simp only [Value.slice.injEq] at he; have := h.1; simp at this; omega
  · rcases h.2 with ⟨he, h0⟩ | ⟨g, cap, cur, he, _⟩
    · simp only [Value.slice.injEq] at he; exact .inl ⟨he.1, he.2.2⟩
    · simp only [Value.slice.injEq] at he; exact .inr ⟨g, 0, he.1⟩
theorem Sl.drop1 {w : World} {b off : Nat} {l : List ByteArray} (h : Sl w Value.string (some ⟨b, off, none⟩) l) (k : Nat) : Sl w Value.string (some ⟨b, off + k, none⟩) (l.drop k) := by
  rcases h with h | ⟨b', off', hp, hb, hc⟩
  · subst h; exact .inl (by simp)
  · cases hp
    refine .inr ⟨b, off + k, rfl, hb, fun i hi => ?_⟩
    rw [List.length_drop] at hi
    have := hc (k + i) (by omega)
    rw [List.getElem_drop, ← this]
    congr 2
    omega

set_option maxRecDepth 100000 in
set_option maxHeartbeats 2000000 in
theorem rInsert_any (s : ByteArray) (l : List ByteArray) (p : Option Addr) (c : Nat) (w : World) (hin : Sl w Value.string p l) (hsh : Sh p c) (hlc : l.length ≤ c) (hl : l.length ≤ 10000) :
    Calls Tryz.prog 32 #[.slice p l.length c, .string s] w (RetSt (insB s l) w) := by
  have HIN := hidI hin
  have HSH := hidI hsh
  have hlcI : (l.length : Int) ≤ (c : Int) := by omega
  clear hin hsh
  go_enter Tryz.func32, Tryz.ntmps32
  go_upto_block 0 with fail
  go_cut [5] (fun s5 wx => ∃ j : Nat, s5 = .int .i64 j ∧ Hid (posB s l j ∧ ∀ h : j < l.length, ¬ ordB l[j] s < 0) ∧ Dr w wx)
  case first =>
    obtain ⟨wo, rfl⟩ : ∃ wo : World, wo = w := ⟨_, rfl⟩
    go_wp2_with fail
    go_loopw [5] (fun s5 wx => ∃ j : Nat, s5 = .int .i64 j ∧ Hid (posB s l j) ∧ Dr wo wx) (fun s5 _ => l.length - (intOf s5).toNat)
    case atStart => exact ⟨0, rfl, ⟨by omega, fun m _ h => by omega⟩, Dr.refl _⟩
    case round =>
      obtain ⟨j, rfl, hp, hD⟩ := hrel
      have hjN := hp.out.1
      by_cases hjl : j < l.length
      · have hI : (j : Int) < (l.length : Int) := by omega
        obtain ⟨b1, o1, rfl, hb1, hc1⟩ := (HIN.out.dr hD).get j hjl
        have e0 := hc1 j hjl
        obtain ⟨r, hr⟩ : ∃ r, r = decide (ordB l[j] s < 0) := ⟨_, rfl⟩
        have HO : Hid (∀ W, Calls Tryz.prog 66 #[.string l[j], .string s] W fun e w' => e = .returned (.bool r) ∧ w' = W) := fun W => by
          rw [hr]; exact rless_any l[j] s W
        have HP : Hid (r = true → posB s l (j + 1)) := fun h => ⟨by omega, fun m hm h1 => by
          by_cases e : m = j
          · subst e; exact of_decide_eq_true (hr.symm.trans h)
          · exact hp.out.2 m hm (by omega)⟩
        have HQ : Hid (r = false → ∀ h : j < l.length, ¬ ordB l[j] s < 0) := fun h _ => of_decide_eq_false (hr.symm.trans h)
        generalize l[j] = u at *
        clear hc1 hr
        go_wp2_with fail
        refine (HO.out wr).mono ?_
        rintro e w2 ⟨rfl, hw⟩
        replace hD : Dr wo w2 := by rw [hw]; exact hD
        clear hw
        cases r
        · have HF := hidI (HQ.out rfl)
          go_wp2_with fail
          go_meet
          exact ⟨j, rfl, ⟨hp.out, HF.out⟩, hD⟩
        · have HN := hidI (HP.out rfl)
          go_wp2_with fail
          go_roundw
          case rel => exact ⟨j + 1, by go_num, HN, hD⟩
          case measure => simp [intOf]; omega
      · have hd : decide ((j : Int) < (l.length : Int)) = false := decide_eq_false (by omega)
        have hd2 : decide (j < l.length) = false := decide_eq_false (by omega)
        go_wp2_with fail
        go_meet
        exact ⟨j, rfl, ⟨hp.out, fun h => absurd h hjl⟩, hD⟩
  case rest =>
    obtain ⟨j, rfl, hp, hD⟩ := hcut
    have hjN := hp.out.1.1
    have hIN := HIN.out.dr hD
    have hB := hD.below w.heap.size
    by_cases hjl : j < l.length
    · have hI : (j : Int) < (l.length : Int) := by omega
      obtain ⟨b1, o1, rfl, hb1, hc1⟩ := hIN.get j hjl
      have e0 := hc1 j hjl
      by_cases heq : l[j] = s
      · have HX : Hid (insB s l = l) := insB_in hp.out.1 hp.out.2 hjl heq
        have hb : (l[j].toList == s.toList) = true := by rw [heq]; simp
        generalize l[j] = u at *
        clear hc1 heq
        go_wp2
        go_ret
        exact ⟨_, _, _, rfl, by rw [HX.out], hlc, HSH.out, by rw [HX.out]; exact hIN, hB⟩
      · have HX : Hid (insB s l = l.take j ++ s :: l.drop j) := insB_at hp.out.1 hp.out.2 (fun _ => heq)
        have hb := bts_f heq
        clear hc1
        generalize l[j] = u at *
        have HDL : Hid ((l.drop j).length = l.length - j) := by unfold Hid; simp
        have HNL : Hid ((l.take j).length = j) := by unfold Hid; rw [List.length_take]; omega
        have hcj : ¬ c = j := by omega
        have hI3 : (j : Int) ≤ (c : Int) := by omega
        go_wp2_with fail
        go_region_held3 (fun w' => Below wc.heap.size wc w')
          ((go_split_ands; first
            | assumption
            | exact RowKit.Below.refl _ _
            | exact drB _ _
            | exact RowKit.Below.trans (by assumption) (by assumption)
            | exact RowKit.Below.trans (by assumption) (RowKit.Below.mono (by assumption) (RowKit.Below.size (by assumption)))
            | exact RowKit.Below.grown (by assumption) hgA (RowKit.Below.size (by assumption)) (fun j0 e => by simp [Value.ownBlock] at e; omega)
            | exact RowKit.Below.alloc (by assumption) (RowKit.Below.size (by assumption)) _
            | exact RowKit.Below.trans (by assumption) (drB _ _)
            | fail))
          (first
            | (go_split_ands; (refine step_app1 (by rfl) _ _ (by rfl) wc.heap.size (.slice (some ⟨wc.heap.size, 0, none⟩) 1 1) [s] 1 _ _ _ (l.drop j) (by rfl) (by rfl) (by first | exact own_one1 _ s (Nat.le_refl _) | exact ownsRow_dr (own_one1 _ s (Nat.le_refl _)) ⟨1, rfl⟩) (by first | exact HDL.out | simp) ((hIN.below (by assumption)).drop1 j) (by omega) (RowKit.Below.size (by assumption)) ?_); intro vA wA hoA hgA)
            | (go_split_ands; (refine step_app2 (by rfl) _ _ (by rfl) _ (l.take j) j vA (by rfl) (by rfl) HNL.out ((hIN.below (by assumption)).take j) wc.heap.size _ ([s] ++ l.drop j) hoA (by omega) (by omega) ?_); intro vB wB hoB hgB)
            | fail)
        all_goals
          go_split_ands
          have hBC : RowKit.Below wc.heap.size wc wB := by assumption
          have hfin := RetSt.own (w := w) (l := insB s l) hoB (by rw [HX.out]; simp) (hB.trans (hBC.mono hB.size))
          clear hoA hgA hoB hgB
          go_wp2
          go_ret
          exact hfin
    · have HX : Hid (insB s l = l.take j ++ s :: l.drop j) := insB_at hp.out.1 hp.out.2 (fun h => absurd h hjl)
      obtain rfl : j = l.length := by omega
      have hd : decide ((l.length : Int) < (l.length : Int)) = false := decide_eq_false (by omega)
      have hd2 : decide (l.length < l.length) = false := decide_eq_false (by omega)
      rcases HSH.out with ⟨rfl, rfl⟩ | ⟨b1, o1, rfl⟩
      · obtain rfl : l = [] := List.length_eq_zero_iff.1 (by omega)
        simp only [List.length_nil] at *
        have HX : Hid (insB s [] = ([] : List ByteArray).take 0 ++ s :: ([] : List ByteArray).drop 0) := HX
        have HDL : Hid ((([] : List ByteArray).drop 0).length = 0 - 0) := rfl
        have HNL : Hid ((([] : List ByteArray).take 0).length = 0) := rfl
        go_wp2_with fail
        go_region_held3 (fun w' => Below wc.heap.size wc w')
          ((go_split_ands; first
            | assumption
            | exact RowKit.Below.refl _ _
            | exact drB _ _
            | exact RowKit.Below.trans (by assumption) (by assumption)
            | exact RowKit.Below.trans (by assumption) (RowKit.Below.mono (by assumption) (RowKit.Below.size (by assumption)))
            | exact RowKit.Below.grown (by assumption) hgA (RowKit.Below.size (by assumption)) (fun j0 e => by simp [Value.ownBlock] at e; omega)
            | exact RowKit.Below.alloc (by assumption) (RowKit.Below.size (by assumption)) _
            | exact RowKit.Below.trans (by assumption) (drB _ _)
            | fail))
          (first
            | (go_split_ands; (refine step_app1 (by rfl) _ _ (by rfl) wc.heap.size (.slice (some ⟨wc.heap.size, 0, none⟩) 1 1) [s] 1 _ _ _ (([] : List ByteArray).drop 0) (by rfl) (by rfl) (by first | exact own_one1 _ s (Nat.le_refl _) | exact ownsRow_dr (own_one1 _ s (Nat.le_refl _)) ⟨1, rfl⟩) (by first | exact HDL.out | simp) (.inl rfl) (by omega) (RowKit.Below.size (by assumption)) ?_); intro vA wA hoA hgA)
            | (go_split_ands; (refine step_app2 (by rfl) _ _ (by rfl) _ (([] : List ByteArray).take 0) 0 vA (by rfl) (by rfl) HNL.out ((hIN.below (by assumption)).take 0) wc.heap.size _ ([s] ++ ([] : List ByteArray).drop 0) hoA (by omega) (by omega) ?_); intro vB wB hoB hgB)
            | fail)
        all_goals
          go_split_ands
          have hBC : RowKit.Below wc.heap.size wc wB := by assumption
          have hfin := RetSt.own (w := w) (l := insB s []) hoB (by rw [HX.out]; simp) (hB.trans (hBC.mono hB.size))
          clear hoA hgA hoB hgB
          go_wp2
          go_ret
          exact hfin
      · have HDL : Hid ((l.drop l.length).length = l.length - l.length) := by unfold Hid; simp
        have HNL : Hid ((l.take l.length).length = l.length) := by unfold Hid; rw [List.length_take]; omega
        by_cases hcj : c = l.length
        · subst hcj
          go_wp2_with fail
          go_region_held3 (fun w' => Below wc.heap.size wc w')
            ((go_split_ands; first
              | assumption
              | exact RowKit.Below.refl _ _
              | exact drB _ _
              | exact RowKit.Below.trans (by assumption) (by assumption)
              | exact RowKit.Below.trans (by assumption) (RowKit.Below.mono (by assumption) (RowKit.Below.size (by assumption)))
              | exact RowKit.Below.grown (by assumption) hgA (RowKit.Below.size (by assumption)) (fun j0 e => by simp [Value.ownBlock] at e; omega)
              | exact RowKit.Below.alloc (by assumption) (RowKit.Below.size (by assumption)) _
              | exact RowKit.Below.trans (by assumption) (drB _ _)
              | fail))
            (first
              | (go_split_ands; (refine step_app1 (by rfl) _ _ (by rfl) wc.heap.size (.slice (some ⟨wc.heap.size, 0, none⟩) 1 1) [s] 1 _ _ _ (l.drop l.length) (by rfl) (by rfl) (by first | exact own_one1 _ s (Nat.le_refl _) | exact ownsRow_dr (own_one1 _ s (Nat.le_refl _)) ⟨1, rfl⟩) (by first | exact HDL.out | simp) (.inl (by simp)) (by omega) (RowKit.Below.size (by assumption)) ?_); intro vA wA hoA hgA)
              | (go_split_ands; (refine step_app2 (by rfl) _ _ (by rfl) _ (l.take l.length) l.length vA (by rfl) (by rfl) HNL.out ((hIN.below (by assumption)).take l.length) wc.heap.size _ ([s] ++ l.drop l.length) hoA (by omega) (by omega) ?_); intro vB wB hoB hgB)
              | fail)
          all_goals
            go_split_ands
            have hBC : RowKit.Below wc.heap.size wc wB := by assumption
            have hfin := RetSt.own (w := w) (l := insB s l) hoB (by rw [HX.out]; simp) (hB.trans (hBC.mono hB.size))
            clear hoA hgA hoB hgB
            go_wp2
            go_ret
            exact hfin
        · have hI3 : (l.length : Int) ≤ (c : Int) := by omega
          go_wp2_with fail
          go_region_held3 (fun w' => Below wc.heap.size wc w')
            ((go_split_ands; first
              | assumption
              | exact RowKit.Below.refl _ _
              | exact drB _ _
              | exact RowKit.Below.trans (by assumption) (by assumption)
              | exact RowKit.Below.trans (by assumption) (RowKit.Below.mono (by assumption) (RowKit.Below.size (by assumption)))
              | exact RowKit.Below.grown (by assumption) hgA (RowKit.Below.size (by assumption)) (fun j0 e => by simp [Value.ownBlock] at e; omega)
              | exact RowKit.Below.alloc (by assumption) (RowKit.Below.size (by assumption)) _
              | exact RowKit.Below.trans (by assumption) (drB _ _)
              | fail))
            (first
              | (go_split_ands; (refine step_app1 (by rfl) _ _ (by rfl) wc.heap.size (.slice (some ⟨wc.heap.size, 0, none⟩) 1 1) [s] 1 _ _ _ (l.drop l.length) (by rfl) (by rfl) (by first | exact own_one1 _ s (Nat.le_refl _) | exact ownsRow_dr (own_one1 _ s (Nat.le_refl _)) ⟨1, rfl⟩) (by first | exact HDL.out | simp) (.inl (by simp)) (by omega) (RowKit.Below.size (by assumption)) ?_); intro vA wA hoA hgA)
              | (go_split_ands; (refine step_app2 (by rfl) _ _ (by rfl) _ (l.take l.length) l.length vA (by rfl) (by rfl) HNL.out ((hIN.below (by assumption)).take l.length) wc.heap.size _ ([s] ++ l.drop l.length) hoA (by omega) (by omega) ?_); intro vB wB hoB hgB)
              | fail)
          all_goals
            go_split_ands
            have hBC : RowKit.Below wc.heap.size wc wB := by assumption
            have hfin := RetSt.own (w := w) (l := insB s l) hoB (by rw [HX.out]; simp) (hB.trans (hBC.mono hB.size))
            clear hoA hgA hoB hgB
            go_wp2
            go_ret
            exact hfin
end Go.Proofs.YthelgembcfdhdaaGreat
namespace Go.Proofs.YthelgembcfdhdaaGreat
open Go.RowKit Go.Sort Go.Shelf Go.Lib

/-- No other word of the list is a factor. -/
def okB (w u : ByteArray) : Bool := decide (u = w) || !Lib.contains w.data.toList u.data.toList
def minB (l : List ByteArray) (w : ByteArray) : Bool := l.all (okB w)
def redL (l : List ByteArray) : Nat → List ByteArray
  | 0 => []
  | k + 1 => match l[k]? with
    | some x => if minB l x = true then insB x (redL l k) else redL l k
    | none => redL l k
def redA (q : Int) (l : List ByteArray) : List ByteArray × Int := if errA q l ≠ 0 then ([], errA q l) else (redL l l.length, 0)
theorem redL_succ {l : List ByteArray} {k : Nat} (h : k < l.length) : redL l (k + 1) = if minB l l[k] = true then insB l[k] (redL l k) else redL l k := by
  rw [redL, List.getElem?_eq_getElem h]
theorem redL_len (l : List ByteArray) : ∀ k, (redL l k).length ≤ k
  | 0 => by simp [redL]
  | k + 1 => by
    have ih := redL_len l k
    rw [redL]
    split
    · rename_i x _
      have := insB_len x (redL l k)
      split <;> omega
    · omega
theorem okB_take (l : List ByteArray) (w : ByteArray) (k : Nat) (h : k < l.length) : (l.take (k + 1)).all (okB w) = ((l.take k).all (okB w) && okB w l[k]) := by
  rw [List.take_succ_eq_append_getElem h, List.all_append, List.all_cons, List.all_nil, Bool.and_true]
theorem okB_eq {w u : ByteArray} (h : u = w) : okB w u = true := by simp [okB, h]
theorem okB_ne {w u : ByteArray} (h : u ≠ w) : okB w u = !Lib.contains w.data.toList u.data.toList := by simp [okB, h]
/-- A list of words and an error. -/
def RetSe (x : List ByteArray × Int) (w : World) (e : Ending) (w' : World) : Prop := ∃ q n c, e = .returned (.tuple #[.slice q n c, .int .i64 x.2]) ∧ n = x.1.length ∧ n ≤ c ∧ Sh q c ∧ Sl w' Value.string q x.1 ∧ RowKit.Below w.heap.size w w'
theorem RetSe.of {l : List ByteArray} {k : Int} {x : List ByteArray × Int} {w w' : World} {q : Option Addr} {n c : Nat} (hr : x = (l, k)) (hn : n = l.length) (hc : n ≤ c) (hq : Sh q c) (hs : Sl w' Value.string q l) (hB : RowKit.Below w.heap.size w w') :
    RetSe x w (.returned (.tuple #[.slice q n c, .int .i64 k])) w' := by subst hr; exact ⟨q, n, c, rfl, hn, hc, hq, hs, hB⟩

end Go.Proofs.YthelgembcfdhdaaGreat
