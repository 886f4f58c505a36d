/-
  Walks: the program's check of tables.
-/
import Derived.Test.YthfgdahooigifaaLkB
namespace Go.Proofs.Ythfgdahooigifaa
open Go.RowKit

/-- A table's lists, as they lie in memory. -/
structure TbIn (w : World) (T : Tb) (p1 p2 : Option Addr) (c1 c2 : Nat) : Prop where
  base : Sl w Value.string p1 T.base
  swaps : Sg 3 w swE p2 T.swaps
  cap1 : T.base.length ≤ c1
  l1 : T.base.length ≤ 9223372036854775807
  l2 : T.swaps.length ≤ 9223372036854775807
  z1 : ∀ j (h : j < T.base.length), T.base[j].size ≤ maxLen
  z2 : ∀ j (h : j < T.swaps.length), T.swaps[j].wd.size ≤ maxLen
theorem TbIn.below {w w' : World} {T : Tb} {p1 p2 : Option Addr} {c1 c2 : Nat} (h : TbIn w T p1 p2 c1 c2) (hB : Below w.heap.size w w') : TbIn w' T p1 p2 c1 c2 :=
  ⟨h.base.below hB, h.swaps.below hB, h.cap1, h.l1, h.l2, h.z1, h.z2⟩
theorem infoStr : (Try.prog.info? 9).map (fun i => (i.zero, i.size, i.bytes)) = some (some (.string ⟨#[]⟩), 1, 16) := by kernel_rfl
theorem pre_all {T : Tb} (h : preB T = true) : 2 ≤ T.q ∧ T.q ≤ 16 ∧ 1 ≤ T.n ∧ T.n ≤ 8 ∧ 2 ≤ T.base.length ∧ T.base.length ≤ 16 ∧ T.swaps.length ≤ 64 := of_decide_eq_true h
theorem pre_mk {T : Tb} (h : 2 ≤ T.q ∧ T.q ≤ 16 ∧ 1 ≤ T.n ∧ T.n ≤ 8 ∧ 2 ≤ T.base.length ∧ T.base.length ≤ 16 ∧ T.swaps.length ≤ 64) : preB T = true := decide_eq_true h

set_option maxRecDepth 100000 in
set_option maxHeartbeats 2000000 in
theorem lkFormed_pre (T : Tb) (p1 p2 : Option Addr) (c1 c2 : Nat) (w : World) (h1 : T.base.length ≤ 9223372036854775807) (h2 : T.swaps.length ≤ 9223372036854775807) (hpre : preB T = false) :
    Calls Try.prog 19 #[.agg #[.int .i64 T.q, .int .i64 T.n, .slice p1 T.base.length c1, .slice p2 T.swaps.length c2]] w fun e w' => e = .returned (.bool (fmd T)) ∧ Below w.heap.size w w' := by
  have HF := hidI (fmd_pre hpre)
  have HP : Hid (¬ (2 ≤ T.q ∧ T.q ≤ 16 ∧ 1 ≤ T.n ∧ T.n ≤ 8 ∧ 2 ≤ T.base.length ∧ T.base.length ≤ 16 ∧ T.swaps.length ≤ 64)) := fun h => by rw [pre_mk h] at hpre; cases hpre
  clear hpre
  go_enter Try.func19, Try.ntmps19
  go_wp2
  all_goals first
    | (exfalso; have := HP.out; omega)
    | (go_ret; exact ⟨ret_bool HF.out.symm, (Below.refl _ _).alloc (Nat.le_refl _) _⟩)

set_option maxRecDepth 100000 in
set_option maxHeartbeats 4000000 in
theorem lkFormed_ok (T : Tb) (p1 p2 : Option Addr) (c1 c2 : Nat) (w : World) (hin : TbIn w T p1 p2 c1 c2) (hpre : preB T = true) :
    Calls Try.prog 19 #[.agg #[.int .i64 T.q, .int .i64 T.n, .slice p1 T.base.length c1, .slice p2 T.swaps.length c2]] w fun e w' => e = .returned (.bool (fmd T)) ∧ Below w.heap.size w w' := by
  obtain ⟨i0, hi0, hz0, hz1, hz2⟩ := info_parts infoStr
  have HPRE := hidI hpre
  obtain ⟨g1, g2, g3, g4, g5, g6, g7⟩ := pre_all hpre
  clear hpre
  have d1 : decide (T.q < 2) = false := decide_eq_false (by omega)
  have d2 : decide (16 < T.q) = false := decide_eq_false (by omega)
  have d3 : decide (T.n < 1) = false := decide_eq_false (by omega)
  have d4 : decide (8 < T.n) = false := decide_eq_false (by omega)
  have d5 : decide ((T.base.length : Int) < 2) = false := decide_eq_false (by omega)
  have d6 : decide ((16 : Int) < (T.base.length : Int)) = false := decide_eq_false (by omega)
  have d7 : decide ((64 : Int) < (T.swaps.length : Int)) = false := decide_eq_false (by omega)
  have b0 : VRow (w.alloc (.cells #[.int .i64 T.q, .int .i64 T.n, .slice p1 T.base.length c1, .slice p2 T.swaps.length c2] 25)) w.heap.size 25 [.int .i64 T.q, .int .i64 T.n, .slice p1 T.base.length c1, .slice p2 T.swaps.length c2] := VRow.new w _ _
  have hB0 : Below w.heap.size w (w.alloc (.cells #[.int .i64 T.q, .int .i64 T.n, .slice p1 T.base.length c1, .slice p2 T.swaps.length c2] 25)) := (Below.refl _ _).alloc (Nat.le_refl _) _
  go_enter Try.func19, Try.ntmps19
  go_wp2
  clear d1 d2 d3 d4 d5 d6 d7
  go_loopw [3, 45] (fun rv iv wr => ∃ k : Nat, k ≤ T.swaps.length ∧ iv = .int .i64 k ∧ Hid (∀ j, j < k → sOk T.base.length T.swaps j = true) ∧ VRow wr w.heap.size 25 [.int .i64 T.q, .int .i64 T.n, .slice p1 T.base.length c1, .slice p2 T.swaps.length c2] ∧
      wr.ownsRow (w.heap.size + 1) 9 1 rv k ((((T.swaps.take k).map Sw.wd)).map Value.string) ∧ Below w.heap.size w wr) (fun _ iv _ => T.swaps.length - (intOf iv).toNat)
  case atStart => exact ⟨0, by omega, rfl, fun _ h => by omega, b0, World.ownsRow_nil _ _ _ _, hB0⟩
  case round =>
    obtain ⟨k, hk, rfl, hj, hb, hown, hB⟩ := hrel
    clear b0 hB0
    by_cases hlt : k < T.swaps.length
    · obtain ⟨b1, o1, rfl, hb1, e0, e1, e2⟩ := (hin.swaps.below hB).get3 k hlt rfl
      have f0 := hb.at 0 rfl; have f1 := hb.at 1 rfl; have f2 := hb.at 2 rfl; have f3 := hb.at 3 rfl
      have hsz := hb.lt
      cases hib : inB T.base.length T.swaps[k]
      · have HF : Hid (fmd T = false) := fmd_ss (allB_f k hlt (sOk_in hlt hib))
        by_cases hmin : min T.swaps[k].i T.swaps[k].j < 0
        · clear hib
          go_wp2_with fail
          go_quiet (fail)
          go_wp2
          go_ret
          exact ⟨ret_bool HF.out.symm, below_drewN (hB.alloc hB.size _) _⟩
        · have hmax : (T.base.length : Int) ≤ max T.swaps[k].i T.swaps[k].j := by simp [inB] at hib; omega
          have hm0 := decide_eq_false hmin
          clear hib
          go_wp2_with fail
          go_quiet (fail)
          go_wp2
          go_ret
          exact ⟨ret_bool HF.out.symm, below_drewN (hB.alloc hB.size _) _⟩
      · have hib' : 0 ≤ T.swaps[k].i ∧ T.swaps[k].i < T.base.length ∧ 0 ≤ T.swaps[k].j ∧ T.swaps[k].j < T.base.length := by simpa [inB] using hib
        have hm0 : decide (min T.swaps[k].i T.swaps[k].j < 0) = false := decide_eq_false (by omega)
        have hm1 : decide ((T.base.length : Int) ≤ max T.swaps[k].i T.swaps[k].j) = false := decide_eq_false (by omega)
        have HIB := hidI hib
        clear hib hib'
        rcases Nat.eq_zero_or_pos k with hk0 | hk0
        · have hkd : decide ((0 : Int) < (k : Int)) = false := decide_eq_false (by omega)
          have hkd2 : decide (0 < k) = false := decide_eq_false (by omega)
          have HK : Hid (sOk T.base.length T.swaps k = true) := sOk_zero hlt HIB.out hk0
          have HT := hidI (words_take T.swaps k hlt)
          clear hk0
          go_wp2_with fail
          go_quiet (fail)
          have hownq : ((wr.alloc (.cells #[.int .i64 T.swaps[k].i, .int .i64 T.swaps[k].j, .string T.swaps[k].wd] 41)).drewN nq).ownsRow (w.heap.size + 1) 9 1 u3 k (((T.swaps.take k).map Sw.wd).map Value.string) := hown.alloc _
          have hBq : Below w.heap.size w ((wr.alloc (.cells #[.int .i64 T.swaps[k].i, .int .i64 T.swaps[k].j, .string T.swaps[k].wd] 41)).drewN nq) := below_drewN (hB.alloc hB.size _) nq
          have hbq : VRow ((wr.alloc (.cells #[.int .i64 T.swaps[k].i, .int .i64 T.swaps[k].j, .string T.swaps[k].wd] 41)).drewN nq) w.heap.size 25 [.int .i64 T.q, .int .i64 T.n, .slice p1 T.base.length c1, .slice (some ⟨b1, o1, none⟩) T.swaps.length c2] := hb.alloc _
          have hnew := cell_one_at ((wr.alloc (.cells #[.int .i64 T.swaps[k].i, .int .i64 T.swaps[k].j, .string T.swaps[k].wd] 41)).drewN nq) (.string T.swaps[k].wd) 9 (wr.heap.size + 1) (World.size_alloc _ _)
          have hsz1 : ((wr.alloc (.cells #[.int .i64 T.swaps[k].i, .int .i64 T.swaps[k].j, .string T.swaps[k].wd] 41)).drewN nq).heap.size = wr.heap.size + 1 := World.size_alloc _ _
          have HSZ := hidI hsz1
          clear hsz1
          go_wp2_with (at_builtin; refine wpList_append_own _ rfl _ _ 22 rfl (w.heap.size + 1) 9 i0 (.string ⟨#[]⟩) 1 16 Try.underlying22 hi0 hz0 hz1 hz2 rfl (by decide) _ _ _ rfl (hownq.alloc _) ⟨wr.heap.size + 1, 0, none⟩ 1 1 [.string T.swaps[k].wd] rfl rfl hnew (by simp [Value.oneCell']) (by simp [maxLen]; omega) (by omega) (by rw [World.size_alloc, HSZ.out]; omega) ?_; intro v' w1 hown' hgrow _)
          go_roundw
          case rel =>
            refine ⟨k + 1, by omega, by go_num, fun j h1 => ?_, (hbq.alloc _).grown hgrow (fun e => by have := (hownq.lt _ e.symm).1; omega), by rw [HT.out]; exact hown', (hBq.alloc hBq.size _).grown hgrow (Nat.le_trans hBq.size (by simp)) (fun j e => Nat.le_of_succ_le (hownq.lt j e).1)⟩
            rcases Nat.lt_succ_iff_lt_or_eq.1 h1 with h3 | h3
            · exact hj.out j h3
            · subst h3; exact HK.out
          case measure => simp [intOf]; omega
        · obtain ⟨m, rfl⟩ : ∃ m, k = m + 1 := ⟨k - 1, by omega⟩
          have HS := hidI (sOk_succ hlt HIB.out)
          go_wp2_with fail
          refine region_tail 28 (by kernel_rfl) (by kernel_rfl) fun W hD => ?_
          have hBW : Below w.heap.size w W := (hB.alloc hB.size _).trans (hD.below _)
          have hbW : VRow W w.heap.size 25 [.int .i64 T.q, .int .i64 T.n, .slice p1 T.base.length c1, .slice (some ⟨b1, o1, none⟩) T.swaps.length c2] := (hb.alloc _).dr hD
          have hcW : VRow W wr.heap.size 41 [.int .i64 T.swaps[m + 1].i, .int .i64 T.swaps[m + 1].j, .string T.swaps[m + 1].wd] := (VRow.new wr 41 _).dr hD
          have hownW := (hown.alloc (.cells #[.int .i64 T.swaps[m + 1].i, .int .i64 T.swaps[m + 1].j, .string T.swaps[m + 1].wd] 41)).dr hD
          have hszW : W.heap.size = wr.heap.size + 1 := by rw [hD.size, World.size_alloc]
          obtain ⟨b1', o1', he, _, e3, e4, e5⟩ := (hin.swaps.below hBW).get3 m (by omega) rfl
          cases he
          clear e0 e1 e2 f0 f1 f2 f3
          have f2 := hbW.at 2 rfl; have f3 := hbW.at 3 rfl
          have e0 := hcW.at 0 rfl; have e1 := hcW.at 1 rfl; have e2 := hcW.at 2 rfl
          simp only [List.take_succ_cons, List.take_zero, List.drop_succ_cons, List.drop_zero]
          have m0 : (0 : Int) ≤ (m : Int) := by omega
          have m1 : (m : Int) < (T.swaps.length : Int) := by omega
          have q1 : IntKind.i64.wrap (m : Int) = (m : Int) := IntWalk.i64_in _ (by omega)
          iterate 28 still_step
          refine wpStill_nil ?_
          clear q1
          go_wp2_with fail
          refine (lkCompare_any T.swaps[m] T.swaps[m + 1] _).mono ?_
          rintro e w1 ⟨rfl, hB1⟩
          have hB2 := hBW.trans (hB1.mono hBW.size)
          by_cases hcs : 0 ≤ cmpS T.swaps[m] T.swaps[m + 1]
          · have HF : Hid (fmd T = false) := fmd_ss (allB_f (m + 1) hlt (by rw [HS.out]; have := cmpS_lex T.swaps[m] T.swaps[m + 1]; rw [decide_eq_true hcs] at this; simpa using this.symm))
            go_wp2
            go_ret
            exact ⟨ret_bool HF.out.symm, hB2⟩
          · have HK : Hid (sOk T.base.length T.swaps (m + 1) = true) := by unfold Hid; rw [HS.out]; have := cmpS_lex T.swaps[m] T.swaps[m + 1]; rw [decide_eq_false hcs] at this; simpa using this.symm
            have hcd := decide_eq_false hcs
            have HT := hidI (words_take T.swaps (m + 1) hlt)
            have hwl : wr.heap.size < W.heap.size := by omega
            have hown1 := hownW.below hB1
            have hb1' := hbW.below hB1 (by omega)
            have hc1' := hcW.below hB1 hwl
            have g2 := hc1'.at 2 rfl
            have hnew := cell_one_new w1 (.string T.swaps[m + 1].wd) 9
            have hsz1 : wr.heap.size < w1.heap.size := Nat.lt_of_lt_of_le hwl hB1.size
            clear e0 e1 e2 e3 e4 e5 f2 f3 m0 m1 hcs
            go_wp2_with (at_builtin; refine wpList_append_own _ rfl _ _ 22 rfl (w.heap.size + 1) 9 i0 (.string ⟨#[]⟩) 1 16 Try.underlying22 hi0 hz0 hz1 hz2 rfl (by decide) _ _ _ rfl (hown1.alloc _) ⟨w1.heap.size, 0, none⟩ 1 1 [.string T.swaps[m + 1].wd] rfl rfl hnew (by simp [Value.oneCell']) (by simp [maxLen]; omega) (by omega) (by rw [World.size_alloc]; omega) ?_; intro v' w2 hown' hgrow _)
            go_roundw
            case rel =>
              refine ⟨m + 1 + 1, by omega, by go_num, fun j h1 => ?_, (hb1'.alloc _).grown hgrow (fun e => by have := (hown1.lt _ e.symm).1; omega), by rw [HT.out]; exact hown', (hB2.alloc hB2.size _).grown hgrow (Nat.le_trans hB2.size (by simp)) (fun j e => Nat.le_of_succ_le (hown1.lt j e).1)⟩
              rcases Nat.lt_succ_iff_lt_or_eq.1 h1 with h3 | h3
              · exact hj.out j h3
              · subst h3; exact HK.out
            case measure => simp [intOf]; omega
    · obtain rfl : k = T.swaps.length := by omega
      have hss : ssOk T = true := allB_t hj.out
      rw [List.take_length] at hown
      have hcap := own_cap hown
      obtain ⟨q, d, hv, hsl⟩ := own_sl hown
      rw [List.length_map] at hv
      subst hv
      have hqd := hcap _ _ _ rfl
      have f0 := hb.at 0 rfl; have f1 := hb.at 1 rfl; have f2 := hb.at 2 rfl; have f3 := hb.at 3 rfl
      clear hcap hown
      cases hbs : wsOk T.q T.n T.base
      · have HF := hidI (fmd_base hbs)
        have HX := hidI hbs
        clear hbs hss
        go_wp2_with fail
        refine (lkWords_any T.q T.n T.base _ rfl p1 c1 _ (hin.base.below hB) hin.cap1 hin.l1 hin.z1).mono ?_
        rintro e w1 ⟨rfl, hD⟩
        rw [HX.out]
        go_wp2
        go_ret
        exact ⟨ret_bool HF.out.symm, hB.trans (hD.below _)⟩
      · have HF := hidI (fmd_all HPRE.out hss hbs)
        have HX := hidI hbs
        clear hbs hss
        go_wp2_with fail
        refine (lkWords_any T.q T.n T.base _ rfl p1 c1 _ (hin.base.below hB) hin.cap1 hin.l1 hin.z1).mono ?_
        rintro e w1 ⟨rfl, hD⟩
        rw [HX.out]
        have f0' := (hD.cell _).trans f0
        have f1' := (hD.cell _).trans f1
        go_wp2_with fail
        refine (lkWords_any T.q (2 * T.n) (T.swaps.map Sw.wd) T.swaps.length (List.length_map _) q d _ (hsl.dr hD) (by rw [List.length_map]; exact hqd) (by omega) (fun j h => by rw [List.getElem_map]; exact hin.z2 j (by simpa using h))).mono ?_
        rintro e w2 ⟨rfl, hD2⟩
        rw [← HF.out]
        go_wp2
        go_ret
        exact ⟨rfl, (hB.trans (hD.below _)).trans (hD2.below _)⟩

theorem lkFormed_any (T : Tb) (p1 p2 : Option Addr) (c1 c2 : Nat) (w : World) (hin : TbIn w T p1 p2 c1 c2) :
    Calls Try.prog 19 #[.agg #[.int .i64 T.q, .int .i64 T.n, .slice p1 T.base.length c1, .slice p2 T.swaps.length c2]] w fun e w' => e = .returned (.bool (fmd T)) ∧ Below w.heap.size w w' := by
  cases h : preB T
  · exact lkFormed_pre T p1 p2 c1 c2 w hin.l1 hin.l2 h
  · exact lkFormed_ok T p1 p2 c1 c2 w hin h
end Go.Proofs.Ythfgdahooigifaa
