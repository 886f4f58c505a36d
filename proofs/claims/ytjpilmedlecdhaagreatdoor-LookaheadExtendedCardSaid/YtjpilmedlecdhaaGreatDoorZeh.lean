/-
  Words, plain lemmas and walks, merged: LkC, Qb, Ta, Qc, LkD, LkE, LkL, LkF, LkG, LkH, LkM.
-/
import Derived.Test.YtjpilmedlecdhaaGreatDoorZeg
import Derived.Test.YtjpilmedlecdhaaGreatDoorZee
import Derived.Test.YtjpilmedlecdhaaGreatDoorZed
import Derived.Shelf.Strconv.Itoa3
import Derived.Lib.AppendIntMem
import Derived.Maps.AppendAt
import Derived.Lib.AppendZerosOnto
set_option linter.unusedVariables false
set_option linter.unusedSimpArgs false
namespace Go.Proofs.YtjpilmedlecdhaaGreatDoor
open Go.RowKit

/-- A table's lists, as they lie in memory. -/
structure TbIn (w : World) (T : Tb) (p1 p2 : Option Addr) (c1 c2 : Nat) : Prop where
  base : Sl w Value.string p1 T.base
  swaps : Sg 3 w swE p2 T.swaps
  cap1 : T.base.length ≤ c1
  l1 : T.base.length ≤ 9223372036854775807
  l2 : T.swaps.length ≤ 9223372036854775807
  z1 : ∀ j (h : j < T.base.length), T.base[j].size ≤ maxLen
  z2 : ∀ j (h : j < T.swaps.length), T.swaps[j].wd.size ≤ maxLen
theorem TbIn.below {w w' : World} {T : Tb} {p1 p2 : Option Addr} {c1 c2 : Nat} (h : TbIn w T p1 p2 c1 c2) (hB : Below w.heap.size w w') : TbIn w' T p1 p2 c1 c2 :=
  ⟨h.base.below hB, h.swaps.below hB, h.cap1, h.l1, h.l2, h.z1, h.z2⟩
theorem infoStr : (Tryz.prog.info? 9).map (fun i => (i.zero, i.size, i.bytes)) = some (some (.string ⟨#[]⟩), 1, 16) := by kernel_rfl
theorem pre_all {T : Tb} (h : preB T = true) : 2 ≤ T.q ∧ T.q ≤ 16 ∧ 1 ≤ T.n ∧ T.n ≤ 8 ∧ 2 ≤ T.base.length ∧ T.base.length ≤ 16 ∧ T.swaps.length ≤ 64 := of_decide_eq_true h
theorem pre_mk {T : Tb} (h : 2 ≤ T.q ∧ T.q ≤ 16 ∧ 1 ≤ T.n ∧ T.n ≤ 8 ∧ 2 ≤ T.base.length ∧ T.base.length ≤ 16 ∧ T.swaps.length ≤ 64) : preB T = true := decide_eq_true h

set_option maxRecDepth 100000 in
set_option maxHeartbeats 2000000 in
theorem lkFormed_pre (T : Tb) (p1 p2 : Option Addr) (c1 c2 : Nat) (w : World) (h1 : T.base.length ≤ 9223372036854775807) (h2 : T.swaps.length ≤ 9223372036854775807) (hpre : preB T = false) :
    Calls Tryz.prog 34 #[.agg #[.int .i64 T.q, .int .i64 T.n, .slice p1 T.base.length c1, .slice p2 T.swaps.length c2]] w fun e w' => e = .returned (.bool (fmd T)) ∧ Below w.heap.size w w' := by
  have HF := hidI (fmd_pre hpre)
  have HP : Hid (¬ (2 ≤ T.q ∧ T.q ≤ 16 ∧ 1 ≤ T.n ∧ T.n ≤ 8 ∧ 2 ≤ T.base.length ∧ T.base.length ≤ 16 ∧ T.swaps.length ≤ 64)) := fun h => by rw [pre_mk h] at hpre; cases hpre
  clear hpre
  go_enter Tryz.func34, Tryz.ntmps34
  go_wp2
  all_goals first
    | (exfalso; have := HP.out; omega)
    | (go_ret; exact ⟨ret_bool HF.out.symm, (Below.refl _ _).alloc (Nat.le_refl _) _⟩)

set_option maxRecDepth 100000 in
set_option maxHeartbeats 4000000 in
theorem lkFormed_ok (T : Tb) (p1 p2 : Option Addr) (c1 c2 : Nat) (w : World) (hin : TbIn w T p1 p2 c1 c2) (hpre : preB T = true) :
    Calls Tryz.prog 34 #[.agg #[.int .i64 T.q, .int .i64 T.n, .slice p1 T.base.length c1, .slice p2 T.swaps.length c2]] w fun e w' => e = .returned (.bool (fmd T)) ∧ Below w.heap.size w w' := by
  obtain ⟨i0, hi0, hz0, hz1, hz2⟩ := info_parts infoStr
  have HPRE := hidI hpre
  obtain ⟨g1, g2, g3, g4, g5, g6, g7⟩ := pre_all hpre
  clear hpre
  have d1 : decide (T.q < 2) = false := decide_eq_false (by omega)
  have d2 : decide (16 < T.q) = false := decide_eq_false (by omega)
  have d3 : decide (T.n < 1) = false := decide_eq_false (by omega)
  have d4 : decide (8 < T.n) = false := decide_eq_false (by omega)
  have d5 : decide ((T.base.length : Int) < 2) = false := decide_eq_false (by omega)
  have d6 : decide ((16 : Int) < (T.base.length : Int)) = false := decide_eq_false (by omega)
  have d7 : decide ((64 : Int) < (T.swaps.length : Int)) = false := decide_eq_false (by omega)
  have b0 : VRow (w.alloc (.cells #[.int .i64 T.q, .int .i64 T.n, .slice p1 T.base.length c1, .slice p2 T.swaps.length c2] 26)) w.heap.size 26 [.int .i64 T.q, .int .i64 T.n, .slice p1 T.base.length c1, .slice p2 T.swaps.length c2] := VRow.new w _ _
  have hB0 : Below w.heap.size w (w.alloc (.cells #[.int .i64 T.q, .int .i64 T.n, .slice p1 T.base.length c1, .slice p2 T.swaps.length c2] 26)) := (Below.refl _ _).alloc (Nat.le_refl _) _
  go_enter Tryz.func34, Tryz.ntmps34
  go_wp2
  clear d1 d2 d3 d4 d5 d6 d7
  go_loopw [3, 45] (fun rv iv wr => ∃ k : Nat, k ≤ T.swaps.length ∧ iv = .int .i64 k ∧ Hid (∀ j, j < k → sOk T.base.length T.swaps j = true) ∧ VRow wr w.heap.size 26 [.int .i64 T.q, .int .i64 T.n, .slice p1 T.base.length c1, .slice p2 T.swaps.length c2] ∧
      wr.ownsRow (w.heap.size + 1) 9 1 rv k ((((T.swaps.take k).map Sw.wd)).map Value.string) ∧ Below w.heap.size w wr) (fun _ iv _ => T.swaps.length - (intOf iv).toNat)
  case atStart => exact ⟨0, by omega, rfl, fun _ h => by omega, b0, World.ownsRow_nil _ _ _ _, hB0⟩
  case round =>
    obtain ⟨k, hk, rfl, hj, hb, hown, hB⟩ := hrel
    clear b0 hB0
    by_cases hlt : k < T.swaps.length
    · obtain ⟨b1, o1, rfl, hb1, e0, e1, e2⟩ := (hin.swaps.below hB).get3 k hlt rfl
      have f0 := hb.at 0 rfl; have f1 := hb.at 1 rfl; have f2 := hb.at 2 rfl; have f3 := hb.at 3 rfl
      have hsz := hb.lt
      cases hib : inB T.base.length T.swaps[k]
      · have HF : Hid (fmd T = false) := fmd_ss (allB_f k hlt (sOk_in hlt hib))
        by_cases hmin : min T.swaps[k].i T.swaps[k].j < 0
        · clear hib
          go_wp2_with fail
          go_quiet (fail)
          go_wp2
          go_ret
          exact ⟨ret_bool HF.out.symm, below_drewN (hB.alloc hB.size _) _⟩
        · have hmax : (T.base.length : Int) ≤ max T.swaps[k].i T.swaps[k].j := by simp [inB] at hib; omega
          have hm0 := decide_eq_false hmin
          clear hib
          go_wp2_with fail
          go_quiet (fail)
          go_wp2
          go_ret
          exact ⟨ret_bool HF.out.symm, below_drewN (hB.alloc hB.size _) _⟩
      · have hib' : 0 ≤ T.swaps[k].i ∧ T.swaps[k].i < T.base.length ∧ 0 ≤ T.swaps[k].j ∧ T.swaps[k].j < T.base.length := by simpa [inB] using hib
        have hm0 : decide (min T.swaps[k].i T.swaps[k].j < 0) = false := decide_eq_false (by omega)
        have hm1 : decide ((T.base.length : Int) ≤ max T.swaps[k].i T.swaps[k].j) = false := decide_eq_false (by omega)
        have HIB := hidI hib
        clear hib hib'
        rcases Nat.eq_zero_or_pos k with hk0 | hk0
        · have hkd : decide ((0 : Int) < (k : Int)) = false := decide_eq_false (by omega)
          have hkd2 : decide (0 < k) = false := decide_eq_false (by omega)
          have HK : Hid (sOk T.base.length T.swaps k = true) := sOk_zero hlt HIB.out hk0
          have HT := hidI (words_take T.swaps k hlt)
          clear hk0
          go_wp2_with fail
          go_quiet (fail)
          have hownq : ((wr.alloc (.cells #[.int .i64 T.swaps[k].i, .int .i64 T.swaps[k].j, .string T.swaps[k].wd] 55)).drewN nq).ownsRow (w.heap.size + 1) 9 1 u3 k (((T.swaps.take k).map Sw.wd).map Value.string) := hown.alloc _
          have hBq : Below w.heap.size w ((wr.alloc (.cells #[.int .i64 T.swaps[k].i, .int .i64 T.swaps[k].j, .string T.swaps[k].wd] 55)).drewN nq) := below_drewN (hB.alloc hB.size _) nq
          have hbq : VRow ((wr.alloc (.cells #[.int .i64 T.swaps[k].i, .int .i64 T.swaps[k].j, .string T.swaps[k].wd] 55)).drewN nq) w.heap.size 26 [.int .i64 T.q, .int .i64 T.n, .slice p1 T.base.length c1, .slice (some ⟨b1, o1, none⟩) T.swaps.length c2] := hb.alloc _
          have hnew := cell_one_at ((wr.alloc (.cells #[.int .i64 T.swaps[k].i, .int .i64 T.swaps[k].j, .string T.swaps[k].wd] 55)).drewN nq) (.string T.swaps[k].wd) 9 (wr.heap.size + 1) (World.size_alloc _ _)
          have hsz1 : ((wr.alloc (.cells #[.int .i64 T.swaps[k].i, .int .i64 T.swaps[k].j, .string T.swaps[k].wd] 55)).drewN nq).heap.size = wr.heap.size + 1 := World.size_alloc _ _
          have HSZ := hidI hsz1
          clear hsz1
          go_wp2_with (at_builtin; refine wpList_append_own _ rfl _ _ 23 rfl (w.heap.size + 1) 9 i0 (.string ⟨#[]⟩) 1 16 Tryz.underlying23 hi0 hz0 hz1 hz2 rfl (by decide) _ _ _ rfl (hownq.alloc _) ⟨wr.heap.size + 1, 0, none⟩ 1 1 [.string T.swaps[k].wd] rfl rfl hnew (by simp [Value.oneCell']) (by simp [maxLen]; omega) (by omega) (by rw [World.size_alloc, HSZ.out]; omega) ?_; intro v' w1 hown' hgrow _)
          go_roundw
          case rel =>
            refine ⟨k + 1, by omega, by go_num, fun j h1 => ?_, (hbq.alloc _).grown hgrow (fun e => by have := (hownq.lt _ e.symm).1; omega), by rw [HT.out]; exact hown', (hBq.alloc hBq.size _).grown hgrow (Nat.le_trans hBq.size (by simp)) (fun j e => Nat.le_of_succ_le (hownq.lt j e).1)⟩
            rcases Nat.lt_succ_iff_lt_or_eq.1 h1 with h3 | h3
            · exact hj.out j h3
            · subst h3; exact HK.out
          case measure => simp [intOf]; omega
        · obtain ⟨m, rfl⟩ : ∃ m, k = m + 1 := ⟨k - 1, by omega⟩
          have HS := hidI (sOk_succ hlt HIB.out)
          go_wp2_with fail
          refine region_tail 28 (by kernel_rfl) (by kernel_rfl) fun W hD => ?_
          have hBW : Below w.heap.size w W := (hB.alloc hB.size _).trans (hD.below _)
          have hbW : VRow W w.heap.size 26 [.int .i64 T.q, .int .i64 T.n, .slice p1 T.base.length c1, .slice (some ⟨b1, o1, none⟩) T.swaps.length c2] := (hb.alloc _).dr hD
          have hcW : VRow W wr.heap.size 55 [.int .i64 T.swaps[m + 1].i, .int .i64 T.swaps[m + 1].j, .string T.swaps[m + 1].wd] := (VRow.new wr 55 _).dr hD
          have hownW := (hown.alloc (.cells #[.int .i64 T.swaps[m + 1].i, .int .i64 T.swaps[m + 1].j, .string T.swaps[m + 1].wd] 55)).dr hD
          have hszW : W.heap.size = wr.heap.size + 1 := by rw [hD.size, World.size_alloc]
          obtain ⟨b1', o1', he, _, e3, e4, e5⟩ := (hin.swaps.below hBW).get3 m (by omega) rfl
          cases he
          clear e0 e1 e2 f0 f1 f2 f3
          have f2 := hbW.at 2 rfl; have f3 := hbW.at 3 rfl
          have e0 := hcW.at 0 rfl; have e1 := hcW.at 1 rfl; have e2 := hcW.at 2 rfl
          simp only [List.take_succ_cons, List.take_zero, List.drop_succ_cons, List.drop_zero]
          have m0 : (0 : Int) ≤ (m : Int) := by omega
          have m1 : (m : Int) < (T.swaps.length : Int) := by omega
          have q1 : IntKind.i64.wrap (m : Int) = (m : Int) := IntWalk.i64_in _ (by omega)
          iterate 28 still_step
          refine wpStill_nil ?_
          clear q1
          go_wp2_with fail
          refine (lkCompare_any T.swaps[m] T.swaps[m + 1] _).mono ?_
          rintro e w1 ⟨rfl, hB1⟩
          have hB2 := hBW.trans (hB1.mono hBW.size)
          by_cases hcs : 0 ≤ cmpS T.swaps[m] T.swaps[m + 1]
          · have HF : Hid (fmd T = false) := fmd_ss (allB_f (m + 1) hlt (by rw [HS.out]; have := cmpS_lex T.swaps[m] T.swaps[m + 1]; rw [decide_eq_true hcs] at this; simpa using this.symm))
            go_wp2
            go_ret
            exact ⟨ret_bool HF.out.symm, hB2⟩
          · have HK : Hid (sOk T.base.length T.swaps (m + 1) = true) := by unfold Hid; rw [HS.out]; have := cmpS_lex T.swaps[m] T.swaps[m + 1]; rw [decide_eq_false hcs] at this; simpa using this.symm
            have hcd := decide_eq_false hcs
            have HT := hidI (words_take T.swaps (m + 1) hlt)
            have hwl : wr.heap.size < W.heap.size := by omega
            have hown1 := hownW.below hB1
            have hb1' := hbW.below hB1 (by omega)
            have hc1' := hcW.below hB1 hwl
            have g2 := hc1'.at 2 rfl
            have hnew := cell_one_new w1 (.string T.swaps[m + 1].wd) 9
            have hsz1 : wr.heap.size < w1.heap.size := Nat.lt_of_lt_of_le hwl hB1.size
            clear e0 e1 e2 e3 e4 e5 f2 f3 m0 m1 hcs
            go_wp2_with (at_builtin; refine wpList_append_own _ rfl _ _ 23 rfl (w.heap.size + 1) 9 i0 (.string ⟨#[]⟩) 1 16 Tryz.underlying23 hi0 hz0 hz1 hz2 rfl (by decide) _ _ _ rfl (hown1.alloc _) ⟨w1.heap.size, 0, none⟩ 1 1 [.string T.swaps[m + 1].wd] rfl rfl hnew (by simp [Value.oneCell']) (by simp [maxLen]; omega) (by omega) (by rw [World.size_alloc]; omega) ?_; intro v' w2 hown' hgrow _)
            go_roundw
            case rel =>
              refine ⟨m + 1 + 1, by omega, by go_num, fun j h1 => ?_, (hb1'.alloc _).grown hgrow (fun e => by have := (hown1.lt _ e.symm).1; omega), by rw [HT.out]; exact hown', (hB2.alloc hB2.size _).grown hgrow (Nat.le_trans hB2.size (by simp)) (fun j e => Nat.le_of_succ_le (hown1.lt j e).1)⟩
              rcases Nat.lt_succ_iff_lt_or_eq.1 h1 with h3 | h3
              · exact hj.out j h3
              · subst h3; exact HK.out
            case measure => simp [intOf]; omega
    · obtain rfl : k = T.swaps.length := by omega
      have hss : ssOk T = true := allB_t hj.out
      rw [List.take_length] at hown
      have hcap := own_cap hown
      obtain ⟨q, d, hv, hsl⟩ := own_sl hown
      rw [List.length_map] at hv
      subst hv
      have hqd := hcap _ _ _ rfl
      have f0 := hb.at 0 rfl; have f1 := hb.at 1 rfl; have f2 := hb.at 2 rfl; have f3 := hb.at 3 rfl
      clear hcap hown
      cases hbs : wsOk T.q T.n T.base
      · have HF := hidI (fmd_base hbs)
        have HX := hidI hbs
        clear hbs hss
        go_wp2_with fail
        refine (lkWords_any T.q T.n T.base _ rfl p1 c1 _ (hin.base.below hB) hin.cap1 hin.l1 hin.z1).mono ?_
        rintro e w1 ⟨rfl, hD⟩
        rw [HX.out]
        go_wp2
        go_ret
        exact ⟨ret_bool HF.out.symm, hB.trans (hD.below _)⟩
      · have HF := hidI (fmd_all HPRE.out hss hbs)
        have HX := hidI hbs
        clear hbs hss
        go_wp2_with fail
        refine (lkWords_any T.q T.n T.base _ rfl p1 c1 _ (hin.base.below hB) hin.cap1 hin.l1 hin.z1).mono ?_
        rintro e w1 ⟨rfl, hD⟩
        rw [HX.out]
        have f0' := (hD.cell _).trans f0
        have f1' := (hD.cell _).trans f1
        go_wp2_with fail
        refine (lkWords_any T.q (2 * T.n) (T.swaps.map Sw.wd) T.swaps.length (List.length_map _) q d _ (hsl.dr hD) (by rw [List.length_map]; exact hqd) (by omega) (fun j h => by rw [List.getElem_map]; exact hin.z2 j (by simpa using h))).mono ?_
        rintro e w2 ⟨rfl, hD2⟩
        rw [← HF.out]
        go_wp2
        go_ret
        exact ⟨rfl, (hB.trans (hD.below _)).trans (hD2.below _)⟩

theorem lkFormed_any (T : Tb) (p1 p2 : Option Addr) (c1 c2 : Nat) (w : World) (hin : TbIn w T p1 p2 c1 c2) :
    Calls Tryz.prog 34 #[.agg #[.int .i64 T.q, .int .i64 T.n, .slice p1 T.base.length c1, .slice p2 T.swaps.length c2]] w fun e w' => e = .returned (.bool (fmd T)) ∧ Below w.heap.size w w' := by
  cases h : preB T
  · exact lkFormed_pre T p1 p2 c1 c2 w hin.l1 hin.l2 h
  · exact lkFormed_ok T p1 p2 c1 c2 w hin h
end Go.Proofs.YtjpilmedlecdhaaGreatDoor
namespace Go.Proofs.YtjpilmedlecdhaaGreatDoor
open Go.RowKit Go.Sort Go.Shelf Go.Lib

def fitA (T : Tb) (G : Gr) : Int := if fmd T = false ∨ chkG G ≠ 0 then 1 else if G.q ≠ T.q then 11 else 0

set_option maxRecDepth 100000 in
set_option maxHeartbeats 1000000 in
theorem lkCheck0_any (T : Tb) (p1 p2 : Option Addr) (c1 c2 : Nat) (G : Gr) (p : Option Addr) (c : Nat) (w : World) (hT : TbIn w T p1 p2 c1 c2) (hG : Sg 3 w edE p G.es) (hl : G.es.length ≤ 9223372036854775807) :
    Calls Tryz.prog 27 #[.agg #[.int .i64 T.q, .int .i64 T.n, .slice p1 T.base.length c1, .slice p2 T.swaps.length c2], (.agg #[.int .i64 G.q, .int .i64 G.n, .slice p G.es.length c])] w fun e w' => e = .returned (.int .i64 (fitA T G)) ∧ RowKit.Below w.heap.size w w' := by
  obtain ⟨w0, hw0⟩ : ∃ w0, w0 = (w.alloc (.cells #[.int .i64 T.q, .int .i64 T.n, .slice p1 T.base.length c1, .slice p2 T.swaps.length c2] 26)).alloc (.cells #[.int .i64 G.q, .int .i64 G.n, .slice p G.es.length c] 30) := ⟨_, rfl⟩
  have b0 : VRow w0 w.heap.size 26 [.int .i64 T.q, .int .i64 T.n, .slice p1 T.base.length c1, .slice p2 T.swaps.length c2] := by subst hw0; exact (VRow.new w _ _).alloc _
  have b1 : VRow w0 (w.heap.size + 1) 30 [.int .i64 G.q, .int .i64 G.n, .slice p G.es.length c] := by subst hw0; exact VRow.new1 w _ _ _
  have hB0 : RowKit.Below w.heap.size w w0 := by subst hw0; exact ((RowKit.Below.refl _ _).alloc (Nat.le_refl _) _).alloc (by simp) _
  have HF := hidI (lkFormed_any T p1 p2 c1 c2 w0 (hT.below hB0))
  have HG := hidI (fun W (hW : RowKit.Below w.heap.size w W) => gCheck_any G p c W (hG.below hW) hl)
  have HX : Hid (fitA T G = if fmd T = false ∨ chkG G ≠ 0 then 1 else if G.q ≠ T.q then 11 else 0) := rfl
  have a0 := b0.at 0 rfl; have a1 := b0.at 1 rfl; have a2 := b0.at 2 rfl; have a3 := b0.at 3 rfl
  clear hT hG
  generalize fmd T = f at *
  generalize chkG G = k at *
  go_enter Tryz.func27, Tryz.ntmps27
  go_upto_region 1 with fail
  rw [← hw0]
  clear hw0
  go_wp2_with fail
  refine HF.out.mono ?_
  rintro e w1 ⟨rfl, hB1⟩
  have x1 := hB0.trans (hB1.mono hB0.size)
  have c1' := b1.below hB1 b1.lt
  have c0' := b0.below hB1 b0.lt
  have d0 := c1'.at 0 rfl; have d1 := c1'.at 1 rfl; have d2 := c1'.at 2 rfl
  clear a0 a1 a2 a3 b0 b1 hB0
  cases f
  · have HY : Hid (fitA T G = 1) := by rw [Hid, HX.out]; simp
    go_wp2
    go_ret
    exact ⟨ret_int HY.out.symm, x1⟩
  · go_wp2_with fail
    refine (HG.out w1 x1).mono ?_
    rintro e w2 ⟨rfl, hB2⟩
    have x2 := x1.trans (hB2.mono x1.size)
    have e1 := c1'.below hB2 c1'.lt
    have e0 := c0'.below hB2 c0'.lt
    have f0 := e1.at 0 rfl; have f1 := e0.at 0 rfl
    clear d0 d1 d2 c0' c1' e0 e1
    by_cases hk : k = 0
    · subst hk
      by_cases hq : G.q = T.q
      · have HY : Hid (fitA T G = 0) := by rw [Hid, HX.out]; simp [hq]
        have hqb : (G.q != T.q) = false := by simpa using hq
        clear hq
        go_wp2
        go_ret
        exact ⟨ret_int HY.out.symm, x2⟩
      · have HY : Hid (fitA T G = 11) := by rw [Hid, HX.out]; simp [hq]
        have hqb : (G.q != T.q) = true := by simpa using hq
        clear hq
        go_wp2
        go_ret
        exact ⟨ret_int HY.out.symm, x2⟩
    · have HY : Hid (fitA T G = 1) := by rw [Hid, HX.out]; simp [hk]
      have hkb : (k != 0) = true := by simpa using hk
      clear hk
      go_wp2
      go_ret
      exact ⟨ret_int HY.out.symm, x2⟩

set_option maxRecDepth 100000 in
set_option maxHeartbeats 2000000 in
theorem lkFollow_any (G : Gr) (p : Option Addr) (c : Nat) (st : List Int) (q : Option Addr) (d : Nat) (s : ByteArray) (w : World) (hin : Sg 3 w edE p G.es) (hst : Sl w (Value.int .i64) q st) (hv : Vg G) (hS : St G.n st) (hw : Chg.okw G.q s.data.toList = true) (hs : s.size ≤ 65536) :
    Calls Tryz.prog 32 #[(.agg #[.int .i64 G.q, .int .i64 G.n, .slice p G.es.length c]), .slice q st.length d, .string s] w (LsOut (endA G st (ltr s)) w) := by
  have HIN := hidI hin; have HV := hidI hv; have HS := hidI hS; have HW := hidI hw
  have HST := hidI hst
  have hn1 := hv.n1; have hn2 := hv.n2
  clear hin hst hv hS hw
  obtain ⟨w0, hw0⟩ : ∃ w0, w0 = w.alloc (.cells #[.int .i64 G.q, .int .i64 G.n, .slice p G.es.length c] 30) := ⟨_, rfl⟩
  have b0 : VRow w0 w.heap.size 30 [.int .i64 G.q, .int .i64 G.n, .slice p G.es.length c] := by subst hw0; exact VRow.new w _ _
  have hB0 : RowKit.Below w.heap.size w w0 := by subst hw0; exact (RowKit.Below.refl _ _).alloc (Nat.le_refl _) _
  have hE0 : endA G st ((ltr s).take 0) = st := rfl
  go_enter Tryz.func32, Tryz.ntmps32
  go_wp2
  rw [← hw0]
  clear hw0
  go_loopw [1, 10] (fun sv iv wr => ∃ (k : Nat) (qk : Option Addr) (dk : Nat), k ≤ s.size ∧ sv = .slice qk (endA G st ((ltr s).take k)).length dk ∧ iv = .int .i64 k ∧ Sl wr (Value.int .i64) qk (endA G st ((ltr s).take k)) ∧ RowKit.Below w0.heap.size w0 wr) (fun _ iv _ => s.size - (intOf iv).toNat)
  case atStart => exact ⟨0, q, d, by omega, by rw [hE0], rfl, by rw [hE0]; exact HST.out.below hB0, RowKit.Below.refl _ _⟩
  case round =>
    obtain ⟨k, qk, dk, hk, rfl, rfl, hsl, hB⟩ := hrel
    have HSK := hidI (endA_st G st HS.out ((ltr s).take k))
    have xr := hB0.trans (hB.mono hB0.size)
    by_cases hlt : k < s.size
    · have HN : Hid (endA G st ((ltr s).take (k + 1)) = nextA G (endA G st ((ltr s).take k)) (Chg.dig (s[k].toNat : Int))) := by rw [Hid, ltr_take s k hlt, endA_snoc]
      generalize endA G st ((ltr s).take k) = L at *
      have hltN : (k : Int) < (s.size : Int) := by omega
      have hd := okw_at HW.out k hlt
      have hdx := idx_dig s[k] hd.1
      generalize Chg.dig (s[k].toNat : Int) = b at *
      have r0 := b0.below hB b0.lt
      have HI := hidI (fun W => Tryz.strings_IndexByte ⟨#[48, 49, 50, 51, 52, 53, 54, 55, 56, 57, 97, 98, 99, 100, 101, 102]⟩ (s[k].toNat : Int) W)
      rw [show Lib.indexByte (⟨#[48, 49, 50, 51, 52, 53, 54, 55, 56, 57, 97, 98, 99, 100, 101, 102]⟩ : ByteArray).data.toList ((s[k].toNat : Int)).toNat.toUInt8 = b from hdx] at HI
      have hlen := HSK.out.len hn1
      have HC := hidI HSK.out.chk
      have HSL := hidI hsl
      have HD := hidI hd
      clear hd
      have HXR := hidI xr
      clear hsl xr hdx
      go_upto_region 4 with fail
      have g0 := r0.at 0 rfl; have g1 := r0.at 1 rfl; have g2 := r0.at 2 rfl
      have zb : w.heap.size < wr.heap.size := r0.lt
      have HIX : Hid (∀ W, RowKit.Below wr.heap.size wr W → Sg 3 W edE p G.es) := fun W h => HIN.out.below (HXR.out.trans (h.mono HXR.out.size))
      have HSX : Hid (∀ W, RowKit.Below wr.heap.size wr W → Sl W (Value.int .i64) qk L) := fun W h => HSL.out.below h
      have HBR := hidI hB
      clear r0 hB
      go_region_held3 (fun w' => w'.cell? ⟨w.heap.size, 0, none⟩ = some (.int .i64 G.q) ∧ w'.cell? ⟨w.heap.size, 1, none⟩ = some (.int .i64 G.n) ∧ w'.cell? ⟨w.heap.size, 2, none⟩ = some (.slice p G.es.length c) ∧ RowKit.Below wr.heap.size wr w')
        (first | (go_split_ands; refine ⟨?_, ?_, ?_, ?_⟩ <;> first | assumption | (go_keep; done) | exact RowKit.Below.refl _ _ | exact below_drewN (RowKit.Below.refl _ _) 1 | exact (hBb.cell (Nat.lt_of_lt_of_le zb (RowKit.Below.size (by assumption)))).trans (by assumption) | exact RowKit.Below.trans (by assumption) (hBb.mono (RowKit.Below.size (by assumption)))))
        (first
          | (go_at_call 63; (with_reducible refine (HI.out _).mono ?_); rintro e wA ⟨rfl, rfl⟩)
          | (go_at_call 62; go_split_ands; (with_reducible refine (callsIn_wide.1 (gStep_in G p c L qk dk b _ (HIX.out _ (by assumption)) (HSX.out _ (by assumption)) HV.out (by omega) HC.out HD.out.1 HD.out.2)).mono ?_); rintro e wB ⟨p', m', c', rfl, hown, hBb⟩; have hwz := RowKit.Below.size (show RowKit.Below wr.heap.size wr _ by assumption); have hfin := own_baseI hown hwz; have hBf := RowKit.Below.trans (show RowKit.Below wr.heap.size wr _ by assumption) (hBb.mono hwz)))
      all_goals
        obtain ⟨q9, c9, he9, hs9⟩ := own_sl hfin
        simp only [Value.slice.injEq] at he9
        obtain ⟨rfl, rfl, rfl⟩ := he9
        have hBn := HBR.out.trans (hBf.mono HBR.out.size)
        go_wp2_with fail
        go_roundw
        case rel => exact ⟨k + 1, _, _, by omega, by rw [HN.out], by go_num, by rw [HN.out]; exact hs9, hBn⟩
        case measure => simp [intOf]; omega
    · obtain rfl : k = s.size := by omega
      have hltN : ¬ (s.size : Int) < (s.size : Int) := by omega
      rw [ltr_all] at *
      generalize endA G st (ltr s) = L at *
      go_wp2
      go_ret
      exact ⟨_, _, rfl, hsl, xr⟩
end Go.Proofs.YtjpilmedlecdhaaGreatDoor
namespace Go.Proofs.YtjpilmedlecdhaaGreatDoor
open Go.RowKit

def keyL : List Int → List UInt8
  | [] => []
  | s :: l => Lib.decDigits s.toNat ++ 32 :: keyL l
theorem dg_no : ∀ i, i < 100 → (32 : UInt8) ∉ Lib.decDigits i := by decide +kernel
theorem dg_inj : ∀ i, i < 100 → ∀ j, j < 100 → Lib.decDigits i = Lib.decDigits j → i = j := by decide +kernel
theorem sep_inj {c : UInt8} : ∀ {a b r r' : List UInt8}, c ∉ a → c ∉ b → a ++ c :: r = b ++ c :: r' → a = b ∧ r = r'
  | [], [], r, r', _, _, h => by simp at h; exact ⟨rfl, h⟩
  | [], y :: b, r, r', _, hb, h => by simp at h; exact absurd (by simp [h.1]) hb
  | x :: a, [], r, r', ha, _, h => by simp at h; exact absurd (by simp [h.1]) ha
  | x :: a, y :: b, r, r', ha, hb, h => by
    simp only [List.cons_append, List.cons.injEq] at h
    obtain ⟨h1, h2⟩ := sep_inj (fun hm => ha (List.mem_cons_of_mem _ hm)) (fun hm => hb (List.mem_cons_of_mem _ hm)) h.2
    exact ⟨by rw [h.1, h1], h2⟩
/-- The key tells sets apart. -/
theorem keyL_inj : ∀ {l m : List Int}, (∀ x ∈ l, 0 ≤ x ∧ x < 100) → (∀ x ∈ m, 0 ≤ x ∧ x < 100) → keyL l = keyL m → l = m
  | [], [], _, _, _ => rfl
  | [], y :: m, _, _, h => by simp [keyL] at h
  | x :: l, [], _, _, h => by simp [keyL] at h
  | x :: l, y :: m, hl, hm, h => by
    have h1 := hl x (by simp)
    have h2 := hm y (by simp)
    obtain ⟨k1, k2⟩ := sep_inj (dg_no x.toNat (by omega)) (dg_no y.toNat (by omega)) h
    have e := dg_inj x.toNat (by omega) y.toNat (by omega) k1
    have e2 : x = y := by omega
    rw [e2, keyL_inj (fun z hz => hl z (by simp [hz])) (fun z hz => hm z (by simp [hz])) k2]
theorem keyL_snoc : ∀ (l : List Int) (s : Int), keyL (l ++ [s]) = keyL l ++ (Lib.decDigits s.toNat ++ [32])
  | [], s => by simp [keyL]
  | x :: l, s => by simp [keyL, keyL_snoc l s]
theorem dit_small : ∀ i, i < 100 → (Lib.decDigits i).length ≤ 2 := by decide +kernel
theorem keyL_len : ∀ {l : List Int}, (∀ x ∈ l, 0 ≤ x ∧ x < 100) → (keyL l).length ≤ 3 * l.length
  | [], _ => Nat.le_refl _
  | x :: l, h => by
    have h1 := dit_small x.toNat (by have := h x (by simp); omega)
    have h2 := keyL_len (l := l) (fun y hy => h y (by simp [hy]))
    simp only [keyL, List.length_append, List.length_cons]
    omega
end Go.Proofs.YtjpilmedlecdhaaGreatDoor
namespace Go.Proofs.YtjpilmedlecdhaaGreatDoor
open Go.RowKit Go.Sort Go.Shelf Go.Lib

/-- The table of powers of ten reads as the program lays it. -/
def T10 (w : World) : Prop := Lib.TabIs Tryz.prog w "internal/strconv.uint64pow10" .u64 Lib.pow10Tab
theorem T10.below {w w' : World} (h : T10 w) (hB : RowKit.Below w.heap.size w w') : T10 w' := Lib.tabBelow_of_tabIs h w' hB

def tailK (st : List Int) : List UInt8 := st.flatMap (fun s => 32 :: Lib.decDigits s.toNat)
/-- The key of a place. -/
def keyB (l : Int) (st : List Int) : List UInt8 := Lib.itoa l ++ tailK st
theorem tailK_snoc (st : List Int) (s : Int) : tailK (st ++ [s]) = tailK st ++ (32 :: Lib.decDigits s.toNat) := by simp [tailK]
theorem tailK_end : ∀ st : List Int, tailK st ++ [32] = 32 :: keyL st
  | [] => rfl
  | s :: st => by
    have ih := tailK_end st
    show (32 :: Lib.decDigits s.toNat) ++ tailK st ++ [32] = 32 :: (Lib.decDigits s.toNat ++ 32 :: keyL st)
    rw [List.append_assoc, ih]; rfl
theorem itoa_no : ∀ n : Nat, n < 17 → (32 : UInt8) ∉ Lib.itoa ((n : Int) - 1) := by decide +kernel
theorem itoa_inj : ∀ n : Nat, n < 17 → ∀ m : Nat, m < 17 → Lib.itoa ((n : Int) - 1) = Lib.itoa ((m : Int) - 1) → n = m := by decide +kernel
theorem itoa_len : ∀ n : Nat, n < 17 → (Lib.itoa ((n : Int) - 1)).length ≤ 2 := by decide +kernel
theorem keyB_inj {l l' : Int} {st st' : List Int} (h1 : -1 ≤ l ∧ l < 16) (h2 : -1 ≤ l' ∧ l' < 16) (h3 : ∀ x ∈ st, 0 ≤ x ∧ x < 100) (h4 : ∀ x ∈ st', 0 ≤ x ∧ x < 100) (e : keyB l st = keyB l' st') : l = l' ∧ st = st' := by
  obtain ⟨n, hn⟩ : ∃ n : Nat, (n : Int) - 1 = l := ⟨(l + 1).toNat, by omega⟩
  obtain ⟨m, hm⟩ : ∃ m : Nat, (m : Int) - 1 = l' := ⟨(l' + 1).toNat, by omega⟩
  have e2 : Lib.itoa l ++ 32 :: keyL st = Lib.itoa l' ++ 32 :: keyL st' := by
    have := congrArg (· ++ [(32 : UInt8)]) e
    simpa only [keyB, List.append_assoc, tailK_end] using this
  rw [← hn, ← hm] at e2
  obtain ⟨k1, k2⟩ := sep_inj (itoa_no n (by omega)) (itoa_no m (by omega)) e2
  exact ⟨by rw [← hn, ← hm, itoa_inj n (by omega) m (by omega) k1], keyL_inj h3 h4 k2⟩
theorem tailK_len : ∀ {st : List Int}, (∀ x ∈ st, 0 ≤ x ∧ x < 100) → (tailK st).length ≤ 3 * st.length
  | [], _ => Nat.le_refl _
  | s :: st, h => by
    have h1 := dit_small s.toNat (by have := h s (by simp); omega)
    have h2 := tailK_len (st := st) (fun y hy => h y (by simp [hy]))
    show ((32 :: Lib.decDigits s.toNat) ++ tailK st).length ≤ 3 * (st.length + 1)
    rw [List.length_append, List.length_cons]; omega
theorem keyB_len {l : Int} {st : List Int} (h1 : -1 ≤ l ∧ l < 16) (h3 : ∀ x ∈ st, 0 ≤ x ∧ x < 100) : (keyB l st).length ≤ 2 + 3 * st.length := by
  have h := itoa_len (l + 1).toNat (by omega)
  rw [show (((l + 1).toNat : Nat) : Int) - 1 = l by omega] at h
  have := tailK_len h3
  unfold keyB; rw [List.length_append]; omega
theorem itoaW_any (l : Int) (w : World) (h : -1 ≤ l ∧ l < 16) (ht : T10 w) : Calls Tryz.prog 61 #[.int .i64 l] w fun e w' => e = .returned (.string ⟨(Lib.itoa l).toArray⟩) ∧ RowKit.Below w.heap.size w w' :=
  (Tryz.strconv_Itoa l (by omega) (by omega) w ht).mono (fun e w' ⟨he, k, os, hw⟩ => ⟨he, by rw [hw]; exact Lib.below_grow _ _ (Nat.le_refl _) _ _⟩)
theorem itoaS_any (l : Int) (w : World) (h : 0 ≤ l ∧ l < 100) : Calls Tryz.prog 61 #[.int .i64 l] w fun e w' => e = .returned (.string ⟨(Lib.decDigits l.toNat).toArray⟩) ∧ w' = w := by
  obtain ⟨i, rfl⟩ := Int.eq_ofNat_of_zero_le h.1
  exact Tryz.strconv_Itoa_small i (by omega) w

set_option maxRecDepth 100000 in
set_option maxHeartbeats 1000000 in
theorem lkKey_any (l : Int) (st : List Int) (q : Option Addr) (d : Nat) (w : World) (hl : -1 ≤ l ∧ l < 16) (hst : Sl w (Value.int .i64) q st) (hr : ∀ x ∈ st, 0 ≤ x ∧ x < 100) (hs : st.length ≤ 64) (ht : T10 w) :
    Calls Tryz.prog 30 #[.agg #[.int .i64 l, .slice q st.length d]] w fun e w' => e = .returned (.string ⟨(keyB l st).toArray⟩) ∧ RowKit.Below w.heap.size w w' := by
  have HST := hidI hst; have HR := hidI hr
  obtain ⟨w0, hw0⟩ : ∃ w0, w0 = w.alloc (.cells #[.int .i64 l, .slice q st.length d] 69) := ⟨_, rfl⟩
  have b0 : VRow w0 w.heap.size 69 [.int .i64 l, .slice q st.length d] := by subst hw0; exact VRow.new w _ _
  have hB0 : RowKit.Below w.heap.size w w0 := by subst hw0; exact (RowKit.Below.refl _ _).alloc (Nat.le_refl _) _
  have HI := hidI (itoaW_any l w0 hl (ht.below hB0))
  have hil := itoa_len (l + 1).toNat (by omega)
  rw [show (((l + 1).toNat : Nat) : Int) - 1 = l by omega] at hil
  have a0 := b0.at 0 rfl
  have HK : Hid (∀ k, keyB l (st.take k) = Lib.itoa l ++ tailK (st.take k)) := fun _ => rfl
  have HX : Hid (keyB l (st.take st.length) = keyB l st) := by unfold Hid; rw [List.take_length]
  clear hst hr ht
  generalize Lib.itoa l = it at *
  go_enter Tryz.func30, Tryz.ntmps30
  go_upto_region 1 with fail
  rw [← hw0]
  clear hw0
  go_wp2_with fail
  refine HI.out.mono ?_
  rintro e w1 ⟨rfl, hB1⟩
  have x1 := hB0.trans (hB1.mono hB0.size)
  have a1 := (b0.below hB1 b0.lt).at 1 rfl
  clear a0 b0 hB0 hB1 HI
  go_wp2_with fail
  go_loopw [3, 12] (fun sv iv W => ∃ k : Nat, k ≤ st.length ∧ iv = .int .i64 k ∧ sv = .string ⟨(it ++ tailK (st.take k)).toArray⟩ ∧ RowKit.Below w.heap.size w W) (fun _ iv _ => st.length - (intOf iv).toNat)
  case atStart => exact ⟨0, by omega, rfl, by simp [tailK], x1⟩
  case round =>
    clear a1 x1
    obtain ⟨k, hk, rfl, rfl, hB⟩ := hrel
    by_cases hlt : k < st.length
    · have hltI : (k : Int) < (st.length : Int) := by omega
      obtain ⟨bb, oo, rfl, _, hc1⟩ := (HST.out.below hB).get k hlt
      have e0 := hc1 k hlt
      have hrk := HR.out _ (List.getElem_mem hlt)
      have HN : Hid (it ++ tailK (st.take (k + 1)) = (it ++ tailK (st.take k)) ++ (32 :: Lib.decDigits st[k].toNat)) := by
        rw [Hid, List.take_succ_eq_append_getElem hlt, tailK_snoc, List.append_assoc]
      have hdl := dit_small st[k].toNat (by omega)
      have htl : (it ++ tailK (st.take k)).length ≤ 200 := by
        have := tailK_len (st := st.take k) (fun x hx => HR.out x (List.mem_of_mem_take hx))
        rw [List.length_take] at this
        rw [List.length_append]; omega
      have HC := hidI (fun W => itoaS_any st[k] W hrk)
      generalize st[k] = s at *
      generalize it ++ tailK (st.take k) = o at *
      clear hc1
      go_wp2_with fail
      refine (HC.out wr).mono ?_
      rintro e w2 ⟨rfl, hw2⟩
      have hB2 : RowKit.Below w.heap.size w w2 := by rw [hw2]; exact hB
      clear hw2 hB e0 HC
      generalize Lib.decDigits s.toNat = dg at *
      have hsz1 : (⟨o.toArray⟩ : ByteArray).size = o.length := by simp [ByteArray.size]
      have hsz2 : (⟨dg.toArray⟩ : ByteArray).size = dg.length := by simp [ByteArray.size]
      have HQ : Hid ((⟨o.toArray⟩ : ByteArray) ++ ((⟨#[32]⟩ : ByteArray) ++ (⟨dg.toArray⟩ : ByteArray)) = ⟨(o ++ (32 :: dg)).toArray⟩) := by
        apply ByteArray.ext; simp
      go_wp2
      go_roundw
      case rel => exact ⟨k + 1, by omega, by go_num, by rw [HN.out, ← HQ.out], hB2⟩
      case measure => simp [intOf]; omega
    · obtain rfl : k = st.length := by omega
      have hltI : ¬ (st.length : Int) < (st.length : Int) := by omega
      have HY : Hid (it ++ tailK (st.take st.length) = keyB l st) := by rw [Hid, ← HK.out, HX.out]
      rw [HY.out]
      go_wp2
      go_ret
      exact ⟨rfl, hB⟩
end Go.Proofs.YtjpilmedlecdhaaGreatDoor
namespace Go.Proofs.YtjpilmedlecdhaaGreatDoor
open Go.RowKit

end Go.Proofs.YtjpilmedlecdhaaGreatDoor
namespace Go.Proofs.YtjpilmedlecdhaaGreatDoor
open Go.RowKit

theorem ret_str {a b : ByteArray} (h : a = b) : Ending.returned (.string a) = .returned (.string b) := by rw [h]
def swS (l : List Sw) (i j : Int) : ByteArray := (swapW l i j).getD ⟨#[]⟩
/-! ### Lists of numbers, asked by a function that only reads -/
set_option maxHeartbeats 400000 in
theorem indexI58_any (l : List Int) (f : Int → Bool) (B : Nat) (p : Option Addr) (c : Nat) (w : World) (hp : Sl w (Value.int .i64) p l) (hl : l.length ≤ 9223372036854775807)
    (hf : ∀ x, Calls Tryz.prog 36 #[.int .i64 x, .pointer (some ⟨B, 0, none⟩)] w fun e w' => e = .returned (.bool (f x)) ∧ w' = w) :
    Calls Tryz.prog 66 #[.slice p l.length c, .func (.func 36) #[] #[.pointer (some ⟨B, 0, none⟩)]] w fun e w' => e = .returned (.int .i64 (idxP f l)) ∧ w' = w := by
  go_enter Tryz.func66, Tryz.ntmps66
  go_wp2
  go_loop [8] (fun i => ∃ k : Nat, k ≤ l.length ∧ i = .int .i64 k ∧ Hid (∀ j (hj : j < l.length), j < k → f l[j] = false)) (fun i => l.length - (intOf i).toNat)
  case atStart => exact ⟨0, by omega, rfl, fun _ _ h => by omega⟩
  case round =>
    obtain ⟨k, hk, rfl, hj⟩ := hrel
    by_cases hlt : k < l.length
    · obtain ⟨b1, o1, rfl, hb1, hc1⟩ := hp.get k hlt
      have e1 := hc1 k hlt
      clear hc1
      have hfk := hf l[k]
      cases hh : f l[k]
      · rw [hh] at hfk
        have HH := hidI hh
        clear hh
        go_wp2_with (go_at_call 36; refine hfk.mono ?_; rintro e w' ⟨rfl, rfl⟩)
        go_round
        case rel => exact ⟨k + 1, by omega, by go_num, fun j h1 h2 => by
          rcases Nat.lt_succ_iff_lt_or_eq.1 h2 with h3 | h3
          · exact hj.out j h1 h3
          · subst h3; exact HH.out⟩
        case measure => simp [intOf]; omega
      · rw [hh] at hfk
        have HI := hidI (idxP_hit f l k hlt hj.out hh)
        clear hh
        go_wp2_with (go_at_call 36; refine hfk.mono ?_; rintro e w' ⟨rfl, rfl⟩)
        go_ret
        exact ⟨ret_int HI.out.symm, rfl⟩
    · have HM := hidI (idxP_miss f l (fun j h => hj.out j h (by omega)))
      go_wp2
      go_ret
      exact ⟨ret_int HM.out.symm, rfl⟩

set_option maxHeartbeats 400000 in
theorem containsI58_any (l : List Int) (f : Int → Bool) (B : Nat) (p : Option Addr) (c : Nat) (w : World) (hp : Sl w (Value.int .i64) p l) (hl : l.length ≤ 9223372036854775807)
    (hf : ∀ x, Calls Tryz.prog 36 #[.int .i64 x, .pointer (some ⟨B, 0, none⟩)] w fun e w' => e = .returned (.bool (f x)) ∧ w' = w) :
    Calls Tryz.prog 35 #[.slice p l.length c, .func (.func 36) #[] #[.pointer (some ⟨B, 0, none⟩)]] w fun e w' => e = .returned (.bool (l.any f)) ∧ w' = w := by
  have HA := hidI (idxP_any f l)
  go_enter Tryz.func35, Tryz.ntmps35
  go_wp2_with (go_at_call 66; refine (indexI58_any l f B p c _ hp hl hf).mono ?_; rintro e w' ⟨rfl, rfl⟩)
  go_ret
  exact ⟨ret_bool HA.out, rfl⟩

set_option maxHeartbeats 400000 in
theorem lkEncode1_any (x : Int) (N : Nat) (B : Nat) (p : Option Addr) (c : Nat) (w : World) (hb : w.cell? ⟨B, 2, none⟩ = some (.slice p N c)) :
    Calls Tryz.prog 36 #[.int .i64 x, .pointer (some ⟨B, 0, none⟩)] w fun e w' => e = .returned (.bool (outB N x)) ∧ w' = w := by
  go_enter Tryz.func36, Tryz.ntmps36
  go_wp2
  all_goals go_ret
  all_goals exact ⟨ret_bool (by unfold outB; first | rfl | (rw [Bool.eq_iff_iff]; simp; omega)), rfl⟩
end Go.Proofs.YtjpilmedlecdhaaGreatDoor
namespace Go.Proofs.YtjpilmedlecdhaaGreatDoor
open Go.RowKit

theorem infoInt : (Tryz.prog.info? 3).map (fun i => (i.zero, i.size, i.bytes)) = some (some (.int .i64 0), 1, 8) := by kernel_rfl
/-- A list of numbers in memory of the call's own. -/
def RetSl (r : List Int) (w : World) (e : Ending) (w' : World) : Prop := ∃ p c, e = .returned (.slice p r.length c) ∧ Sl w' (Value.int .i64) p r ∧ r.length ≤ c ∧ Below w.heap.size w w'
theorem RetSl.mk {r : List Int} {w w' : World} {B e n : Nat} {v : Value} {l : List Int} (h : w'.ownsRow B e 1 v n (l.map (Value.int .i64))) (hr : l = r) (hB : Below w.heap.size w w') : RetSl r w (.returned v) w' := by
  subst hr
  obtain ⟨p, c, rfl, hs⟩ := own_sl h
  exact ⟨p, c, rfl, hs, by have := own_cap h _ _ _ rfl; have := h.1; simp at this; omega, hB⟩
def u8v (b : UInt8) : Value := .int .u8 b.toNat
theorem picks_take {N : Nat} {l : List UInt8} {k : Nat} (h : k < l.length) : (picks N (l.take (k + 1))).map (Value.int .i64) = (picks N (l.take k)).map (Value.int .i64) ++ [.int .i64 ((l[k].toNat : Int) % N)] := by
  rw [List.take_succ_eq_append_getElem h]; unfold picks; rw [List.map_append, List.map_append]; rfl

set_option maxHeartbeats 1000000 in
theorem lkSome_any (T : Tb) (p1 p2 : Option Addr) (c1 c2 : Nat) (l : List UInt8) (pl : Option Addr) (cl : Nat) (w : World) (hl : Sl w u8v pl l) (hln : l.length ≤ 1000) (h0 : 0 < T.base.length) (h1 : T.base.length ≤ 9223372036854775807) :
    Calls Tryz.prog 9 #[.agg #[.int .i64 T.q, .int .i64 T.n, .slice p1 T.base.length c1, .slice p2 T.swaps.length c2], .slice pl l.length cl] w (RetSl (picks T.base.length l) w) := by
  have hB0 : Below w.heap.size w (w.alloc (.cells #[.int .i64 T.q, .int .i64 T.n, .slice p1 T.base.length c1, .slice p2 T.swaps.length c2] 26)) := (Below.refl _ _).alloc (Nat.le_refl _) _
  have b0 : VRow (w.alloc (.cells #[.int .i64 T.q, .int .i64 T.n, .slice p1 T.base.length c1, .slice p2 T.swaps.length c2] 26)) w.heap.size 26 [.int .i64 T.q, .int .i64 T.n, .slice p1 T.base.length c1, .slice p2 T.swaps.length c2] := VRow.new w _ _
  obtain ⟨i0, hi0, hz0, hz1, hz3⟩ := info_parts infoInt
  go_enter Tryz.func9, Tryz.ntmps9
  go_wp2
  generalize (w.alloc (.cells #[.int .i64 T.q, .int .i64 T.n, .slice p1 T.base.length c1, .slice p2 T.swaps.length c2] 26)) = w0 at b0 hB0 ⊢
  have hz0' := hB0.size
  go_loopw [5, 10] (fun ov iv wr => ∃ k : Nat, k ≤ l.length ∧ iv = .int .i64 k ∧ wr.ownsRow w0.heap.size 3 1 ov k ((picks T.base.length (l.take k)).map (Value.int .i64)) ∧ Below w0.heap.size w0 wr) (fun _ iv _ => l.length - (intOf iv).toNat)
  case atStart => exact ⟨0, by omega, rfl, World.ownsRow_nil _ _ _ _, Below.refl _ _⟩
  case round =>
    obtain ⟨k, hk, rfl, hown, hB⟩ := hrel
    have hBa := hB0.trans (hB.mono hB0.size)
    have f2 := (b0.below hB b0.lt).at 2 rfl
    by_cases hlt : k < l.length
    · obtain ⟨b1, o1, rfl, hb1, hc1⟩ := (hl.below hBa).get k hlt
      have e1 := hc1 k hlt
      unfold u8v at e1
      have hu := l[k].toNat_lt
      have HT := hidI (picks_take (N := T.base.length) hlt)
      clear hc1
      have hnew := cell_one_at wr (.int .i64 ((l[k].toNat : Int) % T.base.length)) 3 wr.heap.size rfl
      go_wp2_with (at_builtin; refine wpList_append_own _ rfl _ _ 36 rfl w0.heap.size 3 i0 (.int .i64 0) 1 8 Tryz.underlying36 hi0 hz0 hz1 hz3 rfl (by decide) _ _ _ rfl (hown.alloc _) ⟨wr.heap.size, 0, none⟩ 1 1 [.int .i64 ((l[k].toNat : Int) % T.base.length)] rfl rfl hnew (by simp [Value.oneCell']) (by simp [maxLen]; omega) (by omega) (by rw [World.size_alloc]; have := hB.size; omega) ?_; intro v' w1 hown' hgrow _)
      go_roundw
      case rel => exact ⟨k + 1, by omega, by go_num, by rw [HT.out]; exact hown', (hB.alloc hB.size _).grown hgrow (Nat.le_trans hB.size (by simp)) (fun j e => (hown.lt j e).1)⟩
      case measure => simp [intOf]; omega
    · obtain rfl : k = l.length := by omega
      rw [List.take_length] at hown
      go_wp2
      go_ret
      exact RetSl.mk hown rfl hBa

/-! ### Swaps asked by a function -/
def swV (s : Sw) : Value := .agg #[.int .i64 s.i, .int .i64 s.j, .string s.wd]
def swIs (i j : Int) (s : Sw) : Bool := decide (s.i = i) && decide (s.j = j)
end Go.Proofs.YtjpilmedlecdhaaGreatDoor
namespace Go.Proofs.YtjpilmedlecdhaaGreatDoor
open Go.RowKit

theorem ret_si {a a' : ByteArray} {b b' : Int} (h : (a', b') = (a, b)) : Ending.returned (.tuple #[.string a, .int .i64 b]) = .returned (.tuple #[.string a', .int .i64 b']) := by
  obtain ⟨rfl, rfl⟩ := Prod.mk.inj h; rfl
def slLen : Value → Nat | .slice _ n _ => n | _ => 0
theorem sl_drop1 {α : Type} {w : World} {enc : α → Value} {b off : Nat} {l : List α} (h : Sl w enc (some ⟨b, off, none⟩) l) (k : Nat) (hl : k < l.length) : Sl w enc (some ⟨b, off + k, none⟩) (l.drop k) := by
  obtain ⟨b', off', hp, hb, hc⟩ := h.get 0 (by omega)
  cases hp
  exact .inr ⟨b, off + k, rfl, hb, fun i hi => by rw [Nat.add_assoc, hc (k + i) (by rw [List.length_drop] at hi; omega)]; simp⟩
theorem sl_adv {α : Type} {w : World} {enc : α → Value} {b off : Nat} {l : List α} {m : Nat} (h : Sl w enc (some ⟨b, off, none⟩) (l.drop m)) (k : Nat) : Sl w enc (some ⟨b, off + k, none⟩) (l.drop (m + k)) := by
  by_cases hl : k < (l.drop m).length
  · have := sl_drop1 h k hl
    rwa [List.drop_drop] at this
  · exact .inl (List.drop_eq_nil_of_le (by rw [List.length_drop] at hl; omega))
theorem sl_nil' {α : Type} {w : World} {enc : α → Value} {p : Option Addr} {l : List α} {m : Nat} (h : l.length ≤ m) : Sl w enc p (l.drop m) := .inl (List.drop_eq_nil_of_le h)
theorem isb_dr {T e : TypeId} {B b : Nat} {bs : List Value} {w w' : World} (h : Lib.IsBuilderF T e B b bs w) (hD : Dr w w') : Lib.IsBuilderF T e B b bs w' := by obtain ⟨k, rfl⟩ := hD; exact h
theorem bc_app (o : List UInt8) (s : ByteArray) : Lib.byteCells o ++ Lib.strCells s = Lib.byteCells (o ++ s.data.toList) := by simp [Lib.byteCells, Lib.strCells]
theorem swaps_ok2 {T : Tb} (h : fmd T = true) : ∀ j (hj : j < T.swaps.length), ok2 (T.swaps[j].i, T.swaps[j].j) := by
  intro j hj
  have h1 := allB_get (fmd_split h).2.1 j hj
  unfold sOk at h1
  rw [sget_eq _ _ hj] at h1
  have h2 := (Bool.and_eq_true_iff.1 h1).1
  simp [inB] at h2
  have hp := of_decide_eq_true (show preB T = true from (fmd_split h).1)
  exact ⟨WalkArith.wf_i64 (by simp; omega), WalkArith.wf_i64 (by simp; omega)⟩

set_option maxRecDepth 100000 in
set_option maxHeartbeats 4000000 in
theorem lkEncode_any (T : Tb) (p1 p2 : Option Addr) (c1 c2 : Nat) (l : List Int) (pl : Option Addr) (cl : Nat) (w : World) (hin : TbIn w T p1 p2 c1 c2) (hl : Sl w (Value.int .i64) pl l) (hln : l.length ≤ 1000) (hcl : l.length ≤ cl) :
    Calls Tryz.prog 10 #[.agg #[.int .i64 T.q, .int .i64 T.n, .slice p1 T.base.length c1, .slice p2 T.swaps.length c2], .slice pl l.length cl] w fun e w' => e = .returned (.tuple #[.string (encA T l).1, .int .i64 (encA T l).2]) ∧ Below w.heap.size w w' := by
  have hB0 : Below w.heap.size w (w.alloc (.cells #[.int .i64 T.q, .int .i64 T.n, .slice p1 T.base.length c1, .slice p2 T.swaps.length c2] 26)) := (Below.refl _ _).alloc (Nat.le_refl _) _
  have b0 : VRow (w.alloc (.cells #[.int .i64 T.q, .int .i64 T.n, .slice p1 T.base.length c1, .slice p2 T.swaps.length c2] 26)) w.heap.size 26 [.int .i64 T.q, .int .i64 T.n, .slice p1 T.base.length c1, .slice p2 T.swaps.length c2] := VRow.new w _ _
  cases hf : fmd T
  · have HF := hidI hf
    have HR := hidI (encA_bad l hf)
    clear hf
    go_enter Tryz.func10, Tryz.ntmps10
    go_wp2_with fail
    refine (lkFormed_any T p1 p2 c1 c2 _ (hin.below hB0)).mono ?_
    rintro e w1 ⟨rfl, hB1⟩
    rw [HF.out]
    go_wp2
    go_ret2
    exact ⟨ret_si HR.out, hB0.trans (hB1.mono hB0.size)⟩
  cases ho : l.any (outB T.base.length)
  · have HF := hidI hf
    have HO := hidI ho
    have HR := hidI (encA_ok hf ho)
    obtain ⟨n1, n2⟩ := fmd_bd hf
    have hm0 : 0 ≤ (l.length : Int) * T.n := Int.mul_nonneg (by omega) (by omega)
    have hm1 : (l.length : Int) * T.n ≤ 8000 := by
      have := Int.mul_le_mul (show (l.length : Int) ≤ 1000 by omega) n2 (by omega) (by omega)
      omega
    clear hf ho
    go_enter Tryz.func10, Tryz.ntmps10
    go_wp2_with fail
    refine (lkFormed_any T p1 p2 c1 c2 _ (hin.below hB0)).mono ?_
    rintro e w1 ⟨rfl, hB1⟩
    rw [HF.out]
    have hBa := hB0.trans (hB1.mono hB0.size)
    have hb1 := b0.below hB1 (by simp)
    have f0 := hb1.at 0 rfl; have f1 := hb1.at 1 rfl; have f2 := hb1.at 2 rfl; have f3 := hb1.at 3 rfl
    clear hB1 b0
    go_wp2_with fail
    refine (containsI58_any l (outB T.base.length) w.heap.size pl cl _ (hl.below hBa) (by omega) (fun x => lkEncode1_any x _ _ _ _ _ f2)).mono ?_
    rintro e w1 ⟨rfl, rfl⟩
    rw [HO.out]
    have q0 : IntKind.i64.wrap ((l.length : Int) * T.n) = (l.length : Int) * T.n := IntWalk.i64_in _ (by omega)
    go_wp2_with fail
    refine (lkPairs_any T p1 p2 c1 c2 _ (hin.swaps.below hBa) hin.l2 (swaps_ok2 HF.out)).mono ?_
    rintro e w2 ⟨rfl, hM, hB2⟩
    clear q0 hm0 hm1
    have hBb := hBa.trans (hB2.mono hBa.size)
    have hz1 : w.heap.size < w1.heap.size := hb1.lt
    have hb2 := hb1.below hB2 hz1
    have hz2 : w1.heap.size + 1 < w2.heap.size := hM.lt
    clear f0 f1 f2 f3 hb1
    have HLL := hidI hl
    have HIN := hidI hin
    go_wp2
    go_loopw [1] (fun iv wr => ∃ (m r : Nat) (p' : Option Addr) (c' : Nat) (o : List UInt8), m + r = l.length ∧ iv = .slice p' r c' ∧ Sl w (Value.int .i64) p' (l.drop m) ∧ r ≤ c' ∧ Hid (o ++ encB T (l.drop m) = encB T l) ∧ o.length ≤ 16 * m ∧
        Lib.IsBuilderF 81 5 w2.heap.size w2.heap.size (Lib.byteCells o) wr ∧ Below w2.heap.size w2 wr) (fun iv _ => slLen iv)
    case atStart =>
      refine ⟨0, l.length, pl, cl, [], by omega, rfl, HLL.out, hcl, rfl, by simp, ?_, (Below.refl _ _).alloc (Nat.le_refl _) _⟩
      exact Lib.IsBuilderF.of (.inl ⟨Nat.le_refl _, .slice none 0 0, World.alloc_heap_new _ _, World.ownsRow_nil _ _ _ _, by simp [Value.ownBlock]⟩)
    case round =>
      obtain ⟨m, r, p', c', o, hmr, rfl, hs, hrc, ho, hol, hbd, hB⟩ := hrel
      have hB3 := hBb.trans (hB.mono hBb.size)
      have hb3 := hb2.below hB (by omega)
      have hM3 : SwM T.swaps wr (w1.heap.size + 1) := hM.below hB hz2
      have f2 := hb3.at 2 rfl
      by_cases hr : 0 < r
      · have hml : m < l.length := by omega
        have hdl : (l.drop m).length = r := by rw [List.length_drop]; omega
        obtain ⟨b1, o1, rfl, hb1, hc1⟩ := (hs.below hB3).get 0 (by omega)
        have e0 := hc1 0 (by omega)
        simp only [List.getElem_drop, Nat.add_zero] at e0
        have ho0 := outB_f (any_f HO.out m hml)
        have hp16 := of_decide_eq_true (show preB T = true from (fmd_split HF.out).1)
        by_cases hr2 : 1 < r
        · have hml2 : m + 1 < l.length := by omega
          have e1 := hc1 1 (by omega)
          simp only [List.getElem_drop] at e1
          have ho1 := outB_f (any_f HO.out (m + 1) hml2)
          have hlk := fun a : Nat => Mp.look (hM3.drewN a) key2 Tryz.underlying66 (zeroStr (wr.drewN a)) (l[m], l[m + 1]) ⟨WalkArith.wf_i64 (by simp; omega), WalkArith.wf_i64 (by simp; omega)⟩ true
          simp only [swapF_eq HF.out] at hlk
          cases hsw : swapW T.swaps l[m] l[m + 1] with
          | some wd =>
            have HE := hidI (encB_swap T l m hml2 wd hsw)
            have HS := hidI (swapW_size HF.out hsw)
            simp only [hsw, if_true, k2] at hlk
            clear hsw hc1
            have hr0' : (0 : Int) < (r : Int) := by omega
            have hr1' : (1 : Int) < (r : Int) := by omega
            go_wp2_with fail
            (refine wp_region_quiet_lit (by kernel_rfl) (by kernel_rfl) ?_; (repeat (first | go_big_quiet_step (fail) | quiet_step (fail))); refine wpQuiet_nil ?_; intro _ hwq; obtain ⟨nq, hwq2⟩ := hwq; subst hwq2)
            have hbdq : Lib.IsBuilderF 81 5 w2.heap.size w2.heap.size (Lib.byteCells o) (wr.drewN nq) := hbd
            go_wp2_with fail
            refine (bwrite_any _ _ _ wd _ hbdq (by have := HS.out; simp [Lib.byteCells]; omega) hB.size).mono ?_
            rintro e w4 ⟨rfl, hbd4, hB4⟩
            have hs4 := HS.out
            have hB5 : Below w2.heap.size w2 w4 := (below_drewN hB nq).trans hB4
            rw [bc_app] at hbd4
            have HE2 : Hid ((o ++ wd.data.toList) ++ encB T (l.drop (m + 2)) = encB T l) := by unfold Hid; rw [List.append_assoc, ← HE.out]; exact ho.out
            by_cases hc2 : c' = 2
            · subst hc2
              go_wp2
              go_roundw
              case rel => exact ⟨m + 2, 0, _, _, o ++ wd.data.toList, by omega, rfl, sl_nil' (by omega), by omega, HE2, by rw [List.length_append]; simp; omega, .inr hbd4, hB5⟩
              case measure => simp [slLen]; omega
            · go_wp2
              go_roundw
              case rel => exact ⟨m + 2, r - 2, _, _, o ++ wd.data.toList, by omega, rfl, sl_adv hs 2, by omega, HE2, by rw [List.length_append]; simp; omega, .inr hbd4, hB5⟩
              case measure => simp [slLen]; omega
          | none =>
            have HE := hidI (encB_base T l m hml2 hsw)
            simp only [hsw, if_true] at hlk
            simp only [k2] at hlk
            clear hsw hc1
            have hr0' : (0 : Int) < (r : Int) := by omega
            have hr1' : (1 : Int) < (r : Int) := by omega
            go_wp2_with fail
            (refine wp_region_quiet_lit (by kernel_rfl) (by kernel_rfl) ?_; (repeat (first | go_big_quiet_step (fail) | quiet_step (fail))); refine wpQuiet_nil ?_; intro _ hwq; obtain ⟨nq, hwq2⟩ := hwq; subst hwq2)
            have HBX : Below w2.heap.size w2 (wr.drewN nq) := below_drewN hB nq
            have GE0 : (wr.drewN nq).cell? ⟨b1, o1, none⟩ = some (.int .i64 l[m]) := e0
            have GF2 : (wr.drewN nq).cell? ⟨w.heap.size, 2, none⟩ = some (.slice p1 T.base.length c1) := f2
            have HBDX : Lib.IsBuilderF 81 5 w2.heap.size w2.heap.size (Lib.byteCells o) (wr.drewN nq) := hbd
            clear e0 e1 f2 hlk
            go_wp2_with fail
            refine region_tail 7 (by kernel_rfl) (by kernel_rfl) fun W hD => ?_
            have hBW : Below w2.heap.size w2 W := HBX.trans (hD.below _)
            have g0 := (hD.cell _).trans GE0
            have g2 := (hD.cell _).trans GF2
            have hin0 : l[m].toNat < T.base.length := by omega
            obtain ⟨b3, o3, hp1, _, hc3⟩ := (HIN.out.base.below (hBb.trans (hBW.mono hBb.size))).get l[m].toNat hin0
            have g3 := hc3 l[m].toNat hin0
            rw [hp1] at g2
            clear hp1
            have HWD : Hid (baseW T l[m] = T.base[l[m].toNat]) := bget_eq _ _ hin0
            have HS := hidI (base_size HF.out l[m] ho0.1 ho0.2)
            rw [HWD.out] at HS HE
            have ho00 := ho0.1
            have ho01 := ho0.2
            clear hc3
            simp only [List.take_succ_cons, List.take_zero, List.drop_succ_cons, List.drop_zero]
            iterate 7 still_step
            refine wpStill_nil ?_
            have hbdW : Lib.IsBuilderF 81 5 w2.heap.size w2.heap.size (Lib.byteCells o) W := isb_dr HBDX hD
            go_wp2_with fail
            refine (bwrite_any _ _ _ T.base[l[m].toNat] _ hbdW (by have := HS.out; simp [Lib.byteCells]; omega) hBW.size).mono ?_
            rintro e w4 ⟨rfl, hbd4, hB4⟩
            have hs4 := HS.out
            have hB5 : Below w2.heap.size w2 w4 := hBW.trans hB4
            rw [bc_app] at hbd4
            have HE2 : Hid ((o ++ T.base[l[m].toNat].data.toList) ++ encB T (l.drop (m + 1)) = encB T l) := by unfold Hid; rw [List.append_assoc, ← HE.out]; exact ho.out
            clear g0 g2 g3 HBX GE0 GF2 HBDX
            by_cases hc2 : c' = 1
            · subst hc2
              go_wp2
              go_roundw
              case rel => exact ⟨m + 1, 0, _, _, o ++ T.base[l[m].toNat].data.toList, by omega, rfl, sl_nil' (by omega), by omega, HE2, by rw [List.length_append]; simp; omega, .inr hbd4, hB5⟩
              case measure => simp [slLen]; omega
            · go_wp2
              go_roundw
              case rel => exact ⟨m + 1, r - 1, _, _, o ++ T.base[l[m].toNat].data.toList, by omega, rfl, sl_adv hs 1, by omega, HE2, by rw [List.length_append]; simp; omega, .inr hbd4, hB5⟩
              case measure => simp [slLen]; omega
        · have HE := hidI (encB_one T l m hml (by omega))
          have hrd : decide ((1 : Int) < (r : Int)) = false := decide_eq_false (by omega)
          have hrd2 : decide (1 < r) = false := decide_eq_false (by omega)
          have hr0' : (0 : Int) < (r : Int) := by omega
          have HBX := hB
          have GE0 := e0
          have GF2 := f2
          have HBDX := hbd
          clear hc1 e0 f2
          go_wp2_with fail
          refine region_tail 7 (by kernel_rfl) (by kernel_rfl) fun W hD => ?_
          have hBW : Below w2.heap.size w2 W := HBX.trans (hD.below _)
          have g0 := (hD.cell _).trans GE0
          have g2 := (hD.cell _).trans GF2
          have hin0 : l[m].toNat < T.base.length := by omega
          obtain ⟨b3, o3, hp1, _, hc3⟩ := (HIN.out.base.below (hBb.trans (hBW.mono hBb.size))).get l[m].toNat hin0
          have g3 := hc3 l[m].toNat hin0
          rw [hp1] at g2
          clear hp1
          have HWD : Hid (baseW T l[m] = T.base[l[m].toNat]) := bget_eq _ _ hin0
          have HS := hidI (base_size HF.out l[m] ho0.1 ho0.2)
          rw [HWD.out] at HS HE
          have ho00 := ho0.1
          have ho01 := ho0.2
          clear hc3
          simp only [List.take_succ_cons, List.take_zero, List.drop_succ_cons, List.drop_zero]
          iterate 7 still_step
          refine wpStill_nil ?_
          have hbdW : Lib.IsBuilderF 81 5 w2.heap.size w2.heap.size (Lib.byteCells o) W := isb_dr HBDX hD
          go_wp2_with fail
          refine (bwrite_any _ _ _ T.base[l[m].toNat] _ hbdW (by have := HS.out; simp [Lib.byteCells]; omega) hBW.size).mono ?_
          rintro e w4 ⟨rfl, hbd4, hB4⟩
          have hs4 := HS.out
          have hB5 : Below w2.heap.size w2 w4 := hBW.trans hB4
          rw [bc_app] at hbd4
          have HE2 : Hid ((o ++ T.base[l[m].toNat].data.toList) ++ encB T (l.drop (m + 1)) = encB T l) := by unfold Hid; rw [List.append_assoc, ← HE.out]; exact ho.out
          clear g0 g2 g3 HBX GE0 GF2 HBDX
          by_cases hc2 : c' = 1
          · subst hc2
            go_wp2
            go_roundw
            case rel => exact ⟨m + 1, 0, _, _, o ++ T.base[l[m].toNat].data.toList, by omega, rfl, sl_nil' (by omega), by omega, HE2, by rw [List.length_append]; simp; omega, .inr hbd4, hB5⟩
            case measure => simp [slLen]; omega
          · go_wp2
            go_roundw
            case rel => exact ⟨m + 1, r - 1, _, _, o ++ T.base[l[m].toNat].data.toList, by omega, rfl, sl_adv hs 1, by omega, HE2, by rw [List.length_append]; simp; omega, .inr hbd4, hB5⟩
            case measure => simp [slLen]; omega
      · have hr00 : r = 0 := by omega
        have hml : m = l.length := by omega
        have HE : Hid (encB T l = o) := by unfold Hid; rw [← ho.out, hml, List.drop_length]; simp [encB]
        clear hml
        subst hr00
        go_wp2_with (go_at_call 38; refine (Tryz.Builder_String_any_f w2.heap.size w2.heap.size o _ hbd hB.size).mono ?_; rintro e w4 ⟨rfl, hbd4, hB4⟩)
        go_ret2
        have hB5 : Below w2.heap.size w2 w4 := hB.trans hB4
        exact ⟨ret_si (by rw [HR.out]; unfold encW; rw [HE.out]), hBb.trans (hB5.mono hBb.size)⟩
  · have HF := hidI hf
    have HO := hidI ho
    have HR := hidI (encA_out hf ho)
    clear hf ho
    go_enter Tryz.func10, Tryz.ntmps10
    go_wp2_with fail
    refine (lkFormed_any T p1 p2 c1 c2 _ (hin.below hB0)).mono ?_
    rintro e w1 ⟨rfl, hB1⟩
    rw [HF.out]
    have hBa := hB0.trans (hB1.mono hB0.size)
    have hb1 := b0.below hB1 (by simp)
    have f2 := hb1.at 2 rfl
    clear hB1 b0
    go_wp2_with fail
    refine (containsI58_any l (outB T.base.length) w.heap.size pl cl _ (hl.below hBa) (by omega) (fun x => lkEncode1_any x _ _ _ _ _ f2)).mono ?_
    rintro e w' ⟨rfl, rfl⟩
    rw [HO.out]
    go_wp2
    go_ret2
    exact ⟨ret_si HR.out, hBa⟩
end Go.Proofs.YtjpilmedlecdhaaGreatDoor
namespace Go.Proofs.YtjpilmedlecdhaaGreatDoor
open Go.RowKit

theorem any_t {α : Type} {f : α → Bool} {l : List α} (k : Nat) (hk : k < l.length) (h : f l[k] = true) : l.any f = true := List.any_eq_true.2 ⟨l[k], List.getElem_mem hk, h⟩
theorem any_n {α : Type} {f : α → Bool} {l : List α} (h : ∀ k (hk : k < l.length), f l[k] = false) : l.any f = false := by
  rw [List.any_eq_false]; intro x hx
  obtain ⟨k, hk, rfl⟩ := List.mem_iff_getElem.1 hx
  simp [h k hk]
theorem outB_lo {N : Nat} {a : Int} (h : a < 0) : outB N a = true := by simp [outB, h]
theorem outB_hi {N : Nat} {a : Int} (h : (N : Int) ≤ a) : outB N a = true := by simp [outB, h]
theorem outB_in {N : Nat} {a : Int} (h : 0 ≤ a) (h2 : a < N) : outB N a = false := by simp [outB]; omega

theorem ne_empty {s : ByteArray} (h : 0 < s.size) : s.toList.isEmpty = false := by
  cases hh : s.toList with
  | nil =>
    have : (s.toList == (⟨#[]⟩ : ByteArray).toList) = true := by rw [hh]; decide +kernel
    have := (Lib.bytes_beq_iff _ _).1 this
    subst this; exact absurd h (by decide)
  | cons a b => rfl

end Go.Proofs.YtjpilmedlecdhaaGreatDoor
namespace Go.Proofs.YtjpilmedlecdhaaGreatDoor
open Go.RowKit

def okS (s : ByteArray) : Prop := s.size ≤ maxLen
theorem keyS : KeyBy Tryz.prog 9 Value.string okS where
  law := Maps.string_keyed Tryz.underlying9
  reads := fun a ha => ⟨.string a.data.toList, by simp [keyOf, mapKey, Tryz.underlying9]; exact ha⟩
  inj := fun a b _ _ h => by simpa using h
theorem zeroSlI (w : World) : (zeroValue 36).run Tryz.prog w = .ok (.slice none 0 0) w := by kernel_rfl
theorem infoI : (Tryz.prog.info? 3).map (fun i => (i.zero, i.size, i.bytes)) = some (some (.int .i64 0), 1, 8) := by kernel_rfl

theorem cell_turn {W w1 : World} {b : Nat} (h : W.mapTurned w1 b) {p : Addr} {v : Value} (hc : W.cell? p = some v) : w1.cell? p = some v := by
  obtain ⟨es, clock, es', clock', hb, rfl⟩ := h
  by_cases e : p.block = b
  · simp [World.cell?, e, hb] at hc
  · exact (World.cell?_of_block (ChangeMaps.heap_setBlock_other hb _ e)).trans hc
theorem Sl.turn {α : Type} {W w1 : World} {b : Nat} {enc : α → Value} {p : Option Addr} {l : List α} (h : Sl W enc p l) (ht : W.mapTurned w1 b) : Sl w1 enc p l := by
  rcases h with h | ⟨b', off, hp, hb, hc⟩
  · exact .inl h
  · exact .inr ⟨b', off, hp, Nat.lt_of_lt_of_le hb ht.grown.size, fun i hi => cell_turn ht (hc i hi)⟩
/-- Block b is a map of words to lists of numbers that answers as rd does. -/
def MapRd (b : Nat) (rd : ByteArray → Option (List Int)) (w : World) : Prop :=
  ∃ f : ByteArray → Option Value, Mp Value.string okS (fun v => v) w b f ∧ ∀ s, (rd s = none ∧ f s = none) ∨ ∃ l p c, rd s = some l ∧ f s = some (.slice p l.length c) ∧ Sl w (Value.int .i64) p l
theorem MapRd.made (w : World) : MapRd w.heap.size (fun _ => none) (w.alloc (.map #[] 0)) := ⟨_, Mp.made w, fun _ => .inl ⟨rfl, rfl⟩⟩
theorem MapRd.congr {b : Nat} {rd rd' : ByteArray → Option (List Int)} {w : World} (h : MapRd b rd w) (e : ∀ s, rd s = rd' s) : MapRd b rd' w := by
  have : rd = rd' := funext e
  exact this ▸ h
theorem MapRd.below {b : Nat} {rd : ByteArray → Option (List Int)} {w w' : World} (h : MapRd b rd w) (hB : Below w.heap.size w w') : MapRd b rd w' := by
  obtain ⟨f, hM, hf⟩ := h
  refine ⟨f, hM.below hB hM.lt, fun s => ?_⟩
  rcases hf s with h | ⟨l, p, c, h1, h2, h3⟩
  · exact .inl h
  · exact .inr ⟨l, p, c, h1, h2, h3.below hB⟩
theorem MapRd.put {b : Nat} {rd : ByteArray → Option (List Int)} {w w1 : World} {f : ByteArray → Option Value} (hf : ∀ s, (rd s = none ∧ f s = none) ∨ ∃ l p c, rd s = some l ∧ f s = some (.slice p l.length c) ∧ Sl w (Value.int .i64) p l)
    (k : ByteArray) {l : List Int} {p : Option Addr} {c : Nat} (hM : Mp Value.string okS (fun v => v) w1 b (mset f k (.slice p l.length c))) (ht : w.mapTurned w1 b) (hs : Sl w (Value.int .i64) p l) :
    MapRd b (fun s => if s = k then some l else rd s) w1 := by
  refine ⟨_, hM, fun s => ?_⟩
  by_cases e : s = k
  · exact .inr ⟨l, p, c, by simp [e], by simp [mset, e], hs.turn ht⟩
  · rcases hf s with h | ⟨l', p', c', h1, h2, h3⟩
    · exact .inl ⟨by simp [e, h.1], by simp [mset, e, h.2]⟩
    · exact .inr ⟨l', p', c', by simp [e, h1], by simp [mset, e, h2], h3.turn ht⟩
def rdB (T : Tb) (k : Nat) (s : ByteArray) : Option (List Int) := (baseF T.base s k).map (fun k => [k])
theorem rdB_succ (T : Tb) (k : Nat) (s : ByteArray) : (if s = bget T.base k then some [(k : Int)] else rdB T k s) = rdB T (k + 1) s := by
  unfold rdB; rw [baseF]; split <;> rfl
def rdS (T : Tb) (k : Nat) (s : ByteArray) : Option (List Int) := swF T.swaps s (bOf T s) k
theorem rdS_succ (T : Tb) (k : Nat) (s : ByteArray) : (if s = (sget T.swaps k).wd then some [(sget T.swaps k).i, (sget T.swaps k).j] else rdS T k s) = rdS T (k + 1) s := by
  unfold rdS; rw [swF]

theorem mod_nat {a : Nat} {n : Int} (hn : 1 ≤ n) (h : (a : Int) % n = 0) : a % n.toNat = 0 := by
  obtain ⟨m, rfl⟩ : ∃ m : Nat, n = m := ⟨n.toNat, by omega⟩
  rw [Int.toNat_natCast]; omega
theorem mod_nat_ne {a : Nat} {n : Int} (hn : 1 ≤ n) (h : (a : Int) % n ≠ 0) : a % n.toNat ≠ 0 := by
  obtain ⟨m, rfl⟩ : ∃ m : Nat, n = m := ⟨n.toNat, by omega⟩
  rw [Int.toNat_natCast]; omega
theorem news_sl {w : World} {b off : Nat} {l : List Int} (h : ∀ i (hi : i < l.length), w.cell? ⟨b, off + i, none⟩ = some (.int .i64 l[i])) : ∀ (j : Nat) (u : Value), (l.map (Value.int .i64))[j]? = some u → w.cell? ((⟨b, off, none⟩ : Addr).add j) = some u := by
  intro j u hu
  rw [List.getElem?_map, Option.map_eq_some_iff] at hu
  obtain ⟨x, hx, rfl⟩ := hu
  obtain ⟨hj, rfl⟩ := List.getElem?_eq_some_iff.1 hx
  rw [show ((⟨b, off, none⟩ : Addr).add j) = ⟨b, off + j, none⟩ from by unfold Addr.add; split <;> simp_all]; exact h j hj
theorem MapRd.look_hit {b : Nat} {rd : ByteArray → Option (List Int)} {w : World} (h : MapRd b rd w) (s : ByteArray) (hs : okS s) {l : List Int} (hl : rd s = some l) :
    ∃ p c, (Instr.lookup 89 (.map (some b)) (.string s) true).run Tryz.prog w = .ok (.tuple #[.slice p l.length c, .bool true]) w ∧ Sl w (Value.int .i64) p l := by
  obtain ⟨f, hM, hf⟩ := h
  rcases hf s with h | ⟨l', p, c, h1, h2, h3⟩
  · rw [h.1] at hl; cases hl
  · rw [h1] at hl; cases hl
    refine ⟨p, c, ?_, h3⟩
    have := Mp.look hM keyS Tryz.underlying89 (zeroSlI w) s hs true
    rw [h2] at this; exact this
theorem MapRd.look_miss {b : Nat} {rd : ByteArray → Option (List Int)} {w : World} (h : MapRd b rd w) (s : ByteArray) (hs : okS s) (hl : rd s = none) :
    (Instr.lookup 89 (.map (some b)) (.string s) true).run Tryz.prog w = .ok (.tuple #[.slice none 0 0, .bool false]) w := by
  obtain ⟨f, hM, hf⟩ := h
  rcases hf s with h | ⟨l', p, c, h1, h2, h3⟩
  · have := Mp.look hM keyS Tryz.underlying89 (zeroSlI w) s hs true
    rw [h.2] at this; exact this
  · rw [h1] at hl; cases hl
/-- A slice of numbers, and an error number, in memory of the call's own. -/
def RetSlI (r : List Int) (k : Int) (w : World) (e : Ending) (w' : World) : Prop :=
  ∃ q d, e = .returned (.tuple #[.slice q r.length d, .int .i64 k]) ∧ Sl w' (Value.int .i64) q r ∧ Below w.heap.size w w'
theorem RetSlI.mk {x : List Int × Int} {r' : List Int} {k' : Int} {w w' : World} {q : Option Addr} {d : Nat} (hr : x = (r', k')) (hs : Sl w' (Value.int .i64) q r') (hB : Below w.heap.size w w') :
    RetSlI x.1 x.2 w (.returned (.tuple #[.slice q r'.length d, .int .i64 k'])) w' := by
  subst hr; exact ⟨q, d, rfl, hs, hB⟩
theorem RetSlI.nil {x : List Int × Int} {k' : Int} {w w' : World} {q : Option Addr} {d : Nat} (hr : x = ([], k')) (hB : Below w.heap.size w w') :
    RetSlI x.1 x.2 w (.returned (.tuple #[.slice q 0 d, .int .i64 k'])) w' := by
  subst hr; exact ⟨q, d, rfl, Sl.nil _ _ _, hB⟩
theorem cur_one {a : Nat} {n : Int} (hn : 1 ≤ n) (h : (a : Int) % n = 0) (h0 : a ≠ 0) (h2 : ¬ 2 * n ≤ (a : Int)) : a = n.toNat := by
  have hd := Int.mul_ediv_add_emod (a : Int) n
  rw [h] at hd
  have h1 : 0 ≤ (a : Int) / n := Int.ediv_nonneg (by omega) (by omega)
  by_cases q : (a : Int) / n = 1
  · rw [q] at hd; omega
  · by_cases q0 : (a : Int) / n = 0
    · rw [q0] at hd; omega
    · have : n * 2 ≤ n * ((a : Int) / n) := Int.mul_le_mul_of_nonneg_left (by omega) (by omega)
      omega
def strLen : Value → Nat | .string s => s.size | _ => 0
set_option maxRecDepth 100000 in
set_option maxHeartbeats 4000000 in
theorem lkDecode_ok (T : Tb) (p1 p2 : Option Addr) (c1 c2 : Nat) (s : ByteArray) (w : World) (hin : TbIn w T p1 p2 c1 c2) (hs : s.size ≤ maxLen) (hf : fmd T = true) (hck : wchk T.q s.data.toList = 0) :
    Calls Tryz.prog 12 #[.agg #[.int .i64 T.q, .int .i64 T.n, .slice p1 T.base.length c1, .slice p2 T.swaps.length c2], .string s] w (RetSlI (decA T s).1 (decA T s).2 w) := by
  have hB0 : Below w.heap.size w (w.alloc (.cells #[.int .i64 T.q, .int .i64 T.n, .slice p1 T.base.length c1, .slice p2 T.swaps.length c2] 26)) := (Below.refl _ _).alloc (Nat.le_refl _) _
  have b0 : VRow (w.alloc (.cells #[.int .i64 T.q, .int .i64 T.n, .slice p1 T.base.length c1, .slice p2 T.swaps.length c2] 26)) w.heap.size 26 [.int .i64 T.q, .int .i64 T.n, .slice p1 T.base.length c1, .slice p2 T.swaps.length c2] := VRow.new w _ _
  obtain ⟨i0, hi0, hz0, hz1, hz3⟩ := info_parts infoI
  have HF := hidI hf
  have HC := hidI hck
  have hsz := wchk_long' T.q s hck
  obtain ⟨n1, n2⟩ := fmd_bd hf
  have HIN := hidI hin
  have hl1 := hin.l1
  have hl2 := hin.l2
  clear hf hck
  have hmm := @run_makeMap Tryz.prog
  go_enter Tryz.func12, Tryz.ntmps12
  go_wp2_with fail
  refine (lkFormed_any T p1 p2 c1 c2 _ (hin.below hB0)).mono ?_
  rintro e w1 ⟨rfl, hB1⟩
  rw [HF.out]
  have hBa := hB0.trans (hB1.mono hB0.size)
  have hb1 := b0.below hB1 (by simp)
  clear hB1 b0 hB0
  have f0 := hb1.at 0 rfl
  go_wp2_with fail
  refine (wcheck_any T.q s _ hs).mono ?_
  rintro e w2 ⟨rfl, hD⟩
  rw [HC.out]
  have hBb := hBa.trans (hD.below _)
  have hb2 := hb1.dr hD
  clear f0 hb1
  have f1 := hb2.at 1 rfl; have f2 := hb2.at 2 rfl; have f3 := hb2.at 3 rfl
  have hz2 := hb2.lt
  by_cases hmod : (s.size : Int) % T.n = 0
  · have hmodb : ((s.size : Int) % T.n == 0) = true := by simpa using hmod
    have hmodc : ((s.size : Int) % T.n != 0) = false := by simpa using hmod
    have HMOD := hidI hmod
    have HSM : Hid (s.size % T.n.toNat = 0) := mod_nat n1 hmod
    clear hmod
    go_wp2
    clear hmodb hmodc
    clear f1 f2 f3
    have hbM := (hb2.alloc (.map #[] 0))
    have hBM := hBb.alloc hBb.size (.map #[] 0)
    go_loopw [36] (fun iv wr => ∃ k : Nat, k ≤ T.base.length ∧ iv = .int .i64 k ∧ MapRd w2.heap.size (rdB T k) wr ∧ VRow wr w.heap.size 26 [.int .i64 T.q, .int .i64 T.n, .slice p1 T.base.length c1, .slice p2 T.swaps.length c2] ∧ Below w.heap.size w wr) (fun iv _ => T.base.length - (intOf iv).toNat)
    case atStart => exact ⟨0, by omega, rfl, MapRd.made w2, hbM, hBM⟩
    case round =>
      clear hbM hBM
      obtain ⟨k, hk, rfl, ⟨f, hM, hfr⟩, hb, hB⟩ := hrel
      by_cases hlt : k < T.base.length
      · obtain ⟨b3, o3, rfl, _, hc3⟩ := (HIN.out.base.below hB).get k hlt
        have e0 := hc3 k hlt
        have HG := hidI (bget_eq T.base k hlt)
        have hok : okS T.base[k] := HIN.out.z1 k hlt
        have HFR := hidI hfr
        clear hc3 hfr hin
        go_wp2_with (at_mapUpdate; refine wpList_update_mp rfl _ _ _ 89 rfl 36 keyS Tryz.underlying89 w2.heap.size f rfl (hM.alloc _) T.base[k] rfl hok (.slice (some ⟨wr.heap.size, 0, none⟩) 1 1) rfl ?_; intro w3 hM1 hturn)
        have hMR := MapRd.put (w := wr.alloc (.cells #[.int .i64 k] 3)) (l := [(k : Int)]) (f := f) (rd := rdB T k) (fun s => (HFR.out s).imp id (fun ⟨l, p, c, h1, h2, h3⟩ => ⟨l, p, c, h1, h2, h3.below ((Below.refl _ _).alloc (Nat.le_refl _) _)⟩)) T.base[k] hM1 hturn (Sl.of_vrow (VRow.new wr 3 [.int .i64 k]))
        go_roundw
        case rel => exact ⟨k + 1, by omega, by go_num, hMR.congr (fun s => by rw [← HG.out]; exact rdB_succ T k s), (hb.alloc _).grown hturn.grown (fun e => by have := Option.some.inj e; omega), (hB.alloc hB.size _).grown hturn.grown (Nat.le_trans hB.size (by simp)) (fun j e => by have := Option.some.inj e; omega)⟩
        case measure => simp [intOf]; omega
      · obtain rfl : k = T.base.length := by omega
        have hMR0 : MapRd w2.heap.size (rdS T 0) wr := ⟨f, hM, hfr⟩
        clear hfr hM
        have f3 := hb.at 3 rfl
        go_wp2
        clear hlt hk f3
        go_loopw [49] (fun iv wr => ∃ k : Nat, k ≤ T.swaps.length ∧ iv = .int .i64 k ∧ MapRd w2.heap.size (rdS T k) wr ∧ VRow wr w.heap.size 26 [.int .i64 T.q, .int .i64 T.n, .slice p1 T.base.length c1, .slice p2 T.swaps.length c2] ∧ Below w.heap.size w wr) (fun iv _ => T.swaps.length - (intOf iv).toNat)
        case atStart => exact ⟨0, by omega, rfl, hMR0, hb, hB⟩
        case round =>
          clear hMR0 hb hB
          obtain ⟨k, hk, rfl, ⟨f, hM, hfr⟩, hb, hB⟩ := hrel
          by_cases hlt : k < T.swaps.length
          · obtain ⟨b3, o3, rfl, hb3, e0, e1, e2⟩ := (HIN.out.swaps.below hB).get3 k hlt rfl
            have HG := hidI (sget_eq T.swaps k hlt)
            have hok : okS T.swaps[k].wd := HIN.out.z2 k hlt
            have HFR := hidI hfr
            clear hfr
            go_wp2_with (at_mapUpdate; refine wpList_update_mp rfl _ _ _ 89 rfl 36 keyS Tryz.underlying89 w2.heap.size f rfl ((hM.alloc _).alloc _) T.swaps[k].wd rfl hok (.slice (some ⟨wr.heap.size + 1, 0, none⟩) 2 2) rfl ?_; intro w3 hM1 hturn)
            have hv2 := (VRow.new1 wr (.cells #[.int .i64 T.swaps[k].i, .int .i64 T.swaps[k].j, .string T.swaps[k].wd] 55) 3 [.int .i64 T.swaps[k].i, .int .i64 T.swaps[k].j])
            have hBn : Below wr.heap.size wr ((wr.alloc (.cells #[.int .i64 T.swaps[k].i, .int .i64 T.swaps[k].j, .string T.swaps[k].wd] 55)).alloc (.cells #[.int .i64 T.swaps[k].i, .int .i64 T.swaps[k].j] 3)) := ((Below.refl _ _).alloc (Nat.le_refl _) _).alloc (by simp) _
            have hMR := MapRd.put (w := (wr.alloc (.cells #[.int .i64 T.swaps[k].i, .int .i64 T.swaps[k].j, .string T.swaps[k].wd] 55)).alloc (.cells #[.int .i64 T.swaps[k].i, .int .i64 T.swaps[k].j] 3)) (l := [T.swaps[k].i, T.swaps[k].j]) (f := f) (rd := rdS T k)
              (fun s => (HFR.out s).imp id (fun ⟨l, p, c, h1, h2, h3⟩ => ⟨l, p, c, h1, h2, h3.below hBn⟩)) T.swaps[k].wd hM1 hturn (Sl.of_vrow hv2)
            go_roundw
            case rel => exact ⟨k + 1, by omega, by go_num, hMR.congr (fun s => by rw [← HG.out]; exact rdS_succ T k s), ((hb.alloc _).alloc _).grown hturn.grown (fun e => by have := Option.some.inj e; omega), ((hB.alloc hB.size _).alloc (Nat.le_trans hB.size (by simp)) _).grown hturn.grown (Nat.le_trans hB.size (by simp; omega)) (fun j e => by have := Option.some.inj e; omega)⟩
            case measure => simp [intOf]; omega
          · obtain rfl : k = T.swaps.length := by omega
            have hMR : MapRd w2.heap.size (rdF T) wr := ⟨f, hM, hfr⟩
            have f3 := hb.at 3 rfl
            clear hfr hM
            go_wp2
            clear hlt hk f3
            have hzb : w2.heap.size < wr.heap.size := by obtain ⟨f, hM, _⟩ := hMR; exact hM.lt
            have HMR := hidI hMR
            have HBX := hidI hb
            have HB := hidI hB
            clear hMR hb hB
            obtain ⟨wl, rfl⟩ : ∃ wl : World, wl = wr := ⟨_, rfl⟩
            go_loopw [1, 12] (fun cv ov wr => ∃ (cur : ByteArray) (out : List Int), cv = .string cur ∧ Hid ((decF T cur).map (out ++ ·) = decF T s) ∧ (cur.size : Int) % T.n = 0 ∧ out.length + 2 * cur.size ≤ 2 * s.size ∧ cur.size ≤ 65536 ∧
                wr.ownsRow wl.heap.size 3 1 ov out.length (out.map (Value.int .i64)) ∧ Below wl.heap.size wl wr) (fun cv _ _ => strLen cv)
            case atStart => exact ⟨s, [], rfl, by unfold Hid; simp, HMOD.out, by simp, hsz, World.ownsRow_nil _ _ _ _, Below.refl _ _⟩
            case round =>
              obtain ⟨cur, out, rfl, hd, hcm, hol, hcz, hown, hB⟩ := hrel
              have hMR := HMR.out.below hB
              have hbx := HBX.out.below hB HBX.out.lt
              have f1 := hbx.at 1 rfl
              by_cases h0 : cur.size = 0
              · obtain ⟨d0⟩ := cur
                have : d0 = #[] := Array.eq_empty_of_size_eq_zero h0
                subst this
                have HR : Hid (decA T s = (out, 0)) := decA_ok HF.out HC.out HSM.out (by rw [← hd.out, decF_nil T h0]; simp)
                obtain ⟨q, d, rfl, hsl⟩ := own_sl hown
                go_wp2
                go_ret2
                exact RetSlI.mk HR.out hsl (HB.out.trans (hB.mono HB.out.size))
              · have hne : cur.toList.isEmpty = false := ne_empty (by omega)
                have hn0 : 0 < T.n.toNat := by omega
                have okx : ∀ k : Nat, okS (cur.extract 0 k) := fun k => by unfold okS maxLen; rw [ByteArray.size_extract]; omega
                by_cases h2 : 2 * T.n ≤ (cur.size : Int)
                · have hmin : min (2 * T.n) (cur.size : Int) = 2 * T.n := by omega
                  have ht2 : (2 * T.n).toNat = 2 * T.n.toNat := by omega
                  cases hr1 : rdF T (cur.extract 0 (2 * T.n.toNat)) with
                  | some l1 =>
                    have hl1 := rdF_len hr1
                    obtain ⟨p, c, hlk, hsl⟩ := MapRd.look_hit hMR _ (okx _) hr1
                    rw [← ht2] at hlk
                    have HT2 := hidI ht2
                    clear ht2 hMR
                    obtain ⟨b4, o4, rfl, _, hc4⟩ := hsl.get 0 hl1.1
                    have hnew : ∀ (j : Nat) (u : Value), (l1.map (Value.int .i64))[j]? = some u → wr.cell? ((⟨b4, o4, none⟩ : Addr).add j) = some u := news_sl hc4
                    have HDS := hidI (decF_on hd.out (by rw [HT2.out]; exact decF_step hn0 h0 (by omega) (step_swap (by omega) hr1) : decF T cur = (decF T (cur.extract (2 * T.n).toNat cur.size)).map (l1 ++ ·)))
                    have HSZ := hidI (ext_size cur (2 * T.n).toNat)
                    have hcm2 : ((cur.size : Int) - (2 * T.n)) % T.n = 0 := mod_sub hcm (by simp)
                    have HCM := hidI hcm2
                    clear hc4 hcm2
                    go_wp2_with (at_builtin; refine wpList_append_own _ rfl _ _ 36 rfl wl.heap.size 3 i0 (.int .i64 0) 1 8 Tryz.underlying36 hi0 hz0 hz1 hz3 rfl (by decide) _ _ _ rfl hown ⟨b4, o4, none⟩ l1.length c (l1.map (Value.int .i64)) rfl (by simp) hnew (by simp [Value.oneCell']) (by simp [maxLen]; omega) (by omega) hB.size ?_; intro v' w5 hown' hgrow _)
                    go_roundw
                    case rel =>
                      refine ⟨cur.extract (2 * T.n).toNat cur.size, out ++ l1, rfl, HDS, ?_, ?_, ?_, by rw [List.length_append, List.map_append]; exact hown', hB.grown hgrow hB.size (fun j e => (hown.lt j e).1)⟩
                      · rw [HSZ.out, Int.natCast_sub (by omega), show (((2 * T.n).toNat : Nat) : Int) = 2 * T.n by omega]; exact HCM.out
                      · rw [List.length_append, HSZ.out]; omega
                      · rw [HSZ.out]; omega
                    case measure => simp [strLen]; omega
                  | none =>
                    have hlk := MapRd.look_miss hMR _ (okx _) hr1
                    rw [← ht2] at hlk
                    have HT2 := hidI ht2
                    clear ht2
                    cases hr2 : rdF T (cur.extract 0 T.n.toNat) with
                    | some l1 =>
                      have hl1 := rdF_len hr2
                      obtain ⟨p, c, hlk2, hsl⟩ := MapRd.look_hit hMR _ (okx _) hr2
                      clear hMR
                      obtain ⟨b4, o4, rfl, _, hc4⟩ := hsl.get 0 hl1.1
                      have hnew : ∀ (j : Nat) (u : Value), (l1.map (Value.int .i64))[j]? = some u → wr.cell? ((⟨b4, o4, none⟩ : Addr).add j) = some u := news_sl hc4
                      have HDS := hidI (decF_on hd.out (decF_step hn0 h0 hn0 ((step_base (fun _ => hr1)).trans (by rw [hr2]; rfl))))
                      have HSZ := hidI (ext_size cur (T.n).toNat)
                      have hcm2 : ((cur.size : Int) - (T.n)) % T.n = 0 := mod_sub hcm (by simp)
                      have HCM := hidI hcm2
                      clear hc4 hcm2
                      go_wp2_with (at_builtin; refine wpList_append_own _ rfl _ _ 36 rfl wl.heap.size 3 i0 (.int .i64 0) 1 8 Tryz.underlying36 hi0 hz0 hz1 hz3 rfl (by decide) _ _ _ rfl hown ⟨b4, o4, none⟩ l1.length c (l1.map (Value.int .i64)) rfl (by simp) hnew (by simp [Value.oneCell']) (by simp [maxLen]; omega) (by omega) hB.size ?_; intro v' w5 hown' hgrow _)
                      go_roundw
                      case rel =>
                        refine ⟨cur.extract (T.n).toNat cur.size, out ++ l1, rfl, HDS, ?_, ?_, ?_, by rw [List.length_append, List.map_append]; exact hown', hB.grown hgrow hB.size (fun j e => (hown.lt j e).1)⟩
                        · rw [HSZ.out, Int.natCast_sub (by omega), show (((T.n).toNat : Nat) : Int) = T.n by omega]; exact HCM.out
                        · rw [List.length_append, HSZ.out]; omega
                        · rw [HSZ.out]; omega
                      case measure => simp [strLen]; omega
                    | none =>
                      have hlk2 := MapRd.look_miss hMR _ (okx _) hr2
                      clear hMR
                      have HR := hidI (decA_word HF.out HC.out HSM.out (by rw [← hd.out, decF_fail h0 ((step_base (fun _ => hr1)).trans (by rw [hr2]; rfl))]; rfl))
                      go_wp2
                      go_ret2
                      exact RetSlI.nil HR.out (HB.out.trans (hB.mono HB.out.size))
                · have hmin : min (2 * T.n) (cur.size : Int) = (cur.size : Int) := by omega
                  have hcn : cur.size = T.n.toNat := cur_one n1 hcm h0 h2
                  have hcu : cur.extract 0 T.n.toNat = cur := by rw [← hcn]; simp
                  have HCN := hidI hcn
                  have hle : T.n ≤ (cur.size : Int) := by omega
                  have HCU := hidI hcu
                  have okc : okS cur := by unfold okS maxLen; omega
                  cases hr1 : rdF T cur with
                  | some l1 =>
                    have hl1 := rdF_len hr1
                    obtain ⟨p, c, hlk, hsl⟩ := MapRd.look_hit hMR _ okc hr1
                    clear hMR hcn hcu
                    obtain ⟨b4, o4, rfl, _, hc4⟩ := hsl.get 0 hl1.1
                    have hnew : ∀ (j : Nat) (u : Value), (l1.map (Value.int .i64))[j]? = some u → wr.cell? ((⟨b4, o4, none⟩ : Addr).add j) = some u := news_sl hc4
                    have HDS := hidI (decF_on hd.out (decF_step hn0 h0 hn0 ((step_base (fun h => absurd h (by omega))).trans (by rw [HCU.out, hr1]; rfl))))
                    rw [← HCN.out] at HDS
                    have hxe : cur.extract cur.size cur.size = ByteArray.empty := by simp
                    rw [hxe] at HDS
                    clear hxe
                    clear hc4
                    go_wp2_with (at_builtin; refine wpList_append_own _ rfl _ _ 36 rfl wl.heap.size 3 i0 (.int .i64 0) 1 8 Tryz.underlying36 hi0 hz0 hz1 hz3 rfl (by decide) _ _ _ rfl hown ⟨b4, o4, none⟩ l1.length c (l1.map (Value.int .i64)) rfl (by simp) hnew (by simp [Value.oneCell']) (by simp [maxLen]; omega) (by omega) hB.size ?_; intro v' w5 hown' hgrow _)
                    go_roundw
                    case rel =>
                      refine ⟨ByteArray.empty, out ++ l1, rfl, HDS, ?_, ?_, ?_, by rw [List.length_append, List.map_append]; exact hown', hB.grown hgrow hB.size (fun j e => (hown.lt j e).1)⟩
                      · simp
                      · rw [List.length_append, ByteArray.size_empty]; omega
                      · rw [ByteArray.size_empty]; omega
                    case measure => simp [strLen]; omega
                  | none =>
                    have hlk := MapRd.look_miss hMR _ okc hr1
                    have hlk2 := hlk
                    rw [← hcu] at hlk2
                    clear hMR hcn hcu
                    have HR := hidI (decA_word HF.out HC.out HSM.out (by rw [← hd.out, decF_fail h0 ((step_base (fun h => absurd h (by omega))).trans (by rw [HCU.out, hr1]; rfl))]; rfl))
                    go_wp2
                    go_ret2
                    exact RetSlI.nil HR.out (HB.out.trans (hB.mono HB.out.size))
  · have HR := hidI (decA_mod HF.out HC.out (mod_nat_ne n1 hmod))
    have hmodb : ((s.size : Int) % T.n == 0) = false := by simpa using hmod
    have hmodc : ((s.size : Int) % T.n != 0) = true := by simpa using hmod
    go_wp2
    go_ret2
    exact RetSlI.nil HR.out hBb
end Go.Proofs.YtjpilmedlecdhaaGreatDoor
namespace Go.Proofs.YtjpilmedlecdhaaGreatDoor
open Go.RowKit

theorem own_grow (w : World) (B cap : Nat) (e : TypeId) (cur : Array Value) (hB : B ≤ w.heap.size) (hm : cap ≤ maxLen) (hc : cur.size = cap) :
    (w.alloc (.cells cur e)).ownsRow B e 1 (.slice (some ⟨w.heap.size, 0, none⟩) 0 cap) 0 [] :=
  ⟨by simp, .inr ⟨w.heap.size, _, _, rfl, hB, heap_alloc_new w _, Nat.zero_le _, hm, by simp [hc], by simp⟩⟩
def RetOwn0 (w : World) (e : Ending) (w' : World) : Prop := ∃ v, e = .returned v ∧ w'.ownsRow w.heap.size 3 1 v 0 [] ∧ Below w.heap.size w w'
/-- Two lists, one after the other. -/
def cat2 (a b : List Int) (k : Nat) : List Int := if k = 0 then [] else if k = 1 then a else a ++ b
theorem one_ints (l : List Int) : ∀ u ∈ l.map (Value.int .i64), u.oneCell' = true := by
  intro u hu; obtain ⟨x, _, rfl⟩ := List.mem_map.1 hu; rfl
/-- Appending a list that lies in memory, nil or not. -/
theorem run_append_sl {P : Program} (w : World) (base : Nat) (t ty e : TypeId) (i : TypeInfo) (bytes : Nat) (ht : P.underlying t = some (.slice e)) (hi : P.info? e = some i) (hz : i.zero = some (.int .i64 0)) (hs : i.size = 1) (hby : i.bytes = bytes)
    (v : Value) (xs : List Int) (hown : w.ownsRow base e 1 v xs.length (xs.map (Value.int .i64))) (p : Option Addr) (c : Nat) (l : List Int) (hl : Sl w (Value.int .i64) p l) (h63 : xs.length + l.length ≤ maxLen) (hb : (xs.length + l.length) * bytes ≤ 140737488355328) (hbase : base ≤ w.heap.size) :
    ∃ v' w', (Builtin.append_ #[t, t] ty #[v, .slice p l.length c]).run P w = .ok v' w' ∧ w'.ownsRow base e 1 v' (xs ++ l).length ((xs ++ l).map (Value.int .i64)) ∧ w.grownBy w' v.ownBlock := by
  cases p with
  | none =>
    rcases hl with h0 | ⟨_, _, hp, _⟩
    · subst h0
      refine ⟨v, w, ?_, by simpa using hown, World.grownBy.refl w _⟩
      rcases hown.2 with ⟨rfl, h0⟩ | ⟨g, cap, cur, rfl, _, _, hnc, _⟩
      · simp [Builtin.append_, run_underlying ht, sizeOf, typeInfo, hi, Builtin.lenOf, Builtin.firstCells]
      · simp [Builtin.append_, run_underlying ht, sizeOf, typeInfo, hi, Builtin.lenOf, Builtin.firstCells, hnc, storeCells]
    · cases hp
  | some ad =>
    have hn : ∀ j u, (l.map (Value.int .i64))[j]? = some u → w.cell? (ad.add j) = some u := by
      rcases hl with h0 | ⟨b, off, hp, _, hc⟩
      · subst h0; simp
      · cases hp; exact news_sl hc
    obtain ⟨v', w', h1, h2, h3, _, _⟩ := run_append_own_at w base t ty e i (.int .i64 0) 1 bytes ht hi hz hs hby rfl (by decide) v xs.length _ hown ad l.length c (l.map (Value.int .i64)) (by simp) hn (one_ints l) h63 hb hbase
    exact ⟨v', w', h1, by rw [List.length_append, List.map_append]; exact h2, h3⟩

end Go.Proofs.YtjpilmedlecdhaaGreatDoor
