/-
  Words, plain lemmas and walks, merged: LkB, LkC, Qb, Ta, Qc, LkD, LkE, LkL, LkF, LkG.
-/
import Derived.Test.YtjponanfpdmeoaaGreatDoorZkf
import Derived.WideKeyPair
import Derived.Test.YtjponanfpdmeoaaGreatDoorZkd
import Derived.Test.YtjponanfpdmeoaaGreatDoorZkc
import Derived.Shelf.Strconv.Itoa3
import Derived.Lib.AppendIntMem
set_option linter.unusedVariables false
set_option linter.unusedSimpArgs false
namespace Go.Proofs.YtjponanfpdmeoaaGreatDoor
open Go.RowKit

/-! ### Keys -/
def k2 (x : Int × Int) : Value := .agg #[.int .i64 x.1, .int .i64 x.2]
def ok2 (x : Int × Int) : Prop := (Lit.int .i64 x.1).wf = true ∧ (Lit.int .i64 x.2).wf = true
theorem arr2 : WideMaps.ArrKey Tryz.prog 59 3 2 := ⟨Tryz.underlying59, by kernel_rfl, by kernel_rfl, by kernel_rfl⟩
theorem key2 : KeyBy Tryz.prog 59 k2 ok2 where
  law := Maps.Keyed.of_law arr2.law
  reads := fun a ha => ⟨_, WideMaps.keyOf_pair arr2 Tryz.underlying3 ⟨Tryz.prog.types.size - 1, by kernel_rfl⟩ ha.1 ha.2⟩
  inj := fun a b _ _ h => by
    obtain ⟨a1, a2⟩ := a; obtain ⟨b1, b2⟩ := b
    simp [k2] at h
    exact Prod.ext h.1 h.2
theorem zeroStr (w : World) : (zeroValue 9).run Tryz.prog w = .ok (.string ⟨#[]⟩) w := by kernel_rfl
/-- A map of the swaps, in block b. -/
def SwM (l : List Sw) (w : World) (b : Nat) : Prop := Mp k2 ok2 Value.string w b (swapF l)
theorem SwM.nil (w : World) : SwM [] (w.alloc (.map #[] 0)) w.heap.size := Mp.made w

set_option maxHeartbeats 1000000 in
theorem lkPairs_any (T : Tb) (p1 p2 : Option Addr) (c1 c2 : Nat) (w : World) (hp : Sg 3 w swE p2 T.swaps) (h2 : T.swaps.length ≤ 9223372036854775807) (hok : ∀ j (h : j < T.swaps.length), ok2 (T.swaps[j].i, T.swaps[j].j)) :
    Calls Tryz.prog 23 #[.agg #[.int .i64 T.q, .int .i64 T.n, .slice p1 T.base.length c1, .slice p2 T.swaps.length c2]] w fun e w' => e = .returned (.map (some (w.heap.size + 1))) ∧ SwM T.swaps w' (w.heap.size + 1) ∧ Below w.heap.size w w' := by
  have HO := hidI hok
  clear hok
  have hmm := @run_makeMap Tryz.prog
  go_enter Tryz.func23, Tryz.ntmps23
  go_wp2
  go_loopw [10] (fun iv wr => ∃ k : Nat, k ≤ T.swaps.length ∧ iv = .int .i64 k ∧ SwM (T.swaps.take k) wr (w.heap.size + 1) ∧ Below w.heap.size w wr) (fun iv _ => T.swaps.length - (intOf iv).toNat)
  case atStart =>
    refine ⟨0, by omega, rfl, ?_, ((Below.refl _ _).alloc (Nat.le_refl _) _).alloc (by simp) _⟩
    have h := SwM.nil (w.alloc (.cells #[.int .i64 T.q, .int .i64 T.n, .slice p1 T.base.length c1, .slice p2 T.swaps.length c2] 25))
    rwa [World.size_alloc] at h
  case round =>
    obtain ⟨k, hk, rfl, hM, hB⟩ := hrel
    by_cases hlt : k < T.swaps.length
    · obtain ⟨b1, o1, rfl, hb1, e0, e1, e2⟩ := (hp.below hB).get3 k hlt rfl
      have HT := hidI (swapF_take T.swaps k hlt)
      have hok := HO.out k hlt
      go_wp2_with (at_mapUpdate; refine wpList_update_mp rfl _ _ _ 49 rfl 9 key2 Tryz.underlying49 (w.heap.size + 1) (swapF (T.swaps.take k)) rfl ((hM.alloc _)) (T.swaps[k].i, T.swaps[k].j) rfl hok T.swaps[k].wd rfl ?_; intro w1 hM1 hturn)
      go_roundw
      case rel => exact ⟨k + 1, by omega, by go_num, hM1.congr (fun x => (HT.out x).symm), (hB.alloc hB.size _).grown hturn.grown (Nat.le_trans hB.size (by simp)) (fun j e => by cases e; omega)⟩
      case measure => simp [intOf]; omega
    · obtain rfl : k = T.swaps.length := by omega
      rw [List.take_length] at hM
      go_wp2
      go_ret
      exact ⟨rfl, hM, hB⟩
end Go.Proofs.YtjponanfpdmeoaaGreatDoor
namespace Go.Proofs.YtjponanfpdmeoaaGreatDoor
open Go.RowKit

/-- A table's lists, as they lie in memory. -/
structure TbIn (w : World) (T : Tb) (p1 p2 : Option Addr) (c1 c2 : Nat) : Prop where
  base : Sl w Value.string p1 T.base
  swaps : Sg 3 w swE p2 T.swaps
  cap1 : T.base.length ≤ c1
  l1 : T.base.length ≤ 9223372036854775807
  l2 : T.swaps.length ≤ 9223372036854775807
  z1 : ∀ j (h : j < T.base.length), T.base[j].size ≤ maxLen
  z2 : ∀ j (h : j < T.swaps.length), T.swaps[j].wd.size ≤ maxLen
theorem TbIn.below {w w' : World} {T : Tb} {p1 p2 : Option Addr} {c1 c2 : Nat} (h : TbIn w T p1 p2 c1 c2) (hB : Below w.heap.size w w') : TbIn w' T p1 p2 c1 c2 :=
  ⟨h.base.below hB, h.swaps.below hB, h.cap1, h.l1, h.l2, h.z1, h.z2⟩
theorem infoStr : (Tryz.prog.info? 9).map (fun i => (i.zero, i.size, i.bytes)) = some (some (.string ⟨#[]⟩), 1, 16) := by kernel_rfl
theorem pre_all {T : Tb} (h : preB T = true) : 2 ≤ T.q ∧ T.q ≤ 16 ∧ 1 ≤ T.n ∧ T.n ≤ 8 ∧ 2 ≤ T.base.length ∧ T.base.length ≤ 16 ∧ T.swaps.length ≤ 64 := of_decide_eq_true h
theorem pre_mk {T : Tb} (h : 2 ≤ T.q ∧ T.q ≤ 16 ∧ 1 ≤ T.n ∧ T.n ≤ 8 ∧ 2 ≤ T.base.length ∧ T.base.length ≤ 16 ∧ T.swaps.length ≤ 64) : preB T = true := decide_eq_true h

set_option maxRecDepth 100000 in
set_option maxHeartbeats 2000000 in
theorem lkFormed_pre (T : Tb) (p1 p2 : Option Addr) (c1 c2 : Nat) (w : World) (h1 : T.base.length ≤ 9223372036854775807) (h2 : T.swaps.length ≤ 9223372036854775807) (hpre : preB T = false) :
    Calls Tryz.prog 31 #[.agg #[.int .i64 T.q, .int .i64 T.n, .slice p1 T.base.length c1, .slice p2 T.swaps.length c2]] w fun e w' => e = .returned (.bool (fmd T)) ∧ Below w.heap.size w w' := by
  have HF := hidI (fmd_pre hpre)
  have HP : Hid (¬ (2 ≤ T.q ∧ T.q ≤ 16 ∧ 1 ≤ T.n ∧ T.n ≤ 8 ∧ 2 ≤ T.base.length ∧ T.base.length ≤ 16 ∧ T.swaps.length ≤ 64)) := fun h => by rw [pre_mk h] at hpre; cases hpre
  clear hpre
  go_enter Tryz.func31, Tryz.ntmps31
  go_wp2
  all_goals first
    | (exfalso; have := HP.out; omega)
    | (go_ret; exact ⟨ret_bool HF.out.symm, (Below.refl _ _).alloc (Nat.le_refl _) _⟩)

set_option maxRecDepth 100000 in
set_option maxHeartbeats 4000000 in
theorem lkFormed_ok (T : Tb) (p1 p2 : Option Addr) (c1 c2 : Nat) (w : World) (hin : TbIn w T p1 p2 c1 c2) (hpre : preB T = true) :
    Calls Tryz.prog 31 #[.agg #[.int .i64 T.q, .int .i64 T.n, .slice p1 T.base.length c1, .slice p2 T.swaps.length c2]] w fun e w' => e = .returned (.bool (fmd T)) ∧ Below w.heap.size w w' := by
  obtain ⟨i0, hi0, hz0, hz1, hz2⟩ := info_parts infoStr
  have HPRE := hidI hpre
  obtain ⟨g1, g2, g3, g4, g5, g6, g7⟩ := pre_all hpre
  clear hpre
  have d1 : decide (T.q < 2) = false := decide_eq_false (by omega)
  have d2 : decide (16 < T.q) = false := decide_eq_false (by omega)
  have d3 : decide (T.n < 1) = false := decide_eq_false (by omega)
  have d4 : decide (8 < T.n) = false := decide_eq_false (by omega)
  have d5 : decide ((T.base.length : Int) < 2) = false := decide_eq_false (by omega)
  have d6 : decide ((16 : Int) < (T.base.length : Int)) = false := decide_eq_false (by omega)
  have d7 : decide ((64 : Int) < (T.swaps.length : Int)) = false := decide_eq_false (by omega)
  have b0 : VRow (w.alloc (.cells #[.int .i64 T.q, .int .i64 T.n, .slice p1 T.base.length c1, .slice p2 T.swaps.length c2] 25)) w.heap.size 25 [.int .i64 T.q, .int .i64 T.n, .slice p1 T.base.length c1, .slice p2 T.swaps.length c2] := VRow.new w _ _
  have hB0 : Below w.heap.size w (w.alloc (.cells #[.int .i64 T.q, .int .i64 T.n, .slice p1 T.base.length c1, .slice p2 T.swaps.length c2] 25)) := (Below.refl _ _).alloc (Nat.le_refl _) _
  go_enter Tryz.func31, Tryz.ntmps31
  go_wp2
  clear d1 d2 d3 d4 d5 d6 d7
  go_loopw [3, 45] (fun rv iv wr => ∃ k : Nat, k ≤ T.swaps.length ∧ iv = .int .i64 k ∧ Hid (∀ j, j < k → sOk T.base.length T.swaps j = true) ∧ VRow wr w.heap.size 25 [.int .i64 T.q, .int .i64 T.n, .slice p1 T.base.length c1, .slice p2 T.swaps.length c2] ∧
      wr.ownsRow (w.heap.size + 1) 9 1 rv k ((((T.swaps.take k).map Sw.wd)).map Value.string) ∧ Below w.heap.size w wr) (fun _ iv _ => T.swaps.length - (intOf iv).toNat)
  case atStart => exact ⟨0, by omega, rfl, fun _ h => by omega, b0, World.ownsRow_nil _ _ _ _, hB0⟩
  case round =>
    obtain ⟨k, hk, rfl, hj, hb, hown, hB⟩ := hrel
    clear b0 hB0
    by_cases hlt : k < T.swaps.length
    · obtain ⟨b1, o1, rfl, hb1, e0, e1, e2⟩ := (hin.swaps.below hB).get3 k hlt rfl
      have f0 := hb.at 0 rfl; have f1 := hb.at 1 rfl; have f2 := hb.at 2 rfl; have f3 := hb.at 3 rfl
      have hsz := hb.lt
      cases hib : inB T.base.length T.swaps[k]
      · have HF : Hid (fmd T = false) := fmd_ss (allB_f k hlt (sOk_in hlt hib))
        by_cases hmin : min T.swaps[k].i T.swaps[k].j < 0
        · clear hib
          go_wp2_with fail
          go_quiet (fail)
          go_wp2
          go_ret
          exact ⟨ret_bool HF.out.symm, below_drewN (hB.alloc hB.size _) _⟩
        · have hmax : (T.base.length : Int) ≤ max T.swaps[k].i T.swaps[k].j := by simp [inB] at hib; omega
          have hm0 := decide_eq_false hmin
          clear hib
          go_wp2_with fail
          go_quiet (fail)
          go_wp2
          go_ret
          exact ⟨ret_bool HF.out.symm, below_drewN (hB.alloc hB.size _) _⟩
      · have hib' : 0 ≤ T.swaps[k].i ∧ T.swaps[k].i < T.base.length ∧ 0 ≤ T.swaps[k].j ∧ T.swaps[k].j < T.base.length := by simpa [inB] using hib
        have hm0 : decide (min T.swaps[k].i T.swaps[k].j < 0) = false := decide_eq_false (by omega)
        have hm1 : decide ((T.base.length : Int) ≤ max T.swaps[k].i T.swaps[k].j) = false := decide_eq_false (by omega)
        have HIB := hidI hib
        clear hib hib'
        rcases Nat.eq_zero_or_pos k with hk0 | hk0
        · have hkd : decide ((0 : Int) < (k : Int)) = false := decide_eq_false (by omega)
          have hkd2 : decide (0 < k) = false := decide_eq_false (by omega)
          have HK : Hid (sOk T.base.length T.swaps k = true) := sOk_zero hlt HIB.out hk0
          have HT := hidI (words_take T.swaps k hlt)
          clear hk0
          go_wp2_with fail
          go_quiet (fail)
          have hownq : ((wr.alloc (.cells #[.int .i64 T.swaps[k].i, .int .i64 T.swaps[k].j, .string T.swaps[k].wd] 62)).drewN nq).ownsRow (w.heap.size + 1) 9 1 u3 k (((T.swaps.take k).map Sw.wd).map Value.string) := hown.alloc _
          have hBq : Below w.heap.size w ((wr.alloc (.cells #[.int .i64 T.swaps[k].i, .int .i64 T.swaps[k].j, .string T.swaps[k].wd] 62)).drewN nq) := below_drewN (hB.alloc hB.size _) nq
          have hbq : VRow ((wr.alloc (.cells #[.int .i64 T.swaps[k].i, .int .i64 T.swaps[k].j, .string T.swaps[k].wd] 62)).drewN nq) w.heap.size 25 [.int .i64 T.q, .int .i64 T.n, .slice p1 T.base.length c1, .slice (some ⟨b1, o1, none⟩) T.swaps.length c2] := hb.alloc _
          have hnew := cell_one_at ((wr.alloc (.cells #[.int .i64 T.swaps[k].i, .int .i64 T.swaps[k].j, .string T.swaps[k].wd] 62)).drewN nq) (.string T.swaps[k].wd) 9 (wr.heap.size + 1) (World.size_alloc _ _)
          have hsz1 : ((wr.alloc (.cells #[.int .i64 T.swaps[k].i, .int .i64 T.swaps[k].j, .string T.swaps[k].wd] 62)).drewN nq).heap.size = wr.heap.size + 1 := World.size_alloc _ _
          have HSZ := hidI hsz1
          clear hsz1
          go_wp2_with (at_builtin; refine wpList_append_own _ rfl _ _ 22 rfl (w.heap.size + 1) 9 i0 (.string ⟨#[]⟩) 1 16 Tryz.underlying22 hi0 hz0 hz1 hz2 rfl (by decide) _ _ _ rfl (hownq.alloc _) ⟨wr.heap.size + 1, 0, none⟩ 1 1 [.string T.swaps[k].wd] rfl rfl hnew (by simp [Value.oneCell']) (by simp [maxLen]; omega) (by omega) (by rw [World.size_alloc, HSZ.out]; omega) ?_; intro v' w1 hown' hgrow _)
          go_roundw
          case rel =>
            refine ⟨k + 1, by omega, by go_num, fun j h1 => ?_, (hbq.alloc _).grown hgrow (fun e => by have := (hownq.lt _ e.symm).1; omega), by rw [HT.out]; exact hown', (hBq.alloc hBq.size _).grown hgrow (Nat.le_trans hBq.size (by simp)) (fun j e => Nat.le_of_succ_le (hownq.lt j e).1)⟩
            rcases Nat.lt_succ_iff_lt_or_eq.1 h1 with h3 | h3
            · exact hj.out j h3
            · subst h3; exact HK.out
          case measure => simp [intOf]; omega
        · obtain ⟨m, rfl⟩ : ∃ m, k = m + 1 := ⟨k - 1, by omega⟩
          have HS := hidI (sOk_succ hlt HIB.out)
          go_wp2_with fail
          refine region_tail 28 (by kernel_rfl) (by kernel_rfl) fun W hD => ?_
          have hBW : Below w.heap.size w W := (hB.alloc hB.size _).trans (hD.below _)
          have hbW : VRow W w.heap.size 25 [.int .i64 T.q, .int .i64 T.n, .slice p1 T.base.length c1, .slice (some ⟨b1, o1, none⟩) T.swaps.length c2] := (hb.alloc _).dr hD
          have hcW : VRow W wr.heap.size 62 [.int .i64 T.swaps[m + 1].i, .int .i64 T.swaps[m + 1].j, .string T.swaps[m + 1].wd] := (VRow.new wr 62 _).dr hD
          have hownW := (hown.alloc (.cells #[.int .i64 T.swaps[m + 1].i, .int .i64 T.swaps[m + 1].j, .string T.swaps[m + 1].wd] 62)).dr hD
          have hszW : W.heap.size = wr.heap.size + 1 := by rw [hD.size, World.size_alloc]
          obtain ⟨b1', o1', he, _, e3, e4, e5⟩ := (hin.swaps.below hBW).get3 m (by omega) rfl
          cases he
          clear e0 e1 e2 f0 f1 f2 f3
          have f2 := hbW.at 2 rfl; have f3 := hbW.at 3 rfl
          have e0 := hcW.at 0 rfl; have e1 := hcW.at 1 rfl; have e2 := hcW.at 2 rfl
          simp only [List.take_succ_cons, List.take_zero, List.drop_succ_cons, List.drop_zero]
          have m0 : (0 : Int) ≤ (m : Int) := by omega
          have m1 : (m : Int) < (T.swaps.length : Int) := by omega
          have q1 : IntKind.i64.wrap (m : Int) = (m : Int) := IntWalk.i64_in _ (by omega)
          iterate 28 still_step
          refine wpStill_nil ?_
          clear q1
          go_wp2_with fail
          refine (lkCompare_any T.swaps[m] T.swaps[m + 1] _).mono ?_
          rintro e w1 ⟨rfl, hB1⟩
          have hB2 := hBW.trans (hB1.mono hBW.size)
          by_cases hcs : 0 ≤ cmpS T.swaps[m] T.swaps[m + 1]
          · have HF : Hid (fmd T = false) := fmd_ss (allB_f (m + 1) hlt (by rw [HS.out]; have := cmpS_lex T.swaps[m] T.swaps[m + 1]; rw [decide_eq_true hcs] at this; simpa using this.symm))
            go_wp2
            go_ret
            exact ⟨ret_bool HF.out.symm, hB2⟩
          · have HK : Hid (sOk T.base.length T.swaps (m + 1) = true) := by unfold Hid; rw [HS.out]; have := cmpS_lex T.swaps[m] T.swaps[m + 1]; rw [decide_eq_false hcs] at this; simpa using this.symm
            have hcd := decide_eq_false hcs
            have HT := hidI (words_take T.swaps (m + 1) hlt)
            have hwl : wr.heap.size < W.heap.size := by omega
            have hown1 := hownW.below hB1
            have hb1' := hbW.below hB1 (by omega)
            have hc1' := hcW.below hB1 hwl
            have g2 := hc1'.at 2 rfl
            have hnew := cell_one_new w1 (.string T.swaps[m + 1].wd) 9
            have hsz1 : wr.heap.size < w1.heap.size := Nat.lt_of_lt_of_le hwl hB1.size
            clear e0 e1 e2 e3 e4 e5 f2 f3 m0 m1 hcs
            go_wp2_with (at_builtin; refine wpList_append_own _ rfl _ _ 22 rfl (w.heap.size + 1) 9 i0 (.string ⟨#[]⟩) 1 16 Tryz.underlying22 hi0 hz0 hz1 hz2 rfl (by decide) _ _ _ rfl (hown1.alloc _) ⟨w1.heap.size, 0, none⟩ 1 1 [.string T.swaps[m + 1].wd] rfl rfl hnew (by simp [Value.oneCell']) (by simp [maxLen]; omega) (by omega) (by rw [World.size_alloc]; omega) ?_; intro v' w2 hown' hgrow _)
            go_roundw
            case rel =>
              refine ⟨m + 1 + 1, by omega, by go_num, fun j h1 => ?_, (hb1'.alloc _).grown hgrow (fun e => by have := (hown1.lt _ e.symm).1; omega), by rw [HT.out]; exact hown', (hB2.alloc hB2.size _).grown hgrow (Nat.le_trans hB2.size (by simp)) (fun j e => Nat.le_of_succ_le (hown1.lt j e).1)⟩
              rcases Nat.lt_succ_iff_lt_or_eq.1 h1 with h3 | h3
              · exact hj.out j h3
              · subst h3; exact HK.out
            case measure => simp [intOf]; omega
    · obtain rfl : k = T.swaps.length := by omega
      have hss : ssOk T = true := allB_t hj.out
      rw [List.take_length] at hown
      have hcap := own_cap hown
      obtain ⟨q, d, hv, hsl⟩ := own_sl hown
      rw [List.length_map] at hv
      subst hv
      have hqd := hcap _ _ _ rfl
      have f0 := hb.at 0 rfl; have f1 := hb.at 1 rfl; have f2 := hb.at 2 rfl; have f3 := hb.at 3 rfl
      clear hcap hown
      cases hbs : wsOk T.q T.n T.base
      · have HF := hidI (fmd_base hbs)
        have HX := hidI hbs
        clear hbs hss
        go_wp2_with fail
        refine (lkWords_any T.q T.n T.base _ rfl p1 c1 _ (hin.base.below hB) hin.cap1 hin.l1 hin.z1).mono ?_
        rintro e w1 ⟨rfl, hD⟩
        rw [HX.out]
        go_wp2
        go_ret
        exact ⟨ret_bool HF.out.symm, hB.trans (hD.below _)⟩
      · have HF := hidI (fmd_all HPRE.out hss hbs)
        have HX := hidI hbs
        clear hbs hss
        go_wp2_with fail
        refine (lkWords_any T.q T.n T.base _ rfl p1 c1 _ (hin.base.below hB) hin.cap1 hin.l1 hin.z1).mono ?_
        rintro e w1 ⟨rfl, hD⟩
        rw [HX.out]
        have f0' := (hD.cell _).trans f0
        have f1' := (hD.cell _).trans f1
        go_wp2_with fail
        refine (lkWords_any T.q (2 * T.n) (T.swaps.map Sw.wd) T.swaps.length (List.length_map _) q d _ (hsl.dr hD) (by rw [List.length_map]; exact hqd) (by omega) (fun j h => by rw [List.getElem_map]; exact hin.z2 j (by simpa using h))).mono ?_
        rintro e w2 ⟨rfl, hD2⟩
        rw [← HF.out]
        go_wp2
        go_ret
        exact ⟨rfl, (hB.trans (hD.below _)).trans (hD2.below _)⟩

theorem lkFormed_any (T : Tb) (p1 p2 : Option Addr) (c1 c2 : Nat) (w : World) (hin : TbIn w T p1 p2 c1 c2) :
    Calls Tryz.prog 31 #[.agg #[.int .i64 T.q, .int .i64 T.n, .slice p1 T.base.length c1, .slice p2 T.swaps.length c2]] w fun e w' => e = .returned (.bool (fmd T)) ∧ Below w.heap.size w w' := by
  cases h : preB T
  · exact lkFormed_pre T p1 p2 c1 c2 w hin.l1 hin.l2 h
  · exact lkFormed_ok T p1 p2 c1 c2 w hin h
end Go.Proofs.YtjponanfpdmeoaaGreatDoor
namespace Go.Proofs.YtjponanfpdmeoaaGreatDoor
open Go.RowKit Go.Sort Go.Shelf Go.Lib

def fitA (T : Tb) (G : Gr) : Int := if fmd T = false ∨ chkG G ≠ 0 then 1 else if G.q ≠ T.q then 11 else 0

set_option maxRecDepth 100000 in
set_option maxHeartbeats 1000000 in
theorem lkCheck0_any (T : Tb) (p1 p2 : Option Addr) (c1 c2 : Nat) (G : Gr) (p : Option Addr) (c : Nat) (w : World) (hT : TbIn w T p1 p2 c1 c2) (hG : Sg 3 w edE p G.es) (hl : G.es.length ≤ 9223372036854775807) :
    Calls Tryz.prog 18 #[.agg #[.int .i64 T.q, .int .i64 T.n, .slice p1 T.base.length c1, .slice p2 T.swaps.length c2], (.agg #[.int .i64 G.q, .int .i64 G.n, .slice p G.es.length c])] w fun e w' => e = .returned (.int .i64 (fitA T G)) ∧ RowKit.Below w.heap.size w w' := by
  obtain ⟨w0, hw0⟩ : ∃ w0, w0 = (w.alloc (.cells #[.int .i64 T.q, .int .i64 T.n, .slice p1 T.base.length c1, .slice p2 T.swaps.length c2] 25)).alloc (.cells #[.int .i64 G.q, .int .i64 G.n, .slice p G.es.length c] 28) := ⟨_, rfl⟩
  have b0 : VRow w0 w.heap.size 25 [.int .i64 T.q, .int .i64 T.n, .slice p1 T.base.length c1, .slice p2 T.swaps.length c2] := by subst hw0; exact (VRow.new w _ _).alloc _
  have b1 : VRow w0 (w.heap.size + 1) 28 [.int .i64 G.q, .int .i64 G.n, .slice p G.es.length c] := by subst hw0; exact VRow.new1 w _ _ _
  have hB0 : RowKit.Below w.heap.size w w0 := by subst hw0; exact ((RowKit.Below.refl _ _).alloc (Nat.le_refl _) _).alloc (by simp) _
  have HF := hidI (lkFormed_any T p1 p2 c1 c2 w0 (hT.below hB0))
  have HG := hidI (fun W (hW : RowKit.Below w.heap.size w W) => gCheck_any G p c W (hG.below hW) hl)
  have HX : Hid (fitA T G = if fmd T = false ∨ chkG G ≠ 0 then 1 else if G.q ≠ T.q then 11 else 0) := rfl
  have a0 := b0.at 0 rfl; have a1 := b0.at 1 rfl; have a2 := b0.at 2 rfl; have a3 := b0.at 3 rfl
  clear hT hG
  generalize fmd T = f at *
  generalize chkG G = k at *
  go_enter Tryz.func18, Tryz.ntmps18
  go_upto_region 1 with fail
  rw [← hw0]
  clear hw0
  go_wp2_with fail
  refine HF.out.mono ?_
  rintro e w1 ⟨rfl, hB1⟩
  have x1 := hB0.trans (hB1.mono hB0.size)
  have c1' := b1.below hB1 b1.lt
  have c0' := b0.below hB1 b0.lt
  have d0 := c1'.at 0 rfl; have d1 := c1'.at 1 rfl; have d2 := c1'.at 2 rfl
  clear a0 a1 a2 a3 b0 b1 hB0
  cases f
  · have HY : Hid (fitA T G = 1) := by rw [Hid, HX.out]; simp
    go_wp2
    go_ret
    exact ⟨ret_int HY.out.symm, x1⟩
  · go_wp2_with fail
    refine (HG.out w1 x1).mono ?_
    rintro e w2 ⟨rfl, hB2⟩
    have x2 := x1.trans (hB2.mono x1.size)
    have e1 := c1'.below hB2 c1'.lt
    have e0 := c0'.below hB2 c0'.lt
    have f0 := e1.at 0 rfl; have f1 := e0.at 0 rfl
    clear d0 d1 d2 c0' c1' e0 e1
    by_cases hk : k = 0
    · subst hk
      by_cases hq : G.q = T.q
      · have HY : Hid (fitA T G = 0) := by rw [Hid, HX.out]; simp [hq]
        have hqb : (G.q != T.q) = false := by simpa using hq
        clear hq
        go_wp2
        go_ret
        exact ⟨ret_int HY.out.symm, x2⟩
      · have HY : Hid (fitA T G = 11) := by rw [Hid, HX.out]; simp [hq]
        have hqb : (G.q != T.q) = true := by simpa using hq
        clear hq
        go_wp2
        go_ret
        exact ⟨ret_int HY.out.symm, x2⟩
    · have HY : Hid (fitA T G = 1) := by rw [Hid, HX.out]; simp [hk]
      have hkb : (k != 0) = true := by simpa using hk
      clear hk
      go_wp2
      go_ret
      exact ⟨ret_int HY.out.symm, x2⟩

set_option maxRecDepth 100000 in
set_option maxHeartbeats 2000000 in
theorem lkFollow_any (G : Gr) (p : Option Addr) (c : Nat) (st : List Int) (q : Option Addr) (d : Nat) (s : ByteArray) (w : World) (hin : Sg 3 w edE p G.es) (hst : Sl w (Value.int .i64) q st) (hv : Vg G) (hS : St G.n st) (hw : Chg.okw G.q s.data.toList = true) (hs : s.size ≤ 65536) :
    Calls Tryz.prog 26 #[(.agg #[.int .i64 G.q, .int .i64 G.n, .slice p G.es.length c]), .slice q st.length d, .string s] w (LsOut (endA G st (ltr s)) w) := by
  have HIN := hidI hin; have HV := hidI hv; have HS := hidI hS; have HW := hidI hw
  have HST := hidI hst
  have hn1 := hv.n1; have hn2 := hv.n2
  clear hin hst hv hS hw
  obtain ⟨w0, hw0⟩ : ∃ w0, w0 = w.alloc (.cells #[.int .i64 G.q, .int .i64 G.n, .slice p G.es.length c] 28) := ⟨_, rfl⟩
  have b0 : VRow w0 w.heap.size 28 [.int .i64 G.q, .int .i64 G.n, .slice p G.es.length c] := by subst hw0; exact VRow.new w _ _
  have hB0 : RowKit.Below w.heap.size w w0 := by subst hw0; exact (RowKit.Below.refl _ _).alloc (Nat.le_refl _) _
  have hE0 : endA G st ((ltr s).take 0) = st := rfl
  go_enter Tryz.func26, Tryz.ntmps26
  go_wp2
  rw [← hw0]
  clear hw0
  go_loopw [1, 10] (fun sv iv wr => ∃ (k : Nat) (qk : Option Addr) (dk : Nat), k ≤ s.size ∧ sv = .slice qk (endA G st ((ltr s).take k)).length dk ∧ iv = .int .i64 k ∧ Sl wr (Value.int .i64) qk (endA G st ((ltr s).take k)) ∧ RowKit.Below w0.heap.size w0 wr) (fun _ iv _ => s.size - (intOf iv).toNat)
  case atStart => exact ⟨0, q, d, by omega, by rw [hE0], rfl, by rw [hE0]; exact HST.out.below hB0, RowKit.Below.refl _ _⟩
  case round =>
    obtain ⟨k, qk, dk, hk, rfl, rfl, hsl, hB⟩ := hrel
    have HSK := hidI (endA_st G st HS.out ((ltr s).take k))
    have xr := hB0.trans (hB.mono hB0.size)
    by_cases hlt : k < s.size
    · have HN : Hid (endA G st ((ltr s).take (k + 1)) = nextA G (endA G st ((ltr s).take k)) (Chg.dig (s[k].toNat : Int))) := by rw [Hid, ltr_take s k hlt, endA_snoc]
      generalize endA G st ((ltr s).take k) = L at *
      have hltN : (k : Int) < (s.size : Int) := by omega
      have hd := okw_at HW.out k hlt
      have hdx := idx_dig s[k] hd.1
      generalize Chg.dig (s[k].toNat : Int) = b at *
      have r0 := b0.below hB b0.lt
      have HI := hidI (fun W => Tryz.strings_IndexByte ⟨#[48, 49, 50, 51, 52, 53, 54, 55, 56, 57, 97, 98, 99, 100, 101, 102]⟩ (s[k].toNat : Int) W)
      rw [show Lib.indexByte (⟨#[48, 49, 50, 51, 52, 53, 54, 55, 56, 57, 97, 98, 99, 100, 101, 102]⟩ : ByteArray).data.toList ((s[k].toNat : Int)).toNat.toUInt8 = b from hdx] at HI
      have hlen := HSK.out.len hn1
      have HC := hidI HSK.out.chk
      have HSL := hidI hsl
      have HD := hidI hd
      clear hd
      have HXR := hidI xr
      clear hsl xr hdx
      go_upto_region 4 with fail
      have g0 := r0.at 0 rfl; have g1 := r0.at 1 rfl; have g2 := r0.at 2 rfl
      have zb : w.heap.size < wr.heap.size := r0.lt
      have HIX : Hid (∀ W, RowKit.Below wr.heap.size wr W → Sg 3 W edE p G.es) := fun W h => HIN.out.below (HXR.out.trans (h.mono HXR.out.size))
      have HSX : Hid (∀ W, RowKit.Below wr.heap.size wr W → Sl W (Value.int .i64) qk L) := fun W h => HSL.out.below h
      have HBR := hidI hB
      clear r0 hB
      go_region_held3 (fun w' => w'.cell? ⟨w.heap.size, 0, none⟩ = some (.int .i64 G.q) ∧ w'.cell? ⟨w.heap.size, 1, none⟩ = some (.int .i64 G.n) ∧ w'.cell? ⟨w.heap.size, 2, none⟩ = some (.slice p G.es.length c) ∧ RowKit.Below wr.heap.size wr w')
        (first | (go_split_ands; refine ⟨?_, ?_, ?_, ?_⟩ <;> first | assumption | (go_keep; done) | exact RowKit.Below.refl _ _ | exact below_drewN (RowKit.Below.refl _ _) 1 | exact (hBb.cell (Nat.lt_of_lt_of_le zb (RowKit.Below.size (by assumption)))).trans (by assumption) | exact RowKit.Below.trans (by assumption) (hBb.mono (RowKit.Below.size (by assumption)))))
        (first
          | (go_at_call 45; (with_reducible refine (HI.out _).mono ?_); rintro e wA ⟨rfl, rfl⟩)
          | (go_at_call 44; go_split_ands; (with_reducible refine (callsIn_wide.1 (gStep_in G p c L qk dk b _ (HIX.out _ (by assumption)) (HSX.out _ (by assumption)) HV.out (by omega) HC.out HD.out.1 HD.out.2)).mono ?_); rintro e wB ⟨p', m', c', rfl, hown, hBb⟩; have hwz := RowKit.Below.size (show RowKit.Below wr.heap.size wr _ by assumption); have hfin := own_baseI hown hwz; have hBf := RowKit.Below.trans (show RowKit.Below wr.heap.size wr _ by assumption) (hBb.mono hwz)))
      all_goals
        obtain ⟨q9, c9, he9, hs9⟩ := own_sl hfin
        simp only [Value.slice.injEq] at he9
        obtain ⟨rfl, rfl, rfl⟩ := he9
        have hBn := HBR.out.trans (hBf.mono HBR.out.size)
        go_wp2_with fail
        go_roundw
        case rel => exact ⟨k + 1, _, _, by omega, by rw [HN.out], by go_num, by rw [HN.out]; exact hs9, hBn⟩
        case measure => simp [intOf]; omega
    · obtain rfl : k = s.size := by omega
      have hltN : ¬ (s.size : Int) < (s.size : Int) := by omega
      rw [ltr_all] at *
      generalize endA G st (ltr s) = L at *
      go_wp2
      go_ret
      exact ⟨_, _, rfl, hsl, xr⟩
end Go.Proofs.YtjponanfpdmeoaaGreatDoor
namespace Go.Proofs.YtjponanfpdmeoaaGreatDoor
open Go.RowKit

def keyL : List Int → List UInt8
  | [] => []
  | s :: l => Lib.decDigits s.toNat ++ 32 :: keyL l
theorem dg_no : ∀ i, i < 100 → (32 : UInt8) ∉ Lib.decDigits i := by decide +kernel
theorem dg_inj : ∀ i, i < 100 → ∀ j, j < 100 → Lib.decDigits i = Lib.decDigits j → i = j := by decide +kernel
theorem sep_inj {c : UInt8} : ∀ {a b r r' : List UInt8}, c ∉ a → c ∉ b → a ++ c :: r = b ++ c :: r' → a = b ∧ r = r'
  | [], [], r, r', _, _, h => by simp at h; exact ⟨rfl, h⟩
  | [], y :: b, r, r', _, hb, h => by simp at h; exact absurd (by simp [h.1]) hb
  | x :: a, [], r, r', ha, _, h => by simp at h; exact absurd (by simp [h.1]) ha
  | x :: a, y :: b, r, r', ha, hb, h => by
    simp only [List.cons_append, List.cons.injEq] at h
    obtain ⟨h1, h2⟩ := sep_inj (fun hm => ha (List.mem_cons_of_mem _ hm)) (fun hm => hb (List.mem_cons_of_mem _ hm)) h.2
    exact ⟨by rw [h.1, h1], h2⟩
/-- The key tells sets apart. -/
theorem keyL_inj : ∀ {l m : List Int}, (∀ x ∈ l, 0 ≤ x ∧ x < 100) → (∀ x ∈ m, 0 ≤ x ∧ x < 100) → keyL l = keyL m → l = m
  | [], [], _, _, _ => rfl
  | [], y :: m, _, _, h => by simp [keyL] at h
  | x :: l, [], _, _, h => by simp [keyL] at h
  | x :: l, y :: m, hl, hm, h => by
    have h1 := hl x (by simp)
    have h2 := hm y (by simp)
    obtain ⟨k1, k2⟩ := sep_inj (dg_no x.toNat (by omega)) (dg_no y.toNat (by omega)) h
    have e := dg_inj x.toNat (by omega) y.toNat (by omega) k1
    have e2 : x = y := by omega
    rw [e2, keyL_inj (fun z hz => hl z (by simp [hz])) (fun z hz => hm z (by simp [hz])) k2]
theorem keyL_snoc : ∀ (l : List Int) (s : Int), keyL (l ++ [s]) = keyL l ++ (Lib.decDigits s.toNat ++ [32])
  | [], s => by simp [keyL]
  | x :: l, s => by simp [keyL, keyL_snoc l s]
theorem dit_small : ∀ i, i < 100 → (Lib.decDigits i).length ≤ 2 := by decide +kernel
theorem keyL_len : ∀ {l : List Int}, (∀ x ∈ l, 0 ≤ x ∧ x < 100) → (keyL l).length ≤ 3 * l.length
  | [], _ => Nat.le_refl _
  | x :: l, h => by
    have h1 := dit_small x.toNat (by have := h x (by simp); omega)
    have h2 := keyL_len (l := l) (fun y hy => h y (by simp [hy]))
    simp only [keyL, List.length_append, List.length_cons]
    omega
end Go.Proofs.YtjponanfpdmeoaaGreatDoor
namespace Go.Proofs.YtjponanfpdmeoaaGreatDoor
open Go.RowKit Go.Sort Go.Shelf Go.Lib

/-- The table of powers of ten reads as the program lays it. -/
def T10 (w : World) : Prop := Lib.TabIs Tryz.prog w "internal/strconv.uint64pow10" .u64 Lib.pow10Tab
theorem T10.below {w w' : World} (h : T10 w) (hB : RowKit.Below w.heap.size w w') : T10 w' := Lib.tabBelow_of_tabIs h w' hB

def tailK (st : List Int) : List UInt8 := st.flatMap (fun s => 32 :: Lib.decDigits s.toNat)
/-- The key of a place. -/
def keyB (l : Int) (st : List Int) : List UInt8 := Lib.itoa l ++ tailK st
theorem tailK_snoc (st : List Int) (s : Int) : tailK (st ++ [s]) = tailK st ++ (32 :: Lib.decDigits s.toNat) := by simp [tailK]
theorem tailK_end : ∀ st : List Int, tailK st ++ [32] = 32 :: keyL st
  | [] => rfl
  | s :: st => by
    have ih := tailK_end st
    show (32 :: Lib.decDigits s.toNat) ++ tailK st ++ [32] = 32 :: (Lib.decDigits s.toNat ++ 32 :: keyL st)
    rw [List.append_assoc, ih]; rfl
theorem itoa_no : ∀ n : Nat, n < 17 → (32 : UInt8) ∉ Lib.itoa ((n : Int) - 1) := by decide +kernel
theorem itoa_inj : ∀ n : Nat, n < 17 → ∀ m : Nat, m < 17 → Lib.itoa ((n : Int) - 1) = Lib.itoa ((m : Int) - 1) → n = m := by decide +kernel
theorem itoa_len : ∀ n : Nat, n < 17 → (Lib.itoa ((n : Int) - 1)).length ≤ 2 := by decide +kernel
theorem keyB_inj {l l' : Int} {st st' : List Int} (h1 : -1 ≤ l ∧ l < 16) (h2 : -1 ≤ l' ∧ l' < 16) (h3 : ∀ x ∈ st, 0 ≤ x ∧ x < 100) (h4 : ∀ x ∈ st', 0 ≤ x ∧ x < 100) (e : keyB l st = keyB l' st') : l = l' ∧ st = st' := by
  obtain ⟨n, hn⟩ : ∃ n : Nat, (n : Int) - 1 = l := ⟨(l + 1).toNat, by omega⟩
  obtain ⟨m, hm⟩ : ∃ m : Nat, (m : Int) - 1 = l' := ⟨(l' + 1).toNat, by omega⟩
  have e2 : Lib.itoa l ++ 32 :: keyL st = Lib.itoa l' ++ 32 :: keyL st' := by
    have := congrArg (· ++ [(32 : UInt8)]) e
    simpa only [keyB, List.append_assoc, tailK_end] using this
  rw [← hn, ← hm] at e2
  obtain ⟨k1, k2⟩ := sep_inj (itoa_no n (by omega)) (itoa_no m (by omega)) e2
  exact ⟨by rw [← hn, ← hm, itoa_inj n (by omega) m (by omega) k1], keyL_inj h3 h4 k2⟩
theorem tailK_len : ∀ {st : List Int}, (∀ x ∈ st, 0 ≤ x ∧ x < 100) → (tailK st).length ≤ 3 * st.length
  | [], _ => Nat.le_refl _
  | s :: st, h => by
    have h1 := dit_small s.toNat (by have := h s (by simp); omega)
    have h2 := tailK_len (st := st) (fun y hy => h y (by simp [hy]))
    show ((32 :: Lib.decDigits s.toNat) ++ tailK st).length ≤ 3 * (st.length + 1)
    rw [List.length_append, List.length_cons]; omega
theorem keyB_len {l : Int} {st : List Int} (h1 : -1 ≤ l ∧ l < 16) (h3 : ∀ x ∈ st, 0 ≤ x ∧ x < 100) : (keyB l st).length ≤ 2 + 3 * st.length := by
  have h := itoa_len (l + 1).toNat (by omega)
  rw [show (((l + 1).toNat : Nat) : Int) - 1 = l by omega] at h
  have := tailK_len h3
  unfold keyB; rw [List.length_append]; omega
theorem itoaW_any (l : Int) (w : World) (h : -1 ≤ l ∧ l < 16) (ht : T10 w) : Calls Tryz.prog 43 #[.int .i64 l] w fun e w' => e = .returned (.string ⟨(Lib.itoa l).toArray⟩) ∧ RowKit.Below w.heap.size w w' :=
  (Tryz.strconv_Itoa l (by omega) (by omega) w ht).mono (fun e w' ⟨he, k, os, hw⟩ => ⟨he, by rw [hw]; exact Lib.below_grow _ _ (Nat.le_refl _) _ _⟩)
theorem itoaS_any (l : Int) (w : World) (h : 0 ≤ l ∧ l < 100) : Calls Tryz.prog 43 #[.int .i64 l] w fun e w' => e = .returned (.string ⟨(Lib.decDigits l.toNat).toArray⟩) ∧ w' = w := by
  obtain ⟨i, rfl⟩ := Int.eq_ofNat_of_zero_le h.1
  exact Tryz.strconv_Itoa_small i (by omega) w

set_option maxRecDepth 100000 in
set_option maxHeartbeats 1000000 in
theorem lkKey_any (l : Int) (st : List Int) (q : Option Addr) (d : Nat) (w : World) (hl : -1 ≤ l ∧ l < 16) (hst : Sl w (Value.int .i64) q st) (hr : ∀ x ∈ st, 0 ≤ x ∧ x < 100) (hs : st.length ≤ 64) (ht : T10 w) :
    Calls Tryz.prog 24 #[.agg #[.int .i64 l, .slice q st.length d]] w fun e w' => e = .returned (.string ⟨(keyB l st).toArray⟩) ∧ RowKit.Below w.heap.size w w' := by
  have HST := hidI hst; have HR := hidI hr
  obtain ⟨w0, hw0⟩ : ∃ w0, w0 = w.alloc (.cells #[.int .i64 l, .slice q st.length d] 52) := ⟨_, rfl⟩
  have b0 : VRow w0 w.heap.size 52 [.int .i64 l, .slice q st.length d] := by subst hw0; exact VRow.new w _ _
  have hB0 : RowKit.Below w.heap.size w w0 := by subst hw0; exact (RowKit.Below.refl _ _).alloc (Nat.le_refl _) _
  have HI := hidI (itoaW_any l w0 hl (ht.below hB0))
  have hil := itoa_len (l + 1).toNat (by omega)
  rw [show (((l + 1).toNat : Nat) : Int) - 1 = l by omega] at hil
  have a0 := b0.at 0 rfl
  have HK : Hid (∀ k, keyB l (st.take k) = Lib.itoa l ++ tailK (st.take k)) := fun _ => rfl
  have HX : Hid (keyB l (st.take st.length) = keyB l st) := by unfold Hid; rw [List.take_length]
  clear hst hr ht
  generalize Lib.itoa l = it at *
  go_enter Tryz.func24, Tryz.ntmps24
  go_upto_region 1 with fail
  rw [← hw0]
  clear hw0
  go_wp2_with fail
  refine HI.out.mono ?_
  rintro e w1 ⟨rfl, hB1⟩
  have x1 := hB0.trans (hB1.mono hB0.size)
  have a1 := (b0.below hB1 b0.lt).at 1 rfl
  clear a0 b0 hB0 hB1 HI
  go_wp2_with fail
  go_loopw [3, 12] (fun sv iv W => ∃ k : Nat, k ≤ st.length ∧ iv = .int .i64 k ∧ sv = .string ⟨(it ++ tailK (st.take k)).toArray⟩ ∧ RowKit.Below w.heap.size w W) (fun _ iv _ => st.length - (intOf iv).toNat)
  case atStart => exact ⟨0, by omega, rfl, by simp [tailK], x1⟩
  case round =>
    clear a1 x1
    obtain ⟨k, hk, rfl, rfl, hB⟩ := hrel
    by_cases hlt : k < st.length
    · have hltI : (k : Int) < (st.length : Int) := by omega
      obtain ⟨bb, oo, rfl, _, hc1⟩ := (HST.out.below hB).get k hlt
      have e0 := hc1 k hlt
      have hrk := HR.out _ (List.getElem_mem hlt)
      have HN : Hid (it ++ tailK (st.take (k + 1)) = (it ++ tailK (st.take k)) ++ (32 :: Lib.decDigits st[k].toNat)) := by
        rw [Hid, List.take_succ_eq_append_getElem hlt, tailK_snoc, List.append_assoc]
      have hdl := dit_small st[k].toNat (by omega)
      have htl : (it ++ tailK (st.take k)).length ≤ 200 := by
        have := tailK_len (st := st.take k) (fun x hx => HR.out x (List.mem_of_mem_take hx))
        rw [List.length_take] at this
        rw [List.length_append]; omega
      have HC := hidI (fun W => itoaS_any st[k] W hrk)
      generalize st[k] = s at *
      generalize it ++ tailK (st.take k) = o at *
      clear hc1
      go_wp2_with fail
      refine (HC.out wr).mono ?_
      rintro e w2 ⟨rfl, hw2⟩
      have hB2 : RowKit.Below w.heap.size w w2 := by rw [hw2]; exact hB
      clear hw2 hB e0 HC
      generalize Lib.decDigits s.toNat = dg at *
      have hsz1 : (⟨o.toArray⟩ : ByteArray).size = o.length := by simp [ByteArray.size]
      have hsz2 : (⟨dg.toArray⟩ : ByteArray).size = dg.length := by simp [ByteArray.size]
      have HQ : Hid ((⟨o.toArray⟩ : ByteArray) ++ ((⟨#[32]⟩ : ByteArray) ++ (⟨dg.toArray⟩ : ByteArray)) = ⟨(o ++ (32 :: dg)).toArray⟩) := by
        apply ByteArray.ext; simp
      go_wp2
      go_roundw
      case rel => exact ⟨k + 1, by omega, by go_num, by rw [HN.out, ← HQ.out], hB2⟩
      case measure => simp [intOf]; omega
    · obtain rfl : k = st.length := by omega
      have hltI : ¬ (st.length : Int) < (st.length : Int) := by omega
      have HY : Hid (it ++ tailK (st.take st.length) = keyB l st) := by rw [Hid, ← HK.out, HX.out]
      rw [HY.out]
      go_wp2
      go_ret
      exact ⟨rfl, hB⟩
end Go.Proofs.YtjponanfpdmeoaaGreatDoor
namespace Go.Proofs.YtjponanfpdmeoaaGreatDoor
open Go.RowKit

theorem check07_q (q : Int) (s : ByteArray) (w : World) (hs : s.size ≤ maxLen) :
    Calls Tryz.prog 58 #[.int .i64 q, .string s] w fun e w' => e = .returned (.int .i64 (wchk q s.data.toList)) ∧ w' = w := (check07_any q s w hs).mono fun _ _ ⟨a, b⟩ => ⟨a, b.symm⟩

theorem check07_r (q : Int) (s : ByteArray) (r : Int) (w : World) (hs : s.size ≤ maxLen) (hr : wchk q s.data.toList = r) :
    Calls Tryz.prog 58 #[.int .i64 q, .string s] w fun e w' => e = .returned (.int .i64 r) ∧ w' = w := by subst hr; exact check07_q q s w hs

set_option maxHeartbeats 400000 in
theorem rlkHas_q (l : List ByteArray) (N : Nat) (hN : l.length = N) (p : Option Addr) (c : Nat) (s : ByteArray) (m : Nat) (w : World) (hp : Sl w Value.string p l) (hl : N ≤ 9223372036854775807) (hm : m ≤ N) :
    Calls Tryz.prog 59 #[.slice p N c, .string s, .int .i64 m] w fun e w' => e = .returned (.bool ((l.take m).any (eqb s))) ∧ w' = w := by
  subst hN
  go_enter Tryz.func59, Tryz.ntmps59
  go_wp2
  go_loop [7] (fun i => ∃ k : Nat, k ≤ m ∧ i = .int .i64 k ∧ Hid (∀ j (hj : j < l.length), j < k → eqb s l[j] = false)) (fun i => m - (intOf i).toNat)
  case atStart => exact ⟨0, by omega, rfl, fun _ _ h => by omega⟩
  case round =>
    obtain ⟨k, hk, rfl, hj⟩ := hrel
    by_cases hlt : k < m
    · have hkl : k < l.length := by omega
      obtain ⟨b1, o1, rfl, hb1, hc1⟩ := hp.get k hkl
      have e1 := hc1 k hkl
      clear hc1
      by_cases he : l[k] = s
      · have hb := bts_t he
        have HI : Hid ((l.take m).any (eqb s) = true) := List.any_eq_true.2 ⟨l[k], List.mem_iff_getElem.2 ⟨k, by simp; omega, by simp⟩, eqb_t he.symm⟩
        clear he
        go_wp2
        go_ret
        exact ⟨ret_bool HI.out.symm, rfl⟩
      · have hb := bts_f he
        have HE := hidI he
        clear he
        go_wp2
        go_round
        case rel => exact ⟨k + 1, by omega, by go_num, fun j h1 h2 => by
          rcases Nat.lt_succ_iff_lt_or_eq.1 h2 with h3 | h3
          · exact hj.out j h1 h3
          · subst h3; exact eqb_f (fun e => HE.out e.symm)⟩
        case measure => simp [intOf]; omega
    · have HM : Hid ((l.take m).any (eqb s) = false) := List.any_eq_false.2 (fun x hx => by
        obtain ⟨i, hi, rfl⟩ := List.mem_iff_getElem.1 hx
        rw [List.length_take] at hi
        rw [List.getElem_take]
        simp [hj.out i (by omega) (by omega)])
      go_wp2
      go_ret
      exact ⟨ret_bool HM.out.symm, rfl⟩

theorem rlkHas_r (l : List ByteArray) (N : Nat) (hN : l.length = N) (p : Option Addr) (c : Nat) (s : ByteArray) (m : Nat) (r : Bool) (w : World) (hp : Sl w Value.string p l) (hl : N ≤ 9223372036854775807) (hm : m ≤ N) (hr : (l.take m).any (eqb s) = r) :
    Calls Tryz.prog 59 #[.slice p N c, .string s, .int .i64 m] w fun e w' => e = .returned (.bool r) ∧ w' = w := by subst hr; exact rlkHas_q l N hN p c s m w hp hl hm

set_option maxRecDepth 100000 in
set_option maxHeartbeats 2000000 in
theorem rlkFormed_pre (T : Tb) (p1 p2 : Option Addr) (c1 c2 : Nat) (w : World) (h1 : T.base.length ≤ 9223372036854775807) (h2 : T.swaps.length ≤ 9223372036854775807) (hpre : preB T = false) :
    Calls Tryz.prog 39 #[.agg #[.int .i64 T.q, .int .i64 T.n, .slice p1 T.base.length c1, .slice p2 T.swaps.length c2]] w fun e w' => e = .returned (.bool (fmd T)) ∧ Below w.heap.size w w' := by
  have HF := hidI (fmd_pre hpre)
  have HP : Hid (¬ (2 ≤ T.q ∧ T.q ≤ 16 ∧ 1 ≤ T.n ∧ T.n ≤ 8 ∧ 2 ≤ T.base.length ∧ T.base.length ≤ 16 ∧ T.swaps.length ≤ 64)) := fun h => by rw [pre_mk h] at hpre; cases hpre
  clear hpre
  go_enter Tryz.func39, Tryz.ntmps39
  go_wp2
  all_goals first
    | (exfalso; have := HP.out; omega)
    | (go_ret; exact ⟨ret_bool HF.out.symm, (Below.refl _ _).alloc (Nat.le_refl _) _⟩)

set_option maxRecDepth 100000 in
set_option maxHeartbeats 8000000 in
theorem rlkFormed_ok (T : Tb) (p1 p2 : Option Addr) (c1 c2 : Nat) (w : World) (hin : TbIn w T p1 p2 c1 c2) (hpre : preB T = true) :
    Calls Tryz.prog 39 #[.agg #[.int .i64 T.q, .int .i64 T.n, .slice p1 T.base.length c1, .slice p2 T.swaps.length c2]] w fun e w' => e = .returned (.bool (fmd T)) ∧ Below w.heap.size w w' := by
  obtain ⟨i0, hi0, hz0, hz1, hz2⟩ := info_parts infoStr
  have HPRE := hidI hpre
  obtain ⟨g1, g2, g3, g4, g5, g6, g7⟩ := pre_all hpre
  clear hpre
  have d1 : decide (T.q < 2) = false := decide_eq_false (by omega)
  have d2 : decide (16 < T.q) = false := decide_eq_false (by omega)
  have d3 : decide (T.n < 1) = false := decide_eq_false (by omega)
  have d4 : decide (8 < T.n) = false := decide_eq_false (by omega)
  have d5 : decide ((T.base.length : Int) < 2) = false := decide_eq_false (by omega)
  have d6 : decide ((16 : Int) < (T.base.length : Int)) = false := decide_eq_false (by omega)
  have d7 : decide ((64 : Int) < (T.swaps.length : Int)) = false := decide_eq_false (by omega)
  have b0 : VRow (w.alloc (.cells #[.int .i64 T.q, .int .i64 T.n, .slice p1 T.base.length c1, .slice p2 T.swaps.length c2] 25)) w.heap.size 25 [.int .i64 T.q, .int .i64 T.n, .slice p1 T.base.length c1, .slice p2 T.swaps.length c2] := VRow.new w _ _
  have hB0 : Below w.heap.size w (w.alloc (.cells #[.int .i64 T.q, .int .i64 T.n, .slice p1 T.base.length c1, .slice p2 T.swaps.length c2] 25)) := (Below.refl _ _).alloc (Nat.le_refl _) _
  go_enter Tryz.func39, Tryz.ntmps39
  go_wp2
  clear d1 d2 d3 d4 d5 d6 d7
  have HSZ0 : Hid ((w.alloc (.cells #[.int .i64 T.q, .int .i64 T.n, .slice p1 T.base.length c1, .slice p2 T.swaps.length c2] 25)).heap.size = w.heap.size + 1) := World.size_alloc _ _
  generalize (w.alloc (.cells #[.int .i64 T.q, .int .i64 T.n, .slice p1 T.base.length c1, .slice p2 T.swaps.length c2] 25)) = w0 at b0 hB0 HSZ0 ⊢
  go_loopw [3] (fun iv wr => ∃ k : Nat, k ≤ T.base.length ∧ iv = .int .i64 k ∧ Hid (∀ j, j < k → wOk T.q T.n T.base j = true) ∧ Dr w0 wr) (fun iv _ => T.base.length - (intOf iv).toNat)
  case atStart => exact ⟨0, by omega, rfl, fun _ h => by omega, Dr.refl _⟩
  case round =>
    obtain ⟨k, hk, rfl, hj, hD⟩ := hrel
    have hb := b0.dr hD
    have hB := hB0.trans (hD.below _)
    have f0 := hb.at 0 rfl; have f1 := hb.at 1 rfl; have f2 := hb.at 2 rfl; have f3 := hb.at 3 rfl
    by_cases hlt : k < T.base.length
    · have hp' := hin.base.below hB
      obtain ⟨bb, oo, rfl, hb1, hc1⟩ := hp'.get k hlt
      have e1 := hc1 k hlt
      clear hc1
      have hzk := hin.z1 k hlt
      have hg := hidI (bget_eq T.base k hlt)
      by_cases hs : (T.base[k].size : Int) = T.n
      · have HS := hidI hs
        by_cases hck : wchk T.q T.base[k].data.toList = 0
        · have HC := hidI hck
          cases hh : (T.base.take k).any (eqb T.base[k])
          · have HH := hidI hh
            have HW : Hid (wOk T.q T.n T.base k = true) := wOk_t (by rw [hg.out]; exact hs) (by rw [hg.out]; exact hck) (by rw [hg.out]; exact hh)
            clear hg hck hh
            go_wp2_with fail
            (refine wp_region_quiet_lit (by kernel_rfl) (by kernel_rfl) ?_; (repeat (first | go_big_quiet_step (first | (go_at_call 58; exact Calls.quiet_of_same (check07_r _ _ _ _ hzk HC.out)) | (go_at_call 59; exact Calls.quiet_of_same (rlkHas_r T.base _ rfl _ _ _ k _ _ hp' (by omega) (by omega) HH.out))) | quiet_step (first | (go_at_call 58; exact Calls.quiet_of_same (check07_r _ _ _ _ hzk HC.out)) | (go_at_call 59; exact Calls.quiet_of_same (rlkHas_r T.base _ rfl _ _ _ k _ _ hp' (by omega) (by omega) HH.out))))); refine wpQuiet_nil ?_; intro _ hwq; obtain ⟨nq, hwq2⟩ := hwq; subst hwq2)
            go_wp2
            go_roundw
            case rel => exact ⟨k + 1, by omega, by go_num, fun j h1 => by
              rcases Nat.lt_succ_iff_lt_or_eq.1 h1 with h3 | h3
              · exact hj.out j h3
              · subst h3; exact HW.out, hD.one _⟩
            case measure => simp [intOf]; omega
          · have HH := hidI hh
            have HF : Hid (fmd T = false) := fmd_base (allB_f k hlt (wOk_has (by rw [hg.out]; exact hh)))
            clear hg hck hh
            go_wp2_with fail
            (refine wp_region_quiet_lit (by kernel_rfl) (by kernel_rfl) ?_; (repeat (first | go_big_quiet_step (first | (go_at_call 58; exact Calls.quiet_of_same (check07_r _ _ _ _ hzk HC.out)) | (go_at_call 59; exact Calls.quiet_of_same (rlkHas_r T.base _ rfl _ _ _ k _ _ hp' (by omega) (by omega) HH.out))) | quiet_step (first | (go_at_call 58; exact Calls.quiet_of_same (check07_r _ _ _ _ hzk HC.out)) | (go_at_call 59; exact Calls.quiet_of_same (rlkHas_r T.base _ rfl _ _ _ k _ _ hp' (by omega) (by omega) HH.out))))); refine wpQuiet_nil ?_; intro _ hwq; obtain ⟨nq, hwq2⟩ := hwq; subst hwq2)
            go_wp2
            go_ret
            exact ⟨ret_bool HF.out.symm, below_drewN hB _⟩
        · have HC : Hid (wchk T.q T.base[k].data.toList = wchk T.q T.base[k].data.toList) := rfl
          have HF : Hid (fmd T = false) := fmd_base (allB_f k hlt (wOk_chk (by rw [hg.out]; exact hck)))
          clear hg
          go_wp2_with fail
          (refine wp_region_quiet_lit (by kernel_rfl) (by kernel_rfl) ?_; (repeat (first | go_big_quiet_step (first | (go_at_call 58; exact Calls.quiet_of_same (check07_r _ _ _ _ hzk rfl))) | quiet_step (first | (go_at_call 58; exact Calls.quiet_of_same (check07_r _ _ _ _ hzk rfl))))); refine wpQuiet_nil ?_; intro _ hwq; obtain ⟨nq, hwq2⟩ := hwq; subst hwq2)
          go_wp2
          go_ret
          exact ⟨ret_bool HF.out.symm, below_drewN hB _⟩
      · have HF : Hid (fmd T = false) := fmd_base (allB_f k hlt (wOk_len (by rw [hg.out]; exact hs)))
        have hsb : ((T.base[k].size : Int) == T.n) = false := by simpa using hs
        clear hg
        go_wp2_with fail
        (refine wp_region_quiet_lit (by kernel_rfl) (by kernel_rfl) ?_; (repeat (first | go_big_quiet_step (fail) | quiet_step (fail))); refine wpQuiet_nil ?_; intro _ hwq; obtain ⟨nq, hwq2⟩ := hwq; subst hwq2)
        go_wp2
        go_ret
        exact ⟨ret_bool HF.out.symm, below_drewN hB _⟩
    · have hbs : wsOk T.q T.n T.base = true := allB_t (fun j h => hj.out j (by omega))
      have HBS := hidI hbs
      have hz0' : w0.heap.size = w.heap.size + 1 := HSZ0.out
      have hzr : wr.heap.size = w.heap.size + 1 := by rw [hD.size]; exact hz0'
      have HSZ := hidI hzr
      clear hbs hj hz0' hzr
      go_wp2
      clear hlt hk
      go_loopw [4, 5] (fun wv iv wt => ∃ k : Nat, k ≤ T.swaps.length ∧ iv = .int .i64 k ∧ Hid (∀ j, j < k → sOk T.base.length T.swaps j = true ∧ wOk T.q (2 * T.n) (T.swaps.map Sw.wd) j = true) ∧ VRow wt w.heap.size 25 [.int .i64 T.q, .int .i64 T.n, .slice p1 T.base.length c1, .slice p2 T.swaps.length c2] ∧
          wt.ownsRow (w.heap.size + 1) 9 1 wv k ((((T.swaps.take k).map Sw.wd)).map Value.string) ∧ Below w.heap.size w wt) (fun _ iv _ => T.swaps.length - (intOf iv).toNat)
      case atStart =>
        refine ⟨0, by omega, rfl, fun _ h => by omega, hb.alloc _, ?_, hB.alloc hB.size _⟩
        exact World.ownsRow_made wr #[] 0 (Nat.le_of_eq HSZ.out.symm) (by simp [maxLen]) rfl
      case round =>
        clear hb hB f0 f1 f2 f3 hD b0 hB0
        obtain ⟨k, hk, rfl, hj, hb, hown, hB⟩ := hrel
        by_cases hlt : k < T.swaps.length
        · obtain ⟨b1, o1, rfl, hb1, e0, e1, e2⟩ := (hin.swaps.below hB).get3 k hlt rfl
          have f0 := hb.at 0 rfl; have f1 := hb.at 1 rfl; have f2 := hb.at 2 rfl; have f3 := hb.at 3 rfl
          have hsz := hb.lt
          have hzk := hin.z2 k hlt
          have hg := hidI (bget_map T.swaps k hlt)
          have HT := hidI (words_take T.swaps k hlt)
          cases hib : inB T.base.length T.swaps[k]
          · have HF : Hid (fmd T = false) := fmd_ss (allB_f k hlt (sOk_in hlt hib))
            have HIB : Hid (¬ (0 ≤ T.swaps[k].i ∧ T.swaps[k].i < T.base.length ∧ 0 ≤ T.swaps[k].j ∧ T.swaps[k].j < T.base.length)) := by intro h; simp [inB] at hib; omega
            clear hib
            go_wp2_with fail
            all_goals first
              | (exfalso; have := HIB.out; omega)
              | (go_ret; exact ⟨ret_bool HF.out.symm, hB.alloc hB.size _⟩)
          · have hib' : 0 ≤ T.swaps[k].i ∧ T.swaps[k].i < T.base.length ∧ 0 ≤ T.swaps[k].j ∧ T.swaps[k].j < T.base.length := by simpa [inB] using hib
            obtain ⟨i1, i2, i3, i4⟩ := hib'
            have HIB := hidI hib
            clear hib
            obtain ⟨q, d, hv, hsl⟩ := own_sl hown
            rw [List.length_map, List.length_take, Nat.min_eq_left (by omega)] at hv
            subst hv
            have hslW := hsl.below ((Below.refl wr.heap.size wr).alloc (Nat.le_refl _) (.cells #[.int .i64 T.swaps[k].i, .int .i64 T.swaps[k].j, .string T.swaps[k].wd] 62))
            have hkl : k < (T.swaps.map Sw.wd).length := by rw [List.length_map]; exact hlt
            by_cases hs : (T.swaps[k].wd.size : Int) = 2 * T.n
            · have hsb : ((T.swaps[k].wd.size : Int) == 2 * T.n) = true := by simpa using hs
              have HS := hidI hs
              clear hs
              by_cases hck : wchk T.q T.swaps[k].wd.data.toList = 0
              · have HC := hidI hck
                clear hck
                cases hh : ((T.swaps.take k).map Sw.wd).any (eqb T.swaps[k].wd)
                · have HH : Hid ((((T.swaps.take k).map Sw.wd).take k).any (eqb T.swaps[k].wd) = false) := by unfold Hid; rw [List.take_of_length_le (by rw [List.length_map, List.length_take]; omega)]; exact hh
                  have HW : Hid (wOk T.q (2 * T.n) (T.swaps.map Sw.wd) k = true) := wOk_t (by rw [hg.out]; exact HS.out) (by rw [hg.out]; exact HC.out) (by rw [hg.out, ← List.map_take]; exact hh)
                  clear hh
                  go_wp2_with (first | (go_at_call 58; refine (check07_r _ _ _ _ hzk HC.out).mono ?_; rintro e w' ⟨rfl, rfl⟩) | (go_at_call 59; refine (rlkHas_r ((T.swaps.take k).map Sw.wd) k (by rw [List.length_map, List.length_take]; omega) q d T.swaps[k].wd k _ _ hslW (by omega) (by omega) HH.out).mono ?_; rintro e w' ⟨rfl, rfl⟩))
                  rcases Nat.eq_zero_or_pos k with hk0 | hk0
                  · have hkd : decide ((0 : Int) < (k : Int)) = false := decide_eq_false (by omega)
                    have hkd2 : decide (0 < k) = false := decide_eq_false (by omega)
                    have HK : Hid (sOk T.base.length T.swaps k = true) := sOk_zero hlt HIB.out hk0
                    clear hk0
                    (refine wp_region_quiet_lit (by kernel_rfl) (by kernel_rfl) ?_; (repeat (first | go_big_quiet_step (fail) | quiet_step (fail))); refine wpQuiet_nil ?_; intro _ hwq; obtain ⟨nq, hwq2⟩ := hwq; subst hwq2)
                    have hownq : ((wr.alloc (.cells #[.int .i64 T.swaps[k].i, .int .i64 T.swaps[k].j, .string T.swaps[k].wd] 62)).drewN nq).ownsRow (w.heap.size + 1) 9 1 (.slice q (k) d) k (((T.swaps.take k).map Sw.wd).map Value.string) := hown.alloc _
                    have hBq : Below w.heap.size w ((wr.alloc (.cells #[.int .i64 T.swaps[k].i, .int .i64 T.swaps[k].j, .string T.swaps[k].wd] 62)).drewN nq) := below_drewN (hB.alloc hB.size _) nq
                    have hbq : VRow ((wr.alloc (.cells #[.int .i64 T.swaps[k].i, .int .i64 T.swaps[k].j, .string T.swaps[k].wd] 62)).drewN nq) w.heap.size 25 [.int .i64 T.q, .int .i64 T.n, .slice p1 T.base.length c1, .slice (some ⟨b1, o1, none⟩) T.swaps.length c2] := hb.alloc _
                    have hnew := cell_one_at ((wr.alloc (.cells #[.int .i64 T.swaps[k].i, .int .i64 T.swaps[k].j, .string T.swaps[k].wd] 62)).drewN nq) (.string T.swaps[k].wd) 9 (wr.heap.size + 1) (World.size_alloc _ _)
                    have HSZ1 : Hid (((wr.alloc (.cells #[.int .i64 T.swaps[k].i, .int .i64 T.swaps[k].j, .string T.swaps[k].wd] 62)).drewN nq).heap.size = wr.heap.size + 1) := World.size_alloc _ _
                    go_wp2_with (at_builtin; refine wpList_append_own _ rfl _ _ 22 rfl (w.heap.size + 1) 9 i0 (.string ⟨#[]⟩) 1 16 Tryz.underlying22 hi0 hz0 hz1 hz2 rfl (by decide) _ _ _ rfl (hownq.alloc _) ⟨wr.heap.size + 1, 0, none⟩ 1 1 [.string T.swaps[k].wd] rfl rfl hnew (by simp [Value.oneCell']) (by simp [maxLen]; omega) (by omega) (by rw [World.size_alloc, HSZ1.out]; omega) ?_; intro v' w1 hown' hgrow _)
                    go_roundw
                    case rel =>
                      refine ⟨k + 1, by omega, by go_num, fun j h1 => ?_, (hbq.alloc _).grown hgrow (fun e => by have := (hownq.lt _ e.symm).1; omega), by rw [HT.out]; exact hown', (hBq.alloc hBq.size _).grown hgrow (Nat.le_trans hBq.size (by simp)) (fun j e => Nat.le_of_succ_le (hownq.lt j e).1)⟩
                      rcases Nat.lt_succ_iff_lt_or_eq.1 h1 with h3 | h3
                      · exact hj.out j h3
                      · subst h3; exact ⟨HK.out, HW.out⟩
                    case measure => simp [intOf]; omega
                  · obtain ⟨m, rfl⟩ : ∃ m, k = m + 1 := ⟨k - 1, by omega⟩
                    obtain ⟨b1', o1', he, hb1', e3, e4, e5⟩ := (hin.swaps.below hB).get3 m (by omega) rfl
                    cases he
                    have m0 : (0 : Int) ≤ (m : Int) := by omega
                    have m1 : (m : Int) < (T.swaps.length : Int) := by omega
                    have q1 : IntKind.i64.wrap (m : Int) = (m : Int) := IntWalk.i64_in _ (by omega)
                    rcases lex_four T.swaps[m] T.swaps[m + 1] with ⟨l1, hl⟩ | ⟨l1, l2, hl⟩ | ⟨l1, hl⟩ | ⟨l1, l2, hl⟩
                    · have HK := hidI (sOk_pos hlt HIB.out hl)
                      have x1 : decide (T.swaps[m + 1].i < T.swaps[m].i) = false := decide_eq_false (by omega)
                      have x2 : (T.swaps[m + 1].i == T.swaps[m].i) = false := by simpa using (by omega : T.swaps[m + 1].i ≠ T.swaps[m].i)
                      have x3 : ¬ T.swaps[m + 1].i = T.swaps[m].i := by omega
                      clear hl l1
                      (refine wp_region_quiet_lit (by kernel_rfl) (by kernel_rfl) ?_; (repeat (first | go_big_quiet_step (fail) | quiet_step (fail))); refine wpQuiet_nil ?_; intro _ hwq; obtain ⟨nq, hwq2⟩ := hwq; subst hwq2)
                      clear q1 x1 x2 x3
                      have hownq : ((wr.alloc (.cells #[.int .i64 T.swaps[m + 1].i, .int .i64 T.swaps[m + 1].j, .string T.swaps[m + 1].wd] 62)).drewN nq).ownsRow (w.heap.size + 1) 9 1 (.slice q (m + 1) d) (m + 1) (((T.swaps.take (m + 1)).map Sw.wd).map Value.string) := hown.alloc _
                      have hBq : Below w.heap.size w ((wr.alloc (.cells #[.int .i64 T.swaps[m + 1].i, .int .i64 T.swaps[m + 1].j, .string T.swaps[m + 1].wd] 62)).drewN nq) := below_drewN (hB.alloc hB.size _) nq
                      have hbq : VRow ((wr.alloc (.cells #[.int .i64 T.swaps[m + 1].i, .int .i64 T.swaps[m + 1].j, .string T.swaps[m + 1].wd] 62)).drewN nq) w.heap.size 25 [.int .i64 T.q, .int .i64 T.n, .slice p1 T.base.length c1, .slice (some ⟨b1, o1, none⟩) T.swaps.length c2] := hb.alloc _
                      have hnew := cell_one_at ((wr.alloc (.cells #[.int .i64 T.swaps[m + 1].i, .int .i64 T.swaps[m + 1].j, .string T.swaps[m + 1].wd] 62)).drewN nq) (.string T.swaps[m + 1].wd) 9 (wr.heap.size + 1) (World.size_alloc _ _)
                      have HSZ1 : Hid (((wr.alloc (.cells #[.int .i64 T.swaps[m + 1].i, .int .i64 T.swaps[m + 1].j, .string T.swaps[m + 1].wd] 62)).drewN nq).heap.size = wr.heap.size + 1) := World.size_alloc _ _
                      go_wp2_with (at_builtin; refine wpList_append_own _ rfl _ _ 22 rfl (w.heap.size + 1) 9 i0 (.string ⟨#[]⟩) 1 16 Tryz.underlying22 hi0 hz0 hz1 hz2 rfl (by decide) _ _ _ rfl (hownq.alloc _) ⟨wr.heap.size + 1, 0, none⟩ 1 1 [.string T.swaps[m + 1].wd] rfl rfl hnew (by simp [Value.oneCell']) (by simp [maxLen]; omega) (by omega) (by rw [World.size_alloc, HSZ1.out]; omega) ?_; intro v' w1 hown' hgrow _)
                      go_roundw
                      case rel =>
                        refine ⟨m + 1 + 1, by omega, by go_num, fun j h1 => ?_, (hbq.alloc _).grown hgrow (fun e => by have := (hownq.lt _ e.symm).1; omega), by rw [HT.out]; exact hown', (hBq.alloc hBq.size _).grown hgrow (Nat.le_trans hBq.size (by simp)) (fun j e => Nat.le_of_succ_le (hownq.lt j e).1)⟩
                        rcases Nat.lt_succ_iff_lt_or_eq.1 h1 with h3 | h3
                        · exact hj.out j h3
                        · subst h3; exact ⟨HK.out, HW.out⟩
                      case measure => simp [intOf]; omega
                    · have HK := hidI (sOk_pos hlt HIB.out hl)
                      have x1 : decide (T.swaps[m + 1].i < T.swaps[m].i) = false := decide_eq_false (by omega)
                      have x2 : (T.swaps[m + 1].i == T.swaps[m].i) = true := by simpa using l1.symm
                      have x3 : T.swaps[m + 1].i = T.swaps[m].i := l1.symm
                      have x4 : decide (T.swaps[m + 1].j ≤ T.swaps[m].j) = false := decide_eq_false (by omega)
                      clear hl l1 l2
                      (refine wp_region_quiet_lit (by kernel_rfl) (by kernel_rfl) ?_; (repeat (first | go_big_quiet_step (fail) | quiet_step (fail))); refine wpQuiet_nil ?_; intro _ hwq; obtain ⟨nq, hwq2⟩ := hwq; subst hwq2)
                      clear q1 x1 x2 x3 x4
                      have hownq : ((wr.alloc (.cells #[.int .i64 T.swaps[m + 1].i, .int .i64 T.swaps[m + 1].j, .string T.swaps[m + 1].wd] 62)).drewN nq).ownsRow (w.heap.size + 1) 9 1 (.slice q (m + 1) d) (m + 1) (((T.swaps.take (m + 1)).map Sw.wd).map Value.string) := hown.alloc _
                      have hBq : Below w.heap.size w ((wr.alloc (.cells #[.int .i64 T.swaps[m + 1].i, .int .i64 T.swaps[m + 1].j, .string T.swaps[m + 1].wd] 62)).drewN nq) := below_drewN (hB.alloc hB.size _) nq
                      have hbq : VRow ((wr.alloc (.cells #[.int .i64 T.swaps[m + 1].i, .int .i64 T.swaps[m + 1].j, .string T.swaps[m + 1].wd] 62)).drewN nq) w.heap.size 25 [.int .i64 T.q, .int .i64 T.n, .slice p1 T.base.length c1, .slice (some ⟨b1, o1, none⟩) T.swaps.length c2] := hb.alloc _
                      have hnew := cell_one_at ((wr.alloc (.cells #[.int .i64 T.swaps[m + 1].i, .int .i64 T.swaps[m + 1].j, .string T.swaps[m + 1].wd] 62)).drewN nq) (.string T.swaps[m + 1].wd) 9 (wr.heap.size + 1) (World.size_alloc _ _)
                      have HSZ1 : Hid (((wr.alloc (.cells #[.int .i64 T.swaps[m + 1].i, .int .i64 T.swaps[m + 1].j, .string T.swaps[m + 1].wd] 62)).drewN nq).heap.size = wr.heap.size + 1) := World.size_alloc _ _
                      go_wp2_with (at_builtin; refine wpList_append_own _ rfl _ _ 22 rfl (w.heap.size + 1) 9 i0 (.string ⟨#[]⟩) 1 16 Tryz.underlying22 hi0 hz0 hz1 hz2 rfl (by decide) _ _ _ rfl (hownq.alloc _) ⟨wr.heap.size + 1, 0, none⟩ 1 1 [.string T.swaps[m + 1].wd] rfl rfl hnew (by simp [Value.oneCell']) (by simp [maxLen]; omega) (by omega) (by rw [World.size_alloc, HSZ1.out]; omega) ?_; intro v' w1 hown' hgrow _)
                      go_roundw
                      case rel =>
                        refine ⟨m + 1 + 1, by omega, by go_num, fun j h1 => ?_, (hbq.alloc _).grown hgrow (fun e => by have := (hownq.lt _ e.symm).1; omega), by rw [HT.out]; exact hown', (hBq.alloc hBq.size _).grown hgrow (Nat.le_trans hBq.size (by simp)) (fun j e => Nat.le_of_succ_le (hownq.lt j e).1)⟩
                        rcases Nat.lt_succ_iff_lt_or_eq.1 h1 with h3 | h3
                        · exact hj.out j h3
                        · subst h3; exact ⟨HK.out, HW.out⟩
                      case measure => simp [intOf]; omega
                    · have HF : Hid (fmd T = false) := fmd_ss (allB_f (m + 1) hlt ((sOk_succ hlt HIB.out).trans hl))
                      clear hl
                      (refine wp_region_quiet_lit (by kernel_rfl) (by kernel_rfl) ?_; (repeat (first | go_big_quiet_step (fail) | quiet_step (fail))); refine wpQuiet_nil ?_; intro _ hwq; obtain ⟨nq, hwq2⟩ := hwq; subst hwq2)
                      go_wp2
                      go_ret
                      exact ⟨ret_bool HF.out.symm, below_drewN (hB.alloc hB.size _) _⟩
                    · have HF : Hid (fmd T = false) := fmd_ss (allB_f (m + 1) hlt ((sOk_succ hlt HIB.out).trans hl))
                      have x1 : decide (T.swaps[m + 1].i < T.swaps[m].i) = false := decide_eq_false (by omega)
                      have x2 : (T.swaps[m + 1].i == T.swaps[m].i) = true := by simpa using l1.symm
                      have x3 : T.swaps[m + 1].i = T.swaps[m].i := l1.symm
                      clear hl l1
                      (refine wp_region_quiet_lit (by kernel_rfl) (by kernel_rfl) ?_; (repeat (first | go_big_quiet_step (fail) | quiet_step (fail))); refine wpQuiet_nil ?_; intro _ hwq; obtain ⟨nq, hwq2⟩ := hwq; subst hwq2)
                      go_wp2
                      go_ret
                      exact ⟨ret_bool HF.out.symm, below_drewN (hB.alloc hB.size _) _⟩
                · have HH : Hid ((((T.swaps.take k).map Sw.wd).take k).any (eqb T.swaps[k].wd) = true) := by unfold Hid; rw [List.take_of_length_le (by rw [List.length_map, List.length_take]; omega)]; exact hh
                  have HF : Hid (fmd T = false) := fmd_words (allB_f k hkl (wOk_has (by rw [hg.out, ← List.map_take]; exact hh)))
                  clear hh
                  go_wp2_with (first | (go_at_call 58; refine (check07_r _ _ _ _ hzk HC.out).mono ?_; rintro e w' ⟨rfl, rfl⟩) | (go_at_call 59; refine (rlkHas_r ((T.swaps.take k).map Sw.wd) k (by rw [List.length_map, List.length_take]; omega) q d T.swaps[k].wd k _ _ hslW (by omega) (by omega) HH.out).mono ?_; rintro e w' ⟨rfl, rfl⟩))
                  go_ret
                  exact ⟨ret_bool HF.out.symm, hB.alloc hB.size _⟩
              · have HC : Hid (wchk T.q T.swaps[k].wd.data.toList = wchk T.q T.swaps[k].wd.data.toList) := rfl
                have HF : Hid (fmd T = false) := fmd_words (allB_f k hkl (wOk_chk (by rw [hg.out]; exact hck)))
                go_wp2_with (go_at_call 58; refine (check07_r _ _ _ _ hzk HC.out).mono ?_; rintro e w' ⟨rfl, rfl⟩)
                go_ret
                exact ⟨ret_bool HF.out.symm, hB.alloc hB.size _⟩
            · have hsb : ((T.swaps[k].wd.size : Int) == 2 * T.n) = false := by simpa using hs
              have HF : Hid (fmd T = false) := fmd_words (allB_f k hkl (wOk_len (by rw [hg.out]; exact hs)))
              go_wp2_with fail
              go_ret
              exact ⟨ret_bool HF.out.symm, hB.alloc hB.size _⟩
        · obtain rfl : k = T.swaps.length := by omega
          have HF : Hid (fmd T = true) := (fmd_all HPRE.out (allB_t (fun j h => (hj.out j h).1)) HBS.out).trans (allB_t (fun j h => (hj.out j (by simpa using h)).2))
          have f3 := hb.at 3 rfl
          go_wp2
          go_ret
          exact ⟨ret_bool HF.out.symm, hB⟩

theorem rlkFormed_any (T : Tb) (p1 p2 : Option Addr) (c1 c2 : Nat) (w : World) (hin : TbIn w T p1 p2 c1 c2) :
    Calls Tryz.prog 39 #[.agg #[.int .i64 T.q, .int .i64 T.n, .slice p1 T.base.length c1, .slice p2 T.swaps.length c2]] w fun e w' => e = .returned (.bool (fmd T)) ∧ Below w.heap.size w w' := by
  cases h : preB T
  · exact rlkFormed_pre T p1 p2 c1 c2 w hin.l1 hin.l2 h
  · exact rlkFormed_ok T p1 p2 c1 c2 w hin h
end Go.Proofs.YtjponanfpdmeoaaGreatDoor
namespace Go.Proofs.YtjponanfpdmeoaaGreatDoor
open Go.RowKit

theorem ret_str {a b : ByteArray} (h : a = b) : Ending.returned (.string a) = .returned (.string b) := by rw [h]
def swS (l : List Sw) (i j : Int) : ByteArray := (swapW l i j).getD ⟨#[]⟩
set_option maxHeartbeats 1000000 in
theorem rlkSwap_any (T : Tb) (i j : Int) (p1 p2 : Option Addr) (c1 c2 : Nat) (w : World) (hp : Sg 3 w swE p2 T.swaps) (h2 : T.swaps.length ≤ 9223372036854775807) :
    Calls Tryz.prog 46 #[.agg #[.int .i64 T.q, .int .i64 T.n, .slice p1 T.base.length c1, .slice p2 T.swaps.length c2], .int .i64 i, .int .i64 j] w fun e w' => e = .returned (.string (swS T.swaps i j)) ∧ Below w.heap.size w w' := by
  have hB0 : Below w.heap.size w (w.alloc (.cells #[.int .i64 T.q, .int .i64 T.n, .slice p1 T.base.length c1, .slice p2 T.swaps.length c2] 25)) := (Below.refl _ _).alloc (Nat.le_refl _) _
  have b0 : VRow (w.alloc (.cells #[.int .i64 T.q, .int .i64 T.n, .slice p1 T.base.length c1, .slice p2 T.swaps.length c2] 25)) w.heap.size 25 [.int .i64 T.q, .int .i64 T.n, .slice p1 T.base.length c1, .slice p2 T.swaps.length c2] := VRow.new w _ _
  go_enter Tryz.func46, Tryz.ntmps46
  go_wp2
  generalize (w.alloc (.cells #[.int .i64 T.q, .int .i64 T.n, .slice p1 T.base.length c1, .slice p2 T.swaps.length c2] 25)) = w0 at b0 hB0 ⊢
  have f3 := b0.at 3 rfl
  go_loop [7] (fun iv => ∃ k : Nat, k ≤ T.swaps.length ∧ iv = .int .i64 k ∧ Hid (∀ m (hm : m < T.swaps.length), m < k → mtS i j T.swaps[m] = false)) (fun iv => T.swaps.length - (intOf iv).toNat)
  case atStart => exact ⟨0, by omega, rfl, fun _ _ h => by omega⟩
  case round =>
    obtain ⟨k, hk, rfl, hj⟩ := hrel
    by_cases hlt : k < T.swaps.length
    · obtain ⟨b1, o1, rfl, hb1, e0, e1, e2⟩ := (hp.below hB0).get3 k hlt rfl
      have HN : Hid (mtS i j T.swaps[k] = false → ∀ m (hm : m < T.swaps.length), m < k + 1 → mtS i j T.swaps[m] = false) := fun h m hm h1 => by
        rcases Nat.lt_succ_iff_lt_or_eq.1 h1 with h3 | h3
        · exact hj.out m hm h3
        · subst h3; exact h
      by_cases h1 : T.swaps[k].i = i
      · by_cases h2' : T.swaps[k].j = j
        · have HH : Hid (swS T.swaps i j = T.swaps[k].wd) := by unfold Hid swS; rw [swapW_hit k hlt hj.out (by simp [mtS, h1, h2'])]; rfl
          have h1b : (T.swaps[k].i == i) = true := by simpa using h1
          have h2b : (T.swaps[k].j == j) = true := by simpa using h2'
          clear h1 h2'
          go_wp2
          go_ret
          exact ⟨ret_str HH.out.symm, hB0⟩
        · have HM := hidI (HN.out (by simp [mtS, h2']))
          have h2b : (T.swaps[k].j == j) = false := by simpa using h2'
          have h1b : (T.swaps[k].i == i) = true := by simpa using h1
          clear h1
          go_wp2
          go_round
          case rel => exact ⟨k + 1, by omega, by go_num, HM⟩
          case measure => simp [intOf]; omega
      · have HM := hidI (HN.out (by simp [mtS, h1]))
        have h1b : (T.swaps[k].i == i) = false := by simpa using h1
        go_wp2
        go_round
        case rel => exact ⟨k + 1, by omega, by go_num, HM⟩
        case measure => simp [intOf]; omega
    · have HH : Hid (swS T.swaps i j = ⟨#[]⟩) := by unfold Hid swS; rw [swapW_miss (fun m hm => hj.out m hm (by omega))]; rfl
      go_wp2
      go_ret
      exact ⟨ret_str HH.out.symm, hB0⟩

/-! ### Lists of numbers, asked by a function that only reads -/
set_option maxHeartbeats 400000 in
theorem indexI58_any (l : List Int) (f : Int → Bool) (B : Nat) (p : Option Addr) (c : Nat) (w : World) (hp : Sl w (Value.int .i64) p l) (hl : l.length ≤ 9223372036854775807)
    (hf : ∀ x, Calls Tryz.prog 33 #[.int .i64 x, .pointer (some ⟨B, 0, none⟩)] w fun e w' => e = .returned (.bool (f x)) ∧ w' = w) :
    Calls Tryz.prog 52 #[.slice p l.length c, .func (.func 33) #[] #[.pointer (some ⟨B, 0, none⟩)]] w fun e w' => e = .returned (.int .i64 (idxP f l)) ∧ w' = w := by
  go_enter Tryz.func52, Tryz.ntmps52
  go_wp2
  go_loop [8] (fun i => ∃ k : Nat, k ≤ l.length ∧ i = .int .i64 k ∧ Hid (∀ j (hj : j < l.length), j < k → f l[j] = false)) (fun i => l.length - (intOf i).toNat)
  case atStart => exact ⟨0, by omega, rfl, fun _ _ h => by omega⟩
  case round =>
    obtain ⟨k, hk, rfl, hj⟩ := hrel
    by_cases hlt : k < l.length
    · obtain ⟨b1, o1, rfl, hb1, hc1⟩ := hp.get k hlt
      have e1 := hc1 k hlt
      clear hc1
      have hfk := hf l[k]
      cases hh : f l[k]
      · rw [hh] at hfk
        have HH := hidI hh
        clear hh
        go_wp2_with (go_at_call 33; refine hfk.mono ?_; rintro e w' ⟨rfl, rfl⟩)
        go_round
        case rel => exact ⟨k + 1, by omega, by go_num, fun j h1 h2 => by
          rcases Nat.lt_succ_iff_lt_or_eq.1 h2 with h3 | h3
          · exact hj.out j h1 h3
          · subst h3; exact HH.out⟩
        case measure => simp [intOf]; omega
      · rw [hh] at hfk
        have HI := hidI (idxP_hit f l k hlt hj.out hh)
        clear hh
        go_wp2_with (go_at_call 33; refine hfk.mono ?_; rintro e w' ⟨rfl, rfl⟩)
        go_ret
        exact ⟨ret_int HI.out.symm, rfl⟩
    · have HM := hidI (idxP_miss f l (fun j h => hj.out j h (by omega)))
      go_wp2
      go_ret
      exact ⟨ret_int HM.out.symm, rfl⟩

set_option maxHeartbeats 400000 in
theorem containsI58_any (l : List Int) (f : Int → Bool) (B : Nat) (p : Option Addr) (c : Nat) (w : World) (hp : Sl w (Value.int .i64) p l) (hl : l.length ≤ 9223372036854775807)
    (hf : ∀ x, Calls Tryz.prog 33 #[.int .i64 x, .pointer (some ⟨B, 0, none⟩)] w fun e w' => e = .returned (.bool (f x)) ∧ w' = w) :
    Calls Tryz.prog 32 #[.slice p l.length c, .func (.func 33) #[] #[.pointer (some ⟨B, 0, none⟩)]] w fun e w' => e = .returned (.bool (l.any f)) ∧ w' = w := by
  have HA := hidI (idxP_any f l)
  go_enter Tryz.func32, Tryz.ntmps32
  go_wp2_with (go_at_call 52; refine (indexI58_any l f B p c _ hp hl hf).mono ?_; rintro e w' ⟨rfl, rfl⟩)
  go_ret
  exact ⟨ret_bool HA.out, rfl⟩

set_option maxHeartbeats 400000 in
theorem lkEncode1_any (x : Int) (N : Nat) (B : Nat) (p : Option Addr) (c : Nat) (w : World) (hb : w.cell? ⟨B, 2, none⟩ = some (.slice p N c)) :
    Calls Tryz.prog 33 #[.int .i64 x, .pointer (some ⟨B, 0, none⟩)] w fun e w' => e = .returned (.bool (outB N x)) ∧ w' = w := by
  go_enter Tryz.func33, Tryz.ntmps33
  go_wp2
  all_goals go_ret
  all_goals exact ⟨ret_bool (by unfold outB; first | rfl | (rw [Bool.eq_iff_iff]; simp; omega)), rfl⟩
end Go.Proofs.YtjponanfpdmeoaaGreatDoor
namespace Go.Proofs.YtjponanfpdmeoaaGreatDoor
open Go.RowKit

theorem infoInt : (Tryz.prog.info? 3).map (fun i => (i.zero, i.size, i.bytes)) = some (some (.int .i64 0), 1, 8) := by kernel_rfl
/-- A list of numbers in memory of the call's own. -/
def RetSl (r : List Int) (w : World) (e : Ending) (w' : World) : Prop := ∃ p c, e = .returned (.slice p r.length c) ∧ Sl w' (Value.int .i64) p r ∧ r.length ≤ c ∧ Below w.heap.size w w'
theorem RetSl.mk {r : List Int} {w w' : World} {B e n : Nat} {v : Value} {l : List Int} (h : w'.ownsRow B e 1 v n (l.map (Value.int .i64))) (hr : l = r) (hB : Below w.heap.size w w') : RetSl r w (.returned v) w' := by
  subst hr
  obtain ⟨p, c, rfl, hs⟩ := own_sl h
  exact ⟨p, c, rfl, hs, by have := own_cap h _ _ _ rfl; have := h.1; simp at this; omega, hB⟩
def u8v (b : UInt8) : Value := .int .u8 b.toNat
theorem picks_take {N : Nat} {l : List UInt8} {k : Nat} (h : k < l.length) : (picks N (l.take (k + 1))).map (Value.int .i64) = (picks N (l.take k)).map (Value.int .i64) ++ [.int .i64 ((l[k].toNat : Int) % N)] := by
  rw [List.take_succ_eq_append_getElem h]; unfold picks; rw [List.map_append, List.map_append]; rfl

/-! ### Swaps asked by a function -/
def swV (s : Sw) : Value := .agg #[.int .i64 s.i, .int .i64 s.j, .string s.wd]
def swIs (i j : Int) (s : Sw) : Bool := decide (s.i = i) && decide (s.j = j)
end Go.Proofs.YtjponanfpdmeoaaGreatDoor
namespace Go.Proofs.YtjponanfpdmeoaaGreatDoor
open Go.RowKit

theorem ret_si {a a' : ByteArray} {b b' : Int} (h : (a', b') = (a, b)) : Ending.returned (.tuple #[.string a, .int .i64 b]) = .returned (.tuple #[.string a', .int .i64 b']) := by
  obtain ⟨rfl, rfl⟩ := Prod.mk.inj h; rfl
def slLen : Value → Nat | .slice _ n _ => n | _ => 0
theorem sl_drop1 {α : Type} {w : World} {enc : α → Value} {b off : Nat} {l : List α} (h : Sl w enc (some ⟨b, off, none⟩) l) (k : Nat) (hl : k < l.length) : Sl w enc (some ⟨b, off + k, none⟩) (l.drop k) := by
  obtain ⟨b', off', hp, hb, hc⟩ := h.get 0 (by omega)
  cases hp
  exact .inr ⟨b, off + k, rfl, hb, fun i hi => by rw [Nat.add_assoc, hc (k + i) (by rw [List.length_drop] at hi; omega)]; simp⟩
theorem sl_adv {α : Type} {w : World} {enc : α → Value} {b off : Nat} {l : List α} {m : Nat} (h : Sl w enc (some ⟨b, off, none⟩) (l.drop m)) (k : Nat) : Sl w enc (some ⟨b, off + k, none⟩) (l.drop (m + k)) := by
  by_cases hl : k < (l.drop m).length
  · have := sl_drop1 h k hl
    rwa [List.drop_drop] at this
  · exact .inl (List.drop_eq_nil_of_le (by rw [List.length_drop] at hl; omega))
theorem sl_nil' {α : Type} {w : World} {enc : α → Value} {p : Option Addr} {l : List α} {m : Nat} (h : l.length ≤ m) : Sl w enc p (l.drop m) := .inl (List.drop_eq_nil_of_le h)
theorem isb_dr {T e : TypeId} {B b : Nat} {bs : List Value} {w w' : World} (h : Lib.IsBuilderF T e B b bs w) (hD : Dr w w') : Lib.IsBuilderF T e B b bs w' := by obtain ⟨k, rfl⟩ := hD; exact h
theorem bc_app (o : List UInt8) (s : ByteArray) : Lib.byteCells o ++ Lib.strCells s = Lib.byteCells (o ++ s.data.toList) := by simp [Lib.byteCells, Lib.strCells]
theorem swaps_ok2 {T : Tb} (h : fmd T = true) : ∀ j (hj : j < T.swaps.length), ok2 (T.swaps[j].i, T.swaps[j].j) := by
  intro j hj
  have h1 := allB_get (fmd_split h).2.1 j hj
  unfold sOk at h1
  rw [sget_eq _ _ hj] at h1
  have h2 := (Bool.and_eq_true_iff.1 h1).1
  simp [inB] at h2
  have hp := of_decide_eq_true (show preB T = true from (fmd_split h).1)
  exact ⟨WalkArith.wf_i64 (by simp; omega), WalkArith.wf_i64 (by simp; omega)⟩

set_option maxRecDepth 100000 in
set_option maxHeartbeats 4000000 in
theorem lkEncode_any (T : Tb) (p1 p2 : Option Addr) (c1 c2 : Nat) (l : List Int) (pl : Option Addr) (cl : Nat) (w : World) (hin : TbIn w T p1 p2 c1 c2) (hl : Sl w (Value.int .i64) pl l) (hln : l.length ≤ 1000) (hcl : l.length ≤ cl) :
    Calls Tryz.prog 15 #[.agg #[.int .i64 T.q, .int .i64 T.n, .slice p1 T.base.length c1, .slice p2 T.swaps.length c2], .slice pl l.length cl] w fun e w' => e = .returned (.tuple #[.string (encA T l).1, .int .i64 (encA T l).2]) ∧ Below w.heap.size w w' := by
  have hB0 : Below w.heap.size w (w.alloc (.cells #[.int .i64 T.q, .int .i64 T.n, .slice p1 T.base.length c1, .slice p2 T.swaps.length c2] 25)) := (Below.refl _ _).alloc (Nat.le_refl _) _
  have b0 : VRow (w.alloc (.cells #[.int .i64 T.q, .int .i64 T.n, .slice p1 T.base.length c1, .slice p2 T.swaps.length c2] 25)) w.heap.size 25 [.int .i64 T.q, .int .i64 T.n, .slice p1 T.base.length c1, .slice p2 T.swaps.length c2] := VRow.new w _ _
  cases hf : fmd T
  · have HF := hidI hf
    have HR := hidI (encA_bad l hf)
    clear hf
    go_enter Tryz.func15, Tryz.ntmps15
    go_wp2_with fail
    refine (lkFormed_any T p1 p2 c1 c2 _ (hin.below hB0)).mono ?_
    rintro e w1 ⟨rfl, hB1⟩
    rw [HF.out]
    go_wp2
    go_ret2
    exact ⟨ret_si HR.out, hB0.trans (hB1.mono hB0.size)⟩
  cases ho : l.any (outB T.base.length)
  · have HF := hidI hf
    have HO := hidI ho
    have HR := hidI (encA_ok hf ho)
    obtain ⟨n1, n2⟩ := fmd_bd hf
    have hm0 : 0 ≤ (l.length : Int) * T.n := Int.mul_nonneg (by omega) (by omega)
    have hm1 : (l.length : Int) * T.n ≤ 8000 := by
      have := Int.mul_le_mul (show (l.length : Int) ≤ 1000 by omega) n2 (by omega) (by omega)
      omega
    clear hf ho
    go_enter Tryz.func15, Tryz.ntmps15
    go_wp2_with fail
    refine (lkFormed_any T p1 p2 c1 c2 _ (hin.below hB0)).mono ?_
    rintro e w1 ⟨rfl, hB1⟩
    rw [HF.out]
    have hBa := hB0.trans (hB1.mono hB0.size)
    have hb1 := b0.below hB1 (by simp)
    have f0 := hb1.at 0 rfl; have f1 := hb1.at 1 rfl; have f2 := hb1.at 2 rfl; have f3 := hb1.at 3 rfl
    clear hB1 b0
    go_wp2_with fail
    refine (containsI58_any l (outB T.base.length) w.heap.size pl cl _ (hl.below hBa) (by omega) (fun x => lkEncode1_any x _ _ _ _ _ f2)).mono ?_
    rintro e w1 ⟨rfl, rfl⟩
    rw [HO.out]
    have q0 : IntKind.i64.wrap ((l.length : Int) * T.n) = (l.length : Int) * T.n := IntWalk.i64_in _ (by omega)
    go_wp2_with fail
    refine (lkPairs_any T p1 p2 c1 c2 _ (hin.swaps.below hBa) hin.l2 (swaps_ok2 HF.out)).mono ?_
    rintro e w2 ⟨rfl, hM, hB2⟩
    clear q0 hm0 hm1
    have hBb := hBa.trans (hB2.mono hBa.size)
    have hz1 : w.heap.size < w1.heap.size := hb1.lt
    have hb2 := hb1.below hB2 hz1
    have hz2 : w1.heap.size + 1 < w2.heap.size := hM.lt
    clear f0 f1 f2 f3 hb1
    have HLL := hidI hl
    have HIN := hidI hin
    go_wp2
    go_loopw [1] (fun iv wr => ∃ (m r : Nat) (p' : Option Addr) (c' : Nat) (o : List UInt8), m + r = l.length ∧ iv = .slice p' r c' ∧ Sl w (Value.int .i64) p' (l.drop m) ∧ r ≤ c' ∧ Hid (o ++ encB T (l.drop m) = encB T l) ∧ o.length ≤ 16 * m ∧
        Lib.IsBuilderF 67 5 w2.heap.size w2.heap.size (Lib.byteCells o) wr ∧ Below w2.heap.size w2 wr) (fun iv _ => slLen iv)
    case atStart =>
      refine ⟨0, l.length, pl, cl, [], by omega, rfl, HLL.out, hcl, rfl, by simp, ?_, (Below.refl _ _).alloc (Nat.le_refl _) _⟩
      exact Lib.IsBuilderF.of (.inl ⟨Nat.le_refl _, .slice none 0 0, World.alloc_heap_new _ _, World.ownsRow_nil _ _ _ _, by simp [Value.ownBlock]⟩)
    case round =>
      obtain ⟨m, r, p', c', o, hmr, rfl, hs, hrc, ho, hol, hbd, hB⟩ := hrel
      have hB3 := hBb.trans (hB.mono hBb.size)
      have hb3 := hb2.below hB (by omega)
      have hM3 : SwM T.swaps wr (w1.heap.size + 1) := hM.below hB hz2
      have f2 := hb3.at 2 rfl
      by_cases hr : 0 < r
      · have hml : m < l.length := by omega
        have hdl : (l.drop m).length = r := by rw [List.length_drop]; omega
        obtain ⟨b1, o1, rfl, hb1, hc1⟩ := (hs.below hB3).get 0 (by omega)
        have e0 := hc1 0 (by omega)
        simp only [List.getElem_drop, Nat.add_zero] at e0
        have ho0 := outB_f (any_f HO.out m hml)
        have hp16 := of_decide_eq_true (show preB T = true from (fmd_split HF.out).1)
        by_cases hr2 : 1 < r
        · have hml2 : m + 1 < l.length := by omega
          have e1 := hc1 1 (by omega)
          simp only [List.getElem_drop] at e1
          have ho1 := outB_f (any_f HO.out (m + 1) hml2)
          have hlk := fun a : Nat => Mp.look (hM3.drewN a) key2 Tryz.underlying49 (zeroStr (wr.drewN a)) (l[m], l[m + 1]) ⟨WalkArith.wf_i64 (by simp; omega), WalkArith.wf_i64 (by simp; omega)⟩ true
          simp only [swapF_eq HF.out] at hlk
          cases hsw : swapW T.swaps l[m] l[m + 1] with
          | some wd =>
            have HE := hidI (encB_swap T l m hml2 wd hsw)
            have HS := hidI (swapW_size HF.out hsw)
            simp only [hsw, if_true, k2] at hlk
            clear hsw hc1
            have hr0' : (0 : Int) < (r : Int) := by omega
            have hr1' : (1 : Int) < (r : Int) := by omega
            go_wp2_with fail
            (refine wp_region_quiet_lit (by kernel_rfl) (by kernel_rfl) ?_; (repeat (first | go_big_quiet_step (fail) | quiet_step (fail))); refine wpQuiet_nil ?_; intro _ hwq; obtain ⟨nq, hwq2⟩ := hwq; subst hwq2)
            have hbdq : Lib.IsBuilderF 67 5 w2.heap.size w2.heap.size (Lib.byteCells o) (wr.drewN nq) := hbd
            go_wp2_with fail
            refine (bwrite_any _ _ _ wd _ hbdq (by have := HS.out; simp [Lib.byteCells]; omega) hB.size).mono ?_
            rintro e w4 ⟨rfl, hbd4, hB4⟩
            have hs4 := HS.out
            have hB5 : Below w2.heap.size w2 w4 := (below_drewN hB nq).trans hB4
            rw [bc_app] at hbd4
            have HE2 : Hid ((o ++ wd.data.toList) ++ encB T (l.drop (m + 2)) = encB T l) := by unfold Hid; rw [List.append_assoc, ← HE.out]; exact ho.out
            by_cases hc2 : c' = 2
            · subst hc2
              go_wp2
              go_roundw
              case rel => exact ⟨m + 2, 0, _, _, o ++ wd.data.toList, by omega, rfl, sl_nil' (by omega), by omega, HE2, by rw [List.length_append]; simp; omega, .inr hbd4, hB5⟩
              case measure => simp [slLen]; omega
            · go_wp2
              go_roundw
              case rel => exact ⟨m + 2, r - 2, _, _, o ++ wd.data.toList, by omega, rfl, sl_adv hs 2, by omega, HE2, by rw [List.length_append]; simp; omega, .inr hbd4, hB5⟩
              case measure => simp [slLen]; omega
          | none =>
            have HE := hidI (encB_base T l m hml2 hsw)
            simp only [hsw, if_true] at hlk
            simp only [k2] at hlk
            clear hsw hc1
            have hr0' : (0 : Int) < (r : Int) := by omega
            have hr1' : (1 : Int) < (r : Int) := by omega
            go_wp2_with fail
            (refine wp_region_quiet_lit (by kernel_rfl) (by kernel_rfl) ?_; (repeat (first | go_big_quiet_step (fail) | quiet_step (fail))); refine wpQuiet_nil ?_; intro _ hwq; obtain ⟨nq, hwq2⟩ := hwq; subst hwq2)
            have HBX : Below w2.heap.size w2 (wr.drewN nq) := below_drewN hB nq
            have GE0 : (wr.drewN nq).cell? ⟨b1, o1, none⟩ = some (.int .i64 l[m]) := e0
            have GF2 : (wr.drewN nq).cell? ⟨w.heap.size, 2, none⟩ = some (.slice p1 T.base.length c1) := f2
            have HBDX : Lib.IsBuilderF 67 5 w2.heap.size w2.heap.size (Lib.byteCells o) (wr.drewN nq) := hbd
            clear e0 e1 f2 hlk
            go_wp2_with fail
            refine region_tail 7 (by kernel_rfl) (by kernel_rfl) fun W hD => ?_
            have hBW : Below w2.heap.size w2 W := HBX.trans (hD.below _)
            have g0 := (hD.cell _).trans GE0
            have g2 := (hD.cell _).trans GF2
            have hin0 : l[m].toNat < T.base.length := by omega
            obtain ⟨b3, o3, hp1, _, hc3⟩ := (HIN.out.base.below (hBb.trans (hBW.mono hBb.size))).get l[m].toNat hin0
            have g3 := hc3 l[m].toNat hin0
            rw [hp1] at g2
            clear hp1
            have HWD : Hid (baseW T l[m] = T.base[l[m].toNat]) := bget_eq _ _ hin0
            have HS := hidI (base_size HF.out l[m] ho0.1 ho0.2)
            rw [HWD.out] at HS HE
            have ho00 := ho0.1
            have ho01 := ho0.2
            clear hc3
            simp only [List.take_succ_cons, List.take_zero, List.drop_succ_cons, List.drop_zero]
            iterate 7 still_step
            refine wpStill_nil ?_
            have hbdW : Lib.IsBuilderF 67 5 w2.heap.size w2.heap.size (Lib.byteCells o) W := isb_dr HBDX hD
            go_wp2_with fail
            refine (bwrite_any _ _ _ T.base[l[m].toNat] _ hbdW (by have := HS.out; simp [Lib.byteCells]; omega) hBW.size).mono ?_
            rintro e w4 ⟨rfl, hbd4, hB4⟩
            have hs4 := HS.out
            have hB5 : Below w2.heap.size w2 w4 := hBW.trans hB4
            rw [bc_app] at hbd4
            have HE2 : Hid ((o ++ T.base[l[m].toNat].data.toList) ++ encB T (l.drop (m + 1)) = encB T l) := by unfold Hid; rw [List.append_assoc, ← HE.out]; exact ho.out
            clear g0 g2 g3 HBX GE0 GF2 HBDX
            by_cases hc2 : c' = 1
            · subst hc2
              go_wp2
              go_roundw
              case rel => exact ⟨m + 1, 0, _, _, o ++ T.base[l[m].toNat].data.toList, by omega, rfl, sl_nil' (by omega), by omega, HE2, by rw [List.length_append]; simp; omega, .inr hbd4, hB5⟩
              case measure => simp [slLen]; omega
            · go_wp2
              go_roundw
              case rel => exact ⟨m + 1, r - 1, _, _, o ++ T.base[l[m].toNat].data.toList, by omega, rfl, sl_adv hs 1, by omega, HE2, by rw [List.length_append]; simp; omega, .inr hbd4, hB5⟩
              case measure => simp [slLen]; omega
        · have HE := hidI (encB_one T l m hml (by omega))
          have hrd : decide ((1 : Int) < (r : Int)) = false := decide_eq_false (by omega)
          have hrd2 : decide (1 < r) = false := decide_eq_false (by omega)
          have hr0' : (0 : Int) < (r : Int) := by omega
          have HBX := hB
          have GE0 := e0
          have GF2 := f2
          have HBDX := hbd
          clear hc1 e0 f2
          go_wp2_with fail
          refine region_tail 7 (by kernel_rfl) (by kernel_rfl) fun W hD => ?_
          have hBW : Below w2.heap.size w2 W := HBX.trans (hD.below _)
          have g0 := (hD.cell _).trans GE0
          have g2 := (hD.cell _).trans GF2
          have hin0 : l[m].toNat < T.base.length := by omega
          obtain ⟨b3, o3, hp1, _, hc3⟩ := (HIN.out.base.below (hBb.trans (hBW.mono hBb.size))).get l[m].toNat hin0
          have g3 := hc3 l[m].toNat hin0
          rw [hp1] at g2
          clear hp1
          have HWD : Hid (baseW T l[m] = T.base[l[m].toNat]) := bget_eq _ _ hin0
          have HS := hidI (base_size HF.out l[m] ho0.1 ho0.2)
          rw [HWD.out] at HS HE
          have ho00 := ho0.1
          have ho01 := ho0.2
          clear hc3
          simp only [List.take_succ_cons, List.take_zero, List.drop_succ_cons, List.drop_zero]
          iterate 7 still_step
          refine wpStill_nil ?_
          have hbdW : Lib.IsBuilderF 67 5 w2.heap.size w2.heap.size (Lib.byteCells o) W := isb_dr HBDX hD
          go_wp2_with fail
          refine (bwrite_any _ _ _ T.base[l[m].toNat] _ hbdW (by have := HS.out; simp [Lib.byteCells]; omega) hBW.size).mono ?_
          rintro e w4 ⟨rfl, hbd4, hB4⟩
          have hs4 := HS.out
          have hB5 : Below w2.heap.size w2 w4 := hBW.trans hB4
          rw [bc_app] at hbd4
          have HE2 : Hid ((o ++ T.base[l[m].toNat].data.toList) ++ encB T (l.drop (m + 1)) = encB T l) := by unfold Hid; rw [List.append_assoc, ← HE.out]; exact ho.out
          clear g0 g2 g3 HBX GE0 GF2 HBDX
          by_cases hc2 : c' = 1
          · subst hc2
            go_wp2
            go_roundw
            case rel => exact ⟨m + 1, 0, _, _, o ++ T.base[l[m].toNat].data.toList, by omega, rfl, sl_nil' (by omega), by omega, HE2, by rw [List.length_append]; simp; omega, .inr hbd4, hB5⟩
            case measure => simp [slLen]; omega
          · go_wp2
            go_roundw
            case rel => exact ⟨m + 1, r - 1, _, _, o ++ T.base[l[m].toNat].data.toList, by omega, rfl, sl_adv hs 1, by omega, HE2, by rw [List.length_append]; simp; omega, .inr hbd4, hB5⟩
            case measure => simp [slLen]; omega
      · have hr00 : r = 0 := by omega
        have hml : m = l.length := by omega
        have HE : Hid (encB T l = o) := by unfold Hid; rw [← ho.out, hml, List.drop_length]; simp [encB]
        clear hml
        subst hr00
        go_wp2_with (go_at_call 35; refine (Tryz.Builder_String_any_f w2.heap.size w2.heap.size o _ hbd hB.size).mono ?_; rintro e w4 ⟨rfl, hbd4, hB4⟩)
        go_ret2
        have hB5 : Below w2.heap.size w2 w4 := hB.trans hB4
        exact ⟨ret_si (by rw [HR.out]; unfold encW; rw [HE.out]), hBb.trans (hB5.mono hBb.size)⟩
  · have HF := hidI hf
    have HO := hidI ho
    have HR := hidI (encA_out hf ho)
    clear hf ho
    go_enter Tryz.func15, Tryz.ntmps15
    go_wp2_with fail
    refine (lkFormed_any T p1 p2 c1 c2 _ (hin.below hB0)).mono ?_
    rintro e w1 ⟨rfl, hB1⟩
    rw [HF.out]
    have hBa := hB0.trans (hB1.mono hB0.size)
    have hb1 := b0.below hB1 (by simp)
    have f2 := hb1.at 2 rfl
    clear hB1 b0
    go_wp2_with fail
    refine (containsI58_any l (outB T.base.length) w.heap.size pl cl _ (hl.below hBa) (by omega) (fun x => lkEncode1_any x _ _ _ _ _ f2)).mono ?_
    rintro e w' ⟨rfl, rfl⟩
    rw [HO.out]
    go_wp2
    go_ret2
    exact ⟨ret_si HR.out, hBa⟩
end Go.Proofs.YtjponanfpdmeoaaGreatDoor
namespace Go.Proofs.YtjponanfpdmeoaaGreatDoor
open Go.RowKit

theorem any_t {α : Type} {f : α → Bool} {l : List α} (k : Nat) (hk : k < l.length) (h : f l[k] = true) : l.any f = true := List.any_eq_true.2 ⟨l[k], List.getElem_mem hk, h⟩
theorem any_n {α : Type} {f : α → Bool} {l : List α} (h : ∀ k (hk : k < l.length), f l[k] = false) : l.any f = false := by
  rw [List.any_eq_false]; intro x hx
  obtain ⟨k, hk, rfl⟩ := List.mem_iff_getElem.1 hx
  simp [h k hk]
theorem outB_lo {N : Nat} {a : Int} (h : a < 0) : outB N a = true := by simp [outB, h]
theorem outB_hi {N : Nat} {a : Int} (h : (N : Int) ≤ a) : outB N a = true := by simp [outB, h]
theorem outB_in {N : Nat} {a : Int} (h : 0 ≤ a) (h2 : a < N) : outB N a = false := by simp [outB]; omega

theorem ne_empty {s : ByteArray} (h : 0 < s.size) : s.toList.isEmpty = false := by
  cases hh : s.toList with
  | nil =>
    have : (s.toList == (⟨#[]⟩ : ByteArray).toList) = true := by rw [hh]; decide +kernel
    have := (Lib.bytes_beq_iff _ _).1 this
    subst this; exact absurd h (by decide)
  | cons a b => rfl

end Go.Proofs.YtjponanfpdmeoaaGreatDoor
