/-
  Words, plain lemmas and walks, merged: LkD, LkE, LkL, LkF, LkG, LkH, LkM.
-/
import Derived.Test.YtjpilmedlecdhaaGreatZxf
import Derived.Test.YtjpilmedlecdhaaGreatZxc
import Derived.Maps.AppendAt
import Derived.Lib.AppendZerosOnto
set_option linter.unusedVariables false
set_option linter.unusedSimpArgs false
namespace Go.Proofs.YtjpilmedlecdhaaGreat
open Go.RowKit

theorem check07_q (q : Int) (s : ByteArray) (w : World) (hs : s.size ≤ maxLen) :
    Calls Tryz.prog 58 #[.int .i64 q, .string s] w fun e w' => e = .returned (.int .i64 (wchk q s.data.toList)) ∧ w' = w := (check07_any q s w hs).mono fun _ _ ⟨a, b⟩ => ⟨a, b.symm⟩

theorem check07_r (q : Int) (s : ByteArray) (r : Int) (w : World) (hs : s.size ≤ maxLen) (hr : wchk q s.data.toList = r) :
    Calls Tryz.prog 58 #[.int .i64 q, .string s] w fun e w' => e = .returned (.int .i64 r) ∧ w' = w := by subst hr; exact check07_q q s w hs

set_option maxHeartbeats 400000 in
theorem rlkHas_q (l : List ByteArray) (N : Nat) (hN : l.length = N) (p : Option Addr) (c : Nat) (s : ByteArray) (m : Nat) (w : World) (hp : Sl w Value.string p l) (hl : N ≤ 9223372036854775807) (hm : m ≤ N) :
    Calls Tryz.prog 59 #[.slice p N c, .string s, .int .i64 m] w fun e w' => e = .returned (.bool ((l.take m).any (eqb s))) ∧ w' = w := by
  subst hN
  go_enter Tryz.func59, Tryz.ntmps59
  go_wp2
  go_loop [7] (fun i => ∃ k : Nat, k ≤ m ∧ i = .int .i64 k ∧ Hid (∀ j (hj : j < l.length), j < k → eqb s l[j] = false)) (fun i => m - (intOf i).toNat)
  case atStart => exact ⟨0, by omega, rfl, fun _ _ h => by omega⟩
  case round =>
    obtain ⟨k, hk, rfl, hj⟩ := hrel
    by_cases hlt : k < m
    · have hkl : k < l.length := by omega
      obtain ⟨b1, o1, rfl, hb1, hc1⟩ := hp.get k hkl
      have e1 := hc1 k hkl
      clear hc1
      by_cases he : l[k] = s
      · have hb := bts_t he
        have HI : Hid ((l.take m).any (eqb s) = true) := List.any_eq_true.2 ⟨l[k], List.mem_iff_getElem.2 ⟨k, by simp; omega, by simp⟩, eqb_t he.symm⟩
        clear he
        go_wp2
        go_ret
        exact ⟨ret_bool HI.out.symm, rfl⟩
      · have hb := bts_f he
        have HE := hidI he
        clear he
        go_wp2
        go_round
        case rel => exact ⟨k + 1, by omega, by go_num, fun j h1 h2 => by
          rcases Nat.lt_succ_iff_lt_or_eq.1 h2 with h3 | h3
          · exact hj.out j h1 h3
          · subst h3; exact eqb_f (fun e => HE.out e.symm)⟩
        case measure => simp [intOf]; omega
    · have HM : Hid ((l.take m).any (eqb s) = false) := List.any_eq_false.2 (fun x hx => by
        obtain ⟨i, hi, rfl⟩ := List.mem_iff_getElem.1 hx
        rw [List.length_take] at hi
        rw [List.getElem_take]
        simp [hj.out i (by omega) (by omega)])
      go_wp2
      go_ret
      exact ⟨ret_bool HM.out.symm, rfl⟩

theorem rlkHas_r (l : List ByteArray) (N : Nat) (hN : l.length = N) (p : Option Addr) (c : Nat) (s : ByteArray) (m : Nat) (r : Bool) (w : World) (hp : Sl w Value.string p l) (hl : N ≤ 9223372036854775807) (hm : m ≤ N) (hr : (l.take m).any (eqb s) = r) :
    Calls Tryz.prog 59 #[.slice p N c, .string s, .int .i64 m] w fun e w' => e = .returned (.bool r) ∧ w' = w := by subst hr; exact rlkHas_q l N hN p c s m w hp hl hm

set_option maxRecDepth 100000 in
set_option maxHeartbeats 2000000 in
theorem rlkFormed_pre (T : Tb) (p1 p2 : Option Addr) (c1 c2 : Nat) (w : World) (h1 : T.base.length ≤ 9223372036854775807) (h2 : T.swaps.length ≤ 9223372036854775807) (hpre : preB T = false) :
    Calls Tryz.prog 36 #[.agg #[.int .i64 T.q, .int .i64 T.n, .slice p1 T.base.length c1, .slice p2 T.swaps.length c2]] w fun e w' => e = .returned (.bool (fmd T)) ∧ Below w.heap.size w w' := by
  have HF := hidI (fmd_pre hpre)
  have HP : Hid (¬ (2 ≤ T.q ∧ T.q ≤ 16 ∧ 1 ≤ T.n ∧ T.n ≤ 8 ∧ 2 ≤ T.base.length ∧ T.base.length ≤ 16 ∧ T.swaps.length ≤ 64)) := fun h => by rw [pre_mk h] at hpre; cases hpre
  clear hpre
  go_enter Tryz.func36, Tryz.ntmps36
  go_wp2
  all_goals first
    | (exfalso; have := HP.out; omega)
    | (go_ret; exact ⟨ret_bool HF.out.symm, (Below.refl _ _).alloc (Nat.le_refl _) _⟩)

set_option maxRecDepth 100000 in
set_option maxHeartbeats 8000000 in
theorem rlkFormed_ok (T : Tb) (p1 p2 : Option Addr) (c1 c2 : Nat) (w : World) (hin : TbIn w T p1 p2 c1 c2) (hpre : preB T = true) :
    Calls Tryz.prog 36 #[.agg #[.int .i64 T.q, .int .i64 T.n, .slice p1 T.base.length c1, .slice p2 T.swaps.length c2]] w fun e w' => e = .returned (.bool (fmd T)) ∧ Below w.heap.size w w' := by
  obtain ⟨i0, hi0, hz0, hz1, hz2⟩ := info_parts infoStr
  have HPRE := hidI hpre
  obtain ⟨g1, g2, g3, g4, g5, g6, g7⟩ := pre_all hpre
  clear hpre
  have d1 : decide (T.q < 2) = false := decide_eq_false (by omega)
  have d2 : decide (16 < T.q) = false := decide_eq_false (by omega)
  have d3 : decide (T.n < 1) = false := decide_eq_false (by omega)
  have d4 : decide (8 < T.n) = false := decide_eq_false (by omega)
  have d5 : decide ((T.base.length : Int) < 2) = false := decide_eq_false (by omega)
  have d6 : decide ((16 : Int) < (T.base.length : Int)) = false := decide_eq_false (by omega)
  have d7 : decide ((64 : Int) < (T.swaps.length : Int)) = false := decide_eq_false (by omega)
  have b0 : VRow (w.alloc (.cells #[.int .i64 T.q, .int .i64 T.n, .slice p1 T.base.length c1, .slice p2 T.swaps.length c2] 25)) w.heap.size 25 [.int .i64 T.q, .int .i64 T.n, .slice p1 T.base.length c1, .slice p2 T.swaps.length c2] := VRow.new w _ _
  have hB0 : Below w.heap.size w (w.alloc (.cells #[.int .i64 T.q, .int .i64 T.n, .slice p1 T.base.length c1, .slice p2 T.swaps.length c2] 25)) := (Below.refl _ _).alloc (Nat.le_refl _) _
  go_enter Tryz.func36, Tryz.ntmps36
  go_wp2
  clear d1 d2 d3 d4 d5 d6 d7
  have HSZ0 : Hid ((w.alloc (.cells #[.int .i64 T.q, .int .i64 T.n, .slice p1 T.base.length c1, .slice p2 T.swaps.length c2] 25)).heap.size = w.heap.size + 1) := World.size_alloc _ _
  generalize (w.alloc (.cells #[.int .i64 T.q, .int .i64 T.n, .slice p1 T.base.length c1, .slice p2 T.swaps.length c2] 25)) = w0 at b0 hB0 HSZ0 ⊢
  go_loopw [3] (fun iv wr => ∃ k : Nat, k ≤ T.base.length ∧ iv = .int .i64 k ∧ Hid (∀ j, j < k → wOk T.q T.n T.base j = true) ∧ Dr w0 wr) (fun iv _ => T.base.length - (intOf iv).toNat)
  case atStart => exact ⟨0, by omega, rfl, fun _ h => by omega, Dr.refl _⟩
  case round =>
    obtain ⟨k, hk, rfl, hj, hD⟩ := hrel
    have hb := b0.dr hD
    have hB := hB0.trans (hD.below _)
    have f0 := hb.at 0 rfl; have f1 := hb.at 1 rfl; have f2 := hb.at 2 rfl; have f3 := hb.at 3 rfl
    by_cases hlt : k < T.base.length
    · have hp' := hin.base.below hB
      obtain ⟨bb, oo, rfl, hb1, hc1⟩ := hp'.get k hlt
      have e1 := hc1 k hlt
      clear hc1
      have hzk := hin.z1 k hlt
      have hg := hidI (bget_eq T.base k hlt)
      by_cases hs : (T.base[k].size : Int) = T.n
      · have HS := hidI hs
        by_cases hck : wchk T.q T.base[k].data.toList = 0
        · have HC := hidI hck
          cases hh : (T.base.take k).any (eqb T.base[k])
          · have HH := hidI hh
            have HW : Hid (wOk T.q T.n T.base k = true) := wOk_t (by rw [hg.out]; exact hs) (by rw [hg.out]; exact hck) (by rw [hg.out]; exact hh)
            clear hg hck hh
            go_wp2_with fail
            (refine wp_region_quiet_lit (by kernel_rfl) (by kernel_rfl) ?_; (repeat (first | go_big_quiet_step (first | (go_at_call 58; exact Calls.quiet_of_same (check07_r _ _ _ _ hzk HC.out)) | (go_at_call 59; exact Calls.quiet_of_same (rlkHas_r T.base _ rfl _ _ _ k _ _ hp' (by omega) (by omega) HH.out))) | quiet_step (first | (go_at_call 58; exact Calls.quiet_of_same (check07_r _ _ _ _ hzk HC.out)) | (go_at_call 59; exact Calls.quiet_of_same (rlkHas_r T.base _ rfl _ _ _ k _ _ hp' (by omega) (by omega) HH.out))))); refine wpQuiet_nil ?_; intro _ hwq; obtain ⟨nq, hwq2⟩ := hwq; subst hwq2)
            go_wp2
            go_roundw
            case rel => exact ⟨k + 1, by omega, by go_num, fun j h1 => by
              rcases Nat.lt_succ_iff_lt_or_eq.1 h1 with h3 | h3
              · exact hj.out j h3
              · subst h3; exact HW.out, hD.one _⟩
            case measure => simp [intOf]; omega
          · have HH := hidI hh
            have HF : Hid (fmd T = false) := fmd_base (allB_f k hlt (wOk_has (by rw [hg.out]; exact hh)))
            clear hg hck hh
            go_wp2_with fail
            (refine wp_region_quiet_lit (by kernel_rfl) (by kernel_rfl) ?_; (repeat (first | go_big_quiet_step (first | (go_at_call 58; exact Calls.quiet_of_same (check07_r _ _ _ _ hzk HC.out)) | (go_at_call 59; exact Calls.quiet_of_same (rlkHas_r T.base _ rfl _ _ _ k _ _ hp' (by omega) (by omega) HH.out))) | quiet_step (first | (go_at_call 58; exact Calls.quiet_of_same (check07_r _ _ _ _ hzk HC.out)) | (go_at_call 59; exact Calls.quiet_of_same (rlkHas_r T.base _ rfl _ _ _ k _ _ hp' (by omega) (by omega) HH.out))))); refine wpQuiet_nil ?_; intro _ hwq; obtain ⟨nq, hwq2⟩ := hwq; subst hwq2)
            go_wp2
            go_ret
            exact ⟨ret_bool HF.out.symm, below_drewN hB _⟩
        · have HC : Hid (wchk T.q T.base[k].data.toList = wchk T.q T.base[k].data.toList) := rfl
          have HF : Hid (fmd T = false) := fmd_base (allB_f k hlt (wOk_chk (by rw [hg.out]; exact hck)))
          clear hg
          go_wp2_with fail
          (refine wp_region_quiet_lit (by kernel_rfl) (by kernel_rfl) ?_; (repeat (first | go_big_quiet_step (first | (go_at_call 58; exact Calls.quiet_of_same (check07_r _ _ _ _ hzk rfl))) | quiet_step (first | (go_at_call 58; exact Calls.quiet_of_same (check07_r _ _ _ _ hzk rfl))))); refine wpQuiet_nil ?_; intro _ hwq; obtain ⟨nq, hwq2⟩ := hwq; subst hwq2)
          go_wp2
          go_ret
          exact ⟨ret_bool HF.out.symm, below_drewN hB _⟩
      · have HF : Hid (fmd T = false) := fmd_base (allB_f k hlt (wOk_len (by rw [hg.out]; exact hs)))
        have hsb : ((T.base[k].size : Int) == T.n) = false := by simpa using hs
        clear hg
        go_wp2_with fail
        (refine wp_region_quiet_lit (by kernel_rfl) (by kernel_rfl) ?_; (repeat (first | go_big_quiet_step (fail) | quiet_step (fail))); refine wpQuiet_nil ?_; intro _ hwq; obtain ⟨nq, hwq2⟩ := hwq; subst hwq2)
        go_wp2
        go_ret
        exact ⟨ret_bool HF.out.symm, below_drewN hB _⟩
    · have hbs : wsOk T.q T.n T.base = true := allB_t (fun j h => hj.out j (by omega))
      have HBS := hidI hbs
      have hz0' : w0.heap.size = w.heap.size + 1 := HSZ0.out
      have hzr : wr.heap.size = w.heap.size + 1 := by rw [hD.size]; exact hz0'
      have HSZ := hidI hzr
      clear hbs hj hz0' hzr
      go_wp2
      clear hlt hk
      go_loopw [4, 5] (fun wv iv wt => ∃ k : Nat, k ≤ T.swaps.length ∧ iv = .int .i64 k ∧ Hid (∀ j, j < k → sOk T.base.length T.swaps j = true ∧ wOk T.q (2 * T.n) (T.swaps.map Sw.wd) j = true) ∧ VRow wt w.heap.size 25 [.int .i64 T.q, .int .i64 T.n, .slice p1 T.base.length c1, .slice p2 T.swaps.length c2] ∧
          wt.ownsRow (w.heap.size + 1) 9 1 wv k ((((T.swaps.take k).map Sw.wd)).map Value.string) ∧ Below w.heap.size w wt) (fun _ iv _ => T.swaps.length - (intOf iv).toNat)
      case atStart =>
        refine ⟨0, by omega, rfl, fun _ h => by omega, hb.alloc _, ?_, hB.alloc hB.size _⟩
        exact World.ownsRow_made wr #[] 0 (Nat.le_of_eq HSZ.out.symm) (by simp [maxLen]) rfl
      case round =>
        clear hb hB f0 f1 f2 f3 hD b0 hB0
        obtain ⟨k, hk, rfl, hj, hb, hown, hB⟩ := hrel
        by_cases hlt : k < T.swaps.length
        · obtain ⟨b1, o1, rfl, hb1, e0, e1, e2⟩ := (hin.swaps.below hB).get3 k hlt rfl
          have f0 := hb.at 0 rfl; have f1 := hb.at 1 rfl; have f2 := hb.at 2 rfl; have f3 := hb.at 3 rfl
          have hsz := hb.lt
          have hzk := hin.z2 k hlt
          have hg := hidI (bget_map T.swaps k hlt)
          have HT := hidI (words_take T.swaps k hlt)
          cases hib : inB T.base.length T.swaps[k]
          · have HF : Hid (fmd T = false) := fmd_ss (allB_f k hlt (sOk_in hlt hib))
            have HIB : Hid (¬ (0 ≤ T.swaps[k].i ∧ T.swaps[k].i < T.base.length ∧ 0 ≤ T.swaps[k].j ∧ T.swaps[k].j < T.base.length)) := by intro h; simp [inB] at hib; omega
            clear hib
            go_wp2_with fail
            all_goals first
              | (exfalso; have := HIB.out; omega)
              | (go_ret; exact ⟨ret_bool HF.out.symm, hB.alloc hB.size _⟩)
          · have hib' : 0 ≤ T.swaps[k].i ∧ T.swaps[k].i < T.base.length ∧ 0 ≤ T.swaps[k].j ∧ T.swaps[k].j < T.base.length := by simpa [inB] using hib
            obtain ⟨i1, i2, i3, i4⟩ := hib'
            have HIB := hidI hib
            clear hib
            obtain ⟨q, d, hv, hsl⟩ := own_sl hown
            rw [List.length_map, List.length_take, Nat.min_eq_left (by omega)] at hv
            subst hv
            have hslW := hsl.below ((Below.refl wr.heap.size wr).alloc (Nat.le_refl _) (.cells #[.int .i64 T.swaps[k].i, .int .i64 T.swaps[k].j, .string T.swaps[k].wd] 53))
            have hkl : k < (T.swaps.map Sw.wd).length := by rw [List.length_map]; exact hlt
            by_cases hs : (T.swaps[k].wd.size : Int) = 2 * T.n
            · have hsb : ((T.swaps[k].wd.size : Int) == 2 * T.n) = true := by simpa using hs
              have HS := hidI hs
              clear hs
              by_cases hck : wchk T.q T.swaps[k].wd.data.toList = 0
              · have HC := hidI hck
                clear hck
                cases hh : ((T.swaps.take k).map Sw.wd).any (eqb T.swaps[k].wd)
                · have HH : Hid ((((T.swaps.take k).map Sw.wd).take k).any (eqb T.swaps[k].wd) = false) := by unfold Hid; rw [List.take_of_length_le (by rw [List.length_map, List.length_take]; omega)]; exact hh
                  have HW : Hid (wOk T.q (2 * T.n) (T.swaps.map Sw.wd) k = true) := wOk_t (by rw [hg.out]; exact HS.out) (by rw [hg.out]; exact HC.out) (by rw [hg.out, ← List.map_take]; exact hh)
                  clear hh
                  go_wp2_with (first | (go_at_call 58; refine (check07_r _ _ _ _ hzk HC.out).mono ?_; rintro e w' ⟨rfl, rfl⟩) | (go_at_call 59; refine (rlkHas_r ((T.swaps.take k).map Sw.wd) k (by rw [List.length_map, List.length_take]; omega) q d T.swaps[k].wd k _ _ hslW (by omega) (by omega) HH.out).mono ?_; rintro e w' ⟨rfl, rfl⟩))
                  rcases Nat.eq_zero_or_pos k with hk0 | hk0
                  · have hkd : decide ((0 : Int) < (k : Int)) = false := decide_eq_false (by omega)
                    have hkd2 : decide (0 < k) = false := decide_eq_false (by omega)
                    have HK : Hid (sOk T.base.length T.swaps k = true) := sOk_zero hlt HIB.out hk0
                    clear hk0
                    (refine wp_region_quiet_lit (by kernel_rfl) (by kernel_rfl) ?_; (repeat (first | go_big_quiet_step (fail) | quiet_step (fail))); refine wpQuiet_nil ?_; intro _ hwq; obtain ⟨nq, hwq2⟩ := hwq; subst hwq2)
                    have hownq : ((wr.alloc (.cells #[.int .i64 T.swaps[k].i, .int .i64 T.swaps[k].j, .string T.swaps[k].wd] 53)).drewN nq).ownsRow (w.heap.size + 1) 9 1 (.slice q (k) d) k (((T.swaps.take k).map Sw.wd).map Value.string) := hown.alloc _
                    have hBq : Below w.heap.size w ((wr.alloc (.cells #[.int .i64 T.swaps[k].i, .int .i64 T.swaps[k].j, .string T.swaps[k].wd] 53)).drewN nq) := below_drewN (hB.alloc hB.size _) nq
                    have hbq : VRow ((wr.alloc (.cells #[.int .i64 T.swaps[k].i, .int .i64 T.swaps[k].j, .string T.swaps[k].wd] 53)).drewN nq) w.heap.size 25 [.int .i64 T.q, .int .i64 T.n, .slice p1 T.base.length c1, .slice (some ⟨b1, o1, none⟩) T.swaps.length c2] := hb.alloc _
                    have hnew := cell_one_at ((wr.alloc (.cells #[.int .i64 T.swaps[k].i, .int .i64 T.swaps[k].j, .string T.swaps[k].wd] 53)).drewN nq) (.string T.swaps[k].wd) 9 (wr.heap.size + 1) (World.size_alloc _ _)
                    have HSZ1 : Hid (((wr.alloc (.cells #[.int .i64 T.swaps[k].i, .int .i64 T.swaps[k].j, .string T.swaps[k].wd] 53)).drewN nq).heap.size = wr.heap.size + 1) := World.size_alloc _ _
                    go_wp2_with (at_builtin; refine wpList_append_own _ rfl _ _ 22 rfl (w.heap.size + 1) 9 i0 (.string ⟨#[]⟩) 1 16 Tryz.underlying22 hi0 hz0 hz1 hz2 rfl (by decide) _ _ _ rfl (hownq.alloc _) ⟨wr.heap.size + 1, 0, none⟩ 1 1 [.string T.swaps[k].wd] rfl rfl hnew (by simp [Value.oneCell']) (by simp [maxLen]; omega) (by omega) (by rw [World.size_alloc, HSZ1.out]; omega) ?_; intro v' w1 hown' hgrow _)
                    go_roundw
                    case rel =>
                      refine ⟨k + 1, by omega, by go_num, fun j h1 => ?_, (hbq.alloc _).grown hgrow (fun e => by have := (hownq.lt _ e.symm).1; omega), by rw [HT.out]; exact hown', (hBq.alloc hBq.size _).grown hgrow (Nat.le_trans hBq.size (by simp)) (fun j e => Nat.le_of_succ_le (hownq.lt j e).1)⟩
                      rcases Nat.lt_succ_iff_lt_or_eq.1 h1 with h3 | h3
                      · exact hj.out j h3
                      · subst h3; exact ⟨HK.out, HW.out⟩
                    case measure => simp [intOf]; omega
                  · obtain ⟨m, rfl⟩ : ∃ m, k = m + 1 := ⟨k - 1, by omega⟩
                    obtain ⟨b1', o1', he, hb1', e3, e4, e5⟩ := (hin.swaps.below hB).get3 m (by omega) rfl
                    cases he
                    have m0 : (0 : Int) ≤ (m : Int) := by omega
                    have m1 : (m : Int) < (T.swaps.length : Int) := by omega
                    have q1 : IntKind.i64.wrap (m : Int) = (m : Int) := IntWalk.i64_in _ (by omega)
                    rcases lex_four T.swaps[m] T.swaps[m + 1] with ⟨l1, hl⟩ | ⟨l1, l2, hl⟩ | ⟨l1, hl⟩ | ⟨l1, l2, hl⟩
                    · have HK := hidI (sOk_pos hlt HIB.out hl)
                      have x1 : decide (T.swaps[m + 1].i < T.swaps[m].i) = false := decide_eq_false (by omega)
                      have x2 : (T.swaps[m + 1].i == T.swaps[m].i) = false := by simpa using (by omega : T.swaps[m + 1].i ≠ T.swaps[m].i)
                      have x3 : ¬ T.swaps[m + 1].i = T.swaps[m].i := by omega
                      clear hl l1
                      (refine wp_region_quiet_lit (by kernel_rfl) (by kernel_rfl) ?_; (repeat (first | go_big_quiet_step (fail) | quiet_step (fail))); refine wpQuiet_nil ?_; intro _ hwq; obtain ⟨nq, hwq2⟩ := hwq; subst hwq2)
                      clear q1 x1 x2 x3
                      have hownq : ((wr.alloc (.cells #[.int .i64 T.swaps[m + 1].i, .int .i64 T.swaps[m + 1].j, .string T.swaps[m + 1].wd] 53)).drewN nq).ownsRow (w.heap.size + 1) 9 1 (.slice q (m + 1) d) (m + 1) (((T.swaps.take (m + 1)).map Sw.wd).map Value.string) := hown.alloc _
                      have hBq : Below w.heap.size w ((wr.alloc (.cells #[.int .i64 T.swaps[m + 1].i, .int .i64 T.swaps[m + 1].j, .string T.swaps[m + 1].wd] 53)).drewN nq) := below_drewN (hB.alloc hB.size _) nq
                      have hbq : VRow ((wr.alloc (.cells #[.int .i64 T.swaps[m + 1].i, .int .i64 T.swaps[m + 1].j, .string T.swaps[m + 1].wd] 53)).drewN nq) w.heap.size 25 [.int .i64 T.q, .int .i64 T.n, .slice p1 T.base.length c1, .slice (some ⟨b1, o1, none⟩) T.swaps.length c2] := hb.alloc _
                      have hnew := cell_one_at ((wr.alloc (.cells #[.int .i64 T.swaps[m + 1].i, .int .i64 T.swaps[m + 1].j, .string T.swaps[m + 1].wd] 53)).drewN nq) (.string T.swaps[m + 1].wd) 9 (wr.heap.size + 1) (World.size_alloc _ _)
                      have HSZ1 : Hid (((wr.alloc (.cells #[.int .i64 T.swaps[m + 1].i, .int .i64 T.swaps[m + 1].j, .string T.swaps[m + 1].wd] 53)).drewN nq).heap.size = wr.heap.size + 1) := World.size_alloc _ _
                      go_wp2_with (at_builtin; refine wpList_append_own _ rfl _ _ 22 rfl (w.heap.size + 1) 9 i0 (.string ⟨#[]⟩) 1 16 Tryz.underlying22 hi0 hz0 hz1 hz2 rfl (by decide) _ _ _ rfl (hownq.alloc _) ⟨wr.heap.size + 1, 0, none⟩ 1 1 [.string T.swaps[m + 1].wd] rfl rfl hnew (by simp [Value.oneCell']) (by simp [maxLen]; omega) (by omega) (by rw [World.size_alloc, HSZ1.out]; omega) ?_; intro v' w1 hown' hgrow _)
                      go_roundw
                      case rel =>
                        refine ⟨m + 1 + 1, by omega, by go_num, fun j h1 => ?_, (hbq.alloc _).grown hgrow (fun e => by have := (hownq.lt _ e.symm).1; omega), by rw [HT.out]; exact hown', (hBq.alloc hBq.size _).grown hgrow (Nat.le_trans hBq.size (by simp)) (fun j e => Nat.le_of_succ_le (hownq.lt j e).1)⟩
                        rcases Nat.lt_succ_iff_lt_or_eq.1 h1 with h3 | h3
                        · exact hj.out j h3
                        · subst h3; exact ⟨HK.out, HW.out⟩
                      case measure => simp [intOf]; omega
                    · have HK := hidI (sOk_pos hlt HIB.out hl)
                      have x1 : decide (T.swaps[m + 1].i < T.swaps[m].i) = false := decide_eq_false (by omega)
                      have x2 : (T.swaps[m + 1].i == T.swaps[m].i) = true := by simpa using l1.symm
                      have x3 : T.swaps[m + 1].i = T.swaps[m].i := l1.symm
                      have x4 : decide (T.swaps[m + 1].j ≤ T.swaps[m].j) = false := decide_eq_false (by omega)
                      clear hl l1 l2
                      (refine wp_region_quiet_lit (by kernel_rfl) (by kernel_rfl) ?_; (repeat (first | go_big_quiet_step (fail) | quiet_step (fail))); refine wpQuiet_nil ?_; intro _ hwq; obtain ⟨nq, hwq2⟩ := hwq; subst hwq2)
                      clear q1 x1 x2 x3 x4
                      have hownq : ((wr.alloc (.cells #[.int .i64 T.swaps[m + 1].i, .int .i64 T.swaps[m + 1].j, .string T.swaps[m + 1].wd] 53)).drewN nq).ownsRow (w.heap.size + 1) 9 1 (.slice q (m + 1) d) (m + 1) (((T.swaps.take (m + 1)).map Sw.wd).map Value.string) := hown.alloc _
                      have hBq : Below w.heap.size w ((wr.alloc (.cells #[.int .i64 T.swaps[m + 1].i, .int .i64 T.swaps[m + 1].j, .string T.swaps[m + 1].wd] 53)).drewN nq) := below_drewN (hB.alloc hB.size _) nq
                      have hbq : VRow ((wr.alloc (.cells #[.int .i64 T.swaps[m + 1].i, .int .i64 T.swaps[m + 1].j, .string T.swaps[m + 1].wd] 53)).drewN nq) w.heap.size 25 [.int .i64 T.q, .int .i64 T.n, .slice p1 T.base.length c1, .slice (some ⟨b1, o1, none⟩) T.swaps.length c2] := hb.alloc _
                      have hnew := cell_one_at ((wr.alloc (.cells #[.int .i64 T.swaps[m + 1].i, .int .i64 T.swaps[m + 1].j, .string T.swaps[m + 1].wd] 53)).drewN nq) (.string T.swaps[m + 1].wd) 9 (wr.heap.size + 1) (World.size_alloc _ _)
                      have HSZ1 : Hid (((wr.alloc (.cells #[.int .i64 T.swaps[m + 1].i, .int .i64 T.swaps[m + 1].j, .string T.swaps[m + 1].wd] 53)).drewN nq).heap.size = wr.heap.size + 1) := World.size_alloc _ _
                      go_wp2_with (at_builtin; refine wpList_append_own _ rfl _ _ 22 rfl (w.heap.size + 1) 9 i0 (.string ⟨#[]⟩) 1 16 Tryz.underlying22 hi0 hz0 hz1 hz2 rfl (by decide) _ _ _ rfl (hownq.alloc _) ⟨wr.heap.size + 1, 0, none⟩ 1 1 [.string T.swaps[m + 1].wd] rfl rfl hnew (by simp [Value.oneCell']) (by simp [maxLen]; omega) (by omega) (by rw [World.size_alloc, HSZ1.out]; omega) ?_; intro v' w1 hown' hgrow _)
                      go_roundw
                      case rel =>
                        refine ⟨m + 1 + 1, by omega, by go_num, fun j h1 => ?_, (hbq.alloc _).grown hgrow (fun e => by have := (hownq.lt _ e.symm).1; omega), by rw [HT.out]; exact hown', (hBq.alloc hBq.size _).grown hgrow (Nat.le_trans hBq.size (by simp)) (fun j e => Nat.le_of_succ_le (hownq.lt j e).1)⟩
                        rcases Nat.lt_succ_iff_lt_or_eq.1 h1 with h3 | h3
                        · exact hj.out j h3
                        · subst h3; exact ⟨HK.out, HW.out⟩
                      case measure => simp [intOf]; omega
                    · have HF : Hid (fmd T = false) := fmd_ss (allB_f (m + 1) hlt ((sOk_succ hlt HIB.out).trans hl))
                      clear hl
                      (refine wp_region_quiet_lit (by kernel_rfl) (by kernel_rfl) ?_; (repeat (first | go_big_quiet_step (fail) | quiet_step (fail))); refine wpQuiet_nil ?_; intro _ hwq; obtain ⟨nq, hwq2⟩ := hwq; subst hwq2)
                      go_wp2
                      go_ret
                      exact ⟨ret_bool HF.out.symm, below_drewN (hB.alloc hB.size _) _⟩
                    · have HF : Hid (fmd T = false) := fmd_ss (allB_f (m + 1) hlt ((sOk_succ hlt HIB.out).trans hl))
                      have x1 : decide (T.swaps[m + 1].i < T.swaps[m].i) = false := decide_eq_false (by omega)
                      have x2 : (T.swaps[m + 1].i == T.swaps[m].i) = true := by simpa using l1.symm
                      have x3 : T.swaps[m + 1].i = T.swaps[m].i := l1.symm
                      clear hl l1
                      (refine wp_region_quiet_lit (by kernel_rfl) (by kernel_rfl) ?_; (repeat (first | go_big_quiet_step (fail) | quiet_step (fail))); refine wpQuiet_nil ?_; intro _ hwq; obtain ⟨nq, hwq2⟩ := hwq; subst hwq2)
                      go_wp2
                      go_ret
                      exact ⟨ret_bool HF.out.symm, below_drewN (hB.alloc hB.size _) _⟩
                · have HH : Hid ((((T.swaps.take k).map Sw.wd).take k).any (eqb T.swaps[k].wd) = true) := by unfold Hid; rw [List.take_of_length_le (by rw [List.length_map, List.length_take]; omega)]; exact hh
                  have HF : Hid (fmd T = false) := fmd_words (allB_f k hkl (wOk_has (by rw [hg.out, ← List.map_take]; exact hh)))
                  clear hh
                  go_wp2_with (first | (go_at_call 58; refine (check07_r _ _ _ _ hzk HC.out).mono ?_; rintro e w' ⟨rfl, rfl⟩) | (go_at_call 59; refine (rlkHas_r ((T.swaps.take k).map Sw.wd) k (by rw [List.length_map, List.length_take]; omega) q d T.swaps[k].wd k _ _ hslW (by omega) (by omega) HH.out).mono ?_; rintro e w' ⟨rfl, rfl⟩))
                  go_ret
                  exact ⟨ret_bool HF.out.symm, hB.alloc hB.size _⟩
              · have HC : Hid (wchk T.q T.swaps[k].wd.data.toList = wchk T.q T.swaps[k].wd.data.toList) := rfl
                have HF : Hid (fmd T = false) := fmd_words (allB_f k hkl (wOk_chk (by rw [hg.out]; exact hck)))
                go_wp2_with (go_at_call 58; refine (check07_r _ _ _ _ hzk HC.out).mono ?_; rintro e w' ⟨rfl, rfl⟩)
                go_ret
                exact ⟨ret_bool HF.out.symm, hB.alloc hB.size _⟩
            · have hsb : ((T.swaps[k].wd.size : Int) == 2 * T.n) = false := by simpa using hs
              have HF : Hid (fmd T = false) := fmd_words (allB_f k hkl (wOk_len (by rw [hg.out]; exact hs)))
              go_wp2_with fail
              go_ret
              exact ⟨ret_bool HF.out.symm, hB.alloc hB.size _⟩
        · obtain rfl : k = T.swaps.length := by omega
          have HF : Hid (fmd T = true) := (fmd_all HPRE.out (allB_t (fun j h => (hj.out j h).1)) HBS.out).trans (allB_t (fun j h => (hj.out j (by simpa using h)).2))
          have f3 := hb.at 3 rfl
          go_wp2
          go_ret
          exact ⟨ret_bool HF.out.symm, hB⟩

theorem rlkFormed_any (T : Tb) (p1 p2 : Option Addr) (c1 c2 : Nat) (w : World) (hin : TbIn w T p1 p2 c1 c2) :
    Calls Tryz.prog 36 #[.agg #[.int .i64 T.q, .int .i64 T.n, .slice p1 T.base.length c1, .slice p2 T.swaps.length c2]] w fun e w' => e = .returned (.bool (fmd T)) ∧ Below w.heap.size w w' := by
  cases h : preB T
  · exact rlkFormed_pre T p1 p2 c1 c2 w hin.l1 hin.l2 h
  · exact rlkFormed_ok T p1 p2 c1 c2 w hin h
end Go.Proofs.YtjpilmedlecdhaaGreat
namespace Go.Proofs.YtjpilmedlecdhaaGreat
open Go.RowKit

theorem ret_str {a b : ByteArray} (h : a = b) : Ending.returned (.string a) = .returned (.string b) := by rw [h]
def swS (l : List Sw) (i j : Int) : ByteArray := (swapW l i j).getD ⟨#[]⟩
set_option maxHeartbeats 1000000 in
theorem rlkSwap_any (T : Tb) (i j : Int) (p1 p2 : Option Addr) (c1 c2 : Nat) (w : World) (hp : Sg 3 w swE p2 T.swaps) (h2 : T.swaps.length ≤ 9223372036854775807) :
    Calls Tryz.prog 34 #[.agg #[.int .i64 T.q, .int .i64 T.n, .slice p1 T.base.length c1, .slice p2 T.swaps.length c2], .int .i64 i, .int .i64 j] w fun e w' => e = .returned (.string (swS T.swaps i j)) ∧ Below w.heap.size w w' := by
  have hB0 : Below w.heap.size w (w.alloc (.cells #[.int .i64 T.q, .int .i64 T.n, .slice p1 T.base.length c1, .slice p2 T.swaps.length c2] 25)) := (Below.refl _ _).alloc (Nat.le_refl _) _
  have b0 : VRow (w.alloc (.cells #[.int .i64 T.q, .int .i64 T.n, .slice p1 T.base.length c1, .slice p2 T.swaps.length c2] 25)) w.heap.size 25 [.int .i64 T.q, .int .i64 T.n, .slice p1 T.base.length c1, .slice p2 T.swaps.length c2] := VRow.new w _ _
  go_enter Tryz.func34, Tryz.ntmps34
  go_wp2
  generalize (w.alloc (.cells #[.int .i64 T.q, .int .i64 T.n, .slice p1 T.base.length c1, .slice p2 T.swaps.length c2] 25)) = w0 at b0 hB0 ⊢
  have f3 := b0.at 3 rfl
  go_loop [7] (fun iv => ∃ k : Nat, k ≤ T.swaps.length ∧ iv = .int .i64 k ∧ Hid (∀ m (hm : m < T.swaps.length), m < k → mtS i j T.swaps[m] = false)) (fun iv => T.swaps.length - (intOf iv).toNat)
  case atStart => exact ⟨0, by omega, rfl, fun _ _ h => by omega⟩
  case round =>
    obtain ⟨k, hk, rfl, hj⟩ := hrel
    by_cases hlt : k < T.swaps.length
    · obtain ⟨b1, o1, rfl, hb1, e0, e1, e2⟩ := (hp.below hB0).get3 k hlt rfl
      have HN : Hid (mtS i j T.swaps[k] = false → ∀ m (hm : m < T.swaps.length), m < k + 1 → mtS i j T.swaps[m] = false) := fun h m hm h1 => by
        rcases Nat.lt_succ_iff_lt_or_eq.1 h1 with h3 | h3
        · exact hj.out m hm h3
        · subst h3; exact h
      by_cases h1 : T.swaps[k].i = i
      · by_cases h2' : T.swaps[k].j = j
        · have HH : Hid (swS T.swaps i j = T.swaps[k].wd) := by unfold Hid swS; rw [swapW_hit k hlt hj.out (by simp [mtS, h1, h2'])]; rfl
          have h1b : (T.swaps[k].i == i) = true := by simpa using h1
          have h2b : (T.swaps[k].j == j) = true := by simpa using h2'
          clear h1 h2'
          go_wp2
          go_ret
          exact ⟨ret_str HH.out.symm, hB0⟩
        · have HM := hidI (HN.out (by simp [mtS, h2']))
          have h2b : (T.swaps[k].j == j) = false := by simpa using h2'
          have h1b : (T.swaps[k].i == i) = true := by simpa using h1
          clear h1
          go_wp2
          go_round
          case rel => exact ⟨k + 1, by omega, by go_num, HM⟩
          case measure => simp [intOf]; omega
      · have HM := hidI (HN.out (by simp [mtS, h1]))
        have h1b : (T.swaps[k].i == i) = false := by simpa using h1
        go_wp2
        go_round
        case rel => exact ⟨k + 1, by omega, by go_num, HM⟩
        case measure => simp [intOf]; omega
    · have HH : Hid (swS T.swaps i j = ⟨#[]⟩) := by unfold Hid swS; rw [swapW_miss (fun m hm => hj.out m hm (by omega))]; rfl
      go_wp2
      go_ret
      exact ⟨ret_str HH.out.symm, hB0⟩

/-! ### Lists of numbers, asked by a function that only reads -/
set_option maxHeartbeats 400000 in
theorem indexI58_any (l : List Int) (f : Int → Bool) (B : Nat) (p : Option Addr) (c : Nat) (w : World) (hp : Sl w (Value.int .i64) p l) (hl : l.length ≤ 9223372036854775807)
    (hf : ∀ x, Calls Tryz.prog 40 #[.int .i64 x, .pointer (some ⟨B, 0, none⟩)] w fun e w' => e = .returned (.bool (f x)) ∧ w' = w) :
    Calls Tryz.prog 61 #[.slice p l.length c, .func (.func 40) #[] #[.pointer (some ⟨B, 0, none⟩)]] w fun e w' => e = .returned (.int .i64 (idxP f l)) ∧ w' = w := by
  go_enter Tryz.func61, Tryz.ntmps61
  go_wp2
  go_loop [8] (fun i => ∃ k : Nat, k ≤ l.length ∧ i = .int .i64 k ∧ Hid (∀ j (hj : j < l.length), j < k → f l[j] = false)) (fun i => l.length - (intOf i).toNat)
  case atStart => exact ⟨0, by omega, rfl, fun _ _ h => by omega⟩
  case round =>
    obtain ⟨k, hk, rfl, hj⟩ := hrel
    by_cases hlt : k < l.length
    · obtain ⟨b1, o1, rfl, hb1, hc1⟩ := hp.get k hlt
      have e1 := hc1 k hlt
      clear hc1
      have hfk := hf l[k]
      cases hh : f l[k]
      · rw [hh] at hfk
        have HH := hidI hh
        clear hh
        go_wp2_with (go_at_call 40; refine hfk.mono ?_; rintro e w' ⟨rfl, rfl⟩)
        go_round
        case rel => exact ⟨k + 1, by omega, by go_num, fun j h1 h2 => by
          rcases Nat.lt_succ_iff_lt_or_eq.1 h2 with h3 | h3
          · exact hj.out j h1 h3
          · subst h3; exact HH.out⟩
        case measure => simp [intOf]; omega
      · rw [hh] at hfk
        have HI := hidI (idxP_hit f l k hlt hj.out hh)
        clear hh
        go_wp2_with (go_at_call 40; refine hfk.mono ?_; rintro e w' ⟨rfl, rfl⟩)
        go_ret
        exact ⟨ret_int HI.out.symm, rfl⟩
    · have HM := hidI (idxP_miss f l (fun j h => hj.out j h (by omega)))
      go_wp2
      go_ret
      exact ⟨ret_int HM.out.symm, rfl⟩

set_option maxHeartbeats 400000 in
theorem containsI58_any (l : List Int) (f : Int → Bool) (B : Nat) (p : Option Addr) (c : Nat) (w : World) (hp : Sl w (Value.int .i64) p l) (hl : l.length ≤ 9223372036854775807)
    (hf : ∀ x, Calls Tryz.prog 40 #[.int .i64 x, .pointer (some ⟨B, 0, none⟩)] w fun e w' => e = .returned (.bool (f x)) ∧ w' = w) :
    Calls Tryz.prog 39 #[.slice p l.length c, .func (.func 40) #[] #[.pointer (some ⟨B, 0, none⟩)]] w fun e w' => e = .returned (.bool (l.any f)) ∧ w' = w := by
  have HA := hidI (idxP_any f l)
  go_enter Tryz.func39, Tryz.ntmps39
  go_wp2_with (go_at_call 61; refine (indexI58_any l f B p c _ hp hl hf).mono ?_; rintro e w' ⟨rfl, rfl⟩)
  go_ret
  exact ⟨ret_bool HA.out, rfl⟩

set_option maxHeartbeats 400000 in
theorem lkEncode1_any (x : Int) (N : Nat) (B : Nat) (p : Option Addr) (c : Nat) (w : World) (hb : w.cell? ⟨B, 2, none⟩ = some (.slice p N c)) :
    Calls Tryz.prog 40 #[.int .i64 x, .pointer (some ⟨B, 0, none⟩)] w fun e w' => e = .returned (.bool (outB N x)) ∧ w' = w := by
  go_enter Tryz.func40, Tryz.ntmps40
  go_wp2
  all_goals go_ret
  all_goals exact ⟨ret_bool (by unfold outB; first | rfl | (rw [Bool.eq_iff_iff]; simp; omega)), rfl⟩
end Go.Proofs.YtjpilmedlecdhaaGreat
namespace Go.Proofs.YtjpilmedlecdhaaGreat
open Go.RowKit

theorem infoInt : (Tryz.prog.info? 3).map (fun i => (i.zero, i.size, i.bytes)) = some (some (.int .i64 0), 1, 8) := by kernel_rfl
/-- A list of numbers in memory of the call's own. -/
def RetSl (r : List Int) (w : World) (e : Ending) (w' : World) : Prop := ∃ p c, e = .returned (.slice p r.length c) ∧ Sl w' (Value.int .i64) p r ∧ r.length ≤ c ∧ Below w.heap.size w w'
theorem RetSl.mk {r : List Int} {w w' : World} {B e n : Nat} {v : Value} {l : List Int} (h : w'.ownsRow B e 1 v n (l.map (Value.int .i64))) (hr : l = r) (hB : Below w.heap.size w w') : RetSl r w (.returned v) w' := by
  subst hr
  obtain ⟨p, c, rfl, hs⟩ := own_sl h
  exact ⟨p, c, rfl, hs, by have := own_cap h _ _ _ rfl; have := h.1; simp at this; omega, hB⟩
def u8v (b : UInt8) : Value := .int .u8 b.toNat
theorem picks_take {N : Nat} {l : List UInt8} {k : Nat} (h : k < l.length) : (picks N (l.take (k + 1))).map (Value.int .i64) = (picks N (l.take k)).map (Value.int .i64) ++ [.int .i64 ((l[k].toNat : Int) % N)] := by
  rw [List.take_succ_eq_append_getElem h]; unfold picks; rw [List.map_append, List.map_append]; rfl

/-! ### Swaps asked by a function -/
def swV (s : Sw) : Value := .agg #[.int .i64 s.i, .int .i64 s.j, .string s.wd]
def swIs (i j : Int) (s : Sw) : Bool := decide (s.i = i) && decide (s.j = j)
end Go.Proofs.YtjpilmedlecdhaaGreat
namespace Go.Proofs.YtjpilmedlecdhaaGreat
open Go.RowKit

theorem ret_si {a a' : ByteArray} {b b' : Int} (h : (a', b') = (a, b)) : Ending.returned (.tuple #[.string a, .int .i64 b]) = .returned (.tuple #[.string a', .int .i64 b']) := by
  obtain ⟨rfl, rfl⟩ := Prod.mk.inj h; rfl
def slLen : Value → Nat | .slice _ n _ => n | _ => 0
theorem sl_drop1 {α : Type} {w : World} {enc : α → Value} {b off : Nat} {l : List α} (h : Sl w enc (some ⟨b, off, none⟩) l) (k : Nat) (hl : k < l.length) : Sl w enc (some ⟨b, off + k, none⟩) (l.drop k) := by
  obtain ⟨b', off', hp, hb, hc⟩ := h.get 0 (by omega)
  cases hp
  exact .inr ⟨b, off + k, rfl, hb, fun i hi => by rw [Nat.add_assoc, hc (k + i) (by rw [List.length_drop] at hi; omega)]; simp⟩
theorem sl_adv {α : Type} {w : World} {enc : α → Value} {b off : Nat} {l : List α} {m : Nat} (h : Sl w enc (some ⟨b, off, none⟩) (l.drop m)) (k : Nat) : Sl w enc (some ⟨b, off + k, none⟩) (l.drop (m + k)) := by
  by_cases hl : k < (l.drop m).length
  · have := sl_drop1 h k hl
    rwa [List.drop_drop] at this
  · exact .inl (List.drop_eq_nil_of_le (by rw [List.length_drop] at hl; omega))
theorem sl_nil' {α : Type} {w : World} {enc : α → Value} {p : Option Addr} {l : List α} {m : Nat} (h : l.length ≤ m) : Sl w enc p (l.drop m) := .inl (List.drop_eq_nil_of_le h)
theorem isb_dr {T e : TypeId} {B b : Nat} {bs : List Value} {w w' : World} (h : Lib.IsBuilderF T e B b bs w) (hD : Dr w w') : Lib.IsBuilderF T e B b bs w' := by obtain ⟨k, rfl⟩ := hD; exact h
theorem bc_app (o : List UInt8) (s : ByteArray) : Lib.byteCells o ++ Lib.strCells s = Lib.byteCells (o ++ s.data.toList) := by simp [Lib.byteCells, Lib.strCells]
theorem swaps_ok2 {T : Tb} (h : fmd T = true) : ∀ j (hj : j < T.swaps.length), ok2 (T.swaps[j].i, T.swaps[j].j) := by
  intro j hj
  have h1 := allB_get (fmd_split h).2.1 j hj
  unfold sOk at h1
  rw [sget_eq _ _ hj] at h1
  have h2 := (Bool.and_eq_true_iff.1 h1).1
  simp [inB] at h2
  have hp := of_decide_eq_true (show preB T = true from (fmd_split h).1)
  exact ⟨WalkArith.wf_i64 (by simp; omega), WalkArith.wf_i64 (by simp; omega)⟩

set_option maxRecDepth 100000 in
set_option maxHeartbeats 4000000 in
theorem lkEncode_any (T : Tb) (p1 p2 : Option Addr) (c1 c2 : Nat) (l : List Int) (pl : Option Addr) (cl : Nat) (w : World) (hin : TbIn w T p1 p2 c1 c2) (hl : Sl w (Value.int .i64) pl l) (hln : l.length ≤ 1000) (hcl : l.length ≤ cl) :
    Calls Tryz.prog 11 #[.agg #[.int .i64 T.q, .int .i64 T.n, .slice p1 T.base.length c1, .slice p2 T.swaps.length c2], .slice pl l.length cl] w fun e w' => e = .returned (.tuple #[.string (encA T l).1, .int .i64 (encA T l).2]) ∧ Below w.heap.size w w' := by
  have hB0 : Below w.heap.size w (w.alloc (.cells #[.int .i64 T.q, .int .i64 T.n, .slice p1 T.base.length c1, .slice p2 T.swaps.length c2] 25)) := (Below.refl _ _).alloc (Nat.le_refl _) _
  have b0 : VRow (w.alloc (.cells #[.int .i64 T.q, .int .i64 T.n, .slice p1 T.base.length c1, .slice p2 T.swaps.length c2] 25)) w.heap.size 25 [.int .i64 T.q, .int .i64 T.n, .slice p1 T.base.length c1, .slice p2 T.swaps.length c2] := VRow.new w _ _
  cases hf : fmd T
  · have HF := hidI hf
    have HR := hidI (encA_bad l hf)
    clear hf
    go_enter Tryz.func11, Tryz.ntmps11
    go_wp2_with fail
    refine (lkFormed_any T p1 p2 c1 c2 _ (hin.below hB0)).mono ?_
    rintro e w1 ⟨rfl, hB1⟩
    rw [HF.out]
    go_wp2
    go_ret2
    exact ⟨ret_si HR.out, hB0.trans (hB1.mono hB0.size)⟩
  cases ho : l.any (outB T.base.length)
  · have HF := hidI hf
    have HO := hidI ho
    have HR := hidI (encA_ok hf ho)
    obtain ⟨n1, n2⟩ := fmd_bd hf
    have hm0 : 0 ≤ (l.length : Int) * T.n := Int.mul_nonneg (by omega) (by omega)
    have hm1 : (l.length : Int) * T.n ≤ 8000 := by
      have := Int.mul_le_mul (show (l.length : Int) ≤ 1000 by omega) n2 (by omega) (by omega)
      omega
    clear hf ho
    go_enter Tryz.func11, Tryz.ntmps11
    go_wp2_with fail
    refine (lkFormed_any T p1 p2 c1 c2 _ (hin.below hB0)).mono ?_
    rintro e w1 ⟨rfl, hB1⟩
    rw [HF.out]
    have hBa := hB0.trans (hB1.mono hB0.size)
    have hb1 := b0.below hB1 (by simp)
    have f0 := hb1.at 0 rfl; have f1 := hb1.at 1 rfl; have f2 := hb1.at 2 rfl; have f3 := hb1.at 3 rfl
    clear hB1 b0
    go_wp2_with fail
    refine (containsI58_any l (outB T.base.length) w.heap.size pl cl _ (hl.below hBa) (by omega) (fun x => lkEncode1_any x _ _ _ _ _ f2)).mono ?_
    rintro e w1 ⟨rfl, rfl⟩
    rw [HO.out]
    have q0 : IntKind.i64.wrap ((l.length : Int) * T.n) = (l.length : Int) * T.n := IntWalk.i64_in _ (by omega)
    go_wp2_with fail
    refine (lkPairs_any T p1 p2 c1 c2 _ (hin.swaps.below hBa) hin.l2 (swaps_ok2 HF.out)).mono ?_
    rintro e w2 ⟨rfl, hM, hB2⟩
    clear q0 hm0 hm1
    have hBb := hBa.trans (hB2.mono hBa.size)
    have hz1 : w.heap.size < w1.heap.size := hb1.lt
    have hb2 := hb1.below hB2 hz1
    have hz2 : w1.heap.size + 1 < w2.heap.size := hM.lt
    clear f0 f1 f2 f3 hb1
    have HLL := hidI hl
    have HIN := hidI hin
    go_wp2
    go_loopw [1] (fun iv wr => ∃ (m r : Nat) (p' : Option Addr) (c' : Nat) (o : List UInt8), m + r = l.length ∧ iv = .slice p' r c' ∧ Sl w (Value.int .i64) p' (l.drop m) ∧ r ≤ c' ∧ Hid (o ++ encB T (l.drop m) = encB T l) ∧ o.length ≤ 16 * m ∧
        Lib.IsBuilderF 72 5 w2.heap.size w2.heap.size (Lib.byteCells o) wr ∧ Below w2.heap.size w2 wr) (fun iv _ => slLen iv)
    case atStart =>
      refine ⟨0, l.length, pl, cl, [], by omega, rfl, HLL.out, hcl, rfl, by simp, ?_, (Below.refl _ _).alloc (Nat.le_refl _) _⟩
      exact Lib.IsBuilderF.of (.inl ⟨Nat.le_refl _, .slice none 0 0, World.alloc_heap_new _ _, World.ownsRow_nil _ _ _ _, by simp [Value.ownBlock]⟩)
    case round =>
      obtain ⟨m, r, p', c', o, hmr, rfl, hs, hrc, ho, hol, hbd, hB⟩ := hrel
      have hB3 := hBb.trans (hB.mono hBb.size)
      have hb3 := hb2.below hB (by omega)
      have hM3 : SwM T.swaps wr (w1.heap.size + 1) := hM.below hB hz2
      have f2 := hb3.at 2 rfl
      by_cases hr : 0 < r
      · have hml : m < l.length := by omega
        have hdl : (l.drop m).length = r := by rw [List.length_drop]; omega
        obtain ⟨b1, o1, rfl, hb1, hc1⟩ := (hs.below hB3).get 0 (by omega)
        have e0 := hc1 0 (by omega)
        simp only [List.getElem_drop, Nat.add_zero] at e0
        have ho0 := outB_f (any_f HO.out m hml)
        have hp16 := of_decide_eq_true (show preB T = true from (fmd_split HF.out).1)
        by_cases hr2 : 1 < r
        · have hml2 : m + 1 < l.length := by omega
          have e1 := hc1 1 (by omega)
          simp only [List.getElem_drop] at e1
          have ho1 := outB_f (any_f HO.out (m + 1) hml2)
          have hlk := fun a : Nat => Mp.look (hM3.drewN a) key2 Tryz.underlying67 (zeroStr (wr.drewN a)) (l[m], l[m + 1]) ⟨WalkArith.wf_i64 (by simp; omega), WalkArith.wf_i64 (by simp; omega)⟩ true
          simp only [swapF_eq HF.out] at hlk
          cases hsw : swapW T.swaps l[m] l[m + 1] with
          | some wd =>
            have HE := hidI (encB_swap T l m hml2 wd hsw)
            have HS := hidI (swapW_size HF.out hsw)
            simp only [hsw, if_true, k2] at hlk
            clear hsw hc1
            have hr0' : (0 : Int) < (r : Int) := by omega
            have hr1' : (1 : Int) < (r : Int) := by omega
            go_wp2_with fail
            (refine wp_region_quiet_lit (by kernel_rfl) (by kernel_rfl) ?_; (repeat (first | go_big_quiet_step (fail) | quiet_step (fail))); refine wpQuiet_nil ?_; intro _ hwq; obtain ⟨nq, hwq2⟩ := hwq; subst hwq2)
            have hbdq : Lib.IsBuilderF 72 5 w2.heap.size w2.heap.size (Lib.byteCells o) (wr.drewN nq) := hbd
            go_wp2_with fail
            refine (bwrite_any _ _ _ wd _ hbdq (by have := HS.out; simp [Lib.byteCells]; omega) hB.size).mono ?_
            rintro e w4 ⟨rfl, hbd4, hB4⟩
            have hs4 := HS.out
            have hB5 : Below w2.heap.size w2 w4 := (below_drewN hB nq).trans hB4
            rw [bc_app] at hbd4
            have HE2 : Hid ((o ++ wd.data.toList) ++ encB T (l.drop (m + 2)) = encB T l) := by unfold Hid; rw [List.append_assoc, ← HE.out]; exact ho.out
            by_cases hc2 : c' = 2
            · subst hc2
              go_wp2
              go_roundw
              case rel => exact ⟨m + 2, 0, _, _, o ++ wd.data.toList, by omega, rfl, sl_nil' (by omega), by omega, HE2, by rw [List.length_append]; simp; omega, .inr hbd4, hB5⟩
              case measure => simp [slLen]; omega
            · go_wp2
              go_roundw
              case rel => exact ⟨m + 2, r - 2, _, _, o ++ wd.data.toList, by omega, rfl, sl_adv hs 2, by omega, HE2, by rw [List.length_append]; simp; omega, .inr hbd4, hB5⟩
              case measure => simp [slLen]; omega
          | none =>
            have HE := hidI (encB_base T l m hml2 hsw)
            simp only [hsw, if_true] at hlk
            simp only [k2] at hlk
            clear hsw hc1
            have hr0' : (0 : Int) < (r : Int) := by omega
            have hr1' : (1 : Int) < (r : Int) := by omega
            go_wp2_with fail
            (refine wp_region_quiet_lit (by kernel_rfl) (by kernel_rfl) ?_; (repeat (first | go_big_quiet_step (fail) | quiet_step (fail))); refine wpQuiet_nil ?_; intro _ hwq; obtain ⟨nq, hwq2⟩ := hwq; subst hwq2)
            have HBX : Below w2.heap.size w2 (wr.drewN nq) := below_drewN hB nq
            have GE0 : (wr.drewN nq).cell? ⟨b1, o1, none⟩ = some (.int .i64 l[m]) := e0
            have GF2 : (wr.drewN nq).cell? ⟨w.heap.size, 2, none⟩ = some (.slice p1 T.base.length c1) := f2
            have HBDX : Lib.IsBuilderF 72 5 w2.heap.size w2.heap.size (Lib.byteCells o) (wr.drewN nq) := hbd
            clear e0 e1 f2 hlk
            go_wp2_with fail
            refine region_tail 7 (by kernel_rfl) (by kernel_rfl) fun W hD => ?_
            have hBW : Below w2.heap.size w2 W := HBX.trans (hD.below _)
            have g0 := (hD.cell _).trans GE0
            have g2 := (hD.cell _).trans GF2
            have hin0 : l[m].toNat < T.base.length := by omega
            obtain ⟨b3, o3, hp1, _, hc3⟩ := (HIN.out.base.below (hBb.trans (hBW.mono hBb.size))).get l[m].toNat hin0
            have g3 := hc3 l[m].toNat hin0
            rw [hp1] at g2
            clear hp1
            have HWD : Hid (baseW T l[m] = T.base[l[m].toNat]) := bget_eq _ _ hin0
            have HS := hidI (base_size HF.out l[m] ho0.1 ho0.2)
            rw [HWD.out] at HS HE
            have ho00 := ho0.1
            have ho01 := ho0.2
            clear hc3
            simp only [List.take_succ_cons, List.take_zero, List.drop_succ_cons, List.drop_zero]
            iterate 7 still_step
            refine wpStill_nil ?_
            have hbdW : Lib.IsBuilderF 72 5 w2.heap.size w2.heap.size (Lib.byteCells o) W := isb_dr HBDX hD
            go_wp2_with fail
            refine (bwrite_any _ _ _ T.base[l[m].toNat] _ hbdW (by have := HS.out; simp [Lib.byteCells]; omega) hBW.size).mono ?_
            rintro e w4 ⟨rfl, hbd4, hB4⟩
            have hs4 := HS.out
            have hB5 : Below w2.heap.size w2 w4 := hBW.trans hB4
            rw [bc_app] at hbd4
            have HE2 : Hid ((o ++ T.base[l[m].toNat].data.toList) ++ encB T (l.drop (m + 1)) = encB T l) := by unfold Hid; rw [List.append_assoc, ← HE.out]; exact ho.out
            clear g0 g2 g3 HBX GE0 GF2 HBDX
            by_cases hc2 : c' = 1
            · subst hc2
              go_wp2
              go_roundw
              case rel => exact ⟨m + 1, 0, _, _, o ++ T.base[l[m].toNat].data.toList, by omega, rfl, sl_nil' (by omega), by omega, HE2, by rw [List.length_append]; simp; omega, .inr hbd4, hB5⟩
              case measure => simp [slLen]; omega
            · go_wp2
              go_roundw
              case rel => exact ⟨m + 1, r - 1, _, _, o ++ T.base[l[m].toNat].data.toList, by omega, rfl, sl_adv hs 1, by omega, HE2, by rw [List.length_append]; simp; omega, .inr hbd4, hB5⟩
              case measure => simp [slLen]; omega
        · have HE := hidI (encB_one T l m hml (by omega))
          have hrd : decide ((1 : Int) < (r : Int)) = false := decide_eq_false (by omega)
          have hrd2 : decide (1 < r) = false := decide_eq_false (by omega)
          have hr0' : (0 : Int) < (r : Int) := by omega
          have HBX := hB
          have GE0 := e0
          have GF2 := f2
          have HBDX := hbd
          clear hc1 e0 f2
          go_wp2_with fail
          refine region_tail 7 (by kernel_rfl) (by kernel_rfl) fun W hD => ?_
          have hBW : Below w2.heap.size w2 W := HBX.trans (hD.below _)
          have g0 := (hD.cell _).trans GE0
          have g2 := (hD.cell _).trans GF2
          have hin0 : l[m].toNat < T.base.length := by omega
          obtain ⟨b3, o3, hp1, _, hc3⟩ := (HIN.out.base.below (hBb.trans (hBW.mono hBb.size))).get l[m].toNat hin0
          have g3 := hc3 l[m].toNat hin0
          rw [hp1] at g2
          clear hp1
          have HWD : Hid (baseW T l[m] = T.base[l[m].toNat]) := bget_eq _ _ hin0
          have HS := hidI (base_size HF.out l[m] ho0.1 ho0.2)
          rw [HWD.out] at HS HE
          have ho00 := ho0.1
          have ho01 := ho0.2
          clear hc3
          simp only [List.take_succ_cons, List.take_zero, List.drop_succ_cons, List.drop_zero]
          iterate 7 still_step
          refine wpStill_nil ?_
          have hbdW : Lib.IsBuilderF 72 5 w2.heap.size w2.heap.size (Lib.byteCells o) W := isb_dr HBDX hD
          go_wp2_with fail
          refine (bwrite_any _ _ _ T.base[l[m].toNat] _ hbdW (by have := HS.out; simp [Lib.byteCells]; omega) hBW.size).mono ?_
          rintro e w4 ⟨rfl, hbd4, hB4⟩
          have hs4 := HS.out
          have hB5 : Below w2.heap.size w2 w4 := hBW.trans hB4
          rw [bc_app] at hbd4
          have HE2 : Hid ((o ++ T.base[l[m].toNat].data.toList) ++ encB T (l.drop (m + 1)) = encB T l) := by unfold Hid; rw [List.append_assoc, ← HE.out]; exact ho.out
          clear g0 g2 g3 HBX GE0 GF2 HBDX
          by_cases hc2 : c' = 1
          · subst hc2
            go_wp2
            go_roundw
            case rel => exact ⟨m + 1, 0, _, _, o ++ T.base[l[m].toNat].data.toList, by omega, rfl, sl_nil' (by omega), by omega, HE2, by rw [List.length_append]; simp; omega, .inr hbd4, hB5⟩
            case measure => simp [slLen]; omega
          · go_wp2
            go_roundw
            case rel => exact ⟨m + 1, r - 1, _, _, o ++ T.base[l[m].toNat].data.toList, by omega, rfl, sl_adv hs 1, by omega, HE2, by rw [List.length_append]; simp; omega, .inr hbd4, hB5⟩
            case measure => simp [slLen]; omega
      · have hr00 : r = 0 := by omega
        have hml : m = l.length := by omega
        have HE : Hid (encB T l = o) := by unfold Hid; rw [← ho.out, hml, List.drop_length]; simp [encB]
        clear hml
        subst hr00
        go_wp2_with (go_at_call 43; refine (Tryz.Builder_String_any_f w2.heap.size w2.heap.size o _ hbd hB.size).mono ?_; rintro e w4 ⟨rfl, hbd4, hB4⟩)
        go_ret2
        have hB5 : Below w2.heap.size w2 w4 := hB.trans hB4
        exact ⟨ret_si (by rw [HR.out]; unfold encW; rw [HE.out]), hBb.trans (hB5.mono hBb.size)⟩
  · have HF := hidI hf
    have HO := hidI ho
    have HR := hidI (encA_out hf ho)
    clear hf ho
    go_enter Tryz.func11, Tryz.ntmps11
    go_wp2_with fail
    refine (lkFormed_any T p1 p2 c1 c2 _ (hin.below hB0)).mono ?_
    rintro e w1 ⟨rfl, hB1⟩
    rw [HF.out]
    have hBa := hB0.trans (hB1.mono hB0.size)
    have hb1 := b0.below hB1 (by simp)
    have f2 := hb1.at 2 rfl
    clear hB1 b0
    go_wp2_with fail
    refine (containsI58_any l (outB T.base.length) w.heap.size pl cl _ (hl.below hBa) (by omega) (fun x => lkEncode1_any x _ _ _ _ _ f2)).mono ?_
    rintro e w' ⟨rfl, rfl⟩
    rw [HO.out]
    go_wp2
    go_ret2
    exact ⟨ret_si HR.out, hBa⟩
end Go.Proofs.YtjpilmedlecdhaaGreat
namespace Go.Proofs.YtjpilmedlecdhaaGreat
open Go.RowKit

theorem any_t {α : Type} {f : α → Bool} {l : List α} (k : Nat) (hk : k < l.length) (h : f l[k] = true) : l.any f = true := List.any_eq_true.2 ⟨l[k], List.getElem_mem hk, h⟩
theorem any_n {α : Type} {f : α → Bool} {l : List α} (h : ∀ k (hk : k < l.length), f l[k] = false) : l.any f = false := by
  rw [List.any_eq_false]; intro x hx
  obtain ⟨k, hk, rfl⟩ := List.mem_iff_getElem.1 hx
  simp [h k hk]
theorem outB_lo {N : Nat} {a : Int} (h : a < 0) : outB N a = true := by simp [outB, h]
theorem outB_hi {N : Nat} {a : Int} (h : (N : Int) ≤ a) : outB N a = true := by simp [outB, h]
theorem outB_in {N : Nat} {a : Int} (h : 0 ≤ a) (h2 : a < N) : outB N a = false := by simp [outB]; omega

theorem ne_empty {s : ByteArray} (h : 0 < s.size) : s.toList.isEmpty = false := by
  cases hh : s.toList with
  | nil =>
    have : (s.toList == (⟨#[]⟩ : ByteArray).toList) = true := by rw [hh]; decide +kernel
    have := (Lib.bytes_beq_iff _ _).1 this
    subst this; exact absurd h (by decide)
  | cons a b => rfl

end Go.Proofs.YtjpilmedlecdhaaGreat
namespace Go.Proofs.YtjpilmedlecdhaaGreat
open Go.RowKit

def okS (s : ByteArray) : Prop := s.size ≤ maxLen
theorem keyS : KeyBy Tryz.prog 9 Value.string okS where
  law := Maps.string_keyed Tryz.underlying9
  reads := fun a ha => ⟨.string a.data.toList, by simp [keyOf, mapKey, Tryz.underlying9]; exact ha⟩
  inj := fun a b _ _ h => by simpa using h
theorem zeroSlI (w : World) : (zeroValue 40).run Tryz.prog w = .ok (.slice none 0 0) w := by kernel_rfl
theorem infoI : (Tryz.prog.info? 3).map (fun i => (i.zero, i.size, i.bytes)) = some (some (.int .i64 0), 1, 8) := by kernel_rfl

theorem cell_turn {W w1 : World} {b : Nat} (h : W.mapTurned w1 b) {p : Addr} {v : Value} (hc : W.cell? p = some v) : w1.cell? p = some v := by
  obtain ⟨es, clock, es', clock', hb, rfl⟩ := h
  by_cases e : p.block = b
  · simp [World.cell?, e, hb] at hc
  · exact (World.cell?_of_block (ChangeMaps.heap_setBlock_other hb _ e)).trans hc
theorem Sl.turn {α : Type} {W w1 : World} {b : Nat} {enc : α → Value} {p : Option Addr} {l : List α} (h : Sl W enc p l) (ht : W.mapTurned w1 b) : Sl w1 enc p l := by
  rcases h with h | ⟨b', off, hp, hb, hc⟩
  · exact .inl h
  · exact .inr ⟨b', off, hp, Nat.lt_of_lt_of_le hb ht.grown.size, fun i hi => cell_turn ht (hc i hi)⟩
/-- Block b is a map of words to lists of numbers that answers as rd does. -/
def MapRd (b : Nat) (rd : ByteArray → Option (List Int)) (w : World) : Prop :=
  ∃ f : ByteArray → Option Value, Mp Value.string okS (fun v => v) w b f ∧ ∀ s, (rd s = none ∧ f s = none) ∨ ∃ l p c, rd s = some l ∧ f s = some (.slice p l.length c) ∧ Sl w (Value.int .i64) p l
theorem MapRd.made (w : World) : MapRd w.heap.size (fun _ => none) (w.alloc (.map #[] 0)) := ⟨_, Mp.made w, fun _ => .inl ⟨rfl, rfl⟩⟩
theorem MapRd.congr {b : Nat} {rd rd' : ByteArray → Option (List Int)} {w : World} (h : MapRd b rd w) (e : ∀ s, rd s = rd' s) : MapRd b rd' w := by
  have : rd = rd' := funext e
  exact this ▸ h
theorem MapRd.below {b : Nat} {rd : ByteArray → Option (List Int)} {w w' : World} (h : MapRd b rd w) (hB : Below w.heap.size w w') : MapRd b rd w' := by
  obtain ⟨f, hM, hf⟩ := h
  refine ⟨f, hM.below hB hM.lt, fun s => ?_⟩
  rcases hf s with h | ⟨l, p, c, h1, h2, h3⟩
  · exact .inl h
  · exact .inr ⟨l, p, c, h1, h2, h3.below hB⟩
theorem MapRd.put {b : Nat} {rd : ByteArray → Option (List Int)} {w w1 : World} {f : ByteArray → Option Value} (hf : ∀ s, (rd s = none ∧ f s = none) ∨ ∃ l p c, rd s = some l ∧ f s = some (.slice p l.length c) ∧ Sl w (Value.int .i64) p l)
    (k : ByteArray) {l : List Int} {p : Option Addr} {c : Nat} (hM : Mp Value.string okS (fun v => v) w1 b (mset f k (.slice p l.length c))) (ht : w.mapTurned w1 b) (hs : Sl w (Value.int .i64) p l) :
    MapRd b (fun s => if s = k then some l else rd s) w1 := by
  refine ⟨_, hM, fun s => ?_⟩
  by_cases e : s = k
  · exact .inr ⟨l, p, c, by simp [e], by simp [mset, e], hs.turn ht⟩
  · rcases hf s with h | ⟨l', p', c', h1, h2, h3⟩
    · exact .inl ⟨by simp [e, h.1], by simp [mset, e, h.2]⟩
    · exact .inr ⟨l', p', c', by simp [e, h1], by simp [mset, e, h2], h3.turn ht⟩
def rdB (T : Tb) (k : Nat) (s : ByteArray) : Option (List Int) := (baseF T.base s k).map (fun k => [k])
theorem rdB_succ (T : Tb) (k : Nat) (s : ByteArray) : (if s = bget T.base k then some [(k : Int)] else rdB T k s) = rdB T (k + 1) s := by
  unfold rdB; rw [baseF]; split <;> rfl
def rdS (T : Tb) (k : Nat) (s : ByteArray) : Option (List Int) := swF T.swaps s (bOf T s) k
theorem rdS_succ (T : Tb) (k : Nat) (s : ByteArray) : (if s = (sget T.swaps k).wd then some [(sget T.swaps k).i, (sget T.swaps k).j] else rdS T k s) = rdS T (k + 1) s := by
  unfold rdS; rw [swF]

theorem mod_nat {a : Nat} {n : Int} (hn : 1 ≤ n) (h : (a : Int) % n = 0) : a % n.toNat = 0 := by
  obtain ⟨m, rfl⟩ : ∃ m : Nat, n = m := ⟨n.toNat, by omega⟩
  rw [Int.toNat_natCast]; omega
theorem mod_nat_ne {a : Nat} {n : Int} (hn : 1 ≤ n) (h : (a : Int) % n ≠ 0) : a % n.toNat ≠ 0 := by
  obtain ⟨m, rfl⟩ : ∃ m : Nat, n = m := ⟨n.toNat, by omega⟩
  rw [Int.toNat_natCast]; omega
theorem news_sl {w : World} {b off : Nat} {l : List Int} (h : ∀ i (hi : i < l.length), w.cell? ⟨b, off + i, none⟩ = some (.int .i64 l[i])) : ∀ (j : Nat) (u : Value), (l.map (Value.int .i64))[j]? = some u → w.cell? ((⟨b, off, none⟩ : Addr).add j) = some u := by
  intro j u hu
  rw [List.getElem?_map, Option.map_eq_some_iff] at hu
  obtain ⟨x, hx, rfl⟩ := hu
  obtain ⟨hj, rfl⟩ := List.getElem?_eq_some_iff.1 hx
  rw [show ((⟨b, off, none⟩ : Addr).add j) = ⟨b, off + j, none⟩ from by unfold Addr.add; split <;> simp_all]; exact h j hj
theorem MapRd.look_hit {b : Nat} {rd : ByteArray → Option (List Int)} {w : World} (h : MapRd b rd w) (s : ByteArray) (hs : okS s) {l : List Int} (hl : rd s = some l) :
    ∃ p c, (Instr.lookup 81 (.map (some b)) (.string s) true).run Tryz.prog w = .ok (.tuple #[.slice p l.length c, .bool true]) w ∧ Sl w (Value.int .i64) p l := by
  obtain ⟨f, hM, hf⟩ := h
  rcases hf s with h | ⟨l', p, c, h1, h2, h3⟩
  · rw [h.1] at hl; cases hl
  · rw [h1] at hl; cases hl
    refine ⟨p, c, ?_, h3⟩
    have := Mp.look hM keyS Tryz.underlying81 (zeroSlI w) s hs true
    rw [h2] at this; exact this
theorem MapRd.look_miss {b : Nat} {rd : ByteArray → Option (List Int)} {w : World} (h : MapRd b rd w) (s : ByteArray) (hs : okS s) (hl : rd s = none) :
    (Instr.lookup 81 (.map (some b)) (.string s) true).run Tryz.prog w = .ok (.tuple #[.slice none 0 0, .bool false]) w := by
  obtain ⟨f, hM, hf⟩ := h
  rcases hf s with h | ⟨l', p, c, h1, h2, h3⟩
  · have := Mp.look hM keyS Tryz.underlying81 (zeroSlI w) s hs true
    rw [h.2] at this; exact this
  · rw [h1] at hl; cases hl
/-- A slice of numbers, and an error number, in memory of the call's own. -/
def RetSlI (r : List Int) (k : Int) (w : World) (e : Ending) (w' : World) : Prop :=
  ∃ q d, e = .returned (.tuple #[.slice q r.length d, .int .i64 k]) ∧ Sl w' (Value.int .i64) q r ∧ Below w.heap.size w w'
theorem RetSlI.mk {x : List Int × Int} {r' : List Int} {k' : Int} {w w' : World} {q : Option Addr} {d : Nat} (hr : x = (r', k')) (hs : Sl w' (Value.int .i64) q r') (hB : Below w.heap.size w w') :
    RetSlI x.1 x.2 w (.returned (.tuple #[.slice q r'.length d, .int .i64 k'])) w' := by
  subst hr; exact ⟨q, d, rfl, hs, hB⟩
theorem RetSlI.nil {x : List Int × Int} {k' : Int} {w w' : World} {q : Option Addr} {d : Nat} (hr : x = ([], k')) (hB : Below w.heap.size w w') :
    RetSlI x.1 x.2 w (.returned (.tuple #[.slice q 0 d, .int .i64 k'])) w' := by
  subst hr; exact ⟨q, d, rfl, Sl.nil _ _ _, hB⟩
theorem cur_one {a : Nat} {n : Int} (hn : 1 ≤ n) (h : (a : Int) % n = 0) (h0 : a ≠ 0) (h2 : ¬ 2 * n ≤ (a : Int)) : a = n.toNat := by
  have hd := Int.mul_ediv_add_emod (a : Int) n
  rw [h] at hd
  have h1 : 0 ≤ (a : Int) / n := Int.ediv_nonneg (by omega) (by omega)
  by_cases q : (a : Int) / n = 1
  · rw [q] at hd; omega
  · by_cases q0 : (a : Int) / n = 0
    · rw [q0] at hd; omega
    · have : n * 2 ≤ n * ((a : Int) / n) := Int.mul_le_mul_of_nonneg_left (by omega) (by omega)
      omega
def strLen : Value → Nat | .string s => s.size | _ => 0
set_option maxRecDepth 100000 in
set_option maxHeartbeats 4000000 in
theorem lkDecode_ok (T : Tb) (p1 p2 : Option Addr) (c1 c2 : Nat) (s : ByteArray) (w : World) (hin : TbIn w T p1 p2 c1 c2) (hs : s.size ≤ maxLen) (hf : fmd T = true) (hck : wchk T.q s.data.toList = 0) :
    Calls Tryz.prog 12 #[.agg #[.int .i64 T.q, .int .i64 T.n, .slice p1 T.base.length c1, .slice p2 T.swaps.length c2], .string s] w (RetSlI (decA T s).1 (decA T s).2 w) := by
  have hB0 : Below w.heap.size w (w.alloc (.cells #[.int .i64 T.q, .int .i64 T.n, .slice p1 T.base.length c1, .slice p2 T.swaps.length c2] 25)) := (Below.refl _ _).alloc (Nat.le_refl _) _
  have b0 : VRow (w.alloc (.cells #[.int .i64 T.q, .int .i64 T.n, .slice p1 T.base.length c1, .slice p2 T.swaps.length c2] 25)) w.heap.size 25 [.int .i64 T.q, .int .i64 T.n, .slice p1 T.base.length c1, .slice p2 T.swaps.length c2] := VRow.new w _ _
  obtain ⟨i0, hi0, hz0, hz1, hz3⟩ := info_parts infoI
  have HF := hidI hf
  have HC := hidI hck
  have hsz := wchk_long' T.q s hck
  obtain ⟨n1, n2⟩ := fmd_bd hf
  have HIN := hidI hin
  have hl1 := hin.l1
  have hl2 := hin.l2
  clear hf hck
  have hmm := @run_makeMap Tryz.prog
  go_enter Tryz.func12, Tryz.ntmps12
  go_wp2_with fail
  refine (lkFormed_any T p1 p2 c1 c2 _ (hin.below hB0)).mono ?_
  rintro e w1 ⟨rfl, hB1⟩
  rw [HF.out]
  have hBa := hB0.trans (hB1.mono hB0.size)
  have hb1 := b0.below hB1 (by simp)
  clear hB1 b0 hB0
  have f0 := hb1.at 0 rfl
  go_wp2_with fail
  refine (wcheck_any T.q s _ hs).mono ?_
  rintro e w2 ⟨rfl, hD⟩
  rw [HC.out]
  have hBb := hBa.trans (hD.below _)
  have hb2 := hb1.dr hD
  clear f0 hb1
  have f1 := hb2.at 1 rfl; have f2 := hb2.at 2 rfl; have f3 := hb2.at 3 rfl
  have hz2 := hb2.lt
  by_cases hmod : (s.size : Int) % T.n = 0
  · have hmodb : ((s.size : Int) % T.n == 0) = true := by simpa using hmod
    have hmodc : ((s.size : Int) % T.n != 0) = false := by simpa using hmod
    have HMOD := hidI hmod
    have HSM : Hid (s.size % T.n.toNat = 0) := mod_nat n1 hmod
    clear hmod
    go_wp2
    clear hmodb hmodc
    clear f1 f2 f3
    have hbM := (hb2.alloc (.map #[] 0))
    have hBM := hBb.alloc hBb.size (.map #[] 0)
    go_loopw [36] (fun iv wr => ∃ k : Nat, k ≤ T.base.length ∧ iv = .int .i64 k ∧ MapRd w2.heap.size (rdB T k) wr ∧ VRow wr w.heap.size 25 [.int .i64 T.q, .int .i64 T.n, .slice p1 T.base.length c1, .slice p2 T.swaps.length c2] ∧ Below w.heap.size w wr) (fun iv _ => T.base.length - (intOf iv).toNat)
    case atStart => exact ⟨0, by omega, rfl, MapRd.made w2, hbM, hBM⟩
    case round =>
      clear hbM hBM
      obtain ⟨k, hk, rfl, ⟨f, hM, hfr⟩, hb, hB⟩ := hrel
      by_cases hlt : k < T.base.length
      · obtain ⟨b3, o3, rfl, _, hc3⟩ := (HIN.out.base.below hB).get k hlt
        have e0 := hc3 k hlt
        have HG := hidI (bget_eq T.base k hlt)
        have hok : okS T.base[k] := HIN.out.z1 k hlt
        have HFR := hidI hfr
        clear hc3 hfr hin
        go_wp2_with (at_mapUpdate; refine wpList_update_mp rfl _ _ _ 81 rfl 40 keyS Tryz.underlying81 w2.heap.size f rfl (hM.alloc _) T.base[k] rfl hok (.slice (some ⟨wr.heap.size, 0, none⟩) 1 1) rfl ?_; intro w3 hM1 hturn)
        have hMR := MapRd.put (w := wr.alloc (.cells #[.int .i64 k] 3)) (l := [(k : Int)]) (f := f) (rd := rdB T k) (fun s => (HFR.out s).imp id (fun ⟨l, p, c, h1, h2, h3⟩ => ⟨l, p, c, h1, h2, h3.below ((Below.refl _ _).alloc (Nat.le_refl _) _)⟩)) T.base[k] hM1 hturn (Sl.of_vrow (VRow.new wr 3 [.int .i64 k]))
        go_roundw
        case rel => exact ⟨k + 1, by omega, by go_num, hMR.congr (fun s => by rw [← HG.out]; exact rdB_succ T k s), (hb.alloc _).grown hturn.grown (fun e => by have := Option.some.inj e; omega), (hB.alloc hB.size _).grown hturn.grown (Nat.le_trans hB.size (by simp)) (fun j e => by have := Option.some.inj e; omega)⟩
        case measure => simp [intOf]; omega
      · obtain rfl : k = T.base.length := by omega
        have hMR0 : MapRd w2.heap.size (rdS T 0) wr := ⟨f, hM, hfr⟩
        clear hfr hM
        have f3 := hb.at 3 rfl
        go_wp2
        clear hlt hk f3
        go_loopw [49] (fun iv wr => ∃ k : Nat, k ≤ T.swaps.length ∧ iv = .int .i64 k ∧ MapRd w2.heap.size (rdS T k) wr ∧ VRow wr w.heap.size 25 [.int .i64 T.q, .int .i64 T.n, .slice p1 T.base.length c1, .slice p2 T.swaps.length c2] ∧ Below w.heap.size w wr) (fun iv _ => T.swaps.length - (intOf iv).toNat)
        case atStart => exact ⟨0, by omega, rfl, hMR0, hb, hB⟩
        case round =>
          clear hMR0 hb hB
          obtain ⟨k, hk, rfl, ⟨f, hM, hfr⟩, hb, hB⟩ := hrel
          by_cases hlt : k < T.swaps.length
          · obtain ⟨b3, o3, rfl, hb3, e0, e1, e2⟩ := (HIN.out.swaps.below hB).get3 k hlt rfl
            have HG := hidI (sget_eq T.swaps k hlt)
            have hok : okS T.swaps[k].wd := HIN.out.z2 k hlt
            have HFR := hidI hfr
            clear hfr
            go_wp2_with (at_mapUpdate; refine wpList_update_mp rfl _ _ _ 81 rfl 40 keyS Tryz.underlying81 w2.heap.size f rfl ((hM.alloc _).alloc _) T.swaps[k].wd rfl hok (.slice (some ⟨wr.heap.size + 1, 0, none⟩) 2 2) rfl ?_; intro w3 hM1 hturn)
            have hv2 := (VRow.new1 wr (.cells #[.int .i64 T.swaps[k].i, .int .i64 T.swaps[k].j, .string T.swaps[k].wd] 53) 3 [.int .i64 T.swaps[k].i, .int .i64 T.swaps[k].j])
            have hBn : Below wr.heap.size wr ((wr.alloc (.cells #[.int .i64 T.swaps[k].i, .int .i64 T.swaps[k].j, .string T.swaps[k].wd] 53)).alloc (.cells #[.int .i64 T.swaps[k].i, .int .i64 T.swaps[k].j] 3)) := ((Below.refl _ _).alloc (Nat.le_refl _) _).alloc (by simp) _
            have hMR := MapRd.put (w := (wr.alloc (.cells #[.int .i64 T.swaps[k].i, .int .i64 T.swaps[k].j, .string T.swaps[k].wd] 53)).alloc (.cells #[.int .i64 T.swaps[k].i, .int .i64 T.swaps[k].j] 3)) (l := [T.swaps[k].i, T.swaps[k].j]) (f := f) (rd := rdS T k)
              (fun s => (HFR.out s).imp id (fun ⟨l, p, c, h1, h2, h3⟩ => ⟨l, p, c, h1, h2, h3.below hBn⟩)) T.swaps[k].wd hM1 hturn (Sl.of_vrow hv2)
            go_roundw
            case rel => exact ⟨k + 1, by omega, by go_num, hMR.congr (fun s => by rw [← HG.out]; exact rdS_succ T k s), ((hb.alloc _).alloc _).grown hturn.grown (fun e => by have := Option.some.inj e; omega), ((hB.alloc hB.size _).alloc (Nat.le_trans hB.size (by simp)) _).grown hturn.grown (Nat.le_trans hB.size (by simp; omega)) (fun j e => by have := Option.some.inj e; omega)⟩
            case measure => simp [intOf]; omega
          · obtain rfl : k = T.swaps.length := by omega
            have hMR : MapRd w2.heap.size (rdF T) wr := ⟨f, hM, hfr⟩
            have f3 := hb.at 3 rfl
            clear hfr hM
            go_wp2
            clear hlt hk f3
            have hzb : w2.heap.size < wr.heap.size := by obtain ⟨f, hM, _⟩ := hMR; exact hM.lt
            have HMR := hidI hMR
            have HBX := hidI hb
            have HB := hidI hB
            clear hMR hb hB
            obtain ⟨wl, rfl⟩ : ∃ wl : World, wl = wr := ⟨_, rfl⟩
            go_loopw [1, 12] (fun cv ov wr => ∃ (cur : ByteArray) (out : List Int), cv = .string cur ∧ Hid ((decF T cur).map (out ++ ·) = decF T s) ∧ (cur.size : Int) % T.n = 0 ∧ out.length + 2 * cur.size ≤ 2 * s.size ∧ cur.size ≤ 65536 ∧
                wr.ownsRow wl.heap.size 3 1 ov out.length (out.map (Value.int .i64)) ∧ Below wl.heap.size wl wr) (fun cv _ _ => strLen cv)
            case atStart => exact ⟨s, [], rfl, by unfold Hid; simp, HMOD.out, by simp, hsz, World.ownsRow_nil _ _ _ _, Below.refl _ _⟩
            case round =>
              obtain ⟨cur, out, rfl, hd, hcm, hol, hcz, hown, hB⟩ := hrel
              have hMR := HMR.out.below hB
              have hbx := HBX.out.below hB HBX.out.lt
              have f1 := hbx.at 1 rfl
              by_cases h0 : cur.size = 0
              · obtain ⟨d0⟩ := cur
                have : d0 = #[] := Array.eq_empty_of_size_eq_zero h0
                subst this
                have HR : Hid (decA T s = (out, 0)) := decA_ok HF.out HC.out HSM.out (by rw [← hd.out, decF_nil T h0]; simp)
                obtain ⟨q, d, rfl, hsl⟩ := own_sl hown
                go_wp2
                go_ret2
                exact RetSlI.mk HR.out hsl (HB.out.trans (hB.mono HB.out.size))
              · have hne : cur.toList.isEmpty = false := ne_empty (by omega)
                have hn0 : 0 < T.n.toNat := by omega
                have okx : ∀ k : Nat, okS (cur.extract 0 k) := fun k => by unfold okS maxLen; rw [ByteArray.size_extract]; omega
                by_cases h2 : 2 * T.n ≤ (cur.size : Int)
                · have hmin : min (2 * T.n) (cur.size : Int) = 2 * T.n := by omega
                  have ht2 : (2 * T.n).toNat = 2 * T.n.toNat := by omega
                  cases hr1 : rdF T (cur.extract 0 (2 * T.n.toNat)) with
                  | some l1 =>
                    have hl1 := rdF_len hr1
                    obtain ⟨p, c, hlk, hsl⟩ := MapRd.look_hit hMR _ (okx _) hr1
                    rw [← ht2] at hlk
                    have HT2 := hidI ht2
                    clear ht2 hMR
                    obtain ⟨b4, o4, rfl, _, hc4⟩ := hsl.get 0 hl1.1
                    have hnew : ∀ (j : Nat) (u : Value), (l1.map (Value.int .i64))[j]? = some u → wr.cell? ((⟨b4, o4, none⟩ : Addr).add j) = some u := news_sl hc4
                    have HDS := hidI (decF_on hd.out (by rw [HT2.out]; exact decF_step hn0 h0 (by omega) (step_swap (by omega) hr1) : decF T cur = (decF T (cur.extract (2 * T.n).toNat cur.size)).map (l1 ++ ·)))
                    have HSZ := hidI (ext_size cur (2 * T.n).toNat)
                    have hcm2 : ((cur.size : Int) - (2 * T.n)) % T.n = 0 := mod_sub hcm (by simp)
                    have HCM := hidI hcm2
                    clear hc4 hcm2
                    go_wp2_with (at_builtin; refine wpList_append_own _ rfl _ _ 40 rfl wl.heap.size 3 i0 (.int .i64 0) 1 8 Tryz.underlying40 hi0 hz0 hz1 hz3 rfl (by decide) _ _ _ rfl hown ⟨b4, o4, none⟩ l1.length c (l1.map (Value.int .i64)) rfl (by simp) hnew (by simp [Value.oneCell']) (by simp [maxLen]; omega) (by omega) hB.size ?_; intro v' w5 hown' hgrow _)
                    go_roundw
                    case rel =>
                      refine ⟨cur.extract (2 * T.n).toNat cur.size, out ++ l1, rfl, HDS, ?_, ?_, ?_, by rw [List.length_append, List.map_append]; exact hown', hB.grown hgrow hB.size (fun j e => (hown.lt j e).1)⟩
                      · rw [HSZ.out, Int.natCast_sub (by omega), show (((2 * T.n).toNat : Nat) : Int) = 2 * T.n by omega]; exact HCM.out
                      · rw [List.length_append, HSZ.out]; omega
                      · rw [HSZ.out]; omega
                    case measure => simp [strLen]; omega
                  | none =>
                    have hlk := MapRd.look_miss hMR _ (okx _) hr1
                    rw [← ht2] at hlk
                    have HT2 := hidI ht2
                    clear ht2
                    cases hr2 : rdF T (cur.extract 0 T.n.toNat) with
                    | some l1 =>
                      have hl1 := rdF_len hr2
                      obtain ⟨p, c, hlk2, hsl⟩ := MapRd.look_hit hMR _ (okx _) hr2
                      clear hMR
                      obtain ⟨b4, o4, rfl, _, hc4⟩ := hsl.get 0 hl1.1
                      have hnew : ∀ (j : Nat) (u : Value), (l1.map (Value.int .i64))[j]? = some u → wr.cell? ((⟨b4, o4, none⟩ : Addr).add j) = some u := news_sl hc4
                      have HDS := hidI (decF_on hd.out (decF_step hn0 h0 hn0 ((step_base (fun _ => hr1)).trans (by rw [hr2]; rfl))))
                      have HSZ := hidI (ext_size cur (T.n).toNat)
                      have hcm2 : ((cur.size : Int) - (T.n)) % T.n = 0 := mod_sub hcm (by simp)
                      have HCM := hidI hcm2
                      clear hc4 hcm2
                      go_wp2_with (at_builtin; refine wpList_append_own _ rfl _ _ 40 rfl wl.heap.size 3 i0 (.int .i64 0) 1 8 Tryz.underlying40 hi0 hz0 hz1 hz3 rfl (by decide) _ _ _ rfl hown ⟨b4, o4, none⟩ l1.length c (l1.map (Value.int .i64)) rfl (by simp) hnew (by simp [Value.oneCell']) (by simp [maxLen]; omega) (by omega) hB.size ?_; intro v' w5 hown' hgrow _)
                      go_roundw
                      case rel =>
                        refine ⟨cur.extract (T.n).toNat cur.size, out ++ l1, rfl, HDS, ?_, ?_, ?_, by rw [List.length_append, List.map_append]; exact hown', hB.grown hgrow hB.size (fun j e => (hown.lt j e).1)⟩
                        · rw [HSZ.out, Int.natCast_sub (by omega), show (((T.n).toNat : Nat) : Int) = T.n by omega]; exact HCM.out
                        · rw [List.length_append, HSZ.out]; omega
                        · rw [HSZ.out]; omega
                      case measure => simp [strLen]; omega
                    | none =>
                      have hlk2 := MapRd.look_miss hMR _ (okx _) hr2
                      clear hMR
                      have HR := hidI (decA_word HF.out HC.out HSM.out (by rw [← hd.out, decF_fail h0 ((step_base (fun _ => hr1)).trans (by rw [hr2]; rfl))]; rfl))
                      go_wp2
                      go_ret2
                      exact RetSlI.nil HR.out (HB.out.trans (hB.mono HB.out.size))
                · have hmin : min (2 * T.n) (cur.size : Int) = (cur.size : Int) := by omega
                  have hcn : cur.size = T.n.toNat := cur_one n1 hcm h0 h2
                  have hcu : cur.extract 0 T.n.toNat = cur := by rw [← hcn]; simp
                  have HCN := hidI hcn
                  have hle : T.n ≤ (cur.size : Int) := by omega
                  have HCU := hidI hcu
                  have okc : okS cur := by unfold okS maxLen; omega
                  cases hr1 : rdF T cur with
                  | some l1 =>
                    have hl1 := rdF_len hr1
                    obtain ⟨p, c, hlk, hsl⟩ := MapRd.look_hit hMR _ okc hr1
                    clear hMR hcn hcu
                    obtain ⟨b4, o4, rfl, _, hc4⟩ := hsl.get 0 hl1.1
                    have hnew : ∀ (j : Nat) (u : Value), (l1.map (Value.int .i64))[j]? = some u → wr.cell? ((⟨b4, o4, none⟩ : Addr).add j) = some u := news_sl hc4
                    have HDS := hidI (decF_on hd.out (decF_step hn0 h0 hn0 ((step_base (fun h => absurd h (by omega))).trans (by rw [HCU.out, hr1]; rfl))))
                    rw [← HCN.out] at HDS
                    have hxe : cur.extract cur.size cur.size = ByteArray.empty := by simp
                    rw [hxe] at HDS
                    clear hxe
                    clear hc4
                    go_wp2_with (at_builtin; refine wpList_append_own _ rfl _ _ 40 rfl wl.heap.size 3 i0 (.int .i64 0) 1 8 Tryz.underlying40 hi0 hz0 hz1 hz3 rfl (by decide) _ _ _ rfl hown ⟨b4, o4, none⟩ l1.length c (l1.map (Value.int .i64)) rfl (by simp) hnew (by simp [Value.oneCell']) (by simp [maxLen]; omega) (by omega) hB.size ?_; intro v' w5 hown' hgrow _)
                    go_roundw
                    case rel =>
                      refine ⟨ByteArray.empty, out ++ l1, rfl, HDS, ?_, ?_, ?_, by rw [List.length_append, List.map_append]; exact hown', hB.grown hgrow hB.size (fun j e => (hown.lt j e).1)⟩
                      · simp
                      · rw [List.length_append, ByteArray.size_empty]; omega
                      · rw [ByteArray.size_empty]; omega
                    case measure => simp [strLen]; omega
                  | none =>
                    have hlk := MapRd.look_miss hMR _ okc hr1
                    have hlk2 := hlk
                    rw [← hcu] at hlk2
                    clear hMR hcn hcu
                    have HR := hidI (decA_word HF.out HC.out HSM.out (by rw [← hd.out, decF_fail h0 ((step_base (fun h => absurd h (by omega))).trans (by rw [HCU.out, hr1]; rfl))]; rfl))
                    go_wp2
                    go_ret2
                    exact RetSlI.nil HR.out (HB.out.trans (hB.mono HB.out.size))
  · have HR := hidI (decA_mod HF.out HC.out (mod_nat_ne n1 hmod))
    have hmodb : ((s.size : Int) % T.n == 0) = false := by simpa using hmod
    have hmodc : ((s.size : Int) % T.n != 0) = true := by simpa using hmod
    go_wp2
    go_ret2
    exact RetSlI.nil HR.out hBb
end Go.Proofs.YtjpilmedlecdhaaGreat
namespace Go.Proofs.YtjpilmedlecdhaaGreat
open Go.RowKit

theorem own_grow (w : World) (B cap : Nat) (e : TypeId) (cur : Array Value) (hB : B ≤ w.heap.size) (hm : cap ≤ maxLen) (hc : cur.size = cap) :
    (w.alloc (.cells cur e)).ownsRow B e 1 (.slice (some ⟨w.heap.size, 0, none⟩) 0 cap) 0 [] :=
  ⟨by simp, .inr ⟨w.heap.size, _, _, rfl, hB, heap_alloc_new w _, Nat.zero_le _, hm, by simp [hc], by simp⟩⟩
def RetOwn0 (w : World) (e : Ending) (w' : World) : Prop := ∃ v, e = .returned v ∧ w'.ownsRow w.heap.size 3 1 v 0 [] ∧ Below w.heap.size w w'
/-- Two lists, one after the other. -/
def cat2 (a b : List Int) (k : Nat) : List Int := if k = 0 then [] else if k = 1 then a else a ++ b
theorem one_ints (l : List Int) : ∀ u ∈ l.map (Value.int .i64), u.oneCell' = true := by
  intro u hu; obtain ⟨x, _, rfl⟩ := List.mem_map.1 hu; rfl
/-- Appending a list that lies in memory, nil or not. -/
theorem run_append_sl {P : Program} (w : World) (base : Nat) (t ty e : TypeId) (i : TypeInfo) (bytes : Nat) (ht : P.underlying t = some (.slice e)) (hi : P.info? e = some i) (hz : i.zero = some (.int .i64 0)) (hs : i.size = 1) (hby : i.bytes = bytes)
    (v : Value) (xs : List Int) (hown : w.ownsRow base e 1 v xs.length (xs.map (Value.int .i64))) (p : Option Addr) (c : Nat) (l : List Int) (hl : Sl w (Value.int .i64) p l) (h63 : xs.length + l.length ≤ maxLen) (hb : (xs.length + l.length) * bytes ≤ 140737488355328) (hbase : base ≤ w.heap.size) :
    ∃ v' w', (Builtin.append_ #[t, t] ty #[v, .slice p l.length c]).run P w = .ok v' w' ∧ w'.ownsRow base e 1 v' (xs ++ l).length ((xs ++ l).map (Value.int .i64)) ∧ w.grownBy w' v.ownBlock := by
  cases p with
  | none =>
    rcases hl with h0 | ⟨_, _, hp, _⟩
    · subst h0
      refine ⟨v, w, ?_, by simpa using hown, World.grownBy.refl w _⟩
      rcases hown.2 with ⟨rfl, h0⟩ | ⟨g, cap, cur, rfl, _, _, hnc, _⟩
      · simp [Builtin.append_, run_underlying ht, sizeOf, typeInfo, hi, Builtin.lenOf, Builtin.firstCells]
      · simp [Builtin.append_, run_underlying ht, sizeOf, typeInfo, hi, Builtin.lenOf, Builtin.firstCells, hnc, storeCells]
    · cases hp
  | some ad =>
    have hn : ∀ j u, (l.map (Value.int .i64))[j]? = some u → w.cell? (ad.add j) = some u := by
      rcases hl with h0 | ⟨b, off, hp, _, hc⟩
      · subst h0; simp
      · cases hp; exact news_sl hc
    obtain ⟨v', w', h1, h2, h3, _, _⟩ := run_append_own_at w base t ty e i (.int .i64 0) 1 bytes ht hi hz hs hby rfl (by decide) v xs.length _ hown ad l.length c (l.map (Value.int .i64)) (by simp) hn (one_ints l) h63 hb hbase
    exact ⟨v', w', h1, by rw [List.length_append, List.map_append]; exact h2, h3⟩

end Go.Proofs.YtjpilmedlecdhaaGreat
