/-
  Walks: the reference's check of tables.
-/
import Derived.Test.YthfgdahooigifaaLkC
namespace Go.Proofs.Ythfgdahooigifaa
open Go.RowKit

theorem check07_q (q : Int) (s : ByteArray) (w : World) (hs : s.size ≤ maxLen) :
    Calls Try.prog 28 #[.int .i64 q, .string s] w fun e w' => e = .returned (.int .i64 (wchk q s.data.toList)) ∧ w' = w := (check07_any q s w hs).mono fun _ _ ⟨a, b⟩ => ⟨a, b.symm⟩

theorem check07_r (q : Int) (s : ByteArray) (r : Int) (w : World) (hs : s.size ≤ maxLen) (hr : wchk q s.data.toList = r) :
    Calls Try.prog 28 #[.int .i64 q, .string s] w fun e w' => e = .returned (.int .i64 r) ∧ w' = w := by subst hr; exact check07_q q s w hs

set_option maxHeartbeats 400000 in
theorem rlkHas_q (l : List ByteArray) (N : Nat) (hN : l.length = N) (p : Option Addr) (c : Nat) (s : ByteArray) (m : Nat) (w : World) (hp : Sl w Value.string p l) (hl : N ≤ 9223372036854775807) (hm : m ≤ N) :
    Calls Try.prog 35 #[.slice p N c, .string s, .int .i64 m] w fun e w' => e = .returned (.bool ((l.take m).any (eqb s))) ∧ w' = w := by
  subst hN
  go_enter Try.func35, Try.ntmps35
  go_wp2
  go_loop [7] (fun i => ∃ k : Nat, k ≤ m ∧ i = .int .i64 k ∧ Hid (∀ j (hj : j < l.length), j < k → eqb s l[j] = false)) (fun i => m - (intOf i).toNat)
  case atStart => exact ⟨0, by omega, rfl, fun _ _ h => by omega⟩
  case round =>
    obtain ⟨k, hk, rfl, hj⟩ := hrel
    by_cases hlt : k < m
    · have hkl : k < l.length := by omega
      obtain ⟨b1, o1, rfl, hb1, hc1⟩ := hp.get k hkl
      have e1 := hc1 k hkl
      clear hc1
      by_cases he : l[k] = s
      · have hb := bts_t he
        have HI : Hid ((l.take m).any (eqb s) = true) := List.any_eq_true.2 ⟨l[k], List.mem_iff_getElem.2 ⟨k, by simp; omega, by simp⟩, eqb_t he.symm⟩
        clear he
        go_wp2
        go_ret
        exact ⟨ret_bool HI.out.symm, rfl⟩
      · have hb := bts_f he
        have HE := hidI he
        clear he
        go_wp2
        go_round
        case rel => exact ⟨k + 1, by omega, by go_num, fun j h1 h2 => by
          rcases Nat.lt_succ_iff_lt_or_eq.1 h2 with h3 | h3
          · exact hj.out j h1 h3
          · subst h3; exact eqb_f (fun e => HE.out e.symm)⟩
        case measure => simp [intOf]; omega
    · have HM : Hid ((l.take m).any (eqb s) = false) := List.any_eq_false.2 (fun x hx => by
        obtain ⟨i, hi, rfl⟩ := List.mem_iff_getElem.1 hx
        rw [List.length_take] at hi
        rw [List.getElem_take]
        simp [hj.out i (by omega) (by omega)])
      go_wp2
      go_ret
      exact ⟨ret_bool HM.out.symm, rfl⟩

theorem rlkHas_r (l : List ByteArray) (N : Nat) (hN : l.length = N) (p : Option Addr) (c : Nat) (s : ByteArray) (m : Nat) (r : Bool) (w : World) (hp : Sl w Value.string p l) (hl : N ≤ 9223372036854775807) (hm : m ≤ N) (hr : (l.take m).any (eqb s) = r) :
    Calls Try.prog 35 #[.slice p N c, .string s, .int .i64 m] w fun e w' => e = .returned (.bool r) ∧ w' = w := by subst hr; exact rlkHas_q l N hN p c s m w hp hl hm

set_option maxRecDepth 100000 in
set_option maxHeartbeats 2000000 in
theorem rlkFormed_pre (T : Tb) (p1 p2 : Option Addr) (c1 c2 : Nat) (w : World) (h1 : T.base.length ≤ 9223372036854775807) (h2 : T.swaps.length ≤ 9223372036854775807) (hpre : preB T = false) :
    Calls Try.prog 25 #[.agg #[.int .i64 T.q, .int .i64 T.n, .slice p1 T.base.length c1, .slice p2 T.swaps.length c2]] w fun e w' => e = .returned (.bool (fmd T)) ∧ Below w.heap.size w w' := by
  have HF := hidI (fmd_pre hpre)
  have HP : Hid (¬ (2 ≤ T.q ∧ T.q ≤ 16 ∧ 1 ≤ T.n ∧ T.n ≤ 8 ∧ 2 ≤ T.base.length ∧ T.base.length ≤ 16 ∧ T.swaps.length ≤ 64)) := fun h => by rw [pre_mk h] at hpre; cases hpre
  clear hpre
  go_enter Try.func25, Try.ntmps25
  go_wp2
  all_goals first
    | (exfalso; have := HP.out; omega)
    | (go_ret; exact ⟨ret_bool HF.out.symm, (Below.refl _ _).alloc (Nat.le_refl _) _⟩)

set_option maxRecDepth 100000 in
set_option maxHeartbeats 8000000 in
theorem rlkFormed_ok (T : Tb) (p1 p2 : Option Addr) (c1 c2 : Nat) (w : World) (hin : TbIn w T p1 p2 c1 c2) (hpre : preB T = true) :
    Calls Try.prog 25 #[.agg #[.int .i64 T.q, .int .i64 T.n, .slice p1 T.base.length c1, .slice p2 T.swaps.length c2]] w fun e w' => e = .returned (.bool (fmd T)) ∧ Below w.heap.size w w' := by
  obtain ⟨i0, hi0, hz0, hz1, hz2⟩ := info_parts infoStr
  have HPRE := hidI hpre
  obtain ⟨g1, g2, g3, g4, g5, g6, g7⟩ := pre_all hpre
  clear hpre
  have d1 : decide (T.q < 2) = false := decide_eq_false (by omega)
  have d2 : decide (16 < T.q) = false := decide_eq_false (by omega)
  have d3 : decide (T.n < 1) = false := decide_eq_false (by omega)
  have d4 : decide (8 < T.n) = false := decide_eq_false (by omega)
  have d5 : decide ((T.base.length : Int) < 2) = false := decide_eq_false (by omega)
  have d6 : decide ((16 : Int) < (T.base.length : Int)) = false := decide_eq_false (by omega)
  have d7 : decide ((64 : Int) < (T.swaps.length : Int)) = false := decide_eq_false (by omega)
  have b0 : VRow (w.alloc (.cells #[.int .i64 T.q, .int .i64 T.n, .slice p1 T.base.length c1, .slice p2 T.swaps.length c2] 25)) w.heap.size 25 [.int .i64 T.q, .int .i64 T.n, .slice p1 T.base.length c1, .slice p2 T.swaps.length c2] := VRow.new w _ _
  have hB0 : Below w.heap.size w (w.alloc (.cells #[.int .i64 T.q, .int .i64 T.n, .slice p1 T.base.length c1, .slice p2 T.swaps.length c2] 25)) := (Below.refl _ _).alloc (Nat.le_refl _) _
  go_enter Try.func25, Try.ntmps25
  go_wp2
  clear d1 d2 d3 d4 d5 d6 d7
  have HSZ0 : Hid ((w.alloc (.cells #[.int .i64 T.q, .int .i64 T.n, .slice p1 T.base.length c1, .slice p2 T.swaps.length c2] 25)).heap.size = w.heap.size + 1) := World.size_alloc _ _
  generalize (w.alloc (.cells #[.int .i64 T.q, .int .i64 T.n, .slice p1 T.base.length c1, .slice p2 T.swaps.length c2] 25)) = w0 at b0 hB0 HSZ0 ⊢
  go_loopw [3] (fun iv wr => ∃ k : Nat, k ≤ T.base.length ∧ iv = .int .i64 k ∧ Hid (∀ j, j < k → wOk T.q T.n T.base j = true) ∧ Dr w0 wr) (fun iv _ => T.base.length - (intOf iv).toNat)
  case atStart => exact ⟨0, by omega, rfl, fun _ h => by omega, Dr.refl _⟩
  case round =>
    obtain ⟨k, hk, rfl, hj, hD⟩ := hrel
    have hb := b0.dr hD
    have hB := hB0.trans (hD.below _)
    have f0 := hb.at 0 rfl; have f1 := hb.at 1 rfl; have f2 := hb.at 2 rfl; have f3 := hb.at 3 rfl
    by_cases hlt : k < T.base.length
    · have hp' := hin.base.below hB
      obtain ⟨bb, oo, rfl, hb1, hc1⟩ := hp'.get k hlt
      have e1 := hc1 k hlt
      clear hc1
      have hzk := hin.z1 k hlt
      have hg := hidI (bget_eq T.base k hlt)
      by_cases hs : (T.base[k].size : Int) = T.n
      · have HS := hidI hs
        by_cases hck : wchk T.q T.base[k].data.toList = 0
        · have HC := hidI hck
          cases hh : (T.base.take k).any (eqb T.base[k])
          · have HH := hidI hh
            have HW : Hid (wOk T.q T.n T.base k = true) := wOk_t (by rw [hg.out]; exact hs) (by rw [hg.out]; exact hck) (by rw [hg.out]; exact hh)
            clear hg hck hh
            go_wp2_with fail
            (refine wp_region_quiet_lit (by kernel_rfl) (by kernel_rfl) ?_; (repeat (first | go_big_quiet_step (first | (go_at_call 28; exact Calls.quiet_of_same (check07_r _ _ _ _ hzk HC.out)) | (go_at_call 35; exact Calls.quiet_of_same (rlkHas_r T.base _ rfl _ _ _ k _ _ hp' (by omega) (by omega) HH.out))) | quiet_step (first | (go_at_call 28; exact Calls.quiet_of_same (check07_r _ _ _ _ hzk HC.out)) | (go_at_call 35; exact Calls.quiet_of_same (rlkHas_r T.base _ rfl _ _ _ k _ _ hp' (by omega) (by omega) HH.out))))); refine wpQuiet_nil ?_; intro _ hwq; obtain ⟨nq, hwq2⟩ := hwq; subst hwq2)
            go_wp2
            go_roundw
            case rel => exact ⟨k + 1, by omega, by go_num, fun j h1 => by
              rcases Nat.lt_succ_iff_lt_or_eq.1 h1 with h3 | h3
              · exact hj.out j h3
              · subst h3; exact HW.out, hD.one _⟩
            case measure => simp [intOf]; omega
          · have HH := hidI hh
            have HF : Hid (fmd T = false) := fmd_base (allB_f k hlt (wOk_has (by rw [hg.out]; exact hh)))
            clear hg hck hh
            go_wp2_with fail
            (refine wp_region_quiet_lit (by kernel_rfl) (by kernel_rfl) ?_; (repeat (first | go_big_quiet_step (first | (go_at_call 28; exact Calls.quiet_of_same (check07_r _ _ _ _ hzk HC.out)) | (go_at_call 35; exact Calls.quiet_of_same (rlkHas_r T.base _ rfl _ _ _ k _ _ hp' (by omega) (by omega) HH.out))) | quiet_step (first | (go_at_call 28; exact Calls.quiet_of_same (check07_r _ _ _ _ hzk HC.out)) | (go_at_call 35; exact Calls.quiet_of_same (rlkHas_r T.base _ rfl _ _ _ k _ _ hp' (by omega) (by omega) HH.out))))); refine wpQuiet_nil ?_; intro _ hwq; obtain ⟨nq, hwq2⟩ := hwq; subst hwq2)
            go_wp2
            go_ret
            exact ⟨ret_bool HF.out.symm, below_drewN hB _⟩
        · have HC : Hid (wchk T.q T.base[k].data.toList = wchk T.q T.base[k].data.toList) := rfl
          have HF : Hid (fmd T = false) := fmd_base (allB_f k hlt (wOk_chk (by rw [hg.out]; exact hck)))
          clear hg
          go_wp2_with fail
          (refine wp_region_quiet_lit (by kernel_rfl) (by kernel_rfl) ?_; (repeat (first | go_big_quiet_step (first | (go_at_call 28; exact Calls.quiet_of_same (check07_r _ _ _ _ hzk rfl))) | quiet_step (first | (go_at_call 28; exact Calls.quiet_of_same (check07_r _ _ _ _ hzk rfl))))); refine wpQuiet_nil ?_; intro _ hwq; obtain ⟨nq, hwq2⟩ := hwq; subst hwq2)
          go_wp2
          go_ret
          exact ⟨ret_bool HF.out.symm, below_drewN hB _⟩
      · have HF : Hid (fmd T = false) := fmd_base (allB_f k hlt (wOk_len (by rw [hg.out]; exact hs)))
        have hsb : ((T.base[k].size : Int) == T.n) = false := by simpa using hs
        clear hg
        go_wp2_with fail
        (refine wp_region_quiet_lit (by kernel_rfl) (by kernel_rfl) ?_; (repeat (first | go_big_quiet_step (fail) | quiet_step (fail))); refine wpQuiet_nil ?_; intro _ hwq; obtain ⟨nq, hwq2⟩ := hwq; subst hwq2)
        go_wp2
        go_ret
        exact ⟨ret_bool HF.out.symm, below_drewN hB _⟩
    · have hbs : wsOk T.q T.n T.base = true := allB_t (fun j h => hj.out j (by omega))
      have HBS := hidI hbs
      have hz0' : w0.heap.size = w.heap.size + 1 := HSZ0.out
      have hzr : wr.heap.size = w.heap.size + 1 := by rw [hD.size]; exact hz0'
      have HSZ := hidI hzr
      clear hbs hj hz0' hzr
      go_wp2
      clear hlt hk
      go_loopw [4, 5] (fun wv iv wt => ∃ k : Nat, k ≤ T.swaps.length ∧ iv = .int .i64 k ∧ Hid (∀ j, j < k → sOk T.base.length T.swaps j = true ∧ wOk T.q (2 * T.n) (T.swaps.map Sw.wd) j = true) ∧ VRow wt w.heap.size 25 [.int .i64 T.q, .int .i64 T.n, .slice p1 T.base.length c1, .slice p2 T.swaps.length c2] ∧
          wt.ownsRow (w.heap.size + 1) 9 1 wv k ((((T.swaps.take k).map Sw.wd)).map Value.string) ∧ Below w.heap.size w wt) (fun _ iv _ => T.swaps.length - (intOf iv).toNat)
      case atStart =>
        refine ⟨0, by omega, rfl, fun _ h => by omega, hb.alloc _, ?_, hB.alloc hB.size _⟩
        exact World.ownsRow_made wr #[] 0 (Nat.le_of_eq HSZ.out.symm) (by simp [maxLen]) rfl
      case round =>
        clear hb hB f0 f1 f2 f3 hD b0 hB0
        obtain ⟨k, hk, rfl, hj, hb, hown, hB⟩ := hrel
        by_cases hlt : k < T.swaps.length
        · obtain ⟨b1, o1, rfl, hb1, e0, e1, e2⟩ := (hin.swaps.below hB).get3 k hlt rfl
          have f0 := hb.at 0 rfl; have f1 := hb.at 1 rfl; have f2 := hb.at 2 rfl; have f3 := hb.at 3 rfl
          have hsz := hb.lt
          have hzk := hin.z2 k hlt
          have hg := hidI (bget_map T.swaps k hlt)
          have HT := hidI (words_take T.swaps k hlt)
          cases hib : inB T.base.length T.swaps[k]
          · have HF : Hid (fmd T = false) := fmd_ss (allB_f k hlt (sOk_in hlt hib))
            have HIB : Hid (¬ (0 ≤ T.swaps[k].i ∧ T.swaps[k].i < T.base.length ∧ 0 ≤ T.swaps[k].j ∧ T.swaps[k].j < T.base.length)) := by intro h; simp [inB] at hib; omega
            clear hib
            go_wp2_with fail
            all_goals first
              | (exfalso; have := HIB.out; omega)
              | (go_ret; exact ⟨ret_bool HF.out.symm, hB.alloc hB.size _⟩)
          · have hib' : 0 ≤ T.swaps[k].i ∧ T.swaps[k].i < T.base.length ∧ 0 ≤ T.swaps[k].j ∧ T.swaps[k].j < T.base.length := by simpa [inB] using hib
            obtain ⟨i1, i2, i3, i4⟩ := hib'
            have HIB := hidI hib
            clear hib
            obtain ⟨q, d, hv, hsl⟩ := own_sl hown
            rw [List.length_map, List.length_take, Nat.min_eq_left (by omega)] at hv
            subst hv
            have hslW := hsl.below ((Below.refl wr.heap.size wr).alloc (Nat.le_refl _) (.cells #[.int .i64 T.swaps[k].i, .int .i64 T.swaps[k].j, .string T.swaps[k].wd] 41))
            have hkl : k < (T.swaps.map Sw.wd).length := by rw [List.length_map]; exact hlt
            by_cases hs : (T.swaps[k].wd.size : Int) = 2 * T.n
            · have hsb : ((T.swaps[k].wd.size : Int) == 2 * T.n) = true := by simpa using hs
              have HS := hidI hs
              clear hs
              by_cases hck : wchk T.q T.swaps[k].wd.data.toList = 0
              · have HC := hidI hck
                clear hck
                cases hh : ((T.swaps.take k).map Sw.wd).any (eqb T.swaps[k].wd)
                · have HH : Hid ((((T.swaps.take k).map Sw.wd).take k).any (eqb T.swaps[k].wd) = false) := by unfold Hid; rw [List.take_of_length_le (by rw [List.length_map, List.length_take]; omega)]; exact hh
                  have HW : Hid (wOk T.q (2 * T.n) (T.swaps.map Sw.wd) k = true) := wOk_t (by rw [hg.out]; exact HS.out) (by rw [hg.out]; exact HC.out) (by rw [hg.out, ← List.map_take]; exact hh)
                  clear hh
                  go_wp2_with (first | (go_at_call 28; refine (check07_r _ _ _ _ hzk HC.out).mono ?_; rintro e w' ⟨rfl, rfl⟩) | (go_at_call 35; refine (rlkHas_r ((T.swaps.take k).map Sw.wd) k (by rw [List.length_map, List.length_take]; omega) q d T.swaps[k].wd k _ _ hslW (by omega) (by omega) HH.out).mono ?_; rintro e w' ⟨rfl, rfl⟩))
                  rcases Nat.eq_zero_or_pos k with hk0 | hk0
                  · have hkd : decide ((0 : Int) < (k : Int)) = false := decide_eq_false (by omega)
                    have hkd2 : decide (0 < k) = false := decide_eq_false (by omega)
                    have HK : Hid (sOk T.base.length T.swaps k = true) := sOk_zero hlt HIB.out hk0
                    clear hk0
                    (refine wp_region_quiet_lit (by kernel_rfl) (by kernel_rfl) ?_; (repeat (first | go_big_quiet_step (fail) | quiet_step (fail))); refine wpQuiet_nil ?_; intro _ hwq; obtain ⟨nq, hwq2⟩ := hwq; subst hwq2)
                    have hownq : ((wr.alloc (.cells #[.int .i64 T.swaps[k].i, .int .i64 T.swaps[k].j, .string T.swaps[k].wd] 41)).drewN nq).ownsRow (w.heap.size + 1) 9 1 (.slice q (k) d) k (((T.swaps.take k).map Sw.wd).map Value.string) := hown.alloc _
                    have hBq : Below w.heap.size w ((wr.alloc (.cells #[.int .i64 T.swaps[k].i, .int .i64 T.swaps[k].j, .string T.swaps[k].wd] 41)).drewN nq) := below_drewN (hB.alloc hB.size _) nq
                    have hbq : VRow ((wr.alloc (.cells #[.int .i64 T.swaps[k].i, .int .i64 T.swaps[k].j, .string T.swaps[k].wd] 41)).drewN nq) w.heap.size 25 [.int .i64 T.q, .int .i64 T.n, .slice p1 T.base.length c1, .slice (some ⟨b1, o1, none⟩) T.swaps.length c2] := hb.alloc _
                    have hnew := cell_one_at ((wr.alloc (.cells #[.int .i64 T.swaps[k].i, .int .i64 T.swaps[k].j, .string T.swaps[k].wd] 41)).drewN nq) (.string T.swaps[k].wd) 9 (wr.heap.size + 1) (World.size_alloc _ _)
                    have HSZ1 : Hid (((wr.alloc (.cells #[.int .i64 T.swaps[k].i, .int .i64 T.swaps[k].j, .string T.swaps[k].wd] 41)).drewN nq).heap.size = wr.heap.size + 1) := World.size_alloc _ _
                    go_wp2_with (at_builtin; refine wpList_append_own _ rfl _ _ 22 rfl (w.heap.size + 1) 9 i0 (.string ⟨#[]⟩) 1 16 Try.underlying22 hi0 hz0 hz1 hz2 rfl (by decide) _ _ _ rfl (hownq.alloc _) ⟨wr.heap.size + 1, 0, none⟩ 1 1 [.string T.swaps[k].wd] rfl rfl hnew (by simp [Value.oneCell']) (by simp [maxLen]; omega) (by omega) (by rw [World.size_alloc, HSZ1.out]; omega) ?_; intro v' w1 hown' hgrow _)
                    go_roundw
                    case rel =>
                      refine ⟨k + 1, by omega, by go_num, fun j h1 => ?_, (hbq.alloc _).grown hgrow (fun e => by have := (hownq.lt _ e.symm).1; omega), by rw [HT.out]; exact hown', (hBq.alloc hBq.size _).grown hgrow (Nat.le_trans hBq.size (by simp)) (fun j e => Nat.le_of_succ_le (hownq.lt j e).1)⟩
                      rcases Nat.lt_succ_iff_lt_or_eq.1 h1 with h3 | h3
                      · exact hj.out j h3
                      · subst h3; exact ⟨HK.out, HW.out⟩
                    case measure => simp [intOf]; omega
                  · obtain ⟨m, rfl⟩ : ∃ m, k = m + 1 := ⟨k - 1, by omega⟩
                    obtain ⟨b1', o1', he, hb1', e3, e4, e5⟩ := (hin.swaps.below hB).get3 m (by omega) rfl
                    cases he
                    have m0 : (0 : Int) ≤ (m : Int) := by omega
                    have m1 : (m : Int) < (T.swaps.length : Int) := by omega
                    have q1 : IntKind.i64.wrap (m : Int) = (m : Int) := IntWalk.i64_in _ (by omega)
                    rcases lex_four T.swaps[m] T.swaps[m + 1] with ⟨l1, hl⟩ | ⟨l1, l2, hl⟩ | ⟨l1, hl⟩ | ⟨l1, l2, hl⟩
                    · have HK := hidI (sOk_pos hlt HIB.out hl)
                      have x1 : decide (T.swaps[m + 1].i < T.swaps[m].i) = false := decide_eq_false (by omega)
                      have x2 : (T.swaps[m + 1].i == T.swaps[m].i) = false := by simpa using (by omega : T.swaps[m + 1].i ≠ T.swaps[m].i)
                      have x3 : ¬ T.swaps[m + 1].i = T.swaps[m].i := by omega
                      clear hl l1
                      (refine wp_region_quiet_lit (by kernel_rfl) (by kernel_rfl) ?_; (repeat (first | go_big_quiet_step (fail) | quiet_step (fail))); refine wpQuiet_nil ?_; intro _ hwq; obtain ⟨nq, hwq2⟩ := hwq; subst hwq2)
                      clear q1 x1 x2 x3
                      have hownq : ((wr.alloc (.cells #[.int .i64 T.swaps[m + 1].i, .int .i64 T.swaps[m + 1].j, .string T.swaps[m + 1].wd] 41)).drewN nq).ownsRow (w.heap.size + 1) 9 1 (.slice q (m + 1) d) (m + 1) (((T.swaps.take (m + 1)).map Sw.wd).map Value.string) := hown.alloc _
                      have hBq : Below w.heap.size w ((wr.alloc (.cells #[.int .i64 T.swaps[m + 1].i, .int .i64 T.swaps[m + 1].j, .string T.swaps[m + 1].wd] 41)).drewN nq) := below_drewN (hB.alloc hB.size _) nq
                      have hbq : VRow ((wr.alloc (.cells #[.int .i64 T.swaps[m + 1].i, .int .i64 T.swaps[m + 1].j, .string T.swaps[m + 1].wd] 41)).drewN nq) w.heap.size 25 [.int .i64 T.q, .int .i64 T.n, .slice p1 T.base.length c1, .slice (some ⟨b1, o1, none⟩) T.swaps.length c2] := hb.alloc _
                      have hnew := cell_one_at ((wr.alloc (.cells #[.int .i64 T.swaps[m + 1].i, .int .i64 T.swaps[m + 1].j, .string T.swaps[m + 1].wd] 41)).drewN nq) (.string T.swaps[m + 1].wd) 9 (wr.heap.size + 1) (World.size_alloc _ _)
                      have HSZ1 : Hid (((wr.alloc (.cells #[.int .i64 T.swaps[m + 1].i, .int .i64 T.swaps[m + 1].j, .string T.swaps[m + 1].wd] 41)).drewN nq).heap.size = wr.heap.size + 1) := World.size_alloc _ _
                      go_wp2_with (at_builtin; refine wpList_append_own _ rfl _ _ 22 rfl (w.heap.size + 1) 9 i0 (.string ⟨#[]⟩) 1 16 Try.underlying22 hi0 hz0 hz1 hz2 rfl (by decide) _ _ _ rfl (hownq.alloc _) ⟨wr.heap.size + 1, 0, none⟩ 1 1 [.string T.swaps[m + 1].wd] rfl rfl hnew (by simp [Value.oneCell']) (by simp [maxLen]; omega) (by omega) (by rw [World.size_alloc, HSZ1.out]; omega) ?_; intro v' w1 hown' hgrow _)
                      go_roundw
                      case rel =>
                        refine ⟨m + 1 + 1, by omega, by go_num, fun j h1 => ?_, (hbq.alloc _).grown hgrow (fun e => by have := (hownq.lt _ e.symm).1; omega), by rw [HT.out]; exact hown', (hBq.alloc hBq.size _).grown hgrow (Nat.le_trans hBq.size (by simp)) (fun j e => Nat.le_of_succ_le (hownq.lt j e).1)⟩
                        rcases Nat.lt_succ_iff_lt_or_eq.1 h1 with h3 | h3
                        · exact hj.out j h3
                        · subst h3; exact ⟨HK.out, HW.out⟩
                      case measure => simp [intOf]; omega
                    · have HK := hidI (sOk_pos hlt HIB.out hl)
                      have x1 : decide (T.swaps[m + 1].i < T.swaps[m].i) = false := decide_eq_false (by omega)
                      have x2 : (T.swaps[m + 1].i == T.swaps[m].i) = true := by simpa using l1.symm
                      have x3 : T.swaps[m + 1].i = T.swaps[m].i := l1.symm
                      have x4 : decide (T.swaps[m + 1].j ≤ T.swaps[m].j) = false := decide_eq_false (by omega)
                      clear hl l1 l2
                      (refine wp_region_quiet_lit (by kernel_rfl) (by kernel_rfl) ?_; (repeat (first | go_big_quiet_step (fail) | quiet_step (fail))); refine wpQuiet_nil ?_; intro _ hwq; obtain ⟨nq, hwq2⟩ := hwq; subst hwq2)
                      clear q1 x1 x2 x3 x4
                      have hownq : ((wr.alloc (.cells #[.int .i64 T.swaps[m + 1].i, .int .i64 T.swaps[m + 1].j, .string T.swaps[m + 1].wd] 41)).drewN nq).ownsRow (w.heap.size + 1) 9 1 (.slice q (m + 1) d) (m + 1) (((T.swaps.take (m + 1)).map Sw.wd).map Value.string) := hown.alloc _
                      have hBq : Below w.heap.size w ((wr.alloc (.cells #[.int .i64 T.swaps[m + 1].i, .int .i64 T.swaps[m + 1].j, .string T.swaps[m + 1].wd] 41)).drewN nq) := below_drewN (hB.alloc hB.size _) nq
                      have hbq : VRow ((wr.alloc (.cells #[.int .i64 T.swaps[m + 1].i, .int .i64 T.swaps[m + 1].j, .string T.swaps[m + 1].wd] 41)).drewN nq) w.heap.size 25 [.int .i64 T.q, .int .i64 T.n, .slice p1 T.base.length c1, .slice (some ⟨b1, o1, none⟩) T.swaps.length c2] := hb.alloc _
                      have hnew := cell_one_at ((wr.alloc (.cells #[.int .i64 T.swaps[m + 1].i, .int .i64 T.swaps[m + 1].j, .string T.swaps[m + 1].wd] 41)).drewN nq) (.string T.swaps[m + 1].wd) 9 (wr.heap.size + 1) (World.size_alloc _ _)
                      have HSZ1 : Hid (((wr.alloc (.cells #[.int .i64 T.swaps[m + 1].i, .int .i64 T.swaps[m + 1].j, .string T.swaps[m + 1].wd] 41)).drewN nq).heap.size = wr.heap.size + 1) := World.size_alloc _ _
                      go_wp2_with (at_builtin; refine wpList_append_own _ rfl _ _ 22 rfl (w.heap.size + 1) 9 i0 (.string ⟨#[]⟩) 1 16 Try.underlying22 hi0 hz0 hz1 hz2 rfl (by decide) _ _ _ rfl (hownq.alloc _) ⟨wr.heap.size + 1, 0, none⟩ 1 1 [.string T.swaps[m + 1].wd] rfl rfl hnew (by simp [Value.oneCell']) (by simp [maxLen]; omega) (by omega) (by rw [World.size_alloc, HSZ1.out]; omega) ?_; intro v' w1 hown' hgrow _)
                      go_roundw
                      case rel =>
                        refine ⟨m + 1 + 1, by omega, by go_num, fun j h1 => ?_, (hbq.alloc _).grown hgrow (fun e => by have := (hownq.lt _ e.symm).1; omega), by rw [HT.out]; exact hown', (hBq.alloc hBq.size _).grown hgrow (Nat.le_trans hBq.size (by simp)) (fun j e => Nat.le_of_succ_le (hownq.lt j e).1)⟩
                        rcases Nat.lt_succ_iff_lt_or_eq.1 h1 with h3 | h3
                        · exact hj.out j h3
                        · subst h3; exact ⟨HK.out, HW.out⟩
                      case measure => simp [intOf]; omega
                    · have HF : Hid (fmd T = false) := fmd_ss (allB_f (m + 1) hlt ((sOk_succ hlt HIB.out).trans hl))
                      clear hl
                      (refine wp_region_quiet_lit (by kernel_rfl) (by kernel_rfl) ?_; (repeat (first | go_big_quiet_step (fail) | quiet_step (fail))); refine wpQuiet_nil ?_; intro _ hwq; obtain ⟨nq, hwq2⟩ := hwq; subst hwq2)
                      go_wp2
                      go_ret
                      exact ⟨ret_bool HF.out.symm, below_drewN (hB.alloc hB.size _) _⟩
                    · have HF : Hid (fmd T = false) := fmd_ss (allB_f (m + 1) hlt ((sOk_succ hlt HIB.out).trans hl))
                      have x1 : decide (T.swaps[m + 1].i < T.swaps[m].i) = false := decide_eq_false (by omega)
                      have x2 : (T.swaps[m + 1].i == T.swaps[m].i) = true := by simpa using l1.symm
                      have x3 : T.swaps[m + 1].i = T.swaps[m].i := l1.symm
                      clear hl l1
                      (refine wp_region_quiet_lit (by kernel_rfl) (by kernel_rfl) ?_; (repeat (first | go_big_quiet_step (fail) | quiet_step (fail))); refine wpQuiet_nil ?_; intro _ hwq; obtain ⟨nq, hwq2⟩ := hwq; subst hwq2)
                      go_wp2
                      go_ret
                      exact ⟨ret_bool HF.out.symm, below_drewN (hB.alloc hB.size _) _⟩
                · have HH : Hid ((((T.swaps.take k).map Sw.wd).take k).any (eqb T.swaps[k].wd) = true) := by unfold Hid; rw [List.take_of_length_le (by rw [List.length_map, List.length_take]; omega)]; exact hh
                  have HF : Hid (fmd T = false) := fmd_words (allB_f k hkl (wOk_has (by rw [hg.out, ← List.map_take]; exact hh)))
                  clear hh
                  go_wp2_with (first | (go_at_call 28; refine (check07_r _ _ _ _ hzk HC.out).mono ?_; rintro e w' ⟨rfl, rfl⟩) | (go_at_call 35; refine (rlkHas_r ((T.swaps.take k).map Sw.wd) k (by rw [List.length_map, List.length_take]; omega) q d T.swaps[k].wd k _ _ hslW (by omega) (by omega) HH.out).mono ?_; rintro e w' ⟨rfl, rfl⟩))
                  go_ret
                  exact ⟨ret_bool HF.out.symm, hB.alloc hB.size _⟩
              · have HC : Hid (wchk T.q T.swaps[k].wd.data.toList = wchk T.q T.swaps[k].wd.data.toList) := rfl
                have HF : Hid (fmd T = false) := fmd_words (allB_f k hkl (wOk_chk (by rw [hg.out]; exact hck)))
                go_wp2_with (go_at_call 28; refine (check07_r _ _ _ _ hzk HC.out).mono ?_; rintro e w' ⟨rfl, rfl⟩)
                go_ret
                exact ⟨ret_bool HF.out.symm, hB.alloc hB.size _⟩
            · have hsb : ((T.swaps[k].wd.size : Int) == 2 * T.n) = false := by simpa using hs
              have HF : Hid (fmd T = false) := fmd_words (allB_f k hkl (wOk_len (by rw [hg.out]; exact hs)))
              go_wp2_with fail
              go_ret
              exact ⟨ret_bool HF.out.symm, hB.alloc hB.size _⟩
        · obtain rfl : k = T.swaps.length := by omega
          have HF : Hid (fmd T = true) := (fmd_all HPRE.out (allB_t (fun j h => (hj.out j h).1)) HBS.out).trans (allB_t (fun j h => (hj.out j (by simpa using h)).2))
          have f3 := hb.at 3 rfl
          go_wp2
          go_ret
          exact ⟨ret_bool HF.out.symm, hB⟩

theorem rlkFormed_any (T : Tb) (p1 p2 : Option Addr) (c1 c2 : Nat) (w : World) (hin : TbIn w T p1 p2 c1 c2) :
    Calls Try.prog 25 #[.agg #[.int .i64 T.q, .int .i64 T.n, .slice p1 T.base.length c1, .slice p2 T.swaps.length c2]] w fun e w' => e = .returned (.bool (fmd T)) ∧ Below w.heap.size w w' := by
  cases h : preB T
  · exact rlkFormed_pre T p1 p2 c1 c2 w hin.l1 hin.l2 h
  · exact rlkFormed_ok T p1 p2 c1 c2 w hin h
end Go.Proofs.Ythfgdahooigifaa
