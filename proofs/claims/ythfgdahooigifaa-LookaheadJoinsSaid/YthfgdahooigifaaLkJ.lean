/-
  Walks: Decode of the reference.
-/
import Derived.Test.YthfgdahooigifaaLkI
import Derived.Deep.RegionHeld3
import Derived.Deep.AppendLies
namespace Go.Proofs.Ythfgdahooigifaa
open Go.RowKit

set_option maxRecDepth 100000 in
set_option maxHeartbeats 4000000 in
theorem rlkDecode_ok (T : Tb) (p1 p2 : Option Addr) (c1 c2 : Nat) (s : ByteArray) (w : World) (hin : TbIn w T p1 p2 c1 c2) (hs : s.size ≤ maxLen) (hf : fmd T = true) (hck : wchk T.q s.data.toList = 0) :
    Calls Try.prog 10 #[.agg #[.int .i64 T.q, .int .i64 T.n, .slice p1 T.base.length c1, .slice p2 T.swaps.length c2], .string s] w (RetSlI (decA T s).1 (decA T s).2 w) := by
  have hB0 : Below w.heap.size w (w.alloc (.cells #[.int .i64 T.q, .int .i64 T.n, .slice p1 T.base.length c1, .slice p2 T.swaps.length c2] 25)) := (Below.refl _ _).alloc (Nat.le_refl _) _
  have b0 : VRow (w.alloc (.cells #[.int .i64 T.q, .int .i64 T.n, .slice p1 T.base.length c1, .slice p2 T.swaps.length c2] 25)) w.heap.size 25 [.int .i64 T.q, .int .i64 T.n, .slice p1 T.base.length c1, .slice p2 T.swaps.length c2] := VRow.new w _ _
  obtain ⟨i0, hi0, hz0, hz1, hz3⟩ := info_parts infoI
  have HF := hidI hf
  have HC := hidI hck
  have hsz := wchk_long' T.q s hck
  obtain ⟨n1, n2⟩ := fmd_bd hf
  have HIN := hidI hin
  have hl1 := hin.l1
  have hl2 := hin.l2
  clear hf hck
  go_enter Try.func10, Try.ntmps10
  go_wp2_with fail
  refine (rlkFormed_any T p1 p2 c1 c2 _ (hin.below hB0)).mono ?_
  rintro e w1 ⟨rfl, hB1⟩
  rw [HF.out]
  have hBa := hB0.trans (hB1.mono hB0.size)
  have hb1 := b0.below hB1 (by simp)
  clear hB1 b0 hB0
  have f0 := hb1.at 0 rfl
  have f1 := hb1.at 1 rfl
  go_wp2_with fail
  refine (check07_r T.q s _ _ hs HC.out).mono ?_
  rintro e w2 ⟨rfl, rfl⟩
  clear f0
  by_cases hmod : (s.size : Int) % T.n = 0
  · have hmodb : ((s.size : Int) % T.n == 0) = true := by simpa using hmod
    have hmodc : ((s.size : Int) % T.n != 0) = false := by simpa using hmod
    have HMOD := hidI hmod
    have HSM : Hid (s.size % T.n.toNat = 0) := mod_nat n1 hmod
    have hz2 := hb1.lt
    clear hmod
    go_wp2
    clear hmodb hmodc f1
    have HBX := hidI (hb1.alloc (.cells #[] 3))
    have HB := hidI (hBa.alloc hBa.size (.cells #[] 3))
    clear hb1 hBa
    go_loopw [1, 7] (fun cv ov wr => ∃ (cur : ByteArray) (out : List Int), cv = .string cur ∧ Hid ((decF T cur).map (out ++ ·) = decF T s) ∧ (cur.size : Int) % T.n = 0 ∧ out.length + 2 * cur.size ≤ 2 * s.size ∧ cur.size ≤ 65536 ∧
        wr.ownsRow w2.heap.size 3 1 ov out.length (out.map (Value.int .i64)) ∧ VRow wr w.heap.size 25 [.int .i64 T.q, .int .i64 T.n, .slice p1 T.base.length c1, .slice p2 T.swaps.length c2] ∧ Below w.heap.size w wr ∧ w2.heap.size ≤ wr.heap.size) (fun cv _ _ => strLen cv)
    case atStart => exact ⟨s, [], rfl, by unfold Hid; simp, HMOD.out, by simp, hsz, World.ownsRow_made w2 #[] 0 (Nat.le_refl _) (by simp [maxLen]) rfl, HBX.out, HB.out, by simp⟩
    case round =>
      obtain ⟨cur, out, rfl, hd, hcm, hol, hcz, hown, hbx, hB, hws⟩ := hrel
      by_cases h0 : cur.size = 0
      · obtain ⟨d0⟩ := cur
        have : d0 = #[] := Array.eq_empty_of_size_eq_zero h0
        subst this
        have HR : Hid (decA T s = (out, 0)) := decA_ok HF.out HC.out HSM.out (by rw [← hd.out, decF_nil T h0]; simp)
        obtain ⟨q, d, rfl, hsl⟩ := own_sl hown
        go_wp2
        go_ret2
        exact RetSlI.mk HR.out hsl hB
      · have hcp : (0 : Int) < (cur.size : Int) := by omega
        have hcpd : decide (0 < cur.size) = true := decide_eq_true (by omega)
        have hcpn : 0 < cur.size := by omega
        have hn0 : 0 < T.n.toNat := by omega
        have f1 := hbx.at 1 rfl; have f2 := hbx.at 2 rfl; have f3 := hbx.at 3 rfl
        obtain ⟨q, d, rfl, hsl⟩ := own_sl hown
        go_wp2
        obtain ⟨wo, rfl⟩ : ∃ wo : World, wo = wr := ⟨_, rfl⟩
        go_loopw [1, 7, 9] (fun cv ov iv wr => ∃ k : Nat, k ≤ T.swaps.length ∧ iv = .int .i64 k ∧ cv = .string cur ∧ ov = .slice q out.length d ∧ Hid (∀ j, j < k → (sget T.swaps j).wd ≠ cur.extract 0 (2 * T.n).toNat) ∧ Dr wo wr) (fun _ _ iv _ => T.swaps.length - (intOf iv).toNat)
        case atStart => exact ⟨0, by omega, rfl, rfl, rfl, fun _ h => by omega, Dr.refl _⟩
        case round =>
          obtain ⟨k, hk, rfl, rfl, rfl, hj, hD⟩ := hrel
          have hbx' := hbx.dr hD
          have hB' := hB.trans (hD.below _)
          have hown2 := hown.dr hD
          clear f1 f2 f3
          have f1 := hbx'.at 1 rfl; have f2 := hbx'.at 2 rfl; have f3 := hbx'.at 3 rfl
          by_cases hlt : k < T.swaps.length ∧ 2 * T.n ≤ (cur.size : Int)
          · obtain ⟨hlt, h2⟩ := hlt
            obtain ⟨b3, o3, rfl, hb3w, _⟩ := HIN.out.swaps.get3 k hlt rfl
            obtain ⟨b3', o3', hp3, hb3, e0, e1, e2⟩ := (HIN.out.swaps.below hB').get3 k hlt rfl
            cases hp3
            have hg := hidI (sget_eq T.swaps k hlt)
            by_cases he : cur.extract 0 (2 * T.n).toNat = T.swaps[k].wd
            · have hbt := bts_t he
              have hr1 := rd_swap_hit HF.out hlt (hg.out ▸ he.symm : (sget T.swaps k).wd = cur.extract 0 (2 * T.n).toNat)
              rw [hg.out, show (2 * T.n).toNat = 2 * T.n.toNat by omega] at hr1
              have HDS : Hid ((decF T (cur.extract (2 * T.n).toNat cur.size)).map ((out ++ [T.swaps[k].i, T.swaps[k].j]) ++ ·) = decF T s) :=
                decF_on hd.out (by rw [show (2 * T.n).toNat = 2 * T.n.toNat by omega]; exact decF_step hn0 h0 (by omega) (step_swap (by omega) hr1))
              clear he hr1
              go_wp2_with fail
              (refine wp_region_quiet_lit (by kernel_rfl) (by kernel_rfl) ?_; (repeat (first | go_big_quiet_step (fail) | quiet_step (fail))); refine wpQuiet_nil ?_; intro _ hwq; obtain ⟨nq, hwq2⟩ := hwq; subst hwq2)
              go_wp2_with fail
              have hownq : (wr.drewN nq).ownsRow w2.heap.size 3 1 (.slice q out.length d) out.length (out.map (Value.int .i64)) := hown2
              have hBq : Below w.heap.size w (wr.drewN nq) := below_drewN hB' nq
              have hbxq : VRow (wr.drewN nq) w.heap.size 25 [.int .i64 T.q, .int .i64 T.n, .slice p1 T.base.length c1, .slice (some ⟨b3, o3, none⟩) T.swaps.length c2] := hbx'
              have k3 : (wr.drewN nq).cell? ⟨w.heap.size, 3, none⟩ = some (.slice (some ⟨b3, o3, none⟩) T.swaps.length c2) := f3
              have k0 : (wr.drewN nq).cell? ⟨b3, o3 + k * 3, none⟩ = some (.int .i64 T.swaps[k].i) := e0
              have k1 : (wr.drewN nq).cell? ⟨b3, o3 + k * 3 + 1, none⟩ = some (.int .i64 T.swaps[k].j) := e1
              have hlb : b3 < (wr.drewN nq).heap.size := hb3
              have hlw : w.heap.size < (wr.drewN nq).heap.size := hbx'.lt
              have hl2 : w2.heap.size ≤ (wr.drewN nq).heap.size := by show w2.heap.size ≤ wr.heap.size; rw [hD.size]; exact hws
              clear e0 e1 e2 f1 f2 f3 hbx' hB' hown2 hD
              generalize wr.drewN nq = wq at hownq hBq hbxq k0 k1 k3 hlb hlw hl2 ⊢
              have hkk : (k : Int) < (T.swaps.length : Int) := by omega
              go_region_held3 (fun w' => w'.cell? ⟨w.heap.size, 3, none⟩ = some (.slice (some ⟨b3, o3, none⟩) T.swaps.length c2) ∧ w'.cell? ⟨b3, o3 + k * 3, none⟩ = some (.int .i64 T.swaps[k].i) ∧ w'.cell? ⟨b3, o3 + k * 3 + 1, none⟩ = some (.int .i64 T.swaps[k].j))
                (first
                  | go_keep
                  | (go_split_ands
                     refine ⟨?_, ?_, ?_⟩
                     · rw [hgrow.cell_far _ (by simp; omega) (fun e => by have := (hownq.lt _ e.symm).1; simp at this; omega)]; assumption
                     · rw [hgrow.cell_far _ (by simp; omega) (fun e => by have := (hownq.lt _ e.symm).1; simp at this; omega)]; assumption
                     · rw [hgrow.cell_far _ (by simp; omega) (fun e => by have := (hownq.lt _ e.symm).1; simp at this; omega)]; assumption))
                ((refine step_append_lies _ (by rfl) _ _ _ (by rfl) w2.heap.size 3 i0 _ 1 8 Try.underlying26 hi0 hz0 hz1 hz3 rfl (by omega) (.slice q out.length d) out.length (out.map (Value.int .i64)) (by rfl) ((hownq.alloc _).drew)
                    ⟨wq.heap.size, 0, none⟩ 2 2 [.int .i64 T.swaps[k].i, .int .i64 T.swaps[k].j] (by rfl) (by rfl) (World.news_of_block (cs := #[.int .i64 T.swaps[k].i, .int .i64 T.swaps[k].j]) (t := 3) (fr := (0, 0)) (heap_alloc_new wq _)) (by simp [Value.oneCell'])
                    (by omega) (by simp [maxLen]; omega) (by omega) (by simp; omega) (wq.heap.size + 1) (by simp) ?_; intro gg cap w5 hown' hgrow hat hlt5))
              have hbx0 : VRow ((wq.alloc (.cells #[.int .i64 T.swaps[k].i, .int .i64 T.swaps[k].j] 3)).drew) w.heap.size 25 [.int .i64 T.q, .int .i64 T.n, .slice p1 T.base.length c1, .slice (some ⟨b3, o3, none⟩) T.swaps.length c2] := hbxq.alloc _
              have hbx5 := hbx0.grown hgrow (fun e => by have := (hownq.lt _ e.symm).1; omega)
              have hB0q : Below w.heap.size w ((wq.alloc (.cells #[.int .i64 T.swaps[k].i, .int .i64 T.swaps[k].j] 3)).drew) := below_drewN (hBq.alloc hBq.size _) 1
              have hB5 := hB0q.grown hgrow (Nat.le_trans hBq.size (by simp)) (fun j e => by have := (hownq.lt j e).1; omega)
              have hw5 : w2.heap.size ≤ w5.heap.size := Nat.le_trans hl2 (Nat.le_trans (by simp) hgrow.size)
              have f1 := hbx5.at 1 rfl
              have f2 := hbx5.at 2 rfl
              have hnl : ((out.length : Int) + 2 == (out.length : Int)) = false := by simp; omega
              clear k0 k1 k3 hgrow hbx0 hB0q hat
              have hbl : 0 < T.base.length := by have := of_decide_eq_true (show preB T = true from (fmd_split HF.out).1); omega
              go_wp2
              refine wp_loop_rounds 1 ?_
              rw [rounds_succ]
              go_wp2
              have HSZ := hidI (ext_size cur (2 * T.n).toNat)
              have HCM := hidI (mod_sub hcm (by simp) : ((cur.size : Int) - (2 * T.n)) % T.n = 0)
              go_roundw
              case rel =>
                refine ⟨cur.extract (2 * T.n).toNat cur.size, out ++ [T.swaps[k].i, T.swaps[k].j], rfl, HDS, ?_, ?_, ?_, by rw [List.length_append, List.map_append]; exact hown', hbx5, hB5, hw5⟩
                · rw [HSZ.out, Int.natCast_sub (by omega), show (((2 * T.n).toNat : Nat) : Int) = 2 * T.n by omega]; exact HCM.out
                · rw [List.length_append, HSZ.out]; simp; omega
                · rw [HSZ.out]; omega
              case measure => simp [strLen]; omega
            · have hbt := bts_f he
              have HN : Hid (∀ j, j < k + 1 → (sget T.swaps j).wd ≠ cur.extract 0 (2 * T.n).toNat) := fun j h1 => by
                rcases Nat.lt_succ_iff_lt_or_eq.1 h1 with h3 | h3
                · exact hj.out j h3
                · subst h3; rw [hg.out]; exact fun e => he e.symm
              clear he
              go_wp2_with fail
              (refine wp_region_quiet_lit (by kernel_rfl) (by kernel_rfl) ?_; (repeat (first | go_big_quiet_step (fail) | quiet_step (fail))); refine wpQuiet_nil ?_; intro _ hwq; obtain ⟨nq, hwq2⟩ := hwq; subst hwq2)
              go_wp2
              go_roundw
              case rel => exact ⟨k + 1, by omega, by go_num, rfl, rfl, HN, hD.one _⟩
              case measure => simp [intOf]; omega
          · have HB : Hid (2 * T.n.toNat ≤ cur.size → rdF T (cur.extract 0 (2 * T.n.toNat)) = none) := by
              intro h2
              by_cases hk2 : k < T.swaps.length
              · exact absurd ⟨hk2, by omega⟩ hlt
              · refine rd_swap_miss HF.out (by simp [ByteArray.size_extract]; omega) (fun j hj' => ?_)
                have := hj.out j (by omega)
                rwa [show (2 * T.n).toNat = 2 * T.n.toNat by omega] at this
            have HS := hidI (step_base HB.out)
            have hcn : T.n ≤ (cur.size : Int) := Int.le_of_dvd hcp (Int.dvd_of_emod_eq_zero hcm)
            have hl2 : w2.heap.size ≤ wr.heap.size := by rw [hD.size]; exact hws
            have HBX2 := hidI hbx'
            have HB2 := hidI hB'
            have HOW2 := hidI hown2
            clear HB hj hbx' hB' hown2 hown hbx hB hD
            rcases (by omega : k = T.swaps.length ∨ (k < T.swaps.length ∧ (cur.size : Int) < 2 * T.n)) with rfl | ⟨hk2, hcl⟩
            all_goals
              clear hlt
              go_wp2
              clear f1 f2 f3
              obtain ⟨wp, hwp⟩ : ∃ wp : World, wp = wr := ⟨_, rfl⟩
              go_loopw [1, 7, 10] (fun cv ov iv wv => ∃ (k : Nat) (cur' : ByteArray) (out' : List Int), k ≤ T.base.length ∧ iv = .int .i64 k ∧ cv = .string cur' ∧
                  wv.ownsRow w2.heap.size 3 1 ov out'.length (out'.map (Value.int .i64)) ∧ VRow wv w.heap.size 25 [.int .i64 T.q, .int .i64 T.n, .slice p1 T.base.length c1, .slice p2 T.swaps.length c2] ∧ Below w.heap.size w wv ∧ w2.heap.size ≤ wv.heap.size ∧
                  Hid ((cur = cur' ∧ out = out' ∧ ∀ j, j < k → bget T.base j ≠ cur.extract 0 T.n.toNat) ∨ (∃ b, out' = out ++ [b] ∧ cur' = cur.extract T.n.toNat cur.size ∧ decF T cur = (decF T cur').map ([b] ++ ·)))) (fun _ _ iv _ => T.base.length - (intOf iv).toNat)
              case atStart => exact ⟨0, cur, out, by omega, rfl, rfl, HOW2.out, HBX2.out, HB2.out, hl2, Or.inl ⟨rfl, rfl, fun _ h => by omega⟩⟩
              case round =>
                clear hwp hl2
                obtain ⟨k2, cur2, out2, hk2', rfl, rfl, hown3, hbx3, hB3, hl3, hor⟩ := hrel
                obtain ⟨q3, d3, rfl, hsl3⟩ := own_sl hown3
                have f1 := hbx3.at 1 rfl; have f2 := hbx3.at 2 rfl
                rcases hor.out with ⟨rfl, rfl, hm⟩ | ⟨b, hob, hcb, hdd⟩
                · clear hor
                  have HM := hidI hm
                  clear hm
                  by_cases hlt3 : k2 < T.base.length
                  · obtain ⟨b4, o4, rfl, hb4, hc4⟩ := (HIN.out.base.below hB3).get k2 hlt3
                    have e0 := hc4 k2 hlt3
                    clear hc4
                    have hg := hidI (bget_eq T.base k2 hlt3)
                    by_cases he : cur.extract 0 T.n.toNat = T.base[k2]
                    · have hbt := bts_t he
                      have hr1 := rd_base_hit HF.out (s := cur.extract 0 T.n.toNat) (by simp [ByteArray.size_extract]; omega) hlt3 (hg.out.trans he.symm)
                      have HDS : Hid (decF T cur = (decF T (cur.extract T.n.toNat cur.size)).map ([(k2 : Int)] ++ ·)) := decF_step hn0 h0 hn0 (by rw [HS.out, hr1]; rfl)
                      clear he hr1
                      go_wp2_with fail
                      (refine wp_region_quiet_lit (by kernel_rfl) (by kernel_rfl) ?_; (repeat (first | go_big_quiet_step (fail) | quiet_step (fail))); refine wpQuiet_nil ?_; intro _ hwq; obtain ⟨nq, hwq2⟩ := hwq; subst hwq2)
                      have hownq : (wr.drewN nq).ownsRow w2.heap.size 3 1 (.slice q3 out.length d3) out.length (out.map (Value.int .i64)) := hown3
                      have hBq : Below w.heap.size w (wr.drewN nq) := below_drewN hB3 nq
                      have hbxq : VRow (wr.drewN nq) w.heap.size 25 [.int .i64 T.q, .int .i64 T.n, .slice (some ⟨b4, o4, none⟩) T.base.length c1, .slice p2 T.swaps.length c2] := hbx3
                      clear f1 f2 e0
                      go_wp2_with (at_builtin; refine wpList_append_own _ rfl _ _ 26 rfl w2.heap.size 3 i0 (.int .i64 0) 1 8 Try.underlying26 hi0 hz0 hz1 hz3 rfl (by decide) _ _ _ rfl (hownq.alloc _) ⟨wr.heap.size, 0, none⟩ 1 1 [.int .i64 k2] rfl rfl (cell_one_new _ _ _) (by simp [Value.oneCell']) (by simp [maxLen]; omega) (by omega) (Nat.le_trans hl3 (by simp)) ?_; intro v' w1' hown' hgrow _; have hbx4 := (hbxq.alloc _).grown hgrow (fun e => by have := (hownq.lt _ e.symm).1; omega); have f1 := hbx4.at 1 rfl)
                      go_roundw
                      case rel => exact ⟨k2 + 1, _, out ++ [(k2 : Int)], by omega, by go_num, rfl, by rw [List.length_append, List.map_append]; exact hown', hbx4, (hBq.alloc hBq.size _).grown hgrow (Nat.le_trans hBq.size (by simp)) (fun j e => by have := (hownq.lt j e).1; omega), Nat.le_trans hl3 (Nat.le_trans (by simp) hgrow.size), Or.inr ⟨_, rfl, rfl, HDS.out⟩⟩
                      case measure => simp [intOf]; omega
                    · have hbt := bts_f he
                      have HN : Hid (∀ j, j < k2 + 1 → bget T.base j ≠ cur.extract 0 T.n.toNat) := fun j h1 => by
                        rcases Nat.lt_succ_iff_lt_or_eq.1 h1 with h3 | h3
                        · exact HM.out j h3
                        · subst h3; rw [hg.out]; exact fun e => he e.symm
                      clear he
                      go_wp2_with fail
                      (refine wp_region_quiet_lit (by kernel_rfl) (by kernel_rfl) ?_; (repeat (first | go_big_quiet_step (fail) | quiet_step (fail))); refine wpQuiet_nil ?_; intro _ hwq; obtain ⟨nq, hwq2⟩ := hwq; subst hwq2)
                      go_wp2
                      go_roundw
                      case rel => exact ⟨k2 + 1, cur, out, by omega, by go_num, rfl, hown3.dr ((Dr.refl _).one _), hbx3.dr ((Dr.refl _).one _), hB3.trans (((Dr.refl _).one _).below _), hl3, Or.inl ⟨rfl, rfl, HN.out⟩⟩
                      case measure => simp [intOf]; omega
                  · obtain rfl : k2 = T.base.length := by omega
                    have HR : Hid (decA T s = ([], 13)) := decA_word HF.out HC.out HSM.out (by rw [← hd.out, decF_fail h0 (by rw [HS.out, rd_base_miss HF.out (by simp [ByteArray.size_extract]; omega) HM.out]; rfl)]; rfl)
                    go_wp2
                    go_ret2
                    exact RetSlI.nil HR.out hB3
                · have HDS : Hid ((decF T cur2).map (out2 ++ ·) = decF T s) := by
                    have := decF_on hd.out hdd
                    rw [← hob] at this; exact this
                  have hlo : out2.length = out.length + 1 := by rw [hob]; simp
                  have hlc : cur2.size = cur.size - T.n.toNat := by rw [hcb]; exact ext_size _ _
                  have hcm2 : Hid ((cur2.size : Int) % T.n = 0) := by
                    unfold Hid; rw [hlc, Int.natCast_sub (by omega), show ((T.n.toNat : Nat) : Int) = T.n by omega]; exact mod_sub hcm (by simp)
                  have hnl : ((out2.length : Int) == (out.length : Int)) = false := by simp; omega
                  clear hob hcb hdd hor
                  by_cases hlt3 : k2 < T.base.length
                  all_goals
                    go_wp2
                    go_roundw
                    case rel => exact ⟨cur2, out2, rfl, HDS, hcm2.out, by omega, by omega, hown3, hbx3, hB3, hl3⟩
                    case measure => simp [strLen]; omega
  · have HR := hidI (decA_mod HF.out HC.out (mod_nat_ne n1 hmod))
    have hmodb : ((s.size : Int) % T.n == 0) = false := by simpa using hmod
    have hmodc : ((s.size : Int) % T.n != 0) = true := by simpa using hmod
    go_wp2
    go_ret2
    exact RetSlI.nil HR.out hBa
end Go.Proofs.Ythfgdahooigifaa
