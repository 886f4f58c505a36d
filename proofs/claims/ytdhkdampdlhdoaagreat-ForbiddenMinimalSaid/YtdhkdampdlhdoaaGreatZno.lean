/-
  ForbiddenMinimal: for every graph and word the law returns true, and its arguments read as they did.
-/
import Derived.Test.YtdhkdampdlhdoaaGreatZnn
import Derived.Test.YtdhkdampdlhdoaaGreatZni
import Derived.Test.YtdhkdampdlhdoaaGreatZnl
import Derived.Test.YtdhkdampdlhdoaaGreatRows
import Derived.ProofKit
import Derived.OpenShut
import Derived.ShutString
import Derived.SliceStrings
import Derived.Test.YtdhkdampdlhdoaaGreatZng
import Derived.Lib.SmallJoins
import Derived.Deep.Slices
import Derived.Deep.Fields
import Derived.ChangeSame
import Derived.Carry
import Derived.HandedShaped
set_option linter.unusedVariables false
set_option linter.unusedSimpArgs false
namespace Go.Proofs.YtdhkdampdlhdoaaGreat
open Go.RowKit

/-- What stands in memory in the midst of one length, of the reference. -/
structure FdT (G : Gr) (p : Option Addr) (c : Nat) (w : World) (L : List ByteArray) (B : Nat) (pl : Option Addr) (d : Nat) (W : World) : Prop where
  g : VRow W w.heap.size 24 [.int .i64 G.q, .int .i64 G.n, .slice p G.es.length c]
  b : RowKit.Below w.heap.size w W
  l : W.ownsRow B 9 1 (.slice pl L.length d) L.length (L.map Value.string)
section
variable {G : Gr} {p : Option Addr} {c : Nat} {w : World} {L : List ByteArray} {B : Nat} {pl : Option Addr} {d : Nat} {W W' : World}
theorem FdT.below (h : FdT G p c w L B pl d W) (hB : RowKit.Below W.heap.size W W') : FdT G p c w L B pl d W' :=
  ⟨h.g.below hB h.g.lt, h.b.trans (hB.mono h.b.size), own_below h.l hB⟩
theorem FdT.grown {v : Value} {xs : List Value} {n : Nat} (h : FdT G p c w L B pl d W) (hg : W.grownBy W' v.ownBlock)
    (hv : W.ownsRow (w.heap.size + 1) 9 1 v n xs) (hne : NE v (.slice pl L.length d)) : FdT G p c w L B pl d W' :=
  ⟨h.g.grown hg (fun e => by have := (hv.lt _ e.symm).1; omega), h.b.grown hg h.b.size (fun j e => by have := (hv.lt j e).1; omega), h.l.kept hg (hne.kept)⟩
theorem FdT.sl (h : FdT G p c w L B pl d W) : Sl W Value.string pl L := by
  obtain ⟨q, c, e, hs⟩ := own_sl h.l
  cases e; exact hs
end

set_option maxRecDepth 100000 in
set_option maxHeartbeats 8000000 in
theorem rf14Find_ok (G : Gr) (p : Option Addr) (c n : Nat) (w : World) (hin : Sg 3 w edE p G.es) (hv : Vg G) (hq : G.q ≤ 3) (hn : n ≤ 6) :
    Calls Tryz.prog 8 #[(.agg #[.int .i64 G.q, .int .i64 G.n, .slice p G.es.length c]), .int .i64 n] w (RetFd (fdN G n, 0) w) := by
  obtain ⟨i0, hi0, hz0, hz1, hz3⟩ := info_parts infoStrF
  have HIN := hidI hin; have HV := hidI hv
  have hl := hv.len
  have hq1 := hv.q1
  clear hin hv
  obtain ⟨w0, hw0⟩ : ∃ w0, w0 = w.alloc (.cells #[.int .i64 G.q, .int .i64 G.n, .slice p G.es.length c] 24) := ⟨_, rfl⟩
  have b0 : VRow w0 w.heap.size 24 [.int .i64 G.q, .int .i64 G.n, .slice p G.es.length c] := by subst hw0; exact VRow.new w _ _
  have hB0 : RowKit.Below w.heap.size w w0 := by subst hw0; exact (RowKit.Below.refl _ _).alloc (Nat.le_refl _) _
  go_enter Tryz.func8, Tryz.ntmps8
  go_wp2_with fail
  rw [← hw0]
  clear hw0
  refine (rCheck_r G p c w0 0 (chkG_ok.2 HV.out) (HIN.out.below hB0) (by omega)).mono ?_
  rintro e w1 ⟨rfl, hB1⟩
  have x1 := hB0.trans (hB1.mono hB0.size)
  have c1 := b0.below hB1 b0.lt
  have f0 := c1.at 0 rfl
  have hq2 : ¬ 16 < G.q := by omega
  have hn0 : ¬ (n : Int) < 0 := by omega
  have hn1 : ¬ (32 : Int) < (n : Int) := by omega
  have hz1' : w.heap.size + 1 ≤ w1.heap.size := c1.lt
  have o1 : (w1.alloc (.cells #[] 9)).ownsRow (w.heap.size + 1) 9 1 (.slice (some ⟨w1.heap.size, 0, none⟩) 0 0) 0 (([] : List ByteArray).map Value.string) :=
    own_new w1 (w.heap.size + 1) [] 9 hz1' (by simp [maxLen])
  have c2 := c1.alloc (.cells #[] 9)
  have x2 := x1.alloc (x1.size) (.cells #[] 9)
  clear b0 hB0 hB1
  go_wp2_with fail
  clear f0
  go_loopw [6, 7] (fun ov iv wr => ∃ k : Nat, k ≤ n ∧ iv = .int .i64 ((k : Int) + 1) ∧ wr.ownsRow (w.heap.size + 1) 9 1 ov (fdN G k).length ((fdN G k).map Value.string) ∧ VRow wr w.heap.size 24 [.int .i64 G.q, .int .i64 G.n, .slice p G.es.length c] ∧ RowKit.Below w.heap.size w wr) (fun _ iv _ => n + 1 - (intOf iv).toNat)
  case atStart => exact ⟨0, by omega, rfl, by simpa [fdN] using o1, c2, x2⟩
  case round =>
    clear c1 x1 hz1' o1 c2 x2
    obtain ⟨k, hk, rfl, hown, c1, hB⟩ := hrel
    obtain ⟨wo, rfl⟩ : ∃ wo : World, wo = wr := ⟨_, rfl⟩
    by_cases hlt : k < n
    · have hltI : (k : Int) + 1 ≤ (n : Int) := by omega
      have HW := hidI (r11Words_any G p c k wo (HIN.out.below hB) HV.out hq (by omega))
      have f0 := c1.at 0 rfl; have f1 := c1.at 1 rfl; have f2 := c1.at 2 rfl
      have hfw := wk_few hq (k := k) (by omega)
      have h1092 := fdN_1092 hq (n := k + 1) (by omega)
      have HSZ : Hid (∀ u ∈ wk G k, u.size ≤ 6 ∧ Chg.okw G.q u.data.toList = true) := fun u hu => ⟨by have := wk_size (by omega) hu; omega, wk_okw (by omega) hu⟩
      obtain ⟨L, hL⟩ : ∃ L, L = wk G k := ⟨_, rfl⟩
      rw [← hL] at HW hfw HSZ
      have HLL := hidI hL
      clear hL
      go_wp2_with (go_at_call 22; refine HW.out.mono ?_; rintro e w2 ⟨pl, dl, rfl, hrow, hB2⟩)
      have hown2 := own_below hown hB2
      have hne0 : NE u6 (.slice pl L.length dl) := fun j h1 h2 => by
        have := (hown.lt j h1).2; have := (hrow.lt j h2).1; omega
      have hF0 : FdT G p c w L wo.heap.size pl dl w2 := ⟨c1.below hB2 c1.lt, hB.trans (hB2.mono hB.size), hrow⟩
      have HFD : Hid (fdN G k = fdJ G k 0) := (fdJ_zero G k).symm
      rw [HFD.out] at hown2
      clear hB2 hrow hown c1 f0 f1 f2 hB HW
      go_loopw [6, 10] (fun ov iv wr => ∃ j : Nat, j ≤ L.length ∧ iv = .int .i64 j ∧ FdT G p c w L wo.heap.size pl dl wr ∧ wr.ownsRow (w.heap.size + 1) 9 1 ov (fdJ G k j).length ((fdJ G k j).map Value.string) ∧ NE ov (.slice pl L.length dl)) (fun _ iv _ => L.length - (intOf iv).toNat)
      case atStart => exact ⟨0, by omega, rfl, hF0, hown2, hne0⟩
      case round =>
        clear hF0 hown2 hne0
        obtain ⟨j, hj, rfl, hF, hown, hne⟩ := hrel
        by_cases hlt3 : j < L.length
        · have hltI3 : (j : Int) < (L.length : Int) := by omega
          have hx := HSZ.out L[j] (List.getElem_mem hlt3)
          have hxs := hx.1
          have HOW := hidI hx.2
          have HS := hidI (fdJ_succ G k j (by rw [← HLL.out]; exact hlt3))
          have hjl := fdJ_len G k (j + 1)
          have hGJ : (wk G k)[j]'(by rw [← HLL.out]; exact hlt3) = L[j] := by simp only [HLL.out]
          rw [hGJ] at HS
          rw [← fdR_all] at HS
          have hjl2 : (fdJ G k j).length + (fdR G k L[j] G.q.toNat).length ≤ 1092 := by
            have := congrArg List.length HS.out
            rw [List.length_append] at this
            omega
          obtain ⟨b3, o3, hpl, hb3, _⟩ := hF.sl.get j hlt3
          subst hpl
          have HE0 : Hid (∀ W, FdT G p c w L wo.heap.size (some ⟨b3, o3, none⟩) dl W → W.cell? ⟨b3, o3 + j, none⟩ = some (.string L[j])) := fun W h => by
            obtain ⟨b4, o4, e4, _, hc4⟩ := h.sl.get j hlt3
            cases e4
            exact hc4 j hlt3
          generalize L[j] = x at *
          have HR0 : Hid (fdJ G k j = fdJ G k j ++ fdR G k x 0) := by unfold Hid fdR; simp
          rw [HR0.out] at hown
          clear hx hGJ
          go_wp2_with fail
          go_loopw [6, 11] (fun ov iv wr => ∃ a : Nat, a ≤ G.q.toNat ∧ iv = .int .i64 a ∧ FdT G p c w L wo.heap.size (some ⟨b3, o3, none⟩) dl wr ∧ wr.ownsRow (w.heap.size + 1) 9 1 ov (fdJ G k j ++ fdR G k x a).length ((fdJ G k j ++ fdR G k x a).map Value.string) ∧ NE ov (.slice (some ⟨b3, o3, none⟩) L.length dl)) (fun _ iv _ => G.q.toNat - (intOf iv).toNat)
          case atStart => exact ⟨0, by omega, rfl, hF, hown, hne⟩
          case round =>
            clear hF hown hne
            obtain ⟨a, ha, rfl, hF, hown, hne⟩ := hrel
            have f0 := hF.g.at 0 rfl; have f1 := hF.g.at 1 rfl; have f2 := hF.g.at 2 rfl
            by_cases hlt4 : a < G.q.toNat
            · have haI : (a : Int) < G.q := by omega
              have ha16 : a < 16 := by omega
              have hI1 : (a : Int) ≤ (a : Int) + 1 := by omega
              have hI2 : (a : Int) + 1 ≤ 16 := by omega
              have hI3 : ((a : Int) + 1).toNat = a + 1 := by omega
              have e1 := HE0.out wr hF
              have HWS := hidI (wd_sz x ha16)
              have hdl : (wdA x a).data.toList.length = (wdA x a).size := by simp
              have HCK : Hid (Chg.wchk G.q (wdA x a).data.toList = 0) := Chg.wchk_ok _ _ hq1 (by omega) (by have := HWS.out; omega) (okw_wd HOW.out haI ha16)
              clear hdl
              have HAC : Hid (∀ W, RowKit.Below wr.heap.size wr W → Calls Tryz.prog 23 #[(.agg #[.int .i64 G.q, .int .i64 G.n, .slice p G.es.length c]), .string (wdA x a)] W fun e w' => e = .returned (.tuple #[.bool (accA G (wdA x a)), .int .i64 0]) ∧ RowKit.Below W.heap.size W w') :=
                fun W h => r11Accepts_any G p c (wdA x a) W (HIN.out.below (hF.b.trans (h.mono hF.b.size))) HV.out (by omega) HCK.out (by have := HWS.out; omega)
              have HPY := hidI (fun h => fdR_yes (G := G) (k := k) (u := x) (a := a) h)
              have HPN := hidI (fun h => fdR_no (G := G) (k := k) (u := x) (a := a) h)
              have hrl := fdR_len G k x a
              have HFP : Hid (fdP G k (wdA x a) = (!accA G (wdA x a) && isF L ((wdA x a).extract 1 (wdA x a).size))) := by unfold Hid fdP; rw [HLL.out]
              have HWD : Hid (wdA x a = x ++ ({ data := #[48, 49, 50, 51, 52, 53, 54, 55, 56, 57, 97, 98, 99, 100, 101, 102] } : ByteArray).extract a (a + 1)) := rfl
              have HEL : Hid ((fdJ G k j ++ fdR G k x a).length ≤ 2000) := by unfold Hid; rw [List.length_append]; omega
              have HF := hidI hF; have HO := hidI hown
              have hng : ¬ (9223372036854775807 < x.size + (min (a + 1) 16 - a)) := by omega
              clear hown hrl HS HR0 hF
              go_upto_region 20 with fail
              (refine wp_region_quiet_lit (by kernel_rfl) (by kernel_rfl) ?_; (repeat (first | go_big_quiet_step (fail) | quiet_step (fail))); refine wpQuiet_nil ?_; intro _ hwq; obtain ⟨nq, hwq2⟩ := hwq; subst hwq2)
              go_wp2_with fail
              rw [← HWD.out]
              generalize wdA x a = wd at *
              refine (HAC.out _ (below_drewN (RowKit.Below.refl _ _) _)).mono ?_
              generalize accA G wd = ac at *
              rintro e w5 ⟨rfl, hB5⟩
              have hB5' : RowKit.Below wr.heap.size wr w5 := (below_drewN (RowKit.Below.refl _ wr) nq).trans hB5
              have HF5 := hidI (HF.out.below hB5')
              have HO5 := hidI (own_below HO.out hB5')
              have f0 := HF5.out.g.at 0 rfl
              clear hB5 hB5' e1
              cases ac
              · have hw1 : (1 : Int) ≤ (wd.size : Int) := by have := HWS.out; omega
                have HC := hidI (rf14contains_any L (some ⟨b3, o3, none⟩) dl (wd.extract 1 wd.size) w5 HF5.out.sl (by omega))
                generalize isF L (wd.extract 1 wd.size) = r at *
                cases r
                · have HN' := hidI (HPN.out (by rw [HFP.out]; rfl))
                  clear HPY HPN
                  go_wp2_with (go_at_call 24; refine HC.out.mono ?_; rintro e w6 ⟨rfl, hw6⟩; replace hw6 := hw6.symm; subst hw6)
                  go_roundw
                  case rel => exact ⟨a + 1, by omega, by go_num, HF5.out, by rw [HN'.out]; exact HO5.out, hne⟩
                  case measure => simp [intOf]; omega
                · have HY := hidI (HPY.out (by rw [HFP.out]; rfl))
                  have HQ : Hid (fdJ G k j ++ fdR G k x (a + 1) = (fdJ G k j ++ fdR G k x a) ++ [wd]) := by rw [Hid, HY.out, List.append_assoc]
                  have hel := HEL.out
                  generalize fdJ G k j ++ fdR G k x a = E at *
                  have hnew := cell_one_at w5 (.string wd) 9 w5.heap.size rfl
                  have hownA := HO5.out.alloc (.cells #[.string wd] 9)
                  have hFb := HF5.out.b.size
                  have hgl5 := HF5.out.g.lt
                  clear HPY HPN HY
                  go_wp2_with (first
                    | (go_at_call 24; refine HC.out.mono ?_; rintro e w6 ⟨rfl, hw6⟩; replace hw6 := hw6.symm; subst hw6)
                    | (at_builtin; refine wpList_append_lies _ rfl _ _ 27 rfl (w.heap.size + 1) 9 i0 (.string ⟨#[]⟩) 1 16 Tryz.underlying27 hi0 hz0 hz1 hz3 rfl (by decide) _ _ _ rfl hownA ⟨w5.heap.size, 0, none⟩ 1 1 [.string wd] rfl rfl hnew (by simp [Value.oneCell']) (by decide) (by unfold maxLen; omega) (by omega) (by rw [World.size_alloc]; omega) (w5.heap.size + 1) (World.size_alloc _ _) ?_; intro g cap w7 hown' hgrow hgH hgl))
                  go_roundw
                  case rel =>
                    refine ⟨a + 1, by omega, by go_num, (HF5.out.below ((RowKit.Below.refl _ w5).alloc (Nat.le_refl _) _)).grown hgrow hownA hne, by rw [HQ.out, List.length_append, List.map_append]; exact hown', fun i h1 h2 => ?_⟩
                    obtain rfl : g = i := by simpa [Value.ownBlock] using h1
                    rcases hgH with h | h
                    · exact hne g h h2
                    · have := (HF5.out.l.lt g h2).2; omega
                  case measure => simp [intOf]; omega
              · have HN' := hidI (HPN.out (by rw [HFP.out]; rfl))
                clear HPY HPN
                go_wp2_with fail
                go_roundw
                case rel => exact ⟨a + 1, by omega, by go_num, HF5.out, by rw [HN'.out]; exact HO5.out, hne⟩
                case measure => simp [intOf]; omega
            · obtain rfl : a = G.q.toNat := by omega
              have haI : ¬ ((G.q.toNat : Int) < G.q) := by omega
              rw [← HS.out] at hown
              go_wp2_with fail
              go_roundw
              case rel => exact ⟨j + 1, by omega, by go_num, hF, hown, hne⟩
              case measure => simp [intOf]; omega
        · obtain rfl : j = L.length := by omega
          have hltI3 : ¬ (L.length : Int) < (L.length : Int) := by omega
          have HFA : Hid (fdJ G k L.length = fdN G (k + 1)) := by rw [Hid, HLL.out, fdJ_all]
          rw [HFA.out] at hown
          go_wp2_with fail
          go_roundw
          case rel => exact ⟨k + 1, by omega, by go_num, hown, hF.g, hF.b⟩
          case measure => simp [intOf]; omega
    · obtain rfl : k = n := by omega
      have hltI : ¬ (k : Int) + 1 ≤ (k : Int) := by omega
      have h1092 := fdN_1092 hq (n := k) hn
      obtain ⟨po, co, rfl, hs⟩ := own_sl hown
      have hbI : ¬ (4096 : Int) < ((fdN G k).length : Int) := by omega
      go_wp2_with fail
      go_ret2
      exact ⟨po, co, rfl, hs, hB⟩
end Go.Proofs.YtdhkdampdlhdoaaGreat
namespace Go.Proofs.YtdhkdampdlhdoaaGreat
open Go.RowKit

theorem RetFd.nil' {k : Int} {w w' : World} {q : Option Addr} {c : Nat} (hB : RowKit.Below w.heap.size w w') : RetFd ([], k) w (.returned (.tuple #[.slice q 0 c, .int .i64 k])) w' := ⟨q, c, rfl, Sl.nil _ _ _, hB⟩
set_option maxRecDepth 100000 in
set_option maxHeartbeats 2000000 in
theorem fFind_any (G : Gr) (p : Option Addr) (c : Nat) (n : Int) (w : World) (hin : Sg 3 w edE p G.es) (hl : G.es.length ≤ 9223372036854775807) (hq : chkG G = 0 → ¬ 16 < G.q → G.q ≤ 3) (hn : n ≤ 32 → n ≤ 6) :
    Calls Tryz.prog 7 #[(.agg #[.int .i64 G.q, .int .i64 G.n, .slice p G.es.length c]), .int .i64 n] w (RetFd (findA G n) w) := by
  have HIN := hidI hin
  obtain ⟨w0, hw0⟩ : ∃ w0, w0 = w.alloc (.cells #[.int .i64 G.q, .int .i64 G.n, .slice p G.es.length c] 24) := ⟨_, rfl⟩
  have b0 : VRow w0 w.heap.size 24 [.int .i64 G.q, .int .i64 G.n, .slice p G.es.length c] := by subst hw0; exact VRow.new w _ _
  have hB0 : RowKit.Below w.heap.size w w0 := by subst hw0; exact (RowKit.Below.refl _ _).alloc (Nat.le_refl _) _
  by_cases hc : chkG G = 0
  · by_cases hq2 : 16 < G.q
    · have HE := hidI (find_e2 (n := n) hc hq2)
      have HC := hidI (gCheck_r G p c w0 0 hc (HIN.out.below hB0) hl)
      rw [HE.out]
      clear hin hq hn hc
      go_enter Tryz.func7, Tryz.ntmps7
      go_wp2_with fail
      rw [← hw0]
      clear hw0
      refine HC.out.mono ?_
      rintro e w1 ⟨rfl, hB1⟩
      have f0 := (b0.below hB1 b0.lt).at 0 rfl
      go_wp2_with fail
      go_ret2
      exact RetFd.nil (hB0.trans (hB1.mono hB0.size))
    · by_cases hn2 : n < 0 ∨ 32 < n
      · have HE := hidI (find_e3 hc hq2 hn2)
        have HC := hidI (gCheck_r G p c w0 0 hc (HIN.out.below hB0) hl)
        rw [HE.out]
        clear hin hq hn hc
        by_cases hn3 : n < 0
        · clear hn2
          go_enter Tryz.func7, Tryz.ntmps7
          go_wp2_with fail
          rw [← hw0]
          clear hw0
          refine HC.out.mono ?_
          rintro e w1 ⟨rfl, hB1⟩
          have f0 := (b0.below hB1 b0.lt).at 0 rfl
          go_wp2_with fail
          go_ret2
          exact RetFd.nil (hB0.trans (hB1.mono hB0.size))
        · have hn4 : 32 < n := by omega
          clear hn2
          go_enter Tryz.func7, Tryz.ntmps7
          go_wp2_with fail
          rw [← hw0]
          clear hw0
          refine HC.out.mono ?_
          rintro e w1 ⟨rfl, hB1⟩
          have f0 := (b0.below hB1 b0.lt).at 0 rfl
          go_wp2_with fail
          go_ret2
          exact RetFd.nil (hB0.trans (hB1.mono hB0.size))
      · obtain ⟨m, rfl⟩ : ∃ m : Nat, n = m := ⟨n.toNat, by omega⟩
        rw [find_ok hc hq2 (by omega)]
        exact fFind_ok G p c m w hin (chkG_ok.1 hc) (hq hc hq2) (by have := hn (by omega); omega)
  · have HE := hidI (find_e1 (n := n) hc)
    have HC := hidI (gCheck_r G p c w0 _ rfl (HIN.out.below hB0) hl)
    rw [HE.out]
    generalize chkG G = r at *
    have hr2 : (r == 0) = false := by simpa using hc
    clear hin hq hn
    go_enter Tryz.func7, Tryz.ntmps7
    go_wp2_with fail
    rw [← hw0]
    clear hw0
    refine HC.out.mono ?_
    rintro e w1 ⟨rfl, hB1⟩
    go_wp2_with fail
    go_ret2
    exact RetFd.nil (hB0.trans (hB1.mono hB0.size))

set_option maxRecDepth 100000 in
set_option maxHeartbeats 2000000 in
theorem rf14Find_any (G : Gr) (p : Option Addr) (c : Nat) (n : Int) (w : World) (hin : Sg 3 w edE p G.es) (hl : G.es.length ≤ 9223372036854775807) (hq : chkG G = 0 → ¬ 16 < G.q → G.q ≤ 3) (hn : n ≤ 32 → n ≤ 6) :
    Calls Tryz.prog 8 #[(.agg #[.int .i64 G.q, .int .i64 G.n, .slice p G.es.length c]), .int .i64 n] w (RetFd (findA G n) w) := by
  have HIN := hidI hin
  obtain ⟨w0, hw0⟩ : ∃ w0, w0 = w.alloc (.cells #[.int .i64 G.q, .int .i64 G.n, .slice p G.es.length c] 24) := ⟨_, rfl⟩
  have b0 : VRow w0 w.heap.size 24 [.int .i64 G.q, .int .i64 G.n, .slice p G.es.length c] := by subst hw0; exact VRow.new w _ _
  have hB0 : RowKit.Below w.heap.size w w0 := by subst hw0; exact (RowKit.Below.refl _ _).alloc (Nat.le_refl _) _
  by_cases hc : chkG G = 0
  · by_cases hq2 : 16 < G.q
    · have HE := hidI (find_e2 (n := n) hc hq2)
      have HC := hidI (rCheck_r G p c w0 0 hc (HIN.out.below hB0) hl)
      rw [HE.out]
      clear hin hq hn hc
      go_enter Tryz.func8, Tryz.ntmps8
      go_wp2_with fail
      rw [← hw0]
      clear hw0
      refine HC.out.mono ?_
      rintro e w1 ⟨rfl, hB1⟩
      have f0 := (b0.below hB1 b0.lt).at 0 rfl
      have x1 := hB0.trans (hB1.mono hB0.size)
      go_wp2_with fail
      go_ret2
      exact RetFd.nil' (x1.alloc x1.size _)
    · by_cases hn2 : n < 0 ∨ 32 < n
      · have HE := hidI (find_e3 hc hq2 hn2)
        have HC := hidI (rCheck_r G p c w0 0 hc (HIN.out.below hB0) hl)
        rw [HE.out]
        clear hin hq hn hc
        by_cases hn3 : n < 0
        · clear hn2
          go_enter Tryz.func8, Tryz.ntmps8
          go_wp2_with fail
          rw [← hw0]
          clear hw0
          refine HC.out.mono ?_
          rintro e w1 ⟨rfl, hB1⟩
          have f0 := (b0.below hB1 b0.lt).at 0 rfl
          have x1 := hB0.trans (hB1.mono hB0.size)
          go_wp2_with fail
          go_ret2
          exact RetFd.nil' (x1.alloc x1.size _)
        · have hn4 : 32 < n := by omega
          clear hn2
          go_enter Tryz.func8, Tryz.ntmps8
          go_wp2_with fail
          rw [← hw0]
          clear hw0
          refine HC.out.mono ?_
          rintro e w1 ⟨rfl, hB1⟩
          have f0 := (b0.below hB1 b0.lt).at 0 rfl
          have x1 := hB0.trans (hB1.mono hB0.size)
          go_wp2_with fail
          go_ret2
          exact RetFd.nil' (x1.alloc x1.size _)
      · obtain ⟨m, rfl⟩ : ∃ m : Nat, n = m := ⟨n.toNat, by omega⟩
        rw [find_ok hc hq2 (by omega)]
        exact rf14Find_ok G p c m w hin (chkG_ok.1 hc) (hq hc hq2) (by have := hn (by omega); omega)
  · have HE := hidI (find_e1 (n := n) hc)
    have HC := hidI (rCheck_r G p c w0 _ rfl (HIN.out.below hB0) hl)
    rw [HE.out]
    generalize chkG G = r at *
    have hr2 : (r == 0) = false := by simpa using hc
    clear hin hq hn
    go_enter Tryz.func8, Tryz.ntmps8
    go_wp2_with fail
    rw [← hw0]
    clear hw0
    refine HC.out.mono ?_
    rintro e w1 ⟨rfl, hB1⟩
    have x1 := hB0.trans (hB1.mono hB0.size)
    go_wp2_with fail
    go_ret2
    exact RetFd.nil' (x1.alloc x1.size _)
end Go.Proofs.YtdhkdampdlhdoaaGreat
namespace Go.Proofs.YtdhkdampdlhdoaaGreat
open Go.RowKit

theorem findA_len {G : Gr} {n : Int} (hq : chkG G = 0 → ¬ 16 < G.q → G.q ≤ 3) (hn : n ≤ 32 → n ≤ 6) : (findA G n).1.length ≤ 1092 := by
  unfold findA
  split
  · simp
  · split
    · simp
    · split
      · simp
      · rename_i h1 h2 h3
        exact fdN_1092 (hq (by simpa using h1) h2) (by have := hn (by omega); omega)
def gr10 (G : Gr) : Bool := (decide (8 < G.n) && decide (G.n ≤ 64)) || (decide (30 < G.es.length) && decide (G.es.length ≤ 1024)) || decide (1027 < G.es.length)
theorem r10Great_any (G : Gr) (p : Option Addr) (c : Nat) (w : World) (hl : G.es.length ≤ 9223372036854775807) :
    Calls Tryz.prog 5 #[(.agg #[.int .i64 G.q, .int .i64 G.n, .slice p G.es.length c])] w fun e w' => e = .returned (.bool (gr10 G)) ∧ RowKit.Below w.heap.size w w' := by
  go_enter Tryz.func5, Tryz.ntmps5
  go_wp2
  all_goals go_ret
  all_goals exact ⟨ret_bool (by unfold gr10; rw [Bool.eq_iff_iff]; simp; omega), (RowKit.Below.refl _ _).alloc (Nat.le_refl _) _⟩

set_option maxRecDepth 100000 in
set_option maxHeartbeats 4000000 in
theorem lawFinds_any (G : Gr) (p : Option Addr) (c : Nat) (n : Int) (w : World) (hin : Sg 3 w edE p G.es) (hl : G.es.length ≤ 9223372036854775807) (hm : Mx w) :
    Calls Tryz.prog 3 #[(.agg #[.int .i64 G.q, .int .i64 G.n, .slice p G.es.length c]), .int .i64 n] w fun e w' => e = .returned (.bool true) ∧ RowKit.Below w.heap.size w w' := by
  have HIN := hidI hin
  have HAW := hidI (fun W (hW : RowKit.Below w.heap.size w W) => awake14_any W (hm.below hW))
  clear hin hm
  obtain ⟨w0, hw0⟩ : ∃ w0, w0 = w.alloc (.cells #[.int .i64 G.q, .int .i64 G.n, .slice p G.es.length c] 24) := ⟨_, rfl⟩
  have b0 : VRow w0 w.heap.size 24 [.int .i64 G.q, .int .i64 G.n, .slice p G.es.length c] := by subst hw0; exact VRow.new w _ _
  have hB0 : RowKit.Below w.heap.size w w0 := by subst hw0; exact (RowKit.Below.refl _ _).alloc (Nat.le_refl _) _
  have HGR := hidI (r10Great_any G p c w0 hl)
  generalize gr10 G = g at *
  by_cases hq : 3 < G.q ∧ G.q ≤ 16
  · obtain ⟨hqa, hqb⟩ := hq
    go_enter Tryz.func3, Tryz.ntmps3
    go_wp2_with fail
    rw [← hw0]
    clear hw0
    refine HGR.out.mono ?_
    rintro e w1 ⟨rfl, hB1⟩
    have x1 := hB0.trans (hB1.mono hB0.size)
    have f0 := (b0.below hB1 b0.lt).at 0 rfl
    cases g
    · go_wp2_with fail
      refine (HAW.out w1 x1).mono ?_
      rintro e w2 ⟨rfl, hB2⟩
      go_wp2
      go_ret
      exact ⟨rfl, x1.trans (hB2.mono x1.size)⟩
    · go_wp2_with fail
      refine (HAW.out w1 x1).mono ?_
      rintro e w2 ⟨rfl, hB2⟩
      go_wp2
      go_ret
      exact ⟨rfl, x1.trans (hB2.mono x1.size)⟩
  · by_cases hn : 6 < n ∧ n ≤ 32
    · obtain ⟨hna, hnb⟩ := hn
      by_cases hqa : 3 < G.q
      · have hqb : ¬ G.q ≤ 16 := by omega
        clear hq
        go_enter Tryz.func3, Tryz.ntmps3
        go_wp2_with fail
        rw [← hw0]
        clear hw0
        refine HGR.out.mono ?_
        rintro e w1 ⟨rfl, hB1⟩
        have x1 := hB0.trans (hB1.mono hB0.size)
        have f0 := (b0.below hB1 b0.lt).at 0 rfl
        cases g
        · go_wp2_with fail
          refine (HAW.out w1 x1).mono ?_
          rintro e w2 ⟨rfl, hB2⟩
          go_wp2
          go_ret
          exact ⟨rfl, x1.trans (hB2.mono x1.size)⟩
        · go_wp2_with fail
          refine (HAW.out w1 x1).mono ?_
          rintro e w2 ⟨rfl, hB2⟩
          go_wp2
          go_ret
          exact ⟨rfl, x1.trans (hB2.mono x1.size)⟩
      · clear hq
        go_enter Tryz.func3, Tryz.ntmps3
        go_wp2_with fail
        rw [← hw0]
        clear hw0
        refine HGR.out.mono ?_
        rintro e w1 ⟨rfl, hB1⟩
        have x1 := hB0.trans (hB1.mono hB0.size)
        have f0 := (b0.below hB1 b0.lt).at 0 rfl
        cases g
        · go_wp2_with fail
          refine (HAW.out w1 x1).mono ?_
          rintro e w2 ⟨rfl, hB2⟩
          go_wp2
          go_ret
          exact ⟨rfl, x1.trans (hB2.mono x1.size)⟩
        · go_wp2_with fail
          refine (HAW.out w1 x1).mono ?_
          rintro e w2 ⟨rfl, hB2⟩
          go_wp2
          go_ret
          exact ⟨rfl, x1.trans (hB2.mono x1.size)⟩
    · have HFA := hidI (fun W (hW : RowKit.Below w.heap.size w W) => fFind_any G p c n W (HIN.out.below hW) hl (fun _ h => by omega) (fun h => by omega))
      have HFB := hidI (fun W (hW : RowKit.Below w.heap.size w W) => rf14Find_any G p c n W (HIN.out.below hW) hl (fun _ h => by omega) (fun h => by omega))
      have HLN := hidI (findA_len (G := G) (n := n) (fun _ h => by omega) (fun h => by omega))
      generalize findA G n = x at *
      obtain ⟨m, k⟩ := x
      by_cases hqa : 3 < G.q
      · have hqb : ¬ G.q ≤ 16 := by omega
        by_cases hna : 6 < n
        · have hnb : ¬ n ≤ 32 := by omega
          clear hq hn
          go_enter Tryz.func3, Tryz.ntmps3
          go_wp2_with fail
          rw [← hw0]
          clear hw0
          refine HGR.out.mono ?_
          rintro e w1 ⟨rfl, hB1⟩
          have x1 := hB0.trans (hB1.mono hB0.size)
          have c1 := b0.below hB1 b0.lt
          have f0 := c1.at 0 rfl; have f1 := c1.at 1 rfl; have f2 := c1.at 2 rfl
          cases g
          · go_wp2_with fail
            refine (HFA.out w1 x1).mono ?_
            rintro e w2 ⟨q2, d2, rfl, hs2, hB2⟩
            have x2 := x1.trans (hB2.mono x1.size)
            have c2 := c1.below hB2 c1.lt
            have HS2 := hidI hs2
            clear f0 f1 f2 hs2
            have f0 := c2.at 0 rfl; have f1 := c2.at 1 rfl; have f2 := c2.at 2 rfl
            go_wp2_with fail
            refine (HFB.out w2 x2).mono ?_
            rintro e w3 ⟨q3, d3, rfl, hs3, hB3⟩
            have x3 := x2.trans (hB3.mono x2.size)
            have HE := hidI (equalW_any m m q2 q3 d2 d3 w3 (HS2.out.below hB3) hs3 (by have := HLN.out; omega) (by have := HLN.out; omega))
            rw [show eqW m m = true from decide_eq_true rfl] at HE
            clear f0 f1 f2 hs3
            go_wp2_with fail
            refine HE.out.mono ?_
            rintro e w4 ⟨rfl, hD4⟩
            have x4 := x3.trans (hD4.below _)
            go_wp2_with fail
            refine (HAW.out w4 x4).mono ?_
            rintro e w5 ⟨rfl, hB5⟩
            go_wp2
            go_ret
            exact ⟨rfl, x4.trans (hB5.mono x4.size)⟩
          · go_wp2_with fail
            refine (HAW.out w1 x1).mono ?_
            rintro e w2 ⟨rfl, hB2⟩
            go_wp2
            go_ret
            exact ⟨rfl, x1.trans (hB2.mono x1.size)⟩
        · clear hq hn
          go_enter Tryz.func3, Tryz.ntmps3
          go_wp2_with fail
          rw [← hw0]
          clear hw0
          refine HGR.out.mono ?_
          rintro e w1 ⟨rfl, hB1⟩
          have x1 := hB0.trans (hB1.mono hB0.size)
          have c1 := b0.below hB1 b0.lt
          have f0 := c1.at 0 rfl; have f1 := c1.at 1 rfl; have f2 := c1.at 2 rfl
          cases g
          · go_wp2_with fail
            refine (HFA.out w1 x1).mono ?_
            rintro e w2 ⟨q2, d2, rfl, hs2, hB2⟩
            have x2 := x1.trans (hB2.mono x1.size)
            have c2 := c1.below hB2 c1.lt
            have HS2 := hidI hs2
            clear f0 f1 f2 hs2
            have f0 := c2.at 0 rfl; have f1 := c2.at 1 rfl; have f2 := c2.at 2 rfl
            go_wp2_with fail
            refine (HFB.out w2 x2).mono ?_
            rintro e w3 ⟨q3, d3, rfl, hs3, hB3⟩
            have x3 := x2.trans (hB3.mono x2.size)
            have HE := hidI (equalW_any m m q2 q3 d2 d3 w3 (HS2.out.below hB3) hs3 (by have := HLN.out; omega) (by have := HLN.out; omega))
            rw [show eqW m m = true from decide_eq_true rfl] at HE
            clear f0 f1 f2 hs3
            go_wp2_with fail
            refine HE.out.mono ?_
            rintro e w4 ⟨rfl, hD4⟩
            have x4 := x3.trans (hD4.below _)
            go_wp2_with fail
            refine (HAW.out w4 x4).mono ?_
            rintro e w5 ⟨rfl, hB5⟩
            go_wp2
            go_ret
            exact ⟨rfl, x4.trans (hB5.mono x4.size)⟩
          · go_wp2_with fail
            refine (HAW.out w1 x1).mono ?_
            rintro e w2 ⟨rfl, hB2⟩
            go_wp2
            go_ret
            exact ⟨rfl, x1.trans (hB2.mono x1.size)⟩
      · by_cases hna : 6 < n
        · have hnb : ¬ n ≤ 32 := by omega
          clear hq hn
          go_enter Tryz.func3, Tryz.ntmps3
          go_wp2_with fail
          rw [← hw0]
          clear hw0
          refine HGR.out.mono ?_
          rintro e w1 ⟨rfl, hB1⟩
          have x1 := hB0.trans (hB1.mono hB0.size)
          have c1 := b0.below hB1 b0.lt
          have f0 := c1.at 0 rfl; have f1 := c1.at 1 rfl; have f2 := c1.at 2 rfl
          cases g
          · go_wp2_with fail
            refine (HFA.out w1 x1).mono ?_
            rintro e w2 ⟨q2, d2, rfl, hs2, hB2⟩
            have x2 := x1.trans (hB2.mono x1.size)
            have c2 := c1.below hB2 c1.lt
            have HS2 := hidI hs2
            clear f0 f1 f2 hs2
            have f0 := c2.at 0 rfl; have f1 := c2.at 1 rfl; have f2 := c2.at 2 rfl
            go_wp2_with fail
            refine (HFB.out w2 x2).mono ?_
            rintro e w3 ⟨q3, d3, rfl, hs3, hB3⟩
            have x3 := x2.trans (hB3.mono x2.size)
            have HE := hidI (equalW_any m m q2 q3 d2 d3 w3 (HS2.out.below hB3) hs3 (by have := HLN.out; omega) (by have := HLN.out; omega))
            rw [show eqW m m = true from decide_eq_true rfl] at HE
            clear f0 f1 f2 hs3
            go_wp2_with fail
            refine HE.out.mono ?_
            rintro e w4 ⟨rfl, hD4⟩
            have x4 := x3.trans (hD4.below _)
            go_wp2_with fail
            refine (HAW.out w4 x4).mono ?_
            rintro e w5 ⟨rfl, hB5⟩
            go_wp2
            go_ret
            exact ⟨rfl, x4.trans (hB5.mono x4.size)⟩
          · go_wp2_with fail
            refine (HAW.out w1 x1).mono ?_
            rintro e w2 ⟨rfl, hB2⟩
            go_wp2
            go_ret
            exact ⟨rfl, x1.trans (hB2.mono x1.size)⟩
        · clear hq hn
          go_enter Tryz.func3, Tryz.ntmps3
          go_wp2_with fail
          rw [← hw0]
          clear hw0
          refine HGR.out.mono ?_
          rintro e w1 ⟨rfl, hB1⟩
          have x1 := hB0.trans (hB1.mono hB0.size)
          have c1 := b0.below hB1 b0.lt
          have f0 := c1.at 0 rfl; have f1 := c1.at 1 rfl; have f2 := c1.at 2 rfl
          cases g
          · go_wp2_with fail
            refine (HFA.out w1 x1).mono ?_
            rintro e w2 ⟨q2, d2, rfl, hs2, hB2⟩
            have x2 := x1.trans (hB2.mono x1.size)
            have c2 := c1.below hB2 c1.lt
            have HS2 := hidI hs2
            clear f0 f1 f2 hs2
            have f0 := c2.at 0 rfl; have f1 := c2.at 1 rfl; have f2 := c2.at 2 rfl
            go_wp2_with fail
            refine (HFB.out w2 x2).mono ?_
            rintro e w3 ⟨q3, d3, rfl, hs3, hB3⟩
            have x3 := x2.trans (hB3.mono x2.size)
            have HE := hidI (equalW_any m m q2 q3 d2 d3 w3 (HS2.out.below hB3) hs3 (by have := HLN.out; omega) (by have := HLN.out; omega))
            rw [show eqW m m = true from decide_eq_true rfl] at HE
            clear f0 f1 f2 hs3
            go_wp2_with fail
            refine HE.out.mono ?_
            rintro e w4 ⟨rfl, hD4⟩
            have x4 := x3.trans (hD4.below _)
            go_wp2_with fail
            refine (HAW.out w4 x4).mono ?_
            rintro e w5 ⟨rfl, hB5⟩
            go_wp2
            go_ret
            exact ⟨rfl, x4.trans (hB5.mono x4.size)⟩
          · go_wp2_with fail
            refine (HAW.out w1 x1).mono ?_
            rintro e w2 ⟨rfl, hB2⟩
            go_wp2
            go_ret
            exact ⟨rfl, x1.trans (hB2.mono x1.size)⟩
end Go.Proofs.YtdhkdampdlhdoaaGreat
namespace Go.Proofs.YtdhkdampdlhdoaaGreat
open Go

/-! ### Words and their letters -/
theorem ltC_inv : ∀ c : Nat, c < 256 → 0 ≤ Chg.dig (c : Int) → Chg.dig (c : Int) < 16 → ltC (Chg.dig (c : Int)).toNat = UInt8.ofNat c := by decide +kernel
theorem bl_wdc (u : ByteArray) {a : Nat} (h : a < 16) : bl (wdA u a) = bl u ++ [ltC a] := by rw [bl_wd0, ltC_one a h]; rfl
theorem okw_bl (q : Int) (u : ByteArray) : Chg.okw q u.data.toList = (bl u).all (Chg.okc q) := rfl
/-- A word that is not empty is a word with a letter more. -/
theorem snoc_of {q : Int} (hq : q ≤ 16) {u : ByteArray} {k : Nat} (hs : u.size = k + 1) (ho : Chg.okw q u.data.toList = true) : ∃ (v : ByteArray) (a : Nat), a < q.toNat ∧ u = wdA v a ∧ v.size = k ∧ Chg.okw q v.data.toList = true ∧ bl v = (bl u).dropLast := by
  have hl : (bl u).length = k + 1 := by rw [bl_len, hs]
  have hne : bl u ≠ [] := fun e => by rw [e] at hl; simp at hl
  have he := List.dropLast_concat_getLast hne
  have hall : ∀ c ∈ bl u, Chg.okc q c = true := by rw [okw_bl, List.all_eq_true] at ho; exact ho
  have hc := hall _ (List.getLast_mem hne)
  generalize (bl u).getLast hne = c at *
  have hd : 0 ≤ Chg.dig (c.toNat : Int) ∧ Chg.dig (c.toNat : Int) < q := by
    unfold Chg.okc at hc
    rw [Bool.and_eq_true, decide_eq_true_eq, decide_eq_true_eq] at hc
    exact hc
  have hca : ltC (Chg.dig (c.toNat : Int)).toNat = c := by
    rw [ltC_inv c.toNat c.toNat_lt hd.1 (by omega), UInt8.ofNat_toNat]
  have hb : bl (lb (bl u).dropLast) = (bl u).dropLast := bl_lb _
  refine ⟨lb (bl u).dropLast, (Chg.dig (c.toNat : Int)).toNat, by omega, ?_, ?_, ?_, hb⟩
  · apply bl_inj
    rw [bl_wdc _ (by omega), hb, hca]
    exact he.symm
  · have := congrArg List.length hb
    rw [bl_len, List.length_dropLast, hl] at this
    omega
  · rw [okw_bl, hb, List.all_eq_true]
    exact fun x hx => hall x (List.dropLast_subset _ hx)
theorem size0 {u : ByteArray} (h : u.size = 0) : u = ⟨#[]⟩ := by
  apply bl_inj
  rw [show bl ⟨#[]⟩ = [] from rfl]
  exact List.eq_nil_of_length_eq_zero (by rw [bl_len, h])
/-- The words of one length: those that are accepted. -/
theorem mem_wk_iff {G : Gr} (hq : G.q ≤ 16) : ∀ {k : Nat} {u : ByteArray}, u ∈ wk G k ↔ u.size = k ∧ Chg.okw G.q u.data.toList = true ∧ accA G u = true
  | 0, u => by
    constructor
    · exact fun h => ⟨wk_size hq h, wk_okw hq h, wk_acc h⟩
    · rintro ⟨h1, _, h3⟩
      have hu := size0 h1
      subst hu
      rw [accA_en, enA_nil, upto_len, decide_eq_true_eq] at h3
      unfold wk
      rw [if_pos (by omega)]; simp
  | k + 1, u => by
    constructor
    · exact fun h => ⟨wk_size hq h, wk_okw hq h, wk_acc h⟩
    · rintro ⟨h1, h2, h3⟩
      obtain ⟨v, a, ha, rfl, hvs, hvo, _⟩ := snoc_of hq h1 h2
      exact mem_wk.2 ⟨v, (mem_wk_iff hq).2 ⟨hvs, hvo, acc_less (by omega) h3⟩, a, ha, h3, rfl⟩
/-! ### Parts of words -/
def acL (G : Gr) (l : List Int) : Bool := decide (0 < (endA G (upto G.n.toNat) l).length)
theorem next_mono {G : Gr} {st st' : List Int} (h : ∀ x ∈ st, x ∈ st') (b : Int) : ∀ x ∈ nextA G st b, x ∈ nextA G st' b := by
  intro x hx
  unfold nextA at hx ⊢
  obtain ⟨h1, h2⟩ := List.mem_filter.1 hx
  refine List.mem_filter.2 ⟨h1, ?_⟩
  unfold nxP at h2 ⊢
  obtain ⟨e, he, h3⟩ := List.any_eq_true.1 h2
  refine List.any_eq_true.2 ⟨e, he, ?_⟩
  unfold nxE at h3 ⊢
  simp only [Bool.and_eq_true, decide_eq_true_eq] at h3 ⊢
  exact ⟨h3.1, h3.2.1, h _ h3.2.2⟩
theorem end_mono {G : Gr} : ∀ (l : List Int) {st st' : List Int}, (∀ x ∈ st, x ∈ st') → ∀ x ∈ endA G st l, x ∈ endA G st' l
  | [], _, _, h => h
  | b :: l, _, _, h => end_mono l (next_mono h b)
theorem end_app (G : Gr) (st a b : List Int) : endA G st (a ++ b) = endA G (endA G st a) b := by unfold endA; rw [List.foldl_append]
theorem end_in {G : Gr} (hn : 0 ≤ G.n) (a : List Int) : ∀ x ∈ endA G (upto G.n.toNat) a, x ∈ upto G.n.toNat := by
  intro x hx
  have := (endA_st G _ (St.upto hn) a).2 x hx
  rw [mem_upto]; omega
theorem acL_right {G : Gr} (hn : 0 ≤ G.n) {a b : List Int} (h : acL G (a ++ b) = true) : acL G b = true := by
  unfold acL at h ⊢
  rw [decide_eq_true_eq] at h ⊢
  obtain ⟨x, hx⟩ := List.exists_mem_of_length_pos h
  rw [end_app] at hx
  exact List.length_pos_of_mem (end_mono b (end_in hn a) x hx)
theorem acL_left {G : Gr} {a b : List Int} (h : acL G (a ++ b) = true) : acL G a = true := by
  unfold acL at h ⊢
  rw [decide_eq_true_eq] at h ⊢
  rcases Nat.eq_zero_or_pos (endA G (upto G.n.toNat) a).length with h0 | h0
  · rw [end_app, List.eq_nil_of_length_eq_zero h0, endA_nil] at h
    simp at h
  · exact h0
def dgs (l : List UInt8) : List Int := l.map (fun c => Chg.dig c.toNat)
theorem acc_dgs (G : Gr) (u : ByteArray) : accA G u = acL G (dgs (bl u)) := rfl
theorem dgs_app (a b : List UInt8) : dgs (a ++ b) = dgs a ++ dgs b := List.map_append
theorem acL_inf {G : Gr} (hn : 0 ≤ G.n) {x l : List UInt8} (h : x <:+: l) (hl : acL G (dgs l) = true) : acL G (dgs x) = true := by
  obtain ⟨a, b, rfl⟩ := h
  rw [dgs_app, dgs_app] at hl
  exact acL_right hn (acL_left hl)
/-- In a word that is none lies a least one. -/
theorem least_in {G : Gr} (hn : 0 < G.n) : ∀ (m : Nat) (l : List UInt8), l.length = m → acL G (dgs l) = false → ∃ x : List UInt8, x ≠ [] ∧ x <:+: l ∧ acL G (dgs x) = false ∧ acL G (dgs x.tail) = true ∧ acL G (dgs x.dropLast) = true
  | 0, l, hm, h => by
    rw [List.eq_nil_of_length_eq_zero hm] at h
    have : acL G (dgs []) = true := by
      unfold acL
      rw [show endA G (upto G.n.toNat) (dgs []) = upto G.n.toNat from rfl, upto_len, decide_eq_true_eq]; omega
    rw [this] at h; cases h
  | m + 1, l, hm, h => by
    cases ht : acL G (dgs l.tail) with
    | false =>
      obtain ⟨x, h1, h2, h3⟩ := least_in hn m l.tail (by rw [List.length_tail]; omega) ht
      exact ⟨x, h1, h2.trans (List.tail_suffix l).isInfix, h3⟩
    | true =>
      cases hd : acL G (dgs l.dropLast) with
      | false =>
        obtain ⟨x, h1, h2, h3⟩ := least_in hn m l.dropLast (by rw [List.length_dropLast]; omega) hd
        exact ⟨x, h1, h2.trans (List.dropLast_prefix l).isInfix, h3⟩
      | true => exact ⟨l, fun e => by rw [e] at hm; simp at hm, List.infix_rfl, h, ht, hd⟩
/-! ### What is found -/
theorem mem_fdK {G : Gr} {k : Nat} {x : ByteArray} : x ∈ fdK G k ↔ ∃ u ∈ wk G k, ∃ a : Nat, a < G.q.toNat ∧ x = wdA u a ∧ accA G x = false ∧ x.extract 1 x.size ∈ wk G k := by
  unfold fdK
  rw [List.mem_flatMap]
  constructor
  · rintro ⟨u, hu, hx⟩
    unfold fdW at hx
    obtain ⟨a, ha, rfl⟩ := List.mem_map.1 hx
    obtain ⟨h1, h2⟩ := List.mem_filter.1 ha
    simp only [Bool.and_eq_true, Bool.not_eq_true', List.any_eq_true, decide_eq_true_eq] at h2
    obtain ⟨h3, y, hy, e⟩ := h2
    exact ⟨u, hu, a, List.mem_range.1 h1, rfl, h3, by rw [← e]; exact hy⟩
  · rintro ⟨u, hu, a, ha, rfl, h3, h4⟩
    refine ⟨u, hu, ?_⟩
    unfold fdW
    refine List.mem_map.2 ⟨a, List.mem_filter.2 ⟨List.mem_range.2 ha, ?_⟩, rfl⟩
    simp only [Bool.and_eq_true, Bool.not_eq_true', List.any_eq_true, decide_eq_true_eq]
    exact ⟨h3, _, h4, rfl⟩
theorem mem_fdN {G : Gr} {n : Nat} {x : ByteArray} : x ∈ fdN G n ↔ ∃ k, k < n ∧ x ∈ fdK G k := by
  unfold fdN
  rw [List.mem_flatMap]
  constructor
  · rintro ⟨k, hk, hx⟩; exact ⟨k, List.mem_range.1 hk, hx⟩
  · rintro ⟨k, hk, hx⟩; exact ⟨k, List.mem_range.2 hk, hx⟩
/-- What the law asks of each word that is found. -/
theorem fd_each {G : Gr} (hq : G.q ≤ 16) {n : Nat} {x : ByteArray} (h : x ∈ fdN G n) :
    1 ≤ x.size ∧ x.size ≤ n ∧ Chg.okw G.q x.data.toList = true ∧ accA G x = false ∧ accA G (x.extract 1 x.size) = true ∧ accA G (x.extract 0 (x.size - 1)) = true ∧ Chg.okw G.q (x.extract 1 x.size).data.toList = true ∧ Chg.okw G.q (x.extract 0 (x.size - 1)).data.toList = true := by
  obtain ⟨k, hk, hx⟩ := mem_fdN.1 h
  obtain ⟨u, hu, a, ha, rfl, h3, h4⟩ := mem_fdK.1 hx
  have hs := wd_sz u (a := a) (by omega)
  have hus := wk_size hq hu
  have hcut : (wdA u a).extract 0 ((wdA u a).size - 1) = u := by
    apply bl_inj
    rw [bl_ext, List.drop_zero, hs, bl_wdc u (by omega), Nat.add_sub_cancel, ← bl_len u, List.take_left]
  rw [hcut]
  exact ⟨by omega, by omega, okw_wd (wk_okw hq hu) (by omega) (by omega), h3, wk_acc h4, wk_acc hu, wk_okw hq h4, wk_okw hq hu⟩
def ordX (x y : ByteArray) : Prop := x.size < y.size ∨ (x.size = y.size ∧ bl x < bl y)
theorem fdK_ord {G : Gr} (hq : G.q ≤ 16) (k : Nat) : (fdK G k).Pairwise (fun x y => bl x < bl y) := by
  unfold fdK
  rw [List.pairwise_flatMap]
  refine ⟨fun u _ => ?_, List.Pairwise.imp_of_mem (fun {u v} hu hv h x hx y hy => ?_) (wk_sorted hq k)⟩
  · unfold fdW
    rw [List.pairwise_map]
    refine List.Pairwise.imp_of_mem (fun {a b} ha hb h => ?_) ((List.pairwise_lt_range (n := G.q.toNat)).filter _)
    have ha' := List.mem_range.1 (List.mem_filter.1 ha).1
    have hb' := List.mem_range.1 (List.mem_filter.1 hb).1
    rw [bl_wd0, bl_wd0]
    exact lt_app2 _ (letter_lt a (by omega) b (by omega) h)
  · unfold fdW at hx hy
    obtain ⟨a, _, rfl⟩ := List.mem_map.1 hx
    obtain ⟨b, _, rfl⟩ := List.mem_map.1 hy
    rw [bl_wd0, bl_wd0]
    exact lt_app _ _ (by rw [bl_len, bl_len, wk_size hq hu, wk_size hq hv]) h
theorem fdK_size {G : Gr} (hq : G.q ≤ 16) {k : Nat} {x : ByteArray} (h : x ∈ fdK G k) : x.size = k + 1 := by
  obtain ⟨u, hu, a, ha, rfl, _, _⟩ := mem_fdK.1 h
  rw [wd_sz u (a := a) (by omega), wk_size hq hu]
theorem fdN_ord {G : Gr} (hq : G.q ≤ 16) (n : Nat) : (fdN G n).Pairwise ordX := by
  unfold fdN
  rw [List.pairwise_flatMap]
  refine ⟨fun k _ => List.Pairwise.imp_of_mem (fun {x y} hx hy h => .inr ⟨by rw [fdK_size hq hx, fdK_size hq hy], h⟩) (fdK_ord hq k), ?_⟩
  refine List.Pairwise.imp (fun {k j} h x hx y hy => .inl ?_) (List.pairwise_lt_range (n := n))
  rw [fdK_size hq hx, fdK_size hq hy]; omega
/-- A word is one exactly if nothing that is found lies in it. -/
theorem fd_law {G : Gr} (hq : G.q ≤ 16) (hn : 0 < G.n) {w : ByteArray} (hw : Chg.okw G.q w.data.toList = true) : accA G w = !(fdN G w.size).any (fun x => Lib.contains w.data.toList x.data.toList) := by
  cases hacc : accA G w with
  | true =>
    rw [eq_comm, Bool.not_eq_true', List.any_eq_false]
    intro x hx hc
    have hi : bl x <:+: bl w := (contains_inf _ _).1 hc
    have h1 := acL_inf (G := G) (by omega) hi (by rw [← acc_dgs]; exact hacc)
    have h2 := (fd_each hq hx).2.2.2.1
    rw [acc_dgs, h1] at h2; cases h2
  | false =>
    rw [eq_comm, Bool.not_eq_false', List.any_eq_true]
    obtain ⟨x, h1, h2, h3, h4, h5⟩ := least_in hn _ (bl w) rfl (by rw [← acc_dgs]; exact hacc)
    have hle := h2.length_le
    rw [bl_len] at hle
    have hb : bl (lb x) = x := bl_lb x
    have hxs : (lb x).size = x.length := by rw [← bl_len, hb]
    have hxl : 1 ≤ x.length := List.length_pos_iff.2 h1
    have hall : ∀ c ∈ x, Chg.okc G.q c = true := by
      rw [okw_bl, List.all_eq_true] at hw
      exact fun c hc => hw c (h2.subset hc)
    have hxo : Chg.okw G.q (lb x).data.toList = true := by rw [okw_bl, hb, List.all_eq_true]; exact hall
    obtain ⟨v, a, ha, hxe, hvs, hvo, hvb⟩ := snoc_of hq (u := lb x) (k := x.length - 1) (by omega) hxo
    rw [hb] at hvb
    refine ⟨lb x, mem_fdN.2 ⟨x.length - 1, by omega, mem_fdK.2 ⟨v, (mem_wk_iff hq).2 ⟨hvs, hvo, by rw [acc_dgs, hvb]; exact h5⟩, a, ha, hxe, by rw [acc_dgs, hb]; exact h3, ?_⟩⟩, (contains_inf _ _).2 (by show bl (lb x) <:+: bl w; rw [hb]; exact h2)⟩
    have htb : bl ((lb x).extract 1 (lb x).size) = x.tail := by
      rw [bl_ext, hb, hxs, List.take_length, List.drop_one]
    refine (mem_wk_iff hq).2 ⟨?_, ?_, by rw [acc_dgs, htb]; exact h4⟩
    · rw [← bl_len, htb, List.length_tail]
    · rw [okw_bl, htb, List.all_eq_true]
      exact fun c hc => hall c (List.mem_of_mem_tail hc)
theorem fd_zero {G : Gr} (hn : G.n = 0) (n : Nat) : fdN G n = [] := by
  have h0 : wk G 0 = [] := by unfold wk; rw [if_neg (by omega)]
  unfold fdN
  rw [List.flatMap_eq_nil_iff]
  intro k _
  unfold fdK
  rw [wk_none h0 k (by omega)]; rfl
end Go.Proofs.YtdhkdampdlhdoaaGreat
namespace Go.Proofs.YtdhkdampdlhdoaaGreat
open Go.RowKit Go.Sort Go.Shelf Go.Lib

/-- Does a word of a list lie in a word that a closure holds? -/
theorem cf_any (g : Nat) (eg : ∀ args w, (callFunc g args).run Tryz.prog w = .ok (.enter g args) w) (l : List ByteArray) (p : Option Addr) (c : Nat) (s : ByteArray) (b : Nat) (w : World)
    (hg : ∀ (u : ByteArray) (W : World), Mx W → W.cell? ⟨b, 0, none⟩ = some (.string s) → Calls Tryz.prog g #[.string u, .pointer (some ⟨b, 0, none⟩)] W fun e w' => e = .returned (.bool (Lib.contains s.data.toList u.data.toList)) ∧ w' = W)
    (hin : Sl w Value.string p l) (hl : l.length ≤ 9223372036854775807) (hm : Mx w) (hb : VRow w b 9 [.string s]) :
    Calls Tryz.prog 13 #[.slice p l.length c, .func (.func g) #[] #[.pointer (some ⟨b, 0, none⟩)]] w fun e w' => e = .returned (.bool (l.any (fun u => Lib.contains s.data.toList u.data.toList))) ∧ Dr w w' := by
  rcases Nat.eq_zero_or_pos l.length with h0 | h0
  · have : l = [] := List.length_eq_zero_iff.1 h0
    subst this
    refine (Tryz.slices_ContainsFunc_empty (α := ByteArray) p c _ w).mono ?_
    rintro e w' ⟨rfl, rfl⟩
    exact ⟨rfl, Dr.refl _⟩
  · obtain ⟨b1, off, rfl, hb1, hc⟩ := hin.get 0 h0
    refine (Tryz.slices_ContainsFunc Value.string (fun u => Lib.contains s.data.toList u.data.toList) g #[.pointer (some ⟨b, 0, none⟩)] eg b1 off l.length c l w ?_ (Nat.le_refl _) hl ?_).mono ?_
    · intro W x hW
      exact (hg x W (hm.below hW) ((hb.below hW hb.lt).at 0 rfl)).mono (fun e w' h => ⟨h.1, 0, h.2⟩)
    · intro j hj
      rw [hc j hj, getElem!_pos _ j hj]
    · rintro e w' ⟨rfl, q, rfl⟩
      rw [List.take_length]
      exact ⟨rfl, ⟨q, rfl⟩⟩

end Go.Proofs.YtdhkdampdlhdoaaGreat
namespace Go.Proofs.YtdhkdampdlhdoaaGreat
open Go.RowKit Go.Sort Go.Shelf Go.Lib

theorem bless_lt : ∀ x y : List UInt8, x < y → Op.bytesLess x y = true
  | [], [], h => absurd h (List.lt_irrefl _)
  | [], _ :: _, _ => rfl
  | a :: x, [], h => by simp at h
  | a :: x, b :: y, h => by
    rw [List.cons_lt_cons_iff] at h
    unfold Op.bytesLess
    rcases h with h | ⟨rfl, h⟩
    · simp [h]
    · simp [bless_lt x y h]
theorem min1_any (s u : ByteArray) (b : Nat) (w : World) (hm : Mx w) (hs : s.size < 4294967281) (hb : w.cell? ⟨b, 0, none⟩ = some (.string s)) :
    Calls Tryz.prog 14 #[.string u, .pointer (some ⟨b, 0, none⟩)] w fun e w' => e = .returned (.bool (Lib.contains s.data.toList u.data.toList)) ∧ w' = w := by
  have HC := hidI (sContains_any s u w hm hs)
  generalize Lib.contains s.data.toList u.data.toList = r at *
  go_enter Tryz.func14, Tryz.ntmps14
  go_wp2_with fail
  refine HC.out.mono ?_
  rintro e w' ⟨rfl, hw⟩
  go_wp2
  go_ret
  first | exact ⟨rfl, hw⟩ | exact ⟨rfl, rfl⟩

set_option maxRecDepth 100000 in
set_option maxHeartbeats 8000000 in
theorem lawMinimal14_any (G : Gr) (p : Option Addr) (c : Nat) (s : ByteArray) (w : World) (hin : Sg 3 w edE p G.es) (hl : G.es.length ≤ 9223372036854775807) (hs : s.size ≤ maxLen) (hm : Mx w) :
    Calls Tryz.prog 4 #[(.agg #[.int .i64 G.q, .int .i64 G.n, .slice p G.es.length c]), .string s] w fun e w' => e = .returned (.bool true) ∧ RowKit.Below w.heap.size w w' := by
  have HIN := hidI hin
  have HMX := hidI hm
  have HAW := hidI (fun W (hW : RowKit.Below w.heap.size w W) => awake14_any W (hm.below hW))
  have HSM := hidI hs
  clear hin hm
  obtain ⟨w0, hw0⟩ : ∃ w0, w0 = (w.alloc (.cells #[.int .i64 G.q, .int .i64 G.n, .slice p G.es.length c] 24)).alloc (.cells #[.string s] 9) := ⟨_, rfl⟩
  have b0 : VRow w0 w.heap.size 24 [.int .i64 G.q, .int .i64 G.n, .slice p G.es.length c] := by subst hw0; exact (VRow.new w _ _).alloc _
  have b1 : VRow w0 (w.heap.size + 1) 9 [.string s] := by subst hw0; exact VRow.new1 w _ _ _
  have hB0 : RowKit.Below w.heap.size w w0 := by subst hw0; exact ((RowKit.Below.refl _ _).alloc (Nat.le_refl _) _).alloc (by simp) _
  have HGR := hidI (r10Great_any G p c w0 hl)
  have HRC := hidI (fun W (hW : RowKit.Below w.heap.size w W) => rCheck_r G p c W _ rfl (HIN.out.below hW) hl)
  have HWC := hidI (fun W => Chg.wcheck_any G.q s W hs)
  have HOK : Hid (chkG G = 0 → ¬ 3 < G.q → ¬ 6 < s.size → Chg.wchk G.q s.data.toList = 0 → ∀ W, RowKit.Below w.heap.size w W → Calls Tryz.prog 7 #[(.agg #[.int .i64 G.q, .int .i64 G.n, .slice p G.es.length c]), .int .i64 s.size] W (RetFd (fdN G s.size, 0) W)) :=
    fun h1 h2 h3 _ W hW => fFind_ok G p c s.size W (HIN.out.below hW) (chkG_ok.1 h1) (by omega) (by omega)
  have HVG : Hid (chkG G = 0 → Vg G) := fun h => chkG_ok.1 h
  have HWO : Hid (Chg.wchk G.q s.data.toList = 0 → Chg.okw G.q s.data.toList = true) := fun h => wchk_okw h
  generalize gr10 G = g at *
  generalize hr : chkG G = r at *
  have HR := hidI hr
  generalize hk : Chg.wchk G.q s.data.toList = k at *
  have HK := hidI hk
  clear hr hk hs
  go_enter Tryz.func4, Tryz.ntmps4
  go_wp2_with fail
  rw [← hw0]
  clear hw0
  refine HGR.out.mono ?_
  rintro e w1 ⟨rfl, hB1⟩
  have x1 := hB0.trans (hB1.mono hB0.size)
  have c1 := b0.below hB1 b0.lt
  have d1 := b1.below hB1 b1.lt
  clear b0 b1
  cases g
  case true =>
    go_wp2_with fail
    refine (HAW.out w1 x1).mono ?_
    rintro e w2 ⟨rfl, hB2⟩
    go_wp2
    go_ret
    exact ⟨rfl, x1.trans (hB2.mono x1.size)⟩
  case false =>
    have f0 := c1.at 0 rfl; have f1 := c1.at 1 rfl; have f2 := c1.at 2 rfl
    go_wp2_with fail
    refine (HRC.out w1 x1).mono ?_
    rintro e w2 ⟨rfl, hB2⟩
    have x2 := x1.trans (hB2.mono x1.size)
    have c2 := c1.below hB2 c1.lt
    have d2 := d1.below hB2 d1.lt
    clear f0 f1 f2 c1 d1
    have f0 := c2.at 0 rfl; have f1 := c2.at 1 rfl; have f2 := c2.at 2 rfl; have g0 := d2.at 0 rfl
    by_cases hr0 : r = 0
    case neg =>
      have hr1 : (r == 0) = false := by simpa using hr0
      go_wp2_with fail
      refine (HAW.out w2 x2).mono ?_
      rintro e w3 ⟨rfl, hB3⟩
      go_wp2
      go_ret
      exact ⟨rfl, x2.trans (hB3.mono x2.size)⟩
    case pos =>
      subst hr0
      by_cases hq : 3 < G.q
      · go_wp2_with fail
        refine (HAW.out w2 x2).mono ?_
        rintro e w3 ⟨rfl, hB3⟩
        go_wp2
        go_ret
        exact ⟨rfl, x2.trans (hB3.mono x2.size)⟩
      · by_cases h6 : 6 < s.size
        · have h6I : (6 : Int) < (s.size : Int) := by omega
          go_wp2_with fail
          refine (HAW.out w2 x2).mono ?_
          rintro e w3 ⟨rfl, hB3⟩
          go_wp2
          go_ret
          exact ⟨rfl, x2.trans (hB3.mono x2.size)⟩
        · have h6I : ¬ (6 : Int) < (s.size : Int) := by omega
          have hqd : decide (3 < G.q) = false := decide_eq_false hq
          have h6d : decide ((6 : Int) < (s.size : Int)) = false := decide_eq_false h6I
          go_wp2_with fail
          refine (HWC.out w2).mono ?_
          rintro e w3 ⟨rfl, hD3⟩
          have hB3 : RowKit.Below w2.heap.size w2 w3 := Dr.below hD3 _
          have x3 := x2.trans (hB3.mono x2.size)
          have c3 := c2.below hB3 c2.lt
          have d3 := d2.below hB3 d2.lt
          clear f0 f1 f2 g0 c2 d2 hD3
          have f0 := c3.at 0 rfl; have f1 := c3.at 1 rfl; have f2 := c3.at 2 rfl; have g0 := d3.at 0 rfl
          by_cases hk0 : k = 0
          case neg =>
            have hk1 : (k == 0) = false := by simpa using hk0
            have hk2 : (k != 0) = true := by simpa using hk0
            go_wp2_with fail
            refine (HAW.out w3 x3).mono ?_
            rintro e w4 ⟨rfl, hB4⟩
            go_wp2
            go_ret
            exact ⟨rfl, x3.trans (hB4.mono x3.size)⟩
          case pos =>
            subst hk0
            have HF := hidI (HOK.out (by first | rfl | trivial) hq h6 (by first | rfl | trivial) w3 x3)
            have HV := hidI (HVG.out (by first | rfl | trivial))
            have HWO2 := hidI (HWO.out (by first | rfl | trivial))
            have hq16 : G.q ≤ 16 := by omega
            have HE : Hid (∀ x ∈ fdN G s.size, 1 ≤ x.size ∧ x.size ≤ s.size ∧ Chg.okw G.q x.data.toList = true ∧ accA G x = false ∧ accA G (x.extract 1 x.size) = true ∧ accA G (x.extract 0 (x.size - 1)) = true ∧ Chg.okw G.q (x.extract 1 x.size).data.toList = true ∧ Chg.okw G.q (x.extract 0 (x.size - 1)).data.toList = true) := fun x hx => fd_each hq16 hx
            have HO : Hid ((fdN G s.size).Pairwise ordX) := fdN_ord hq16 _
            have HLW : Hid (0 < G.n → accA G s = !(fdN G s.size).any (fun x => Lib.contains s.data.toList x.data.toList)) := fun h => fd_law hq16 h HWO2.out
            have HZ : Hid (G.n = 0 → fdN G s.size = []) := fun h => fd_zero h _
            have hLn : (fdN G s.size).length ≤ 1092 := fdN_1092 (by omega) (by omega)
            have HACC : Hid (∀ (u : ByteArray), u.size ≤ 6 → Chg.okw G.q u.data.toList = true → ∀ W, RowKit.Below w.heap.size w W → Calls Tryz.prog 12 #[(.agg #[.int .i64 G.q, .int .i64 G.n, .slice p G.es.length c]), .string u] W fun e w' => e = .returned (.tuple #[.bool (accA G u), .int .i64 0]) ∧ RowKit.Below W.heap.size W w') := fun u hu ho W hW =>
              lAccepts_any G p c u W (HIN.out.below hW) HV.out hq16 (by unfold maxLen; omega) (Chg.wchk_ok _ _ HV.out.q1 hq16 (by rw [show u.data.toList.length = u.size by simp]; omega) ho) (by omega)
            have HSS := hidI (HWO2.out)
            generalize fdN G s.size = L at *
            clear HWC HWO HK HR HGR HRC HOK HVG
            go_wp2_with fail
            refine HF.out.mono ?_
            rintro e w4 ⟨q4, d4, rfl, hs4, hB4⟩
            have x4 := x3.trans (hB4.mono x3.size)
            have c4 := c3.below hB4 c3.lt
            have d4' := d3.below hB4 d3.lt
            have HS4 := hidI hs4
            clear f0 f1 f2 g0 c3 d3 hs4 hqd h6d HF
            by_cases hn : G.n = 0
            · have hn2 : (G.n == 0) = true := by simpa using hn
              have hL := HZ.out hn
              subst hL
              have f1 := c4.at 1 rfl
              clear hn
              go_wp2_with fail
              refine (HAW.out w4 x4).mono ?_
              rintro e w5 ⟨rfl, hB5⟩
              go_wp2
              go_ret
              exact ⟨rfl, x4.trans (hB5.mono x4.size)⟩
            · have hn2 : (G.n == 0) = false := by simpa using hn
              have HN := hidI (HLW.out (by have := HV.out.n1; omega))
              have f1 := c4.at 1 rfl
              clear hn HLW HZ
              go_wp2_with fail
              clear f1
              go_loopw [62] (fun iv wr => ∃ k : Nat, k ≤ L.length ∧ iv = .int .i64 k ∧ RowKit.Below w4.heap.size w4 wr) (fun iv _ => L.length - (intOf iv).toNat)
              case atStart => exact ⟨0, by omega, rfl, RowKit.Below.refl _ _⟩
              case round =>
                obtain ⟨k, hk, rfl, hBr⟩ := hrel
                have xr := x4.trans (hBr.mono x4.size)
                have cr := c4.below hBr c4.lt
                have dr := d4'.below hBr d4'.lt
                have hsr := HS4.out.below hBr
                by_cases hlt : k < L.length
                · have hltI : (k : Int) < (L.length : Int) := by omega
                  obtain ⟨b5, o5, rfl, hb5, hc5⟩ := hsr.get k hlt
                  have e1 := hc5 k hlt
                  obtain ⟨hx1, hx2, hx3, hx4, hx5, hx6, hx7, hx8⟩ := HE.out L[k] (List.getElem_mem hlt)
                  have hne := ne_empty hx1
                  have f0 := cr.at 0 rfl; have f1 := cr.at 1 rfl; have f2 := cr.at 2 rfl; have g0 := dr.at 0 rfl
                  have HOR : Hid (∀ m (h : m + 1 < L.length), ordX (L[m]'(by omega)) L[m + 1]) := fun m h => List.pairwise_iff_getElem.1 HO.out m (m + 1) (by omega) h (by omega)
                  have HC5 := hidI hc5
                  clear hc5
                  have hsz : ¬ (s.size : Int) < (L[k].size : Int) := by omega
                  have HB1 := hidI (HACC.out L[k] (by omega) hx3)
                  have HB2 := hidI (HACC.out (L[k].extract 1 L[k].size) (by rw [ByteArray.size_extract]; omega) hx7)
                  have HB3 := hidI (HACC.out (L[k].extract 0 (L[k].size - 1)) (by rw [ByteArray.size_extract]; omega) hx8)
                  rw [hx4] at HB1; rw [hx5] at HB2; rw [hx6] at HB3
                  clear hx3 hx4 hx5 hx6 hx7 hx8
                  have hxa : (1 : Int) ≤ (L[k].size : Int) := by omega
                  have hxb : ((L[k].size : Int) - 1).toNat = L[k].size - 1 := by omega
                  have hxc : (0 : Int) ≤ (L[k].size : Int) - 1 := by omega
                  have hxd : (L[k].size : Int) - 1 ≤ (L[k].size : Int) := by omega
                  have hwr : IntKind.i64.wrap ((L[k].size : Int) - 1) = (L[k].size : Int) - 1 := wrap_small _ hxc (by omega)
                  go_upto_region 11 with fail
                  go_cut [110] (fun s110 wx => s110 = .bool false ∧ wx = wr)
                  case first =>
                    cases k with
                    | zero =>
                      generalize L[0] = x at *
                      go_wp2_with fail
                      go_meet
                      exact ⟨rfl, rfl⟩
                    | succ m =>
                      have hor := HOR.out m hlt
                      have e0 := HC5.out m (by omega)
                      have hm0 : (0 : Int) < ((m + 1 : Nat) : Int) := by omega
                      have hm1 : ((m + 1 : Nat) : Int) - 1 = (m : Int) := by omega
                      have hm2 : (m : Int) < (L.length : Int) := by omega
                      generalize hy : L[m] = y at *
                      generalize L[m + 1] = x at *
                      rcases hor with h | ⟨h, hbl⟩
                      · have k1 : ¬ (x.size : Int) < (y.size : Int) := by omega
                        have k2 : ((y.size : Int) == (x.size : Int)) = false := by rw [beq_eq_false_iff_ne]; omega
                        clear h hy
                        go_wp2_with fail
                        go_meet
                        exact ⟨rfl, rfl⟩
                      · have k1 : ¬ (x.size : Int) < (y.size : Int) := by omega
                        have k2 : ((y.size : Int) == (x.size : Int)) = true := by rw [beq_iff_eq]; omega
                        have k3 : Op.bytesLess y.toList x.toList = true := by
                          rw [Lib.toList_data, Lib.toList_data]; exact bless_lt _ _ hbl
                        have HH := hidI h
                        clear h hy
                        go_wp2_with fail
                        go_meet
                        exact ⟨rfl, rfl⟩
                  case rest =>
                    obtain ⟨rfl, rfl⟩ := hcut
                    clear HOR HC5
                    generalize L[k] = x at *
                    go_wp2_with fail
                    refine (HB1.out wc xr).mono ?_
                    rintro e w5 ⟨rfl, hB5⟩
                    have x5 := xr.trans (hB5.mono xr.size)
                    have c5 := cr.below hB5 cr.lt
                    have zb : w.heap.size < w5.heap.size := c5.lt
                    clear f0 f1 f2 g0
                    have g0 := c5.at 0 rfl; have g1 := c5.at 1 rfl; have g2 := c5.at 2 rfl
                    have HW2 : Hid (∀ W, RowKit.Below w5.heap.size w5 W → Calls Tryz.prog 12 #[(.agg #[.int .i64 G.q, .int .i64 G.n, .slice p G.es.length c]), .string (x.extract 1 x.size)] W fun e w' => e = .returned (.tuple #[.bool true, .int .i64 0]) ∧ RowKit.Below W.heap.size W w') := fun W h => HB2.out W (x5.trans (h.mono x5.size))
                    go_upto_region 14 with fail
                    go_cut [11, 12] (fun s11 s12 wx => s11 = .bool true ∧ s12 = .int .i64 0 ∧ RowKit.Below w5.heap.size w5 wx)
                    case first =>
                      go_region_held3 (fun w' => w'.cell? ⟨w.heap.size, 0, none⟩ = some (.int .i64 G.q) ∧ w'.cell? ⟨w.heap.size, 1, none⟩ = some (.int .i64 G.n) ∧ w'.cell? ⟨w.heap.size, 2, none⟩ = some (.slice p G.es.length c) ∧ RowKit.Below w5.heap.size w5 w')
                        (first | (go_split_ands; refine ⟨?_, ?_, ?_, ?_⟩ <;> first | assumption | (go_keep; done) | exact below_drewN (RowKit.Below.refl _ _) 1 | exact (hBa.cell (Nat.lt_of_lt_of_le zb (RowKit.Below.size (by assumption)))).trans (by assumption) | exact RowKit.Below.trans (by assumption) (hBa.mono (RowKit.Below.size (by assumption)))))
                        (first
                          | (go_at_call 12; go_split_ands; refine (HW2.out _ (by assumption)).mono ?_; rintro e wA ⟨rfl, hBa⟩))
                      all_goals
                        go_wp2_with fail
                        go_meet
                        exact ⟨rfl, rfl, RowKit.Below.trans (by assumption) (hBa.mono (RowKit.Below.size (by assumption)))⟩
                    case rest =>
                      obtain ⟨rfl, rfl, hB6⟩ := hcut
                      obtain ⟨w6, rfl⟩ : ∃ w6 : World, w6 = wc := ⟨_, rfl⟩
                      have x6 := x5.trans (hB6.mono x5.size)
                      have c6 := c5.below hB6 c5.lt
                      have zb6 : w.heap.size < w6.heap.size := c6.lt
                      clear g0 g1 g2
                      have g0 := c6.at 0 rfl; have g1 := c6.at 1 rfl; have g2 := c6.at 2 rfl
                      have HW3 : Hid (∀ W, RowKit.Below w6.heap.size w6 W → Calls Tryz.prog 12 #[(.agg #[.int .i64 G.q, .int .i64 G.n, .slice p G.es.length c]), .string (x.extract 0 (x.size - 1))] W fun e w' => e = .returned (.tuple #[.bool true, .int .i64 0]) ∧ RowKit.Below W.heap.size W w') := fun W h => HB3.out W (x6.trans (h.mono x6.size))
                      go_upto_region 15 with fail
                      go_cut [13, 14] (fun s13 s14 wx => s13 = .bool true ∧ s14 = .int .i64 0 ∧ RowKit.Below w6.heap.size w6 wx)
                      case first =>
                        go_region_held3 (fun w' => w'.cell? ⟨w.heap.size, 0, none⟩ = some (.int .i64 G.q) ∧ w'.cell? ⟨w.heap.size, 1, none⟩ = some (.int .i64 G.n) ∧ w'.cell? ⟨w.heap.size, 2, none⟩ = some (.slice p G.es.length c) ∧ RowKit.Below w6.heap.size w6 w')
                          (first | (go_split_ands; refine ⟨?_, ?_, ?_, ?_⟩ <;> first | assumption | (go_keep; done) | exact below_drewN (RowKit.Below.refl _ _) 1 | exact (hBa.cell (Nat.lt_of_lt_of_le zb6 (RowKit.Below.size (by assumption)))).trans (by assumption) | exact RowKit.Below.trans (by assumption) (hBa.mono (RowKit.Below.size (by assumption)))))
                          (first
                            | (go_at_call 12; go_split_ands; refine (HW3.out _ (by assumption)).mono ?_; rintro e wA ⟨rfl, hBa⟩))
                        all_goals
                          go_wp2_with fail
                          go_meet
                          exact ⟨rfl, rfl, RowKit.Below.trans (by assumption) (hBa.mono (RowKit.Below.size (by assumption)))⟩
                      case rest =>
                        obtain ⟨rfl, rfl, hB7⟩ := hcut
                        have hfin := hBr.trans ((hB5.trans ((hB6.trans (hB7.mono hB6.size)).mono hB5.size)).mono hBr.size)
                        go_wp2_with fail
                        go_roundw
                        case rel => exact ⟨k + 1, by omega, by go_num, hfin⟩
                        case measure => simp [intOf]; omega
                · obtain rfl : k = L.length := by omega
                  have hltI : ¬ (L.length : Int) < (L.length : Int) := by omega
                  have f0 := cr.at 0 rfl; have f1 := cr.at 1 rfl; have f2 := cr.at 2 rfl; have g0 := dr.at 0 rfl
                  have HA := hidI (HACC.out s (by omega) HSS.out wr xr)
                  go_wp2_with fail
                  refine HA.out.mono ?_
                  rintro e w5 ⟨rfl, hB5⟩
                  have x5 := xr.trans (hB5.mono xr.size)
                  have HC := hidI (cf_any 14 (enters_of Tryz.func14 (by kernel_rfl) rfl) L q4 d4 s (w.heap.size + 1) w5 (fun u W hmW hc => min1_any s u (w.heap.size + 1) W hmW (by omega) hc) (hsr.below hB5) (by omega) (HMX.out.below x5) (dr.below hB5 dr.lt))
                  have hNN := HN.out
                  generalize L.any (fun x => Lib.contains s.data.toList x.data.toList) = r at *
                  generalize accA G s = ac at *
                  subst hNN
                  clear f0 f1 f2 g0
                  cases r
                  · go_wp2_with fail
                    refine HC.out.mono ?_
                    rintro e w6 ⟨rfl, hD6⟩
                    have x6 := x5.trans (hD6.below _)
                    go_wp2_with fail
                    refine (HAW.out w6 x6).mono ?_
                    rintro e w7 ⟨rfl, hB7⟩
                    go_wp2
                    go_ret
                    exact ⟨rfl, x6.trans (hB7.mono x6.size)⟩
                  · go_wp2_with fail
                    refine HC.out.mono ?_
                    rintro e w6 ⟨rfl, hD6⟩
                    have x6 := x5.trans (hD6.below _)
                    go_wp2_with fail
                    refine (HAW.out w6 x6).mono ?_
                    rintro e w7 ⟨rfl, hB7⟩
                    go_wp2
                    go_ret
                    exact ⟨rfl, x6.trans (hB7.mono x6.size)⟩
end Go.Proofs.YtdhkdampdlhdoaaGreat
namespace Go.Proofs.YtdhkdampdlhdoaaGreat
open Go.ChangeShapes Go.WideShapes Go.ChangeAt Go.RowKit

theorem own : ownKnob Tryz.prog.godebug = none := by kernel_rfl
theorem laidOut : laidOutB Tryz.prog = true := by kernel_rfl

theorem trodAll_below {H : Type} {enc : TypeId × Value → H} {W W' : World} (hb : Below W.heap.size W W') :
    ∀ (ts : List TypeId) (vs : List Value) (ds : List (DataW H)) (p : List MemPlace), (∀ t ∈ ts, Tryz.prog.readableRec t = true ∧ t < Tryz.prog.types.size) →
      DataW.TrodAll enc Tryz.prog W 0 (fun _ => true) true ts vs ds p → (∀ x ∈ p, x.block < W.heap.size) →
      DataW.TrodAll enc Tryz.prog W' 0 (fun b => decide (b < W.heap.size)) true ts vs ds p
  | [], vs, ds, p, _, h, _ => by
    obtain ⟨rfl, rfl, rfl⟩ := trodAll_nil h
    exact trodAll_mk0
  | t :: ts, vs, ds, p, ht, h, hlt => by
    obtain ⟨v, vs', d, ds', p', q', rfl, rfl, rfl, h0, h1⟩ := trodAll_cons h
    exact trodAll_cons_mk (Below.trod laidOut (ht t List.mem_cons_self).1 (ht t List.mem_cons_self).2 h0 hb (fun x hx => hlt x (List.mem_append_left _ hx)))
      (trodAll_below hb ts vs' ds' q' (fun t h => ht t (List.mem_cons_of_mem _ h)) h1 (fun x hx => hlt x (List.mem_append_right _ hx)))

/-- What the row asks behind the call of a law. -/
theorem law_post {H : Type} {enc : TypeId × Value → H} {f : Func} {s : ChangeSpec} {W W' : World} {args : Array Value} {ds gs : List (DataW H)} {before : List MemPlace}
    (hW : DataW.Whole enc Tryz.prog f.params.toList s.vars false W args.toList ds gs before) (hv : s.vars = [])
    (hr : f.resultTypes = #[4]) (ht : ∀ t ∈ f.params.toList, Tryz.prog.readableRec t = true ∧ t < Tryz.prog.types.size)
    (hfr : (s.fn H (ds ++ gs)).results = [.lit (.bool true)]) (hfa : (s.fn H (ds ++ gs)).args = ds) (hfv : (s.fn H (ds ++ gs)).vars = [])
    (hB : Below W.heap.size W W') : s.post enc Tryz.prog f false true false false W args (.bool true) W' := by
  have hW' := hW
  obtain ⟨p, q, hA, hV, rfl, hfz, hnd⟩ := hW
  have hlt : ∀ x ∈ p, x.block < W.heap.size := fun x hx => hW'.lt x (List.mem_append_left _ hx)
  refine ⟨ds, gs, _, [] ++ [], p, [], hW', ?_, ?_, ?_, hB.frame _, fun h => by cases h⟩
  · rw [hfr, hr]; exact trodAll_mk1 (shut_bool Tryz.underlying4 true)
  · rw [hfa]; exact trodAll_below hB _ _ _ _ ht hA hlt
  · rw [hfv, hv]; exact rfl
end Go.Proofs.YtdhkdampdlhdoaaGreat
namespace Go.Proofs.YtdhkdampdlhdoaaGreat
open Go.Joins Go.ChangeShapes Go.WideShapes Go.ChangeAt Go.RowKit Go.Deep

open Go.ChangeMaps (open_string shut_string)

section
variable {H : Type} {enc : TypeId × Value → H} {P : Program} {w : World} {base : Nat} {spare : Nat → Bool} {held : Bool}
theorem open_slice_fields {t e : TypeId} {fs : Array Field} {fuel : Nat} {cs : List Value} {x : DataW H × List MemPlace} (ht : P.underlying t = some (.slice e)) (he : P.underlying e = some (.struct fs))
    (hone : oneCellFields P fs = true) (hC : P.cellsOf e = fs.size) (h : DataW.trod enc P w base spare held fuel t cs = some x) :
    (cs = [.slice none 0 0] ∧ x = (.nil, [])) ∨
    ∃ (a : Addr) (len cap m : Nat) (D : Nat → DataW H) (Pl : Nat → List MemPlace), cs = [.slice (some a) len cap] ∧ base ≤ a.block ∧ len ≤ cap ∧ cap ≤ maxLen ∧ m = (if spare a.block then cap else len) ∧
      x = (.slice ((List.range len).map D) ((List.range (m - len)).map fun j => D (len + j)), MemPlace.row a (m * fs.size) ++ (List.range m).flatMap Pl) ∧
      ∀ i, i < m → ∃ (ys : List (DataW H × List MemPlace)) (n : Nat), D i = .agg (ys.map (·.1)) ∧ Pl i = ys.flatMap (·.2) ∧ ys.length = fs.size ∧
        ∀ (j : Nat) (f : Field), fs[j]? = some f → ∃ (v : Value) (y : DataW H × List MemPlace), w.cell? (a.add (i * fs.size + j)) = some v ∧ ys[j]? = some y ∧ DataW.trod enc P w base spare held n f.type [v] = some y := by
  rcases open_slice ht h with h0 | ⟨a, len, cap, m, n, D, Pl, hcs, hb, hl, hm, hmm, hx, hi⟩
  · exact .inl h0
  · refine .inr ⟨a, len, cap, m, D, Pl, hcs, hb, hl, hm, hmm, by rw [hC] at hx; exact hx, fun i him => ?_⟩
    obtain ⟨cs', hc, ht'⟩ := hi i him
    rw [hC] at hc
    obtain ⟨ys, n', hn', hy, hlen, hyl, hf⟩ := DataW.trod_struct he ht'
    obtain ⟨_, hcl, hat⟩ := World.cells?_some hc
    simp only [Prod.mk.injEq] at hy
    refine ⟨ys, n', hy.1, hy.2, hyl, fun j f hj => ?_⟩
    obtain ⟨ho, hk⟩ := hone_of hone j f hj
    have hjl : j < fs.size := (Array.getElem?_eq_some_iff.1 hj).1
    have hcell := hat j hjl
    have hv : cs'[j]? = some (cs'[j]'(by omega)) := List.getElem?_eq_getElem (by omega)
    have h1 := hf j f hj
    rw [ho, hk] at h1
    have hone' : (cs'.drop j).take 1 = [cs'[j]'(by omega)] := by
      rw [List.drop_eq_getElem_cons (by omega)]
      rfl
    rw [hone'] at h1
    have hys : ys[j]? = some (ys[j]'(by omega)) := List.getElem?_eq_getElem (by omega)
    refine ⟨_, _, ?_, hys, h1.trans hys⟩
    rw [← Go.Deep.add_add, hcell, hv]
end
/-- Elements that each exist make a list. -/
theorem list_of {α : Type} {P : Nat → α → Prop} : ∀ (n : Nat), (∀ i, i < n → ∃ x, P i x) → ∃ l : List α, l.length = n ∧ ∀ i (h : i < l.length), P i l[i]
  | 0, _ => ⟨[], rfl, fun i h => by simp at h⟩
  | n + 1, h => by
    obtain ⟨l, hl, hp⟩ := list_of n (fun i hi => h i (by omega))
    obtain ⟨x, hx⟩ := h n (by omega)
    refine ⟨l ++ [x], by simp [hl], fun i hi => ?_⟩
    by_cases h2 : i < l.length
    · rw [List.getElem_append_left h2]; exact hp i h2
    · have : i = n := by simp at hi; omega
      subst this
      subst hl
      simpa using hx

theorem cellsInt : Tryz.prog.cellsOf 3 = 1 := by kernel_rfl
theorem cellsGraph : Tryz.prog.cellsOf 24 = 3 := by kernel_rfl
theorem readGraph : Tryz.prog.readableRec 24 = true ∧ 24 < Tryz.prog.types.size := ⟨by kernel_rfl, of_decide_eq_true (by kernel_rfl)⟩
/-- A list of edges inside what came in, as the walks take it. -/
theorem edges_at {H : Type} {enc : TypeId × Value → H} {W : World} {fuel : Nat} {v : Value} {y : DataW H × List MemPlace}
    (h : DataW.trod enc Tryz.prog W 0 (fun _ => true) true fuel 22 [v] = some y) (hlt : ∀ x ∈ y.2, x.block < W.heap.size) :
    ∃ (p : Option Addr) (l : List Ed) (c : Nat), v = .slice p l.length c ∧ Sg 3 W edE p l ∧ l.length ≤ 9223372036854775807 := by
  rcases open_slice_fields Tryz.underlying22 Tryz.underlying45 (by kernel_rfl) (by kernel_rfl) h with ⟨hcs, hx⟩ | ⟨a, len, cap, m, D, Pl, hcs, _, hl, hm, hmm, hx, hf⟩
  · simp at hcs
    subst hcs
    exact ⟨none, [], 0, rfl, Sg.nil _ _ _ _, by simp⟩
  · simp at hcs
    subst hcs hx
    simp only [if_true] at hmm
    subst hmm
    obtain ⟨l, hll, hp⟩ := list_of (P := fun i (s : Ed) => W.cell? (a.add (i * 3 + 0)) = some (.int .i64 s.f) ∧ W.cell? (a.add (i * 3 + 1)) = some (.int .i64 s.l) ∧ W.cell? (a.add (i * 3 + 2)) = some (.int .i64 s.t)) len (fun i hi => by
      obtain ⟨ys, n, _, _, _, hj⟩ := hf i (by omega)
      obtain ⟨v0, y0, hc0, _, h0⟩ := hj 0 _ rfl
      obtain ⟨v1, y1, hc1, _, h1⟩ := hj 1 _ rfl
      obtain ⟨v2, y2, hc2, _, h2⟩ := hj 2 _ rfl
      obtain ⟨n0, e0, _, _⟩ := DataW.trod_int Tryz.underlying3 h0
      obtain ⟨n1, e1, _, _⟩ := DataW.trod_int Tryz.underlying3 h1
      obtain ⟨n2, e2, _, _⟩ := DataW.trod_int Tryz.underlying3 h2
      simp at e0 e1 e2
      subst e0 e1 e2
      exact ⟨⟨n0, n1, n2⟩, hc0, hc1, hc2⟩)
    subst hll
    refine ⟨some a, l, _, rfl, ?_, by unfold maxLen at hm; omega⟩
    by_cases h0 : l.length = 0
    · exact .inl (List.length_eq_zero_iff.1 h0)
    · obtain ⟨b, off, spot⟩ := a
      have hspot : spot = none := by simpa [Addr.add] using World.cell?_spot (hp 0 (by omega)).1
      subst hspot
      refine .inr ⟨b, off, rfl, hlt (.cell b off) (List.mem_append_left _ (MemPlace.mem_row.2 ⟨0, Nat.mul_pos (by omega) (by decide), by simp⟩)), fun i hi j hj => ?_⟩
      have hc := hp i hi
      have : j = 0 ∨ j = 1 ∨ j = 2 := by omega
      rw [Nat.add_assoc, ← add_plain]
      rcases this with rfl | rfl | rfl
      · rw [hc.1]; rfl
      · rw [hc.2.1]; rfl
      · rw [hc.2.2]; rfl
set_option maxRecDepth 100000 in
/-- A graph that came in, as the walks take it. -/
theorem graph_in {H : Type} {enc : TypeId × Value → H} {W : World} {ps : List MemPlace} {v : Value} {d : DataW H} {base : Nat} (hval : Value.okWide Tryz.prog W .any base 24 v)
    (h : DataW.Trod enc Tryz.prog W 0 (fun _ => true) true 24 v d ps) (hlt : ∀ x ∈ ps, x.block < W.heap.size) :
    ∃ (G : Gr) (p : Option Addr) (c : Nat), v = .agg #[.int .i64 G.q, .int .i64 G.n, .slice p G.es.length c] ∧ Sg 3 W edE p G.es ∧ G.es.length ≤ 9223372036854775807 := by
  obtain ⟨v0, v1, v2, y0, y1, y2, n, rfl, rfl, rfl, h0, h1, h2⟩ := open_agg3 Tryz.underlying24 (by kernel_rfl) cellsGraph hval h
  obtain ⟨q, e0, _, _⟩ := DataW.trod_int Tryz.underlying3 h0
  obtain ⟨k, e1, _, _⟩ := DataW.trod_int Tryz.underlying3 h1
  simp at e0 e1
  subst e0 e1
  obtain ⟨p, l, c, rfl, s, b⟩ := edges_at h2 (fun x hx => hlt x (List.mem_append_right _ (List.mem_append_right _ hx)))
  exact ⟨⟨q, k, l⟩, p, c, rfl, s, b⟩

end Go.Proofs.YtdhkdampdlhdoaaGreat
namespace Go.Proofs.YtdhkdampdlhdoaaGreat
open Go.ChangeShapes Go.WideShapes Go.ChangeAt Go.RowKit
open Go.ChangeMaps (open_string shut_string)

theorem readStrM : Tryz.prog.readableRec 9 = true ∧ 9 < Tryz.prog.types.size := ⟨by kernel_rfl, of_decide_eq_true (by kernel_rfl)⟩
set_option maxRecDepth 100000 in
theorem minimal14_lifted (os : Os) (started : os.Started) (H : Type) (enc : TypeId × Value → H) :
    ReturnsInHanded {} Tryz.checked os 4 .any (Rows.forbiddenMinimalSpec.pre6 enc Tryz.prog Tryz.f4 Rows.forbiddenMinimalRow.domain false) (Rows.forbiddenMinimalSpec.post enc Tryz.prog Tryz.f4 false true false false) := by
  refine returnsInHanded_of_change_shaped (C := Tryz.checked) own started (by kernel_rfl) Tryz.func4
    (ChangeSpec.witness6 (enc := enc) (C := Tryz.checked) false ⟨#[], #[.agg #[.int .i64 0, .int .i64 0, .slice none 0 0], .string ⟨#[]⟩], []⟩ 8 (by kernel_rfl) (by kernel_rfl) (by kernel_rfl) (by kernel_rfl)) ?_
  intro W base args ds gs before hval0 hW hcnd _ hsh _
  have hval : ∀ (j : Nat) t v, Tryz.f4.params[j]? = some t → args[j]? = some v → Value.okWide Tryz.prog W .any base t v := hval0
  have hW' := hW
  obtain ⟨p, q, hA0, hV, rfl, hfz, hnd⟩ := hW
  have hA : DataW.TrodAll enc Tryz.prog W 0 (fun _ => true) true Tryz.f4.params.toList args.toList ds p := hA0
  rw [Tryz.params4] at hA hval
  obtain ⟨v0, v1, d0, d1, p0, p1, rfl, rfl, rfl, h0, h1⟩ := trodAll_two hA
  obtain ⟨rfl, rfl⟩ := trodVars_none hV
  have hlt : ∀ x ∈ p0 ++ p1, x.block < W.heap.size := fun x hx => hW'.lt x (List.mem_append_left _ (by simpa using hx))
  obtain ⟨G, pg, cg, rfl, hsg, hlg⟩ := graph_in (hval 0 24 v0 rfl rfl) h0 (fun x hx => hlt x (List.mem_append_left _ hx))
  obtain ⟨a1, rfl, rfl, rfl, w1⟩ := open_string Tryz.underlying9 (hval 1 9 v1 rfl rfl) h1
  have hmx : Mx W := Tryz.laysM144.s1_3 W hsh
  refine (lawMinimal14_any G pg cg a1 W hsg hlg w1 hmx).mono fun e W' ⟨he, hB⟩ => ?_
  subst he
  refine ⟨_, rfl, law_post hW' rfl (by kernel_rfl) ?_ rfl rfl rfl hB⟩
  rw [Tryz.params4]
  intro t ht
  simp only [List.mem_cons, List.not_mem_nil, or_false] at ht
  rcases ht with rfl | rfl
  · exact readGraph
  · exact readStrM

theorem forbiddenMinimal_holds : Rows.ForbiddenMinimalSaid :=
  OpenClaim.holds_of_wide 4 Tryz.f4 rfl rfl rfl rfl rfl rfl rfl ⟨rfl, rfl, rfl, rfl, rfl⟩ rfl rfl rfl rfl rfl (by kernel_rfl) Tryz.func4 (by kernel_rfl)
    (of_decide_eq_true (by kernel_rfl)) (by unfold Func.isWrapper; rw [if_neg (of_decide_eq_false (by kernel_rfl))]; exact ⟨rfl, rfl⟩)
    (fun os started H enc _ => minimal14_lifted os started H enc)
#print axioms forbiddenMinimal_holds
end Go.Proofs.YtdhkdampdlhdoaaGreat
