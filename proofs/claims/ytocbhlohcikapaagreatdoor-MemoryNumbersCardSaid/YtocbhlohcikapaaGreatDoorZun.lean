/-
  Words, plain lemmas and walks, merged: Ah, Mw, Mx, Dk, Ai, Aj, In.
-/
import Derived.Test.YtocbhlohcikapaaGreatDoorZum
import Derived.Test.YtocbhlohcikapaaGreatDoorZug
import Derived.Test.YtocbhlohcikapaaGreatDoorZuh
set_option linter.unusedVariables false
set_option linter.unusedSimpArgs false
namespace Go.Proofs.YtocbhlohcikapaaGreatDoor
section
open Go.RowKit Go.Sort Go.Shelf
theorem prs_row (es : List Ed) (k : Nat) : prsTo es k ++ prsR es k es.length = prsTo es (k + 1) ++ prsR es (k + 1) 0 := by rw [prsTo_succ, prsR_zero, List.append_nil]
theorem prs_end (es : List Ed) : prsTo es es.length ++ prsR es es.length 0 = prs es := by rw [prsR_zero, List.append_nil]; rfl
set_option maxRecDepth 100000 in
set_option maxHeartbeats 4000000 in
theorem r15Step_any (G : Gr) (p : Option Addr) (c N : Nat) (F : List Bool) (p1 : Option Addr) (c1 B1 : Nat) (bs1 : List Nat) (hv : Vg G) (hN : G.n = N) (w : World) (hin : Sg 3 w edE p G.es) (hF : F.length = N * N) (hP1 : PB B1 N N F (.slice p1 N c1) bs1 w) : Calls Tryz.prog 79 #[(.agg #[.int .i64 G.q, .int .i64 G.n, .slice p G.es.length c]), .slice p1 N c1] w (RetPB N (aftF N G.es F) w) := by
 have HIN := hidI hin; have HV := hidI hv; have HNN := hidI hN; have HF := hidI hF; have HP1 := hidI hP1
 have hl := hv.len
 have hN64 : N ≤ 64 := by have := hv.n2; omega
 obtain ⟨w0, hw0⟩ : ∃ w0, w0 = w.alloc (.cells #[.int .i64 G.q, .int .i64 G.n, .slice p G.es.length c] 24) := ⟨_, rfl⟩
 have b0 : VRow w0 w.heap.size 24 [.int .i64 G.q, .int .i64 G.n, .slice p G.es.length c] := by subst hw0; exact VRow.new w _ _
 have hB0 : RowKit.Below w.heap.size w w0 := by subst hw0; exact (RowKit.Below.refl _ _).alloc (Nat.le_refl _) _
 have HNO := hidI (r15none_any G p c N hN hN64 w0)
 have g0 := b0.at 0 rfl; have g1 := b0.at 1 rfl; have g2 := b0.at 2 rfl
 have HEND : Hid (pTo N G.es Ed.f Ed.t F (prsTo G.es G.es.length ++ prsR G.es G.es.length 0) = aftF N G.es F) := by rw [prs_end]; rfl
 clear hin hv hN hF hP1
 go_enter Tryz.func79, Tryz.ntmps79
 go_upto_region 1 with fail
 rw [← hw0]
 clear hw0
 go_wp2_with fail
 refine HNO.out.mono ?_
 rintro e w1 ⟨v, bs, rfl, hP, hB⟩
 have hP : PB w0.heap.size N N (pTo N G.es Ed.f Ed.t F (prsTo G.es 0 ++ prsR G.es 0 0)) v bs w1 := hP
 clear g0 g1 g2 HNO
 obtain ⟨pv, cv, rfl, hsh⟩ := hP.shape
 clear hsh
 go_wp2_with fail
 go_loopw [6] (fun iv wr => ∃ i : Nat, i ≤ G.es.length ∧ iv = .int .i64 i ∧ PB w0.heap.size N N (pTo N G.es Ed.f Ed.t F (prsTo G.es i ++ prsR G.es i 0)) (.slice pv N cv) bs wr ∧ RowKit.Below w0.heap.size w0 wr) (fun iv _ => G.es.length - (intOf iv).toNat)
 case atStart => exact ⟨0, Nat.zero_le _, rfl, hP, hB⟩
 case round =>
  clear hP hB
  obtain ⟨i, hi', rfl, hP, hB⟩ := hrel
  have f2 := (b0.below hB b0.lt).at 2 rfl
  by_cases hi : i < G.es.length
  ·have hiI : (i : Int) < (G.es.length : Int) := by omega
   have HR := hidI (prs_row G.es i)
   go_wp2_with fail
   obtain ⟨wo, rfl⟩ : ∃ wo : World, wo = wr := ⟨_, rfl⟩
   go_loopw [7] (fun jv wx => ∃ k : Nat, k ≤ G.es.length ∧ jv = .int .i64 k ∧ PB w0.heap.size N N (pTo N G.es Ed.f Ed.t F (prsTo G.es i ++ prsR G.es i k)) (.slice pv N cv) bs wx ∧ RowKit.Below w0.heap.size w0 wx) (fun jv _ => G.es.length - (intOf jv).toNat)
   case atStart => exact ⟨0, Nat.zero_le _, rfl, hP, hB⟩
   case round =>
    clear hP hB f2
    obtain ⟨k, hk', rfl, hP, hB⟩ := hrel
    obtain ⟨W, rfl⟩ : ∃ W : World, W = wr := ⟨_, rfl⟩
    have kg := b0.below hB b0.lt
    have f2 := kg.at 2 rfl
    by_cases hk : k < G.es.length
    ·have hkI : (k : Int) < (G.es.length : Int) := by omega
     have hBw := hB0.trans (hB.mono hB0.size)
     obtain ⟨outN, HON⟩ : ∃ o, Hid (pTo N G.es Ed.f Ed.t F (prsTo G.es i ++ prsR G.es i (k + 1)) = o) := ⟨_, rfl⟩
     have HYES : Hid ((eget G.es i).l = (eget G.es k).l → outN = pst N G.es Ed.f Ed.t F (pTo N G.es Ed.f Ed.t F (prsTo G.es i ++ prsR G.es i k)) (i, k)) := fun h => by rw [← HON.out, prsR_yes h, ← List.append_assoc, pTo_snoc]
     have HNO : Hid ((eget G.es i).l ≠ (eget G.es k).l → outN = pTo N G.es Ed.f Ed.t F (prsTo G.es i ++ prsR G.es i k)) := fun h => by rw [← HON.out, prsR_no h]
     have HLO := hidI (pTo_len N G.es Ed.f Ed.t F (prsTo G.es i ++ prsR G.es i k))
     generalize pTo N G.es Ed.f Ed.t F (prsTo G.es i ++ prsR G.es i k) = out at *
     have vx := HV.out.ins _ (Gr.at_ hi); have vy := HV.out.ins _ (Gr.at_ hk)
     have hxe := eget_eq G.es i hi; have hye := eget_eq G.es k hk
     obtain ⟨b4, o4, rfl, hb4, e0, e1, e2⟩ := (HIN.out.below hBw).get3 i hi rfl
     obtain ⟨b5, o5, e', hb5, d0, d1, d2⟩ := (HIN.out.below hBw).get3 k hk rfl
     cases e'
     rw [← hxe] at e0 e1 e2
     rw [← hye] at d0 d1 d2
     unfold pst at HYES
     simp only at HYES
     generalize eget G.es i = x at *
     generalize eget G.es k = y at *
     clear hxe hye
     have hnI := HNN.out
     obtain ⟨xf, xl, xt⟩ := x
     obtain ⟨yf, yl, yt⟩ := y
     simp only at vx vy HYES HNO e0 e1 e2 d0 d1 d2
     obtain ⟨fx, rfl⟩ : ∃ a : Nat, xf = a := ⟨xf.toNat, by omega⟩
     obtain ⟨tx, rfl⟩ : ∃ a : Nat, xt = a := ⟨xt.toNat, by omega⟩
     obtain ⟨fy, rfl⟩ : ∃ a : Nat, yf = a := ⟨yf.toNat, by omega⟩
     obtain ⟨ty, rfl⟩ : ∃ a : Nat, yt = a := ⟨yt.toNat, by omega⟩
     have hfx : fx < N := by omega
     have htx : tx < N := by omega
     have hfy : fy < N := by omega
     have hty : ty < N := by omega
     rw [pix_nat, pix_nat] at HYES
     have HGF := hidI ((HP1.out.below hBw).spot (show fx < N by omega) (show fy < N by omega) HF.out)
     have HGO := hidI (hP.spot (show tx < N by omega) (show ty < N by omega) HLO.out)
     have HPR := hidI hP
     generalize lkB F (fx * N + fy) = hh at *
     clear vx vy hnI HP1
     have hgl := kg.lt
     go_upto_region 8 with fail
     go_cut [8, 9] from 26 to 36 (fun s8 s9 wx => ∃ b6 b7, s8 = .pointer (some ⟨b6, 0, none⟩) ∧ s9 = .pointer (some ⟨b7, 0, none⟩) ∧ VRow wx b6 44 (edV ⟨fx, xl, tx⟩) ∧ VRow wx b7 44 (edV ⟨fy, yl, ty⟩) ∧ RowKit.Below W.heap.size W wx)
     case first =>
      refine region_detW (by kernel_rfl) 14 [(some 26, some (.pointer (some ⟨w.heap.size, 2, none⟩))), (some 27, some (.slice (some ⟨b4, o4, none⟩) G.es.length c)), (some 28, some (.int .i64 (i : Int))), (some 29, some (.pointer (some ⟨b4, o4 + i * 3, none⟩))), (some 30, some (.agg #[.int .i64 fx, .int .i64 xl, .int .i64 tx])),
        (some 31, some (.pointer (some ⟨w.heap.size, 2, none⟩))), (some 32, some (.slice (some ⟨b4, o4, none⟩) G.es.length c)), (some 33, some (.int .i64 (k : Int))), (some 34, some (.pointer (some ⟨b4, o4 + k * 3, none⟩))), (some 35, some (.agg #[.int .i64 fy, .int .i64 yl, .int .i64 ty])), (some 8, none), (some 9, none), (none, none), (none, none)]
       (fun d f W' => Kp2 W ⟨fx, xl, tx⟩ ⟨fy, yl, ty⟩ (d 12) (d 13) (f 8) (f 9) W') (by kernel_rfl) (by kernel_rfl) (by kernel_rfl) (by kernel_rfl) ⟨below_dN (RowKit.Below.refl _ _) 1, (fun _ e => by cases e), (fun _ e => by cases e), (fun _ _ e => by cases e)⟩ ?_ ?_
      focus
       intro i' o ho a' d f W' hS hdi hdn hnd hdep hout hold K hK
       have hil : i' < 14 := (Array.getElem?_eq_some_iff.1 ho).1
       have hcases : i' = 0 ∨ i' = 1 ∨ i' = 2 ∨ i' = 3 ∨ i' = 4 ∨ i' = 5 ∨ i' = 6 ∨ i' = 7 ∨ i' = 8 ∨ i' = 9 ∨ i' = 10 ∨ i' = 11 ∨ i' = 12 ∨ i' = 13 := by omega
       clear hil
       have u2 := hout 2 (by kernel_rfl)
       have u6 := hout 6 (by kernel_rfl)
       have u7 := hout 7 (by kernel_rfl)
       simp at u2 u6 u7
       clear hout
       have hc2 := (hS.b.cell (p := ⟨w.heap.size, 2, none⟩) hgl).trans f2
       have g0 := (hS.b.cell (p := ⟨b4, o4 + i * 3, none⟩) hb4).trans e0
       have g1 := (hS.b.cell (p := ⟨b4, o4 + i * 3 + 1, none⟩) hb4).trans e1
       have g2 := (hS.b.cell (p := ⟨b4, o4 + i * 3 + 2, none⟩) hb4).trans e2
       have h0 := (hS.b.cell (p := ⟨b4, o4 + k * 3, none⟩) hb4).trans d0
       have h1 := (hS.b.cell (p := ⟨b4, o4 + k * 3 + 1, none⟩) hb4).trans d1
       have h2 := (hS.b.cell (p := ⟨b4, o4 + k * 3 + 2, none⟩) hb4).trans d2
       clear e0 e1 e2 d0 d1 d2 f2
       rcases hcases with rfl | rfl | rfl | rfl | rfl | rfl | rfl | rfl | rfl | rfl | rfl | rfl | rfl | rfl
       all_goals (simp only [List.getElem?_toArray, List.getElem?_cons_succ, List.getElem?_cons_zero, Option.some.injEq] at ho; subst ho; simp [Region.binds] at hdep; (try go_split_ands))
       iterate 10
        first
         | (go_simp; exact hK _ _ (fun u hu => Option.some.inj hu) hS)
         | skip
       ·have h6 := (hold 10 (by kernel_rfl) _ rfl 8 rfl).1
        have e14 := hnd 12 (by kernel_rfl)
        have h := hS
        rw [e14, h6] at h
        have hfin := h.new6
        go_simp
        exact hK _ _ (fun u hu => by cases hu) (by
         show Kp2 _ _ _ (d 12) (d 13) (some _) (f 9) _
         rw [e14]; exact hfin)
       ·have h7 := (hold 11 (by kernel_rfl) _ rfl 9 rfl).1
        have e15 := hnd 13 (by kernel_rfl)
        have h := hS
        rw [e15, h7] at h
        have hfin := h.new7
        go_simp
        exact hK _ _ (fun u hu => by cases hu) (by
         show Kp2 _ _ _ (d 12) (d 13) (f 8) (some _) _
         rw [e15]; exact hfin)
       ·obtain ⟨v, hv, hat⟩ : ∃ v, f 8 = some v ∧ a'.tmps[8]? = some v := by assumption
        have e14 : d 12 = false := hdi
        have h := hS
        rw [e14, hv] at h
        obtain ⟨B, rfl, hbl, hzr⟩ := h.a _ rfl
        have k0 := hzr.at 0 rfl; have k1 := hzr.at 1 rfl; have k2 := hzr.at 2 rfl
        have z0 := hzr.frozen 0; have z1 := hzr.frozen 1; have z2 := hzr.frozen 2
        have hfin := h.set6
        have HV1 := hidI hv
        clear hzr h hv
        go_simp
        exact hK undef _ (fun u hu => by cases hu) (by
         show Kp2 _ _ _ true (d 13) (f 8) (f 9) _
         rw [HV1.out]; exact hfin)
       ·obtain ⟨v, hv, hat⟩ : ∃ v, f 9 = some v ∧ a'.tmps[9]? = some v := by assumption
        have e15 : d 13 = false := hdi
        have h := hS
        rw [e15, hv] at h
        obtain ⟨B, rfl, hbl, hzr⟩ := h.c _ rfl
        have k0 := hzr.at 0 rfl; have k1 := hzr.at 1 rfl; have k2 := hzr.at 2 rfl
        have z0 := hzr.frozen 0; have z1 := hzr.frozen 1; have z2 := hzr.frozen 2
        have hfin := h.set7
        have HV1 := hidI hv
        clear hzr h hv
        go_simp
        exact hK undef _ (fun u hu => by cases hu) (by
         show Kp2 _ _ _ (d 12) true (f 8) (f 9) _
         rw [HV1.out]; exact hfin)
      intro d f W2 hS hall hf
      have e14 : d 12 = true := hall 12 (by decide)
      have e15 : d 13 = true := hall 13 (by decide)
      obtain ⟨v6, hv6, -⟩ := hf (some 8, none) (by simp) 8 rfl
      obtain ⟨v7, hv7, -⟩ := hf (some 9, none) (by simp) 9 rfl
      obtain ⟨b6, rfl, hb6, r6⟩ := hS.a _ hv6
      obtain ⟨b7, rfl, hb7, r7⟩ := hS.c _ hv7
      rw [e14, if_pos rfl] at r6
      rw [e15, if_pos rfl] at r7
      have hBS := hS.b
      simp only [putsD, List.filterMap_cons, List.filterMap_nil, Option.map_some, Option.map_none, Option.getD_some, Option.getD_none, List.foldl_cons, List.foldl_nil, Act.put, List.setIfInBounds_toArray, List.set_cons_zero, List.set_cons_succ]
      rw [hv6, hv7]
      simp only [Option.getD_some]
      clear hf hv6 hv7 hS hall e14 e15 e0 e1 e2 d0 d1 d2 f2
      go_wp2_with fail
      go_meet
      exact ⟨b6, b7, rfl, rfl, r6, r7, hBS⟩
     case rest =>
      obtain ⟨b6, b7, rfl, rfl, r6, r7, hBS⟩ := hcut
      have hBc := hB.trans (hBS.mono hB.size)
      have X0 := r6.at 0 rfl; have X1 := r6.at 1 rfl; have X2 := r6.at 2 rfl
      have Y0 := r7.at 0 rfl; have Y1 := r7.at 1 rfl; have Y2 := r7.at 2 rfl
      have l6 := r6.lt; have l7 := r7.lt
      have hfxI : (fx : Int) < (N : Int) := by omega
      have htxI : (tx : Int) < (N : Int) := by omega
      have hfyI : (fy : Int) < (N : Int) := by omega
      have htyI : (ty : Int) < (N : Int) := by omega
      obtain ⟨g, b, e', hg, hc, hcj, hz, hge, hset⟩ := HGF.out
      cases e'
      have hcw := (hBS.cell (p := ⟨g, fx, none⟩) hg).trans hc
      have hbl : b < W.heap.size := World.block_lt_of_cell? _ _ hcj
      have hdw := (hBS.cell (p := ⟨b, fy, none⟩) hbl).trans hcj
      clear e0 e1 e2 d0 d1 d2 f2 kg r6 r7 hc hcj hz hge hset HGF
      by_cases hxy : xl = yl
      ·subst hxy
       have n1 : (xl == xl) = true := by simp
       have HYES := hidI (HYES.out rfl)
       cases hh
       ·have HYES := hidI (HYES.out.trans (if_neg (by decide)))
        go_upto_region 9 with fail
        (refine wp_region_quiet_lit (by kernel_rfl) (by kernel_rfl) ?_; (repeat (first | go_big_quiet_step (fail) | quiet_step (fail))); refine wpQuiet_nil ?_; intro _ hwq; obtain ⟨nq, hwq2⟩ := hwq; subst hwq2)
        go_wp2
        go_roundw
        case rel => exact ⟨k + 1, by omega, by go_num, by rw [HON.out, HYES.out]; exact (HPR.out.below (below_dN hBS _)), below_dN hBc _⟩
        case measure => simp [intOf]; omega
       ·have HYES := hidI (HYES.out.trans (if_pos rfl))
        have HX := hidI (fun (n : Nat) => below_dN hBS n)
        have HXc := hidI (fun (n : Nat) => below_dN hBc n)
        obtain ⟨h, b', e', hg', hc', hcj', hz', hge', hset'⟩ := HGO.out
        cases e'
        clear hc' hcj' hz' hset' hge' HGO
        go_upto_region 9 with fail
        (refine wp_region_quiet_lit (by kernel_rfl) (by kernel_rfl) ?_; (repeat (first | go_big_quiet_step (fail) | quiet_step (fail))); refine wpQuiet_nil ?_; intro _ hwq; obtain ⟨nq, hwq2⟩ := hwq; subst hwq2)
        go_upto_region 10 with fail
        obtain ⟨wy, hwy⟩ : ∃ wy, wy = wc.drewN nq := ⟨_, rfl⟩
        have hBy : RowKit.Below W.heap.size W wy := by rw [hwy]; exact HX.out _
        have hBcy : RowKit.Below w0.heap.size w0 wy := by rw [hwy]; exact HXc.out _
        have X2' : wy.cell? ⟨b6, 2, none⟩ = some (.int .i64 tx) := by rw [hwy]; exact X2
        have Y2' : wy.cell? ⟨b7, 2, none⟩ = some (.int .i64 ty) := by rw [hwy]; exact Y2
        have X0' : wy.cell? ⟨b6, 0, none⟩ = some (.int .i64 fx) := by rw [hwy]; exact X0
        have Y0' : wy.cell? ⟨b7, 0, none⟩ = some (.int .i64 fy) := by rw [hwy]; exact Y0
        have l6' : b6 < wy.heap.size := by rw [hwy]; exact l6
        have l7' : b7 < wy.heap.size := by rw [hwy]; exact l7
        rw [← hwy]
        clear hwy X0 X1 X2 Y0 Y1 Y2 l6 l7 hcw hdw hBS hBc HX HXc
        have HPW := hidI ((HPR.out.below hBy).spot (show tx < N by omega) (show ty < N by omega) HLO.out)
        obtain ⟨h1, b1, e', gh, gc, gd, gz, gge, gset⟩ := HPW.out
        cases e'
        have gbl : b1 < wy.heap.size := World.block_lt_of_cell? _ _ gd
        have HSET := hidI (fun V (hV : RowKit.Below wy.heap.size wy V) => ((HPR.out.below hBy).below hV).spot (show tx < N by omega) (show ty < N by omega) HLO.out)
        refine region_detW (by kernel_rfl) 9 [(some 52, some (.slice (some ⟨h, 0, none⟩) N cv)), (some 53, some (.pointer (some ⟨b6, 2, none⟩))), (some 54, some (.int .i64 tx)), (some 55, some (.pointer (some ⟨h, tx, none⟩))), (some 56, some (.slice (some ⟨b1, 0, none⟩) N N)), (some 57, some (.pointer (some ⟨b7, 2, none⟩))), (some 58, some (.int .i64 ty)), (some 59, some (.pointer (some ⟨b1, ty, none⟩))), (none, none)]
         (fun d f W' => Kp3 wy b1 ty (d 8) W') (by kernel_rfl) (by kernel_rfl) (by kernel_rfl) (by kernel_rfl) ⟨_, below_dN (RowKit.Below.refl _ _) 1, (if_neg (by decide)).symm⟩ ?_ ?_
        focus
         intro i' o ho a' d f W' hS hdi hdn hnd hdep hout hold K hK
         have hil : i' < 9 := (Array.getElem?_eq_some_iff.1 ho).1
         have hcases : i' = 0 ∨ i' = 1 ∨ i' = 2 ∨ i' = 3 ∨ i' = 4 ∨ i' = 5 ∨ i' = 6 ∨ i' = 7 ∨ i' = 8 := by omega
         clear hil
         have u5 := hout 5 (by kernel_rfl)
         have u8 := hout 8 (by kernel_rfl)
         have u9 := hout 9 (by kernel_rfl)
         simp at u5 u8 u9
         clear hout
         have e9 : d 8 = false := by
          rcases hcases with rfl | rfl | rfl | rfl | rfl | rfl | rfl | rfl | rfl
          all_goals first | exact hdi | exact hnd 8 (by kernel_rfl)
         have hS1 := hidI hS
         obtain ⟨V, hV, hVe⟩ := hS
         rw [e9, if_neg (by decide)] at hVe
         subst hVe
         have m2 := (hV.cell (p := ⟨b6, 2, none⟩) l6').trans X2'
         have m3 := (hV.cell (p := ⟨b7, 2, none⟩) l7').trans Y2'
         have m0 := (hV.cell (p := ⟨b6, 0, none⟩) l6').trans X0'
         have m1 := (hV.cell (p := ⟨b7, 0, none⟩) l7').trans Y0'
         have m4 := (hV.cell (p := ⟨h, tx, none⟩) gh).trans gc
         have m5 := (hV.cell (p := ⟨b1, ty, none⟩) gbl).trans gd
         have kz : W'.frozen? ⟨b1, ty, none⟩ = false := by
          obtain ⟨h2, b2, e', _, gc2, _, gz2, _, _⟩ := HSET.out W' hV
          cases e'
          have eb := m4.symm.trans gc2
          cases eb
          exact gz2
         clear X0' X2' Y0' Y2' gc gd gz
         rcases hcases with rfl | rfl | rfl | rfl | rfl | rfl | rfl | rfl | rfl
         all_goals (simp only [List.getElem?_toArray, List.getElem?_cons_succ, List.getElem?_cons_zero, Option.some.injEq] at ho; subst ho; simp [Region.binds] at hdep; (try go_split_ands))
         iterate 8
          first
           | (go_simp; exact hK _ _ (fun u hu => Option.some.inj hu) hS1.out)
           | skip
         ·have hfin : Kp3 wy b1 ty true (W'.setCell ⟨b1, ty, none⟩ (.bool true)) := ⟨W', hV, (if_pos rfl).symm⟩
          go_simp
          exact hK undef _ (fun u hu => by cases hu) hfin
        intro d f W4 hS hall hf
        have e9 : d 8 = true := hall 8 (by decide)
        obtain ⟨V, hV, hVe⟩ := hS
        rw [e9, if_pos rfl] at hVe
        subst hVe
        simp only [putsD, List.filterMap_cons, List.filterMap_nil, Option.map_some, Option.map_none, Option.getD_some, Option.getD_none, List.foldl_cons, List.foldl_nil, Act.put, List.setIfInBounds_toArray, List.set_cons_zero, List.set_cons_succ]
        obtain ⟨h2, b2, e', _, gc2, _, _, _, gset2⟩ := HSET.out V hV
        cases e'
        have eb := ((hV.cell (p := ⟨h, tx, none⟩) gh).trans gc).symm.trans gc2
        cases eb
        have hfin := gset2 true
        rw [← HYES.out] at hfin
        have hBf := (hBcy.trans (hV.mono hBcy.size)).setCell (p := ⟨b1, ty, none⟩) gge (.bool true)
        clear HSET HPW X0' X2' Y0' Y2'
        go_wp2
        go_roundw
        case rel => exact ⟨k + 1, by omega, by go_num, by rw [HON.out]; exact hfin, hBf⟩
        case measure => simp [intOf]; omega
      ·have n1 : (xl == yl) = false := by simpa using hxy
       have HNO := hidI (HNO.out hxy)
       clear hxy
       go_upto_region 9 with fail
       (refine wp_region_quiet_lit (by kernel_rfl) (by kernel_rfl) ?_; (repeat (first | go_big_quiet_step (fail) | quiet_step (fail))); refine wpQuiet_nil ?_; intro _ hwq; obtain ⟨nq, hwq2⟩ := hwq; subst hwq2)
       go_wp2
       go_roundw
       case rel => exact ⟨k + 1, by omega, by go_num, by rw [HON.out, HNO.out]; exact (HPR.out.below (below_dN hBS _)), below_dN hBc _⟩
       case measure => simp [intOf]; omega
    ·obtain rfl : k = G.es.length := by omega
     have hkI : ¬ (G.es.length : Int) < (G.es.length : Int) := by omega
     rw [HR.out] at hP
     go_wp2_with fail
     go_roundw
     case rel => exact ⟨i + 1, by omega, by go_num, hP, hB⟩
     case measure => simp [intOf]; omega
  ·obtain rfl : i = G.es.length := by omega
   have hiI : ¬ (G.es.length : Int) < (G.es.length : Int) := by omega
   rw [HEND.out] at hP
   go_wp2
   go_ret
   exact ⟨_, bs, rfl, hP.mono hB0.size, hB0.trans (hB.mono hB0.size)⟩
set_option maxRecDepth 100000 in
set_option maxHeartbeats 4000000 in
theorem r15Back_any (G : Gr) (p : Option Addr) (c N : Nat) (F : List Bool) (p1 : Option Addr) (c1 B1 : Nat) (bs1 : List Nat) (hv : Vg G) (hN : G.n = N) (w : World) (hin : Sg 3 w edE p G.es) (hF : F.length = N * N) (hP1 : PB B1 N N F (.slice p1 N c1) bs1 w) : Calls Tryz.prog 85 #[(.agg #[.int .i64 G.q, .int .i64 G.n, .slice p G.es.length c]), .slice p1 N c1] w (RetPB N (befF N G.es F) w) := by
 have HIN := hidI hin; have HV := hidI hv; have HNN := hidI hN; have HF := hidI hF; have HP1 := hidI hP1
 have hl := hv.len
 have hN64 : N ≤ 64 := by have := hv.n2; omega
 obtain ⟨w0, hw0⟩ : ∃ w0, w0 = w.alloc (.cells #[.int .i64 G.q, .int .i64 G.n, .slice p G.es.length c] 24) := ⟨_, rfl⟩
 have b0 : VRow w0 w.heap.size 24 [.int .i64 G.q, .int .i64 G.n, .slice p G.es.length c] := by subst hw0; exact VRow.new w _ _
 have hB0 : RowKit.Below w.heap.size w w0 := by subst hw0; exact (RowKit.Below.refl _ _).alloc (Nat.le_refl _) _
 have HNO := hidI (r15none_any G p c N hN hN64 w0)
 have g0 := b0.at 0 rfl; have g1 := b0.at 1 rfl; have g2 := b0.at 2 rfl
 have HEND : Hid (pTo N G.es Ed.t Ed.f F (prsTo G.es G.es.length ++ prsR G.es G.es.length 0) = befF N G.es F) := by rw [prs_end]; rfl
 clear hin hv hN hF hP1
 go_enter Tryz.func85, Tryz.ntmps85
 go_upto_region 1 with fail
 rw [← hw0]
 clear hw0
 go_wp2_with fail
 refine HNO.out.mono ?_
 rintro e w1 ⟨v, bs, rfl, hP, hB⟩
 have hP : PB w0.heap.size N N (pTo N G.es Ed.t Ed.f F (prsTo G.es 0 ++ prsR G.es 0 0)) v bs w1 := hP
 clear g0 g1 g2 HNO
 obtain ⟨pv, cv, rfl, hsh⟩ := hP.shape
 clear hsh
 go_wp2_with fail
 go_loopw [6] (fun iv wr => ∃ i : Nat, i ≤ G.es.length ∧ iv = .int .i64 i ∧ PB w0.heap.size N N (pTo N G.es Ed.t Ed.f F (prsTo G.es i ++ prsR G.es i 0)) (.slice pv N cv) bs wr ∧ RowKit.Below w0.heap.size w0 wr) (fun iv _ => G.es.length - (intOf iv).toNat)
 case atStart => exact ⟨0, Nat.zero_le _, rfl, hP, hB⟩
 case round =>
  clear hP hB
  obtain ⟨i, hi', rfl, hP, hB⟩ := hrel
  have f2 := (b0.below hB b0.lt).at 2 rfl
  by_cases hi : i < G.es.length
  ·have hiI : (i : Int) < (G.es.length : Int) := by omega
   have HR := hidI (prs_row G.es i)
   go_wp2_with fail
   obtain ⟨wo, rfl⟩ : ∃ wo : World, wo = wr := ⟨_, rfl⟩
   go_loopw [7] (fun jv wx => ∃ k : Nat, k ≤ G.es.length ∧ jv = .int .i64 k ∧ PB w0.heap.size N N (pTo N G.es Ed.t Ed.f F (prsTo G.es i ++ prsR G.es i k)) (.slice pv N cv) bs wx ∧ RowKit.Below w0.heap.size w0 wx) (fun jv _ => G.es.length - (intOf jv).toNat)
   case atStart => exact ⟨0, Nat.zero_le _, rfl, hP, hB⟩
   case round =>
    clear hP hB f2
    obtain ⟨k, hk', rfl, hP, hB⟩ := hrel
    obtain ⟨W, rfl⟩ : ∃ W : World, W = wr := ⟨_, rfl⟩
    have kg := b0.below hB b0.lt
    have f2 := kg.at 2 rfl
    by_cases hk : k < G.es.length
    ·have hkI : (k : Int) < (G.es.length : Int) := by omega
     have hBw := hB0.trans (hB.mono hB0.size)
     obtain ⟨outN, HON⟩ : ∃ o, Hid (pTo N G.es Ed.t Ed.f F (prsTo G.es i ++ prsR G.es i (k + 1)) = o) := ⟨_, rfl⟩
     have HYES : Hid ((eget G.es i).l = (eget G.es k).l → outN = pst N G.es Ed.t Ed.f F (pTo N G.es Ed.t Ed.f F (prsTo G.es i ++ prsR G.es i k)) (i, k)) := fun h => by rw [← HON.out, prsR_yes h, ← List.append_assoc, pTo_snoc]
     have HNO : Hid ((eget G.es i).l ≠ (eget G.es k).l → outN = pTo N G.es Ed.t Ed.f F (prsTo G.es i ++ prsR G.es i k)) := fun h => by rw [← HON.out, prsR_no h]
     have HLO := hidI (pTo_len N G.es Ed.t Ed.f F (prsTo G.es i ++ prsR G.es i k))
     generalize pTo N G.es Ed.t Ed.f F (prsTo G.es i ++ prsR G.es i k) = out at *
     have vx := HV.out.ins _ (Gr.at_ hi); have vy := HV.out.ins _ (Gr.at_ hk)
     have hxe := eget_eq G.es i hi; have hye := eget_eq G.es k hk
     obtain ⟨b4, o4, rfl, hb4, e0, e1, e2⟩ := (HIN.out.below hBw).get3 i hi rfl
     obtain ⟨b5, o5, e', hb5, d0, d1, d2⟩ := (HIN.out.below hBw).get3 k hk rfl
     cases e'
     rw [← hxe] at e0 e1 e2
     rw [← hye] at d0 d1 d2
     unfold pst at HYES
     simp only at HYES
     generalize eget G.es i = x at *
     generalize eget G.es k = y at *
     clear hxe hye
     have hnI := HNN.out
     obtain ⟨xf, xl, xt⟩ := x
     obtain ⟨yf, yl, yt⟩ := y
     simp only at vx vy HYES HNO e0 e1 e2 d0 d1 d2
     obtain ⟨fx, rfl⟩ : ∃ a : Nat, xf = a := ⟨xf.toNat, by omega⟩
     obtain ⟨tx, rfl⟩ : ∃ a : Nat, xt = a := ⟨xt.toNat, by omega⟩
     obtain ⟨fy, rfl⟩ : ∃ a : Nat, yf = a := ⟨yf.toNat, by omega⟩
     obtain ⟨ty, rfl⟩ : ∃ a : Nat, yt = a := ⟨yt.toNat, by omega⟩
     have hfx : fx < N := by omega
     have htx : tx < N := by omega
     have hfy : fy < N := by omega
     have hty : ty < N := by omega
     rw [pix_nat, pix_nat] at HYES
     have HGF := hidI ((HP1.out.below hBw).spot (show tx < N by omega) (show ty < N by omega) HF.out)
     have HGO := hidI (hP.spot (show fx < N by omega) (show fy < N by omega) HLO.out)
     have HPR := hidI hP
     generalize lkB F (tx * N + ty) = hh at *
     clear vx vy hnI HP1
     have hgl := kg.lt
     go_upto_region 8 with fail
     go_cut [8, 9] from 26 to 36 (fun s8 s9 wx => ∃ b6 b7, s8 = .pointer (some ⟨b6, 0, none⟩) ∧ s9 = .pointer (some ⟨b7, 0, none⟩) ∧ VRow wx b6 44 (edV ⟨fx, xl, tx⟩) ∧ VRow wx b7 44 (edV ⟨fy, yl, ty⟩) ∧ RowKit.Below W.heap.size W wx)
     case first =>
      refine region_detW (by kernel_rfl) 14 [(some 26, some (.pointer (some ⟨w.heap.size, 2, none⟩))), (some 27, some (.slice (some ⟨b4, o4, none⟩) G.es.length c)), (some 28, some (.int .i64 (i : Int))), (some 29, some (.pointer (some ⟨b4, o4 + i * 3, none⟩))), (some 30, some (.agg #[.int .i64 fx, .int .i64 xl, .int .i64 tx])),
        (some 31, some (.pointer (some ⟨w.heap.size, 2, none⟩))), (some 32, some (.slice (some ⟨b4, o4, none⟩) G.es.length c)), (some 33, some (.int .i64 (k : Int))), (some 34, some (.pointer (some ⟨b4, o4 + k * 3, none⟩))), (some 35, some (.agg #[.int .i64 fy, .int .i64 yl, .int .i64 ty])), (some 8, none), (some 9, none), (none, none), (none, none)]
       (fun d f W' => Kp2 W ⟨fx, xl, tx⟩ ⟨fy, yl, ty⟩ (d 12) (d 13) (f 8) (f 9) W') (by kernel_rfl) (by kernel_rfl) (by kernel_rfl) (by kernel_rfl) ⟨below_dN (RowKit.Below.refl _ _) 1, (fun _ e => by cases e), (fun _ e => by cases e), (fun _ _ e => by cases e)⟩ ?_ ?_
      focus
       intro i' o ho a' d f W' hS hdi hdn hnd hdep hout hold K hK
       have hil : i' < 14 := (Array.getElem?_eq_some_iff.1 ho).1
       have hcases : i' = 0 ∨ i' = 1 ∨ i' = 2 ∨ i' = 3 ∨ i' = 4 ∨ i' = 5 ∨ i' = 6 ∨ i' = 7 ∨ i' = 8 ∨ i' = 9 ∨ i' = 10 ∨ i' = 11 ∨ i' = 12 ∨ i' = 13 := by omega
       clear hil
       have u2 := hout 2 (by kernel_rfl)
       have u6 := hout 6 (by kernel_rfl)
       have u7 := hout 7 (by kernel_rfl)
       simp at u2 u6 u7
       clear hout
       have hc2 := (hS.b.cell (p := ⟨w.heap.size, 2, none⟩) hgl).trans f2
       have g0 := (hS.b.cell (p := ⟨b4, o4 + i * 3, none⟩) hb4).trans e0
       have g1 := (hS.b.cell (p := ⟨b4, o4 + i * 3 + 1, none⟩) hb4).trans e1
       have g2 := (hS.b.cell (p := ⟨b4, o4 + i * 3 + 2, none⟩) hb4).trans e2
       have h0 := (hS.b.cell (p := ⟨b4, o4 + k * 3, none⟩) hb4).trans d0
       have h1 := (hS.b.cell (p := ⟨b4, o4 + k * 3 + 1, none⟩) hb4).trans d1
       have h2 := (hS.b.cell (p := ⟨b4, o4 + k * 3 + 2, none⟩) hb4).trans d2
       clear e0 e1 e2 d0 d1 d2 f2
       rcases hcases with rfl | rfl | rfl | rfl | rfl | rfl | rfl | rfl | rfl | rfl | rfl | rfl | rfl | rfl
       all_goals (simp only [List.getElem?_toArray, List.getElem?_cons_succ, List.getElem?_cons_zero, Option.some.injEq] at ho; subst ho; simp [Region.binds] at hdep; (try go_split_ands))
       iterate 10
        first
         | (go_simp; exact hK _ _ (fun u hu => Option.some.inj hu) hS)
         | skip
       ·have h6 := (hold 10 (by kernel_rfl) _ rfl 8 rfl).1
        have e14 := hnd 12 (by kernel_rfl)
        have h := hS
        rw [e14, h6] at h
        have hfin := h.new6
        go_simp
        exact hK _ _ (fun u hu => by cases hu) (by
         show Kp2 _ _ _ (d 12) (d 13) (some _) (f 9) _
         rw [e14]; exact hfin)
       ·have h7 := (hold 11 (by kernel_rfl) _ rfl 9 rfl).1
        have e15 := hnd 13 (by kernel_rfl)
        have h := hS
        rw [e15, h7] at h
        have hfin := h.new7
        go_simp
        exact hK _ _ (fun u hu => by cases hu) (by
         show Kp2 _ _ _ (d 12) (d 13) (f 8) (some _) _
         rw [e15]; exact hfin)
       ·obtain ⟨v, hv, hat⟩ : ∃ v, f 8 = some v ∧ a'.tmps[8]? = some v := by assumption
        have e14 : d 12 = false := hdi
        have h := hS
        rw [e14, hv] at h
        obtain ⟨B, rfl, hbl, hzr⟩ := h.a _ rfl
        have k0 := hzr.at 0 rfl; have k1 := hzr.at 1 rfl; have k2 := hzr.at 2 rfl
        have z0 := hzr.frozen 0; have z1 := hzr.frozen 1; have z2 := hzr.frozen 2
        have hfin := h.set6
        have HV1 := hidI hv
        clear hzr h hv
        go_simp
        exact hK undef _ (fun u hu => by cases hu) (by
         show Kp2 _ _ _ true (d 13) (f 8) (f 9) _
         rw [HV1.out]; exact hfin)
       ·obtain ⟨v, hv, hat⟩ : ∃ v, f 9 = some v ∧ a'.tmps[9]? = some v := by assumption
        have e15 : d 13 = false := hdi
        have h := hS
        rw [e15, hv] at h
        obtain ⟨B, rfl, hbl, hzr⟩ := h.c _ rfl
        have k0 := hzr.at 0 rfl; have k1 := hzr.at 1 rfl; have k2 := hzr.at 2 rfl
        have z0 := hzr.frozen 0; have z1 := hzr.frozen 1; have z2 := hzr.frozen 2
        have hfin := h.set7
        have HV1 := hidI hv
        clear hzr h hv
        go_simp
        exact hK undef _ (fun u hu => by cases hu) (by
         show Kp2 _ _ _ (d 12) true (f 8) (f 9) _
         rw [HV1.out]; exact hfin)
      intro d f W2 hS hall hf
      have e14 : d 12 = true := hall 12 (by decide)
      have e15 : d 13 = true := hall 13 (by decide)
      obtain ⟨v6, hv6, -⟩ := hf (some 8, none) (by simp) 8 rfl
      obtain ⟨v7, hv7, -⟩ := hf (some 9, none) (by simp) 9 rfl
      obtain ⟨b6, rfl, hb6, r6⟩ := hS.a _ hv6
      obtain ⟨b7, rfl, hb7, r7⟩ := hS.c _ hv7
      rw [e14, if_pos rfl] at r6
      rw [e15, if_pos rfl] at r7
      have hBS := hS.b
      simp only [putsD, List.filterMap_cons, List.filterMap_nil, Option.map_some, Option.map_none, Option.getD_some, Option.getD_none, List.foldl_cons, List.foldl_nil, Act.put, List.setIfInBounds_toArray, List.set_cons_zero, List.set_cons_succ]
      rw [hv6, hv7]
      simp only [Option.getD_some]
      clear hf hv6 hv7 hS hall e14 e15 e0 e1 e2 d0 d1 d2 f2
      go_wp2_with fail
      go_meet
      exact ⟨b6, b7, rfl, rfl, r6, r7, hBS⟩
     case rest =>
      obtain ⟨b6, b7, rfl, rfl, r6, r7, hBS⟩ := hcut
      have hBc := hB.trans (hBS.mono hB.size)
      have X0 := r6.at 0 rfl; have X1 := r6.at 1 rfl; have X2 := r6.at 2 rfl
      have Y0 := r7.at 0 rfl; have Y1 := r7.at 1 rfl; have Y2 := r7.at 2 rfl
      have l6 := r6.lt; have l7 := r7.lt
      have hfxI : (fx : Int) < (N : Int) := by omega
      have htxI : (tx : Int) < (N : Int) := by omega
      have hfyI : (fy : Int) < (N : Int) := by omega
      have htyI : (ty : Int) < (N : Int) := by omega
      obtain ⟨g, b, e', hg, hc, hcj, hz, hge, hset⟩ := HGF.out
      cases e'
      have hcw := (hBS.cell (p := ⟨g, tx, none⟩) hg).trans hc
      have hbl : b < W.heap.size := World.block_lt_of_cell? _ _ hcj
      have hdw := (hBS.cell (p := ⟨b, ty, none⟩) hbl).trans hcj
      clear e0 e1 e2 d0 d1 d2 f2 kg r6 r7 hc hcj hz hge hset HGF
      by_cases hxy : xl = yl
      ·subst hxy
       have n1 : (xl == xl) = true := by simp
       have HYES := hidI (HYES.out rfl)
       cases hh
       ·have HYES := hidI (HYES.out.trans (if_neg (by decide)))
        go_upto_region 9 with fail
        (refine wp_region_quiet_lit (by kernel_rfl) (by kernel_rfl) ?_; (repeat (first | go_big_quiet_step (fail) | quiet_step (fail))); refine wpQuiet_nil ?_; intro _ hwq; obtain ⟨nq, hwq2⟩ := hwq; subst hwq2)
        go_wp2
        go_roundw
        case rel => exact ⟨k + 1, by omega, by go_num, by rw [HON.out, HYES.out]; exact (HPR.out.below (below_dN hBS _)), below_dN hBc _⟩
        case measure => simp [intOf]; omega
       ·have HYES := hidI (HYES.out.trans (if_pos rfl))
        have HX := hidI (fun (n : Nat) => below_dN hBS n)
        have HXc := hidI (fun (n : Nat) => below_dN hBc n)
        obtain ⟨h, b', e', hg', hc', hcj', hz', hge', hset'⟩ := HGO.out
        cases e'
        clear hc' hcj' hz' hset' hge' HGO
        go_upto_region 9 with fail
        (refine wp_region_quiet_lit (by kernel_rfl) (by kernel_rfl) ?_; (repeat (first | go_big_quiet_step (fail) | quiet_step (fail))); refine wpQuiet_nil ?_; intro _ hwq; obtain ⟨nq, hwq2⟩ := hwq; subst hwq2)
        go_upto_region 10 with fail
        obtain ⟨wy, hwy⟩ : ∃ wy, wy = wc.drewN nq := ⟨_, rfl⟩
        have hBy : RowKit.Below W.heap.size W wy := by rw [hwy]; exact HX.out _
        have hBcy : RowKit.Below w0.heap.size w0 wy := by rw [hwy]; exact HXc.out _
        have X2' : wy.cell? ⟨b6, 2, none⟩ = some (.int .i64 tx) := by rw [hwy]; exact X2
        have Y2' : wy.cell? ⟨b7, 2, none⟩ = some (.int .i64 ty) := by rw [hwy]; exact Y2
        have X0' : wy.cell? ⟨b6, 0, none⟩ = some (.int .i64 fx) := by rw [hwy]; exact X0
        have Y0' : wy.cell? ⟨b7, 0, none⟩ = some (.int .i64 fy) := by rw [hwy]; exact Y0
        have l6' : b6 < wy.heap.size := by rw [hwy]; exact l6
        have l7' : b7 < wy.heap.size := by rw [hwy]; exact l7
        rw [← hwy]
        clear hwy X0 X1 X2 Y0 Y1 Y2 l6 l7 hcw hdw hBS hBc HX HXc
        have HPW := hidI ((HPR.out.below hBy).spot (show fx < N by omega) (show fy < N by omega) HLO.out)
        obtain ⟨h1, b1, e', gh, gc, gd, gz, gge, gset⟩ := HPW.out
        cases e'
        have gbl : b1 < wy.heap.size := World.block_lt_of_cell? _ _ gd
        have HSET := hidI (fun V (hV : RowKit.Below wy.heap.size wy V) => ((HPR.out.below hBy).below hV).spot (show fx < N by omega) (show fy < N by omega) HLO.out)
        refine region_detW (by kernel_rfl) 9 [(some 52, some (.slice (some ⟨h, 0, none⟩) N cv)), (some 53, some (.pointer (some ⟨b6, 0, none⟩))), (some 54, some (.int .i64 fx)), (some 55, some (.pointer (some ⟨h, fx, none⟩))), (some 56, some (.slice (some ⟨b1, 0, none⟩) N N)), (some 57, some (.pointer (some ⟨b7, 0, none⟩))), (some 58, some (.int .i64 fy)), (some 59, some (.pointer (some ⟨b1, fy, none⟩))), (none, none)]
         (fun d f W' => Kp3 wy b1 fy (d 8) W') (by kernel_rfl) (by kernel_rfl) (by kernel_rfl) (by kernel_rfl) ⟨_, below_dN (RowKit.Below.refl _ _) 1, (if_neg (by decide)).symm⟩ ?_ ?_
        focus
         intro i' o ho a' d f W' hS hdi hdn hnd hdep hout hold K hK
         have hil : i' < 9 := (Array.getElem?_eq_some_iff.1 ho).1
         have hcases : i' = 0 ∨ i' = 1 ∨ i' = 2 ∨ i' = 3 ∨ i' = 4 ∨ i' = 5 ∨ i' = 6 ∨ i' = 7 ∨ i' = 8 := by omega
         clear hil
         have u5 := hout 5 (by kernel_rfl)
         have u8 := hout 8 (by kernel_rfl)
         have u9 := hout 9 (by kernel_rfl)
         simp at u5 u8 u9
         clear hout
         have e9 : d 8 = false := by
          rcases hcases with rfl | rfl | rfl | rfl | rfl | rfl | rfl | rfl | rfl
          all_goals first | exact hdi | exact hnd 8 (by kernel_rfl)
         have hS1 := hidI hS
         obtain ⟨V, hV, hVe⟩ := hS
         rw [e9, if_neg (by decide)] at hVe
         subst hVe
         have m2 := (hV.cell (p := ⟨b6, 2, none⟩) l6').trans X2'
         have m3 := (hV.cell (p := ⟨b7, 2, none⟩) l7').trans Y2'
         have m0 := (hV.cell (p := ⟨b6, 0, none⟩) l6').trans X0'
         have m1 := (hV.cell (p := ⟨b7, 0, none⟩) l7').trans Y0'
         have m4 := (hV.cell (p := ⟨h, fx, none⟩) gh).trans gc
         have m5 := (hV.cell (p := ⟨b1, fy, none⟩) gbl).trans gd
         have kz : W'.frozen? ⟨b1, fy, none⟩ = false := by
          obtain ⟨h2, b2, e', _, gc2, _, gz2, _, _⟩ := HSET.out W' hV
          cases e'
          have eb := m4.symm.trans gc2
          cases eb
          exact gz2
         clear X0' X2' Y0' Y2' gc gd gz
         rcases hcases with rfl | rfl | rfl | rfl | rfl | rfl | rfl | rfl | rfl
         all_goals (simp only [List.getElem?_toArray, List.getElem?_cons_succ, List.getElem?_cons_zero, Option.some.injEq] at ho; subst ho; simp [Region.binds] at hdep; (try go_split_ands))
         iterate 8
          first
           | (go_simp; exact hK _ _ (fun u hu => Option.some.inj hu) hS1.out)
           | skip
         ·have hfin : Kp3 wy b1 fy true (W'.setCell ⟨b1, fy, none⟩ (.bool true)) := ⟨W', hV, (if_pos rfl).symm⟩
          go_simp
          exact hK undef _ (fun u hu => by cases hu) hfin
        intro d f W4 hS hall hf
        have e9 : d 8 = true := hall 8 (by decide)
        obtain ⟨V, hV, hVe⟩ := hS
        rw [e9, if_pos rfl] at hVe
        subst hVe
        simp only [putsD, List.filterMap_cons, List.filterMap_nil, Option.map_some, Option.map_none, Option.getD_some, Option.getD_none, List.foldl_cons, List.foldl_nil, Act.put, List.setIfInBounds_toArray, List.set_cons_zero, List.set_cons_succ]
        obtain ⟨h2, b2, e', _, gc2, _, _, _, gset2⟩ := HSET.out V hV
        cases e'
        have eb := ((hV.cell (p := ⟨h, fx, none⟩) gh).trans gc).symm.trans gc2
        cases eb
        have hfin := gset2 true
        rw [← HYES.out] at hfin
        have hBf := (hBcy.trans (hV.mono hBcy.size)).setCell (p := ⟨b1, fy, none⟩) gge (.bool true)
        clear HSET HPW X0' X2' Y0' Y2'
        go_wp2
        go_roundw
        case rel => exact ⟨k + 1, by omega, by go_num, by rw [HON.out]; exact hfin, hBf⟩
        case measure => simp [intOf]; omega
      ·have n1 : (xl == yl) = false := by simpa using hxy
       have HNO := hidI (HNO.out hxy)
       clear hxy
       go_upto_region 9 with fail
       (refine wp_region_quiet_lit (by kernel_rfl) (by kernel_rfl) ?_; (repeat (first | go_big_quiet_step (fail) | quiet_step (fail))); refine wpQuiet_nil ?_; intro _ hwq; obtain ⟨nq, hwq2⟩ := hwq; subst hwq2)
       go_wp2
       go_roundw
       case rel => exact ⟨k + 1, by omega, by go_num, by rw [HON.out, HNO.out]; exact (HPR.out.below (below_dN hBS _)), below_dN hBc _⟩
       case measure => simp [intOf]; omega
    ·obtain rfl : k = G.es.length := by omega
     have hkI : ¬ (G.es.length : Int) < (G.es.length : Int) := by omega
     rw [HR.out] at hP
     go_wp2_with fail
     go_roundw
     case rel => exact ⟨i + 1, by omega, by go_num, hP, hB⟩
     case measure => simp [intOf]; omega
  ·obtain rfl : i = G.es.length := by omega
   have hiI : ¬ (G.es.length : Int) < (G.es.length : Int) := by omega
   rw [HEND.out] at hP
   go_wp2
   go_ret
   exact ⟨_, bs, rfl, hP.mono hB0.size, hB0.trans (hB.mono hB0.size)⟩
end
section
open Go.RowKit Go.Sort Go.Shelf
attribute [local go_sem] Oper.semAt_some
def hitP (N : Nat) (es : List Ed) (F H : List Bool) (p : Nat × Nat) : Bool := decide (p.1 ≠ p.2) && (lkB F (pix N (eget es p.1).f (eget es p.2).f) && lkB H (pix N (eget es p.1).t (eget es p.2).t))
theorem partB_yes {N : Nat} {es : List Ed} {F H : List Bool} {p : Nat × Nat} (hp : p ∈ prs es) (h : hitP N es F H p = true) : partB N es F H = true := List.any_eq_true.2 ⟨p, hp, h⟩
theorem partB_no {N : Nat} {es : List Ed} {F H : List Bool} (h : ∀ p ∈ prs es, hitP N es F H p = false) : partB N es F H = false := List.any_eq_false.2 (fun p hp => by rw [Bool.not_eq_true]; exact h p hp)
end
section
open Go.RowKit Go.Sort Go.Shelf
set_option maxRecDepth 100000 in
set_option maxHeartbeats 4000000 in
theorem r15parting_any (G : Gr) (p : Option Addr) (c N : Nat) (F H : List Bool) (p1 : Option Addr) (c1 B1 : Nat) (bs1 : List Nat) (p2 : Option Addr) (c2 B2 : Nat) (bs2 : List Nat) (hv : Vg G) (hN : G.n = N) (w : World) (hin : Sg 3 w edE p G.es) (hF : F.length = N * N) (hH : H.length = N * N)
  (hP1 : PB B1 N N F (.slice p1 N c1) bs1 w) (hP2 : PB B2 N N H (.slice p2 N c2) bs2 w) : Calls Tryz.prog 83 #[(.agg #[.int .i64 G.q, .int .i64 G.n, .slice p G.es.length c]), .slice p1 N c1, .slice p2 N c2] w fun e w' => e = .returned (.bool (partB N G.es F H)) ∧ RowKit.Below w.heap.size w w' := by
 have HIN := hidI hin; have HV := hidI hv; have HNN := hidI hN; have HF := hidI hF; have HP1 := hidI hP1; have HH := hidI hH; have HP2 := hidI hP2
 have hl := hv.len
 have hN64 : N ≤ 64 := by have := hv.n2; omega
 obtain ⟨w0, hw0⟩ : ∃ w0, w0 = w.alloc (.cells #[.int .i64 G.q, .int .i64 G.n, .slice p G.es.length c] 24) := ⟨_, rfl⟩
 have b0 : VRow w0 w.heap.size 24 [.int .i64 G.q, .int .i64 G.n, .slice p G.es.length c] := by subst hw0; exact VRow.new w _ _
 have hB0 : RowKit.Below w.heap.size w w0 := by subst hw0; exact (RowKit.Below.refl _ _).alloc (Nat.le_refl _) _
 have HYR := hidI (fun q h1 h2 => @partB_yes N G.es F H q h1 h2)
 have HNR : Hid ((∀ q ∈ prsTo G.es G.es.length ++ prsR G.es G.es.length 0, hitP N G.es F H q = false) → partB N G.es F H = false) := fun h => partB_no (fun q hq => h q (by rw [prs_end]; exact hq))
 generalize partB N G.es F H = R at *
 have g2 := b0.at 2 rfl
 clear hin hv hN hF hP1 hH hP2
 go_enter Tryz.func83, Tryz.ntmps83
 go_upto_region 1 with fail
 rw [← hw0]
 clear hw0
 go_wp2_with fail
 clear g2
 go_loopw [7] (fun iv wr => ∃ i : Nat, i ≤ G.es.length ∧ iv = .int .i64 i ∧ Hid (∀ q ∈ prsTo G.es i ++ prsR G.es i 0, hitP N G.es F H q = false) ∧ RowKit.Below w0.heap.size w0 wr) (fun iv _ => G.es.length - (intOf iv).toNat)
 case atStart => exact ⟨0, Nat.zero_le _, rfl, (fun q hq => by cases hq), RowKit.Below.refl _ _⟩
 case round =>
  obtain ⟨i, hi', rfl, hP, hB⟩ := hrel
  have f2 := (b0.below hB b0.lt).at 2 rfl
  by_cases hi : i < G.es.length
  ·have hiI : (i : Int) < (G.es.length : Int) := by omega
   have HR := hidI (prs_row G.es i)
   go_wp2_with fail
   obtain ⟨wo, rfl⟩ : ∃ wo : World, wo = wr := ⟨_, rfl⟩
   go_loopw [8] (fun jv wx => ∃ k : Nat, k ≤ G.es.length ∧ jv = .int .i64 k ∧ Hid (∀ q ∈ prsTo G.es i ++ prsR G.es i k, hitP N G.es F H q = false) ∧ RowKit.Below w0.heap.size w0 wx) (fun jv _ => G.es.length - (intOf jv).toNat)
   case atStart => exact ⟨0, Nat.zero_le _, rfl, hP, hB⟩
   case round =>
    clear hP hB f2
    obtain ⟨k, hk', rfl, hP, hB⟩ := hrel
    obtain ⟨W, rfl⟩ : ∃ W : World, W = wr := ⟨_, rfl⟩
    have kg := b0.below hB b0.lt
    have f2 := kg.at 2 rfl
    by_cases hk : k < G.es.length
    ·have hkI : (k : Int) < (G.es.length : Int) := by omega
     have hBw := hB0.trans (hB.mono hB0.size)
     have HYES : Hid ((eget G.es i).l = (eget G.es k).l → hitP N G.es F H (i, k) = false → ∀ q ∈ prsTo G.es i ++ prsR G.es i (k + 1), hitP N G.es F H q = false) := fun h h2 q hq => by
      rw [prsR_yes h, ← List.append_assoc] at hq
      rcases List.mem_append.1 hq with hq | hq
      ·exact hP.out q hq
      ·obtain rfl := List.mem_singleton.1 hq; exact h2
     have HNO : Hid ((eget G.es i).l ≠ (eget G.es k).l → ∀ q ∈ prsTo G.es i ++ prsR G.es i (k + 1), hitP N G.es F H q = false) := fun h q hq => by
      rw [prsR_no h] at hq; exact hP.out q hq
     have HHIT : Hid (hitP N G.es F H (i, k) = (decide (i ≠ k) && (lkB F (pix N (eget G.es i).f (eget G.es k).f) && lkB H (pix N (eget G.es i).t (eget G.es k).t)))) := rfl
     have HYE : Hid ((eget G.es i).l = (eget G.es k).l → hitP N G.es F H (i, k) = true → R = true) := fun h h2 => HYR.out (i, k) (mem_prs.2 ⟨hi, hk, h⟩) h2
     generalize hitP N G.es F H (i, k) = hit at *
     have vx := HV.out.ins _ (Gr.at_ hi); have vy := HV.out.ins _ (Gr.at_ hk)
     have hxe := eget_eq G.es i hi; have hye := eget_eq G.es k hk
     obtain ⟨b4, o4, rfl, hb4, e0, e1, e2⟩ := (HIN.out.below hBw).get3 i hi rfl
     obtain ⟨b5, o5, e', hb5, d0, d1, d2⟩ := (HIN.out.below hBw).get3 k hk rfl
     cases e'
     rw [← hxe] at e0 e1 e2
     rw [← hye] at d0 d1 d2
     generalize eget G.es i = x at *
     generalize eget G.es k = y at *
     clear hxe hye
     have hnI := HNN.out
     obtain ⟨xf, xl, xt⟩ := x
     obtain ⟨yf, yl, yt⟩ := y
     simp only at vx vy HYES HNO HHIT HYE e0 e1 e2 d0 d1 d2
     obtain ⟨fx, rfl⟩ : ∃ a : Nat, xf = a := ⟨xf.toNat, by omega⟩
     obtain ⟨tx, rfl⟩ : ∃ a : Nat, xt = a := ⟨xt.toNat, by omega⟩
     obtain ⟨fy, rfl⟩ : ∃ a : Nat, yf = a := ⟨yf.toNat, by omega⟩
     obtain ⟨ty, rfl⟩ : ∃ a : Nat, yt = a := ⟨yt.toNat, by omega⟩
     have hfx : fx < N := by omega
     have htx : tx < N := by omega
     have hfy : fy < N := by omega
     have hty : ty < N := by omega
     rw [pix_nat, pix_nat] at HHIT
     have HGF := hidI ((HP1.out.below hBw).spot hfx hfy HF.out)
     have HGH := hidI ((HP2.out.below hBw).spot htx hty HH.out)
     generalize lkB F (fx * N + fy) = hh at *
     generalize lkB H (tx * N + ty) = hr at *
     clear vx vy hnI HP1 HP2 hP
     have hgl := kg.lt
     go_upto_region 7 with fail
     go_cut [9, 10] from 25 to 35 (fun s8 s9 wx => ∃ b6 b7, s8 = .pointer (some ⟨b6, 0, none⟩) ∧ s9 = .pointer (some ⟨b7, 0, none⟩) ∧ VRow wx b6 44 (edV ⟨fx, xl, tx⟩) ∧ VRow wx b7 44 (edV ⟨fy, yl, ty⟩) ∧ RowKit.Below W.heap.size W wx)
     case first =>
      refine region_detW (by kernel_rfl) 14 [(some 25, some (.pointer (some ⟨w.heap.size, 2, none⟩))), (some 26, some (.slice (some ⟨b4, o4, none⟩) G.es.length c)), (some 27, some (.int .i64 (i : Int))), (some 28, some (.pointer (some ⟨b4, o4 + i * 3, none⟩))), (some 29, some (.agg #[.int .i64 fx, .int .i64 xl, .int .i64 tx])),
        (some 30, some (.pointer (some ⟨w.heap.size, 2, none⟩))), (some 31, some (.slice (some ⟨b4, o4, none⟩) G.es.length c)), (some 32, some (.int .i64 (k : Int))), (some 33, some (.pointer (some ⟨b4, o4 + k * 3, none⟩))), (some 34, some (.agg #[.int .i64 fy, .int .i64 yl, .int .i64 ty])), (some 9, none), (some 10, none), (none, none), (none, none)]
       (fun d f W' => Kp2 W ⟨fx, xl, tx⟩ ⟨fy, yl, ty⟩ (d 12) (d 13) (f 9) (f 10) W') (by kernel_rfl) (by kernel_rfl) (by kernel_rfl) (by kernel_rfl) ⟨below_dN (RowKit.Below.refl _ _) 1, (fun _ e => by cases e), (fun _ e => by cases e), (fun _ _ e => by cases e)⟩ ?_ ?_
      focus
       intro i' o ho a' d f W' hS hdi hdn hnd hdep hout hold K hK
       have hil : i' < 14 := (Array.getElem?_eq_some_iff.1 ho).1
       have hcases : i' = 0 ∨ i' = 1 ∨ i' = 2 ∨ i' = 3 ∨ i' = 4 ∨ i' = 5 ∨ i' = 6 ∨ i' = 7 ∨ i' = 8 ∨ i' = 9 ∨ i' = 10 ∨ i' = 11 ∨ i' = 12 ∨ i' = 13 := by omega
       clear hil
       have u2 := hout 3 (by kernel_rfl)
       have u6 := hout 7 (by kernel_rfl)
       have u7 := hout 8 (by kernel_rfl)
       simp at u2 u6 u7
       clear hout
       have hc2 := (hS.b.cell (p := ⟨w.heap.size, 2, none⟩) hgl).trans f2
       have g0 := (hS.b.cell (p := ⟨b4, o4 + i * 3, none⟩) hb4).trans e0
       have g1 := (hS.b.cell (p := ⟨b4, o4 + i * 3 + 1, none⟩) hb4).trans e1
       have g2 := (hS.b.cell (p := ⟨b4, o4 + i * 3 + 2, none⟩) hb4).trans e2
       have h0 := (hS.b.cell (p := ⟨b4, o4 + k * 3, none⟩) hb4).trans d0
       have h1 := (hS.b.cell (p := ⟨b4, o4 + k * 3 + 1, none⟩) hb4).trans d1
       have h2 := (hS.b.cell (p := ⟨b4, o4 + k * 3 + 2, none⟩) hb4).trans d2
       clear e0 e1 e2 d0 d1 d2 f2
       rcases hcases with rfl | rfl | rfl | rfl | rfl | rfl | rfl | rfl | rfl | rfl | rfl | rfl | rfl | rfl
       all_goals (simp only [List.getElem?_toArray, List.getElem?_cons_succ, List.getElem?_cons_zero, Option.some.injEq] at ho; subst ho; simp [Region.binds] at hdep; (try go_split_ands))
       iterate 10
        first
         | (go_simp; exact hK _ _ (fun u hu => Option.some.inj hu) hS)
         | skip
       ·have h6 := (hold 10 (by kernel_rfl) _ rfl 9 rfl).1
        have e14 := hnd 12 (by kernel_rfl)
        have h := hS
        rw [e14, h6] at h
        have hfin := h.new6
        go_simp
        exact hK _ _ (fun u hu => by cases hu) (by
         show Kp2 _ _ _ (d 12) (d 13) (some _) (f 10) _
         rw [e14]; exact hfin)
       ·have h7 := (hold 11 (by kernel_rfl) _ rfl 10 rfl).1
        have e15 := hnd 13 (by kernel_rfl)
        have h := hS
        rw [e15, h7] at h
        have hfin := h.new7
        go_simp
        exact hK _ _ (fun u hu => by cases hu) (by
         show Kp2 _ _ _ (d 12) (d 13) (f 9) (some _) _
         rw [e15]; exact hfin)
       ·obtain ⟨v, hv, hat⟩ : ∃ v, f 9 = some v ∧ a'.tmps[9]? = some v := by assumption
        have e14 : d 12 = false := hdi
        have h := hS
        rw [e14, hv] at h
        obtain ⟨B, rfl, hbl, hzr⟩ := h.a _ rfl
        have k0 := hzr.at 0 rfl; have k1 := hzr.at 1 rfl; have k2 := hzr.at 2 rfl
        have z0 := hzr.frozen 0; have z1 := hzr.frozen 1; have z2 := hzr.frozen 2
        have hfin := h.set6
        have HV1 := hidI hv
        clear hzr h hv
        go_simp
        exact hK undef _ (fun u hu => by cases hu) (by
         show Kp2 _ _ _ true (d 13) (f 9) (f 10) _
         rw [HV1.out]; exact hfin)
       ·obtain ⟨v, hv, hat⟩ : ∃ v, f 10 = some v ∧ a'.tmps[10]? = some v := by assumption
        have e15 : d 13 = false := hdi
        have h := hS
        rw [e15, hv] at h
        obtain ⟨B, rfl, hbl, hzr⟩ := h.c _ rfl
        have k0 := hzr.at 0 rfl; have k1 := hzr.at 1 rfl; have k2 := hzr.at 2 rfl
        have z0 := hzr.frozen 0; have z1 := hzr.frozen 1; have z2 := hzr.frozen 2
        have hfin := h.set7
        have HV1 := hidI hv
        clear hzr h hv
        go_simp
        exact hK undef _ (fun u hu => by cases hu) (by
         show Kp2 _ _ _ (d 12) true (f 9) (f 10) _
         rw [HV1.out]; exact hfin)
      intro d f W2 hS hall hf
      have e14 : d 12 = true := hall 12 (by decide)
      have e15 : d 13 = true := hall 13 (by decide)
      obtain ⟨v6, hv6, -⟩ := hf (some 9, none) (by simp) 9 rfl
      obtain ⟨v7, hv7, -⟩ := hf (some 10, none) (by simp) 10 rfl
      obtain ⟨b6, rfl, hb6, r6⟩ := hS.a _ hv6
      obtain ⟨b7, rfl, hb7, r7⟩ := hS.c _ hv7
      rw [e14, if_pos rfl] at r6
      rw [e15, if_pos rfl] at r7
      have hBS := hS.b
      simp only [putsD, List.filterMap_cons, List.filterMap_nil, Option.map_some, Option.map_none, Option.getD_some, Option.getD_none, List.foldl_cons, List.foldl_nil, Act.put, List.setIfInBounds_toArray, List.set_cons_zero, List.set_cons_succ]
      rw [hv6, hv7]
      simp only [Option.getD_some]
      clear hf hv6 hv7 hS hall e14 e15 e0 e1 e2 d0 d1 d2 f2
      go_wp2_with fail
      go_meet
      exact ⟨b6, b7, rfl, rfl, r6, r7, hBS⟩
     case rest =>
      obtain ⟨b6, b7, rfl, rfl, r6, r7, hBS⟩ := hcut
      have hBc := hB.trans (hBS.mono hB.size)
      have X0 := r6.at 0 rfl; have X1 := r6.at 1 rfl; have X2 := r6.at 2 rfl
      have Y0 := r7.at 0 rfl; have Y1 := r7.at 1 rfl; have Y2 := r7.at 2 rfl
      have hfxI : (fx : Int) < (N : Int) := by omega
      have htxI : (tx : Int) < (N : Int) := by omega
      have hfyI : (fy : Int) < (N : Int) := by omega
      have htyI : (ty : Int) < (N : Int) := by omega
      obtain ⟨g, b, e', hg, hc, hcj, _, _, _⟩ := HGF.out
      cases e'
      have hbl : b < W.heap.size := World.block_lt_of_cell? _ _ hcj
      have hcw := (hBS.cell (p := ⟨g, fx, none⟩) hg).trans hc
      have hdw := (hBS.cell (p := ⟨b, fy, none⟩) hbl).trans hcj
      obtain ⟨g', b', e', hg', hc', hcj', _, _, _⟩ := HGH.out
      cases e'
      have hbl' : b' < W.heap.size := World.block_lt_of_cell? _ _ hcj'
      have hcw' := (hBS.cell (p := ⟨g', tx, none⟩) hg').trans hc'
      have hdw' := (hBS.cell (p := ⟨b', ty, none⟩) hbl').trans hcj'
      clear e0 e1 e2 d0 d1 d2 f2 kg r6 r7 hc hcj hc' hcj' HGF HGH
      by_cases hik : i = k
      ·have n0 : ((i : Int) != (k : Int)) = false := by simp [hik]
       have HT : Hid (∀ q ∈ prsTo G.es i ++ prsR G.es i (k + 1), hitP N G.es F H q = false) := by
        by_cases h : xl = yl
        ·exact HYES.out h (by rw [HHIT.out]; simp [hik])
        ·exact HNO.out h
       clear HYES HNO HHIT HYE hik
       go_upto_region 8 with fail
       (refine wp_region_quiet_lit (by kernel_rfl) (by kernel_rfl) ?_; (repeat (first | go_big_quiet_step (fail) | quiet_step (fail))); refine wpQuiet_nil ?_; intro _ hwq; obtain ⟨nq, hwq2⟩ := hwq; subst hwq2)
       go_wp2
       go_roundw
       case rel => exact ⟨k + 1, by omega, by go_num, HT.out, below_dN hBc _⟩
       case measure => simp [intOf]; omega
      ·have n0 : ((i : Int) != (k : Int)) = true := by simp; omega
       by_cases hxy : xl = yl
       ·subst hxy
        have n1 : (xl == xl) = true := by simp
        cases hh
        ·have HT := hidI (HYES.out rfl (by rw [HHIT.out]; simp))
         clear HYES HNO HHIT HYE hik
         go_upto_region 8 with fail
         (refine wp_region_quiet_lit (by kernel_rfl) (by kernel_rfl) ?_; (repeat (first | go_big_quiet_step (fail) | quiet_step (fail))); refine wpQuiet_nil ?_; intro _ hwq; obtain ⟨nq, hwq2⟩ := hwq; subst hwq2)
         go_wp2
         go_roundw
         case rel => exact ⟨k + 1, by omega, by go_num, HT.out, below_dN hBc _⟩
         case measure => simp [intOf]; omega
        ·cases hr
         ·have HT := hidI (HYES.out rfl (by rw [HHIT.out]; simp))
          clear HYES HNO HHIT HYE hik
          go_upto_region 8 with fail
          (refine wp_region_quiet_lit (by kernel_rfl) (by kernel_rfl) ?_; (repeat (first | go_big_quiet_step (fail) | quiet_step (fail))); refine wpQuiet_nil ?_; intro _ hwq; obtain ⟨nq, hwq2⟩ := hwq; subst hwq2)
          go_wp2
          go_roundw
          case rel => exact ⟨k + 1, by omega, by go_num, HT.out, below_dN hBc _⟩
          case measure => simp [intOf]; omega
         ·have HT := hidI (HYE.out rfl (by rw [HHIT.out]; simp [hik]))
          clear HYES HNO HHIT HYE hik
          go_upto_region 8 with fail
          (refine wp_region_quiet_lit (by kernel_rfl) (by kernel_rfl) ?_; (repeat (first | go_big_quiet_step (fail) | quiet_step (fail))); refine wpQuiet_nil ?_; intro _ hwq; obtain ⟨nq, hwq2⟩ := hwq; subst hwq2)
          go_wp2
          go_ret
          exact ⟨ret_bool HT.out.symm, below_dN (hB0.trans (hBc.mono hB0.size)) _⟩
       ·have n1 : (xl == yl) = false := by simpa using hxy
        have HT := hidI (HNO.out hxy)
        clear HYES HNO HHIT HYE hik hxy
        go_upto_region 8 with fail
        (refine wp_region_quiet_lit (by kernel_rfl) (by kernel_rfl) ?_; (repeat (first | go_big_quiet_step (fail) | quiet_step (fail))); refine wpQuiet_nil ?_; intro _ hwq; obtain ⟨nq, hwq2⟩ := hwq; subst hwq2)
        go_wp2
        go_roundw
        case rel => exact ⟨k + 1, by omega, by go_num, HT.out, below_dN hBc _⟩
        case measure => simp [intOf]; omega
    ·obtain rfl : k = G.es.length := by omega
     have hkI : ¬ (G.es.length : Int) < (G.es.length : Int) := by omega
     rw [HR.out] at hP
     go_wp2_with fail
     go_roundw
     case rel => exact ⟨i + 1, by omega, by go_num, hP, hB⟩
     case measure => simp [intOf]; omega
  ·obtain rfl : i = G.es.length := by omega
   have hiI : ¬ (G.es.length : Int) < (G.es.length : Int) := by omega
   have HT := hidI (HNR.out hP.out)
   go_wp2
   go_ret
   exact ⟨ret_bool HT.out.symm, hB0.trans (hB.mono hB0.size)⟩
end
section
open Go.RowKit Go.Sort Go.Shelf
theorem part_dia {G : Gr} (hv : Vg G) {N : Nat} (hN : G.n = N) (H : List Bool) : partB N G.es (diaV N true (List.replicate (N * N) false) N) H = splB N G.es H := by
 have h : ∀ p ∈ prs G.es, lkB (diaV N true (List.replicate (N * N) false) N) (pix N (eget G.es p.1).f (eget G.es p.2).f) = decide ((eget G.es p.1).f = (eget G.es p.2).f) := fun p hp => by
  obtain ⟨h1, h2, _⟩ := mem_prs.1 hp
  have k1 := hv.ins _ (Gr.at_ h1); have k2 := hv.ins _ (Gr.at_ h2)
  generalize (eget G.es p.1).f = a at *
  generalize (eget G.es p.2).f = b at *
  obtain ⟨x, rfl⟩ : ∃ x : Nat, a = x := ⟨a.toNat, by omega⟩
  obtain ⟨y, rfl⟩ : ∃ y : Nat, b = y := ⟨b.toNat, by omega⟩
  rw [pix_nat, diaV_at (by simp) N _ (Nat.le_refl _), lkB_rep]
  have hy : y < N := by omega
  by_cases e : x = y
  ·subst e
   rw [if_pos ⟨x, hy, rfl⟩]; simp
  ·have e2 : ¬ ((x : Int) = (y : Int)) := by omega
   rw [if_neg, decide_eq_false e2]
   rintro ⟨z, hz, ez⟩
   have h3 := place_inj hy hz ez
   omega
 unfold partB splB
 refine Bool.eq_iff_iff.2 ?_
 simp only [List.any_eq_true]
 exact ⟨fun ⟨p, hp, e⟩ => ⟨p, hp, by rw [← h p hp]; exact e⟩, fun ⟨p, hp, e⟩ => ⟨p, hp, by rw [h p hp]; exact e⟩⟩
structure Ka (W0 : World) (N : Nat) (D : List Bool) (f17 : Option Value) (W : World) : Prop where
 b : RowKit.Below W0.heap.size W0 W
 k : ∀ v, f17 = some v → ∃ pd cd bsd, v = .slice pd N cd ∧ PB W0.heap.size N N D (.slice pd N cd) bsd W
set_option maxRecDepth 100000 in
set_option maxHeartbeats 2000000 in
theorem r15Memory_any (G : Gr) (p : Option Addr) (c : Nat) (w : World) (hin : Sg 3 w edE p G.es) (hl : G.es.length ≤ 9223372036854775807) :
  Calls Tryz.prog 24 #[(.agg #[.int .i64 G.q, .int .i64 G.n, .slice p G.es.length c])] w fun e w' => e = .returned (.tuple #[.int .i64 (memA G).1, .bool (memA G).2.1, .int .i64 (memA G).2.2]) ∧ RowKit.Below w.heap.size w w' := by
 obtain ⟨w0, hw0⟩ : ∃ w0, w0 = w.alloc (.cells #[.int .i64 G.q, .int .i64 G.n, .slice p G.es.length c] 24) := ⟨_, rfl⟩
 have b0 : VRow w0 w.heap.size 24 [.int .i64 G.q, .int .i64 G.n, .slice p G.es.length c] := by subst hw0; exact VRow.new w _ _
 have hB0 : RowKit.Below w.heap.size w w0 := by subst hw0; exact (RowKit.Below.refl _ _).alloc (Nat.le_refl _) _
 obtain ⟨r, hr⟩ : ∃ r, chkG G = r := ⟨_, rfl⟩
 have HCK := hidI (rCheck_r G p c w0 r hr (hin.below hB0) hl)
 have HIN := hidI hin
 have f0 := b0.at 0 rfl; have f1 := b0.at 1 rfl; have f2 := b0.at 2 rfl
 by_cases hc : r = 0
 case neg =>
  have HK : Hid (memA G = (0, false, 1)) := if_pos (by rw [hr]; exact hc)
  have hrb : (r != 0) = true := by simpa using hc
  clear hc hin hr
  go_enter Tryz.func24, Tryz.ntmps24
  go_upto_region 1 with fail
  rw [← hw0]
  clear hw0
  go_wp2_with fail
  refine HCK.out.mono ?_
  rintro e w1 ⟨rfl, hB1⟩
  have x1 := hB0.trans (hB1.mono hB0.size)
  go_wp2
  go_ret3
  rw [HK.out]
  exact ⟨rfl, x1⟩
 ·subst hc
  have hv := chkG_ok.1 hr
  obtain ⟨N, hN⟩ : ∃ N, G.n.toNat = N := ⟨_, rfl⟩
  have hnN : G.n = (N : Int) := by have := hv.n1; omega
  have HK : Hid (memA G = ((lstA (aftF N G.es) (difB N) (N * N + 1) 0 (allF2 N)).1, (lstA (aftF N G.es) (difB N) (N * N + 1) 0 (allF2 N)).2, 0)) := by
   rw [Hid, ← hN]; exact if_neg (by rw [hr]; decide)
  have hN64 : N ≤ 64 := by have := hv.n2; omega
  have HV := hidI hv; have HN := hidI hnN
  have HMO : Hid (MonF (N * N) (aftF N G.es)) := aft_mon hv hnN
  have hcn : cntB (allF2 N) ≤ N * N := by have := cnt_le (allF2 N); simpa [allF2] using this
  have hch : Hid (Chn (N * N) (aftF N G.es) (allF2 N)) := Chn.all HMO.out
  have HAL := hidI (fun W => r15All_any G p c N hnN hN64 W)
  obtain ⟨R, hR⟩ : ∃ R, lstA (aftF N G.es) (difB N) (N * N + 1) 0 (allF2 N) = R := ⟨_, rfl⟩
  have HR := hidI hR
  rw [hR] at HK
  clear hR hN hr hv hin hnN
  go_enter Tryz.func24, Tryz.ntmps24
  go_upto_region 1 with fail
  rw [← hw0]
  clear hw0
  go_wp2_with fail
  refine HCK.out.mono ?_
  rintro e w1 ⟨rfl, hB1⟩
  have c0 := b0.below hB1 b0.lt
  clear f0 f1 f2 HCK
  have f0 := c0.at 0 rfl; have f1 := c0.at 1 rfl; have f2 := c0.at 2 rfl
  go_wp2_with fail
  refine (HAL.out w1).mono ?_
  rintro e w2 ⟨v, bs, rfl, hP, hB2⟩
  obtain ⟨pv, cv, rfl, hsh⟩ := hP.shape
  have hB3 := hB1.trans (hB2.mono hB1.size)
  have hP := hP.mono hB1.size
  clear f0 f1 f2 hsh hB1 hB2 c0 HAL
  go_wp2_with fail
  go_loopw [5, 6] (fun sv iv wr => ∃ (n : Nat) (F : List Bool) (p5 : Option Addr) (c5 : Nat) (bs5 : List Nat), iv = .int .i64 n ∧ sv = .slice p5 N c5 ∧ PB w0.heap.size N N F (.slice p5 N c5) bs5 wr ∧ Hid (Chn (N * N) (aftF N G.es) F) ∧ Hid (lstA (aftF N G.es) (difB N) (N * N + 1 - n) n F = R) ∧ n + cntB F ≤ N * N ∧ RowKit.Below w0.heap.size w0 wr) (fun _ iv _ => N * N + 1 - (intOf iv).toNat)
  case atStart => exact ⟨0, _, pv, cv, bs, rfl, rfl, hP, hch, HR.out, by omega, hB3⟩
  case round =>
   clear hP hch hcn hB3
   obtain ⟨n, F, p5, c5, bs5, rfl, rfl, hP, hc, hl', hnc, hB⟩ := hrel
   have HPB := hidI hP
   have c0 := b0.below hB b0.lt
   have hl2 : Hid (lstA (aftF N G.es) (difB N) ((N * N - n) + 1) n F = R) := by rw [Hid, ← hl'.out, show N * N + 1 - n = (N * N - n) + 1 by omega]
   have f0 := c0.at 0 rfl; have f1 := c0.at 1 rfl; have f2 := c0.at 2 rfl
   have hnN : n ≤ N * N := by omega
   have hNN : N * N ≤ 4096 := Nat.mul_le_mul hN64 hN64
   have HP := hidI (r15apart_any hN64 hP hc.out.len)
   clear hP
   by_cases hp : difB N F = false
   ·have HX : Hid (R = ((n : Int), true)) := by rw [Hid, ← hl2.out]; exact lstA_hit hp
    rw [hp] at HP
    clear hl' hp
    go_wp2_with fail
    refine HP.out.mono ?_
    rintro e w3 ⟨rfl, hw3⟩
    replace hw3 := hw3.symm
    subst hw3
    have x3 := hB
    have hB4 := RowKit.Below.refl wr.heap.size wr
    go_wp2
    go_ret3
    rw [HK.out, HX.out]
    exact ⟨rfl, hB0.trans (x3.mono hB0.size)⟩
   ·have hpt : difB N F = true := by simpa using hp
    rw [hpt] at HP
    have HSY := hidI (fun h => @lstA_stay (aftF N G.es) (difB N) (N * N - n) n F hpt h)
    have HNX := hidI (fun h => @lstA_next (aftF N G.es) (difB N) (N * N - n) n F hpt h)
    have HSL := hidI (HMO.out.len F)
    have HFL := hidI hc.out.len
    have HCH := hidI (hc.out.next HMO.out)
    have HLT := hidI (fun h => hc.out.lt h)
    clear hl' hp hpt
    go_wp2_with fail
    refine HP.out.mono ?_
    rintro e w3 ⟨rfl, hw3⟩
    replace hw3 := hw3.symm
    subst hw3
    have x3 := hB
    have hB4 := RowKit.Below.refl wr.heap.size wr
    have hP3 := HPB.out.below hB4
    have c3 := b0.below x3 b0.lt
    clear f0 f1 f2 c0
    have f0 := c3.at 0 rfl; have f1 := c3.at 1 rfl; have f2 := c3.at 2 rfl
    have HS := hidI (r15Step_any G p c N F p5 c5 w0.heap.size bs5 HV.out HN.out wr (HIN.out.below (hB0.trans (x3.mono hB0.size))) HFL.out hP3)
    generalize hF2 : aftF N G.es F = F2 at *
    go_wp2_with fail
    refine HS.out.mono ?_
    rintro e w4 ⟨v4, bs4, rfl, hP4, hB5⟩
    obtain ⟨p4, c4, rfl, hsh⟩ := hP4.shape
    have x4 := x3.trans (hB5.mono x3.size)
    have hP5 := hP3.below hB5
    have HEQ := hidI (r15same_any hN64 hP4 hP5 HSL.out HFL.out)
    have hP4 := hP4.mono x3.size
    clear hsh f0 f1 f2 c3 HS
    by_cases heq : F2 = F
    ·have HX : Hid (R = (0, false)) := by rw [Hid, ← hl2.out]; exact HSY.out heq
     rw [decide_eq_true heq] at HEQ
     clear HSY HNX heq hF2 hP4 hP5 hP3
     go_wp2_with fail
     refine HEQ.out.mono ?_
     rintro e w6 ⟨rfl, hD6⟩
     have x6 := x4.trans (hD6.mono x4.size)
     go_wp2
     go_ret3
     rw [HK.out, HX.out]
     exact ⟨rfl, hB0.trans (x6.mono hB0.size)⟩
    ·have HX : Hid (lstA (aftF N G.es) (difB N) (N * N + 1 - (n + 1)) (n + 1) F2 = R) := by rw [Hid, ← hl2.out, HNX.out heq, show N * N + 1 - (n + 1) = N * N - n by omega]
     have hlt := HLT.out heq
     rw [decide_eq_false heq] at HEQ
     clear HSY HNX HLT heq hF2
     go_wp2_with fail
     refine HEQ.out.mono ?_
     rintro e w6 ⟨rfl, hD6⟩
     have x6 := x4.trans (hD6.mono x4.size)
     have hP6 := hP4.below hD6
     clear hP4 hP5 hP3
     go_wp2
     go_roundw
     case rel => exact ⟨n + 1, F2, p4, c4, bs4, by go_num, rfl, hP6, HCH, HX, by omega, x6⟩
     case measure => simp [intOf]; omega
set_option maxRecDepth 100000 in
set_option maxHeartbeats 2000000 in
theorem r15Antic_any (G : Gr) (p : Option Addr) (c : Nat) (w : World) (hin : Sg 3 w edE p G.es) (hl : G.es.length ≤ 9223372036854775807) :
  Calls Tryz.prog 26 #[(.agg #[.int .i64 G.q, .int .i64 G.n, .slice p G.es.length c])] w fun e w' => e = .returned (.tuple #[.int .i64 (antA G).1, .bool (antA G).2.1, .int .i64 (antA G).2.2]) ∧ RowKit.Below w.heap.size w w' := by
 obtain ⟨w0, hw0⟩ : ∃ w0, w0 = w.alloc (.cells #[.int .i64 G.q, .int .i64 G.n, .slice p G.es.length c] 24) := ⟨_, rfl⟩
 have b0 : VRow w0 w.heap.size 24 [.int .i64 G.q, .int .i64 G.n, .slice p G.es.length c] := by subst hw0; exact VRow.new w _ _
 have hB0 : RowKit.Below w.heap.size w w0 := by subst hw0; exact (RowKit.Below.refl _ _).alloc (Nat.le_refl _) _
 obtain ⟨r, hr⟩ : ∃ r, chkG G = r := ⟨_, rfl⟩
 have HCK := hidI (rCheck_r G p c w0 r hr (hin.below hB0) hl)
 have HIN := hidI hin
 have f0 := b0.at 0 rfl; have f1 := b0.at 1 rfl; have f2 := b0.at 2 rfl
 by_cases hc : r = 0
 case neg =>
  have HK : Hid (antA G = (0, false, 1)) := if_pos (by rw [hr]; exact hc)
  have hrb : (r != 0) = true := by simpa using hc
  clear hc hin hr
  go_enter Tryz.func26, Tryz.ntmps26
  go_upto_region 1 with fail
  rw [← hw0]
  clear hw0
  go_wp2_with fail
  refine HCK.out.mono ?_
  rintro e w1 ⟨rfl, hB1⟩
  have x1 := hB0.trans (hB1.mono hB0.size)
  go_wp2
  go_ret3
  rw [HK.out]
  exact ⟨rfl, x1⟩
 ·subst hc
  have hv := chkG_ok.1 hr
  obtain ⟨N, hN⟩ : ∃ N, G.n.toNat = N := ⟨_, rfl⟩
  have hnN : G.n = (N : Int) := by have := hv.n1; omega
  have HK : Hid (antA G = ((lstA (befF N G.es) (splB N G.es) (N * N + 1) 0 (allF2 N)).1, (lstA (befF N G.es) (splB N G.es) (N * N + 1) 0 (allF2 N)).2, 0)) := by
   rw [Hid, ← hN]; exact if_neg (by rw [hr]; decide)
  have hN64 : N ≤ 64 := by have := hv.n2; omega
  have HV := hidI hv; have HN := hidI hnN
  have HMO : Hid (MonF (N * N) (befF N G.es)) := bef_mon hv hnN
  have hcn : cntB (allF2 N) ≤ N * N := by have := cnt_le (allF2 N); simpa [allF2] using this
  have hch : Hid (Chn (N * N) (befF N G.es) (allF2 N)) := Chn.all HMO.out
  have HAL := hidI (fun W => r15All_any G p c N hnN hN64 W)
  obtain ⟨R, hR⟩ : ∃ R, lstA (befF N G.es) (splB N G.es) (N * N + 1) 0 (allF2 N) = R := ⟨_, rfl⟩
  have HR := hidI hR
  rw [hR] at HK
  clear hR hN hr hv hin hnN
  go_enter Tryz.func26, Tryz.ntmps26
  go_upto_region 1 with fail
  rw [← hw0]
  clear hw0
  go_wp2_with fail
  refine HCK.out.mono ?_
  rintro e w1 ⟨rfl, hB1⟩
  have c0 := b0.below hB1 b0.lt
  clear f0 f1 f2 HCK
  have f0 := c0.at 0 rfl; have f1 := c0.at 1 rfl; have f2 := c0.at 2 rfl
  go_wp2_with fail
  refine (HAL.out w1).mono ?_
  rintro e w2 ⟨v, bs, rfl, hP, hB2⟩
  obtain ⟨pv, cv, rfl, hsh⟩ := hP.shape
  have hB3 := hB1.trans (hB2.mono hB1.size)
  have hP := hP.mono hB1.size
  clear f0 f1 f2 hsh hB1 hB2 c0 HAL
  go_wp2_with fail
  go_loopw [5, 6] (fun sv iv wr => ∃ (n : Nat) (F : List Bool) (p5 : Option Addr) (c5 : Nat) (bs5 : List Nat), iv = .int .i64 n ∧ sv = .slice p5 N c5 ∧ PB w0.heap.size N N F (.slice p5 N c5) bs5 wr ∧ Hid (Chn (N * N) (befF N G.es) F) ∧ Hid (lstA (befF N G.es) (splB N G.es) (N * N + 1 - n) n F = R) ∧ n + cntB F ≤ N * N ∧ RowKit.Below w0.heap.size w0 wr) (fun _ iv _ => N * N + 1 - (intOf iv).toNat)
  case atStart => exact ⟨0, _, pv, cv, bs, rfl, rfl, hP, hch, HR.out, by omega, hB3⟩
  case round =>
   clear hP hch hcn hB3
   obtain ⟨n, F, p5, c5, bs5, rfl, rfl, hP, hc, hl', hnc, hB⟩ := hrel
   have HPB := hidI hP
   have c0 := b0.below hB b0.lt
   have hl2 : Hid (lstA (befF N G.es) (splB N G.es) ((N * N - n) + 1) n F = R) := by rw [Hid, ← hl'.out, show N * N + 1 - n = (N * N - n) + 1 by omega]
   have f0 := c0.at 0 rfl; have f1 := c0.at 1 rfl; have f2 := c0.at 2 rfl
   have hnN : n ≤ N * N := by omega
   have hNN : N * N ≤ 4096 := Nat.mul_le_mul hN64 hN64
   have HLF := hidI hc.out.len
   have HP := hidI (fun (W : World) (hW : RowKit.Below wr.heap.size wr W) (pd : Option Addr) (cd : Nat) (bsd : List Nat) (hd : PB wr.heap.size N N (diaV N true (List.replicate (N * N) false) N) (.slice pd N cd) bsd W) => r15parting_any G p c N (diaV N true (List.replicate (N * N) false) N) F pd cd wr.heap.size bsd p5 c5 w0.heap.size bs5 HV.out HN.out W (HIN.out.below (hB0.trans ((hB.trans (hW.mono hB.size)).mono hB0.size))) (by rw [diaV_len, List.length_replicate]) HLF.out hd (HPB.out.below hW))
   rw [part_dia HV.out HN.out F] at HP
   have HD := hidI (fun (W : World) => r15diagonal_any G p c N HN.out hN64 W)
   have hgl := c0.lt
   generalize diaV N true (List.replicate (N * N) false) N = D at *
   clear hP
   by_cases hp : splB N G.es F = false
   ·have HX : Hid (R = ((n : Int), true)) := by rw [Hid, ← hl2.out]; exact lstA_hit hp
    rw [hp] at HP
    clear hl' hp
    go_upto_region 6 with fail
    go_cut [20] from 15 to 19 (fun s20 wx => s20 = .bool (!false) ∧ RowKit.Below wr.heap.size wr wx)
    case first =>
     refine region_detW (by kernel_rfl) 6 [(some 15, some (.agg #[.int .i64 G.q, .int .i64 G.n, .slice p G.es.length c])), (some 16, some (.agg #[.int .i64 G.q, .int .i64 G.n, .slice p G.es.length c])), (some 17, none), (some 18, some (.slice p5 N c5)), (some 19, some (.bool false)), (some 20, some (.bool (!false)))]
      (fun d f W' => Ka wr N D (f 17) W') (by kernel_rfl) (by kernel_rfl) (by kernel_rfl) (by kernel_rfl) ⟨below_dN (RowKit.Below.refl _ _) 1, (fun _ e => by cases e)⟩ ?_ ?_
     focus
      intro i' o ho a' d f W' hS hdi hdn hnd hdep hout hold K hK
      have hil : i' < 6 := (Array.getElem?_eq_some_iff.1 ho).1
      have hcases : i' = 0 ∨ i' = 1 ∨ i' = 2 ∨ i' = 3 ∨ i' = 4 ∨ i' = 5 := by omega
      clear hil
      have u1 := hout 1 (by kernel_rfl)
      have u5 := hout 5 (by kernel_rfl)
      simp at u1 u5
      clear hout
      have m0 := (hS.b.cell (p := ⟨w.heap.size, 0, none⟩) hgl).trans f0
      have m1 := (hS.b.cell (p := ⟨w.heap.size, 1, none⟩) hgl).trans f1
      have m2 := (hS.b.cell (p := ⟨w.heap.size, 2, none⟩) hgl).trans f2
      clear f0 f1 f2
      rcases hcases with rfl | rfl | rfl | rfl | rfl | rfl
      all_goals (simp only [List.getElem?_toArray, List.getElem?_cons_succ, List.getElem?_cons_zero, Option.some.injEq] at ho; subst ho; simp [Region.binds] at hdep; (try go_split_ands))
      ·go_simp; exact hK _ _ (fun u hu => Option.some.inj hu) hS
      ·go_simp; exact hK _ _ (fun u hu => Option.some.inj hu) hS
      ·go_simp
       refine (HD.out W').mono ?_
       rintro e wk ⟨v, bsd, rfl, hPd, hBk⟩
       obtain ⟨pd, cd, rfl, _⟩ := hPd.shape
       exact hK _ _ (fun u hu => by cases hu) ⟨hS.b.trans (hBk.mono hS.b.size), fun v hv => ⟨pd, cd, bsd, (Option.some.inj hv).symm, hPd.mono hS.b.size⟩⟩
      ·go_simp; exact hK _ _ (fun u hu => Option.some.inj hu) hS
      ·obtain ⟨v, hv, hat⟩ : ∃ v, f 17 = some v ∧ a'.tmps[17]? = some v := by assumption
       obtain ⟨pd, cd, bsd, rfl, hPd⟩ := hS.k _ hv
       have HS1 := hidI hS
       have HV1 := hidI hv
       clear hv hS
       go_simp
       refine (HP.out W' HS1.out.b pd cd bsd hPd).mono ?_
       rintro e wk ⟨rfl, hBk⟩
       exact hK _ _ (fun u hu => Option.some.inj hu) ⟨HS1.out.b.trans (hBk.mono HS1.out.b.size), fun v hv => by
        obtain ⟨pd2, cd2, bsd2, e2, hP2⟩ := HS1.out.k v hv
        exact ⟨pd2, cd2, bsd2, e2, hP2.below hBk⟩⟩
      ·go_simp; exact hK _ _ (fun u hu => Option.some.inj hu) hS
     intro d f W2 hS hall hf
     have hBS := hS.b
     simp only [putsD, List.filterMap_cons, List.filterMap_nil, Option.map_some, Option.map_none, Option.getD_some, Option.getD_none, List.foldl_cons, List.foldl_nil, Act.put, List.setIfInBounds_toArray, List.set_cons_zero, List.set_cons_succ]
     clear hf hS hall f0 f1 f2
     go_wp2_with fail
     go_meet
     exact ⟨rfl, hBS⟩
    case rest =>
     obtain ⟨rfl, hB4⟩ := hcut
     have x3 := hB.trans (hB4.mono hB.size)
     clear HP HD
     go_wp2
     go_ret3
     rw [HK.out, HX.out]
     exact ⟨rfl, hB0.trans (x3.mono hB0.size)⟩
   ·have hpt : splB N G.es F = true := by simpa using hp
    rw [hpt] at HP
    have HSY := hidI (fun h => @lstA_stay (befF N G.es) (splB N G.es) (N * N - n) n F hpt h)
    have HNX := hidI (fun h => @lstA_next (befF N G.es) (splB N G.es) (N * N - n) n F hpt h)
    have HSL := hidI (HMO.out.len F)
    have HFL := hidI hc.out.len
    have HCH := hidI (hc.out.next HMO.out)
    have HLT := hidI (fun h => hc.out.lt h)
    clear hl' hp hpt
    go_upto_region 6 with fail
    go_cut [20] from 15 to 19 (fun s20 wx => s20 = .bool (!true) ∧ RowKit.Below wr.heap.size wr wx)
    case first =>
     refine region_detW (by kernel_rfl) 6 [(some 15, some (.agg #[.int .i64 G.q, .int .i64 G.n, .slice p G.es.length c])), (some 16, some (.agg #[.int .i64 G.q, .int .i64 G.n, .slice p G.es.length c])), (some 17, none), (some 18, some (.slice p5 N c5)), (some 19, some (.bool true)), (some 20, some (.bool (!true)))]
      (fun d f W' => Ka wr N D (f 17) W') (by kernel_rfl) (by kernel_rfl) (by kernel_rfl) (by kernel_rfl) ⟨below_dN (RowKit.Below.refl _ _) 1, (fun _ e => by cases e)⟩ ?_ ?_
     focus
      intro i' o ho a' d f W' hS hdi hdn hnd hdep hout hold K hK
      have hil : i' < 6 := (Array.getElem?_eq_some_iff.1 ho).1
      have hcases : i' = 0 ∨ i' = 1 ∨ i' = 2 ∨ i' = 3 ∨ i' = 4 ∨ i' = 5 := by omega
      clear hil
      have u1 := hout 1 (by kernel_rfl)
      have u5 := hout 5 (by kernel_rfl)
      simp at u1 u5
      clear hout
      have m0 := (hS.b.cell (p := ⟨w.heap.size, 0, none⟩) hgl).trans f0
      have m1 := (hS.b.cell (p := ⟨w.heap.size, 1, none⟩) hgl).trans f1
      have m2 := (hS.b.cell (p := ⟨w.heap.size, 2, none⟩) hgl).trans f2
      clear f0 f1 f2
      rcases hcases with rfl | rfl | rfl | rfl | rfl | rfl
      all_goals (simp only [List.getElem?_toArray, List.getElem?_cons_succ, List.getElem?_cons_zero, Option.some.injEq] at ho; subst ho; simp [Region.binds] at hdep; (try go_split_ands))
      ·go_simp; exact hK _ _ (fun u hu => Option.some.inj hu) hS
      ·go_simp; exact hK _ _ (fun u hu => Option.some.inj hu) hS
      ·go_simp
       refine (HD.out W').mono ?_
       rintro e wk ⟨v, bsd, rfl, hPd, hBk⟩
       obtain ⟨pd, cd, rfl, _⟩ := hPd.shape
       exact hK _ _ (fun u hu => by cases hu) ⟨hS.b.trans (hBk.mono hS.b.size), fun v hv => ⟨pd, cd, bsd, (Option.some.inj hv).symm, hPd.mono hS.b.size⟩⟩
      ·go_simp; exact hK _ _ (fun u hu => Option.some.inj hu) hS
      ·obtain ⟨v, hv, hat⟩ : ∃ v, f 17 = some v ∧ a'.tmps[17]? = some v := by assumption
       obtain ⟨pd, cd, bsd, rfl, hPd⟩ := hS.k _ hv
       have HS1 := hidI hS
       have HV1 := hidI hv
       clear hv hS
       go_simp
       refine (HP.out W' HS1.out.b pd cd bsd hPd).mono ?_
       rintro e wk ⟨rfl, hBk⟩
       exact hK _ _ (fun u hu => Option.some.inj hu) ⟨HS1.out.b.trans (hBk.mono HS1.out.b.size), fun v hv => by
        obtain ⟨pd2, cd2, bsd2, e2, hP2⟩ := HS1.out.k v hv
        exact ⟨pd2, cd2, bsd2, e2, hP2.below hBk⟩⟩
      ·go_simp; exact hK _ _ (fun u hu => Option.some.inj hu) hS
     intro d f W2 hS hall hf
     have hBS := hS.b
     simp only [putsD, List.filterMap_cons, List.filterMap_nil, Option.map_some, Option.map_none, Option.getD_some, Option.getD_none, List.foldl_cons, List.foldl_nil, Act.put, List.setIfInBounds_toArray, List.set_cons_zero, List.set_cons_succ]
     clear hf hS hall f0 f1 f2
     go_wp2_with fail
     go_meet
     exact ⟨rfl, hBS⟩
    case rest =>
     obtain ⟨rfl, hB4⟩ := hcut
     have x3 := hB.trans (hB4.mono hB.size)
     clear HP HD
     have hP3 := HPB.out.below hB4
     have c3 := b0.below x3 b0.lt
     clear f0 f1 f2 c0
     have f0 := c3.at 0 rfl; have f1 := c3.at 1 rfl; have f2 := c3.at 2 rfl
     have HS := hidI (r15Back_any G p c N F p5 c5 w0.heap.size bs5 HV.out HN.out wc (HIN.out.below (hB0.trans (x3.mono hB0.size))) HFL.out hP3)
     generalize hF2 : befF N G.es F = F2 at *
     go_wp2_with fail
     refine HS.out.mono ?_
     rintro e w4 ⟨v4, bs4, rfl, hP4, hB5⟩
     obtain ⟨p4, c4, rfl, hsh⟩ := hP4.shape
     have x4 := x3.trans (hB5.mono x3.size)
     have hP5 := hP3.below hB5
     have HEQ := hidI (r15same_any hN64 hP4 hP5 HSL.out HFL.out)
     have hP4 := hP4.mono x3.size
     clear hsh f0 f1 f2 c3 HS
     by_cases heq : F2 = F
     ·have HX : Hid (R = (0, false)) := by rw [Hid, ← hl2.out]; exact HSY.out heq
      rw [decide_eq_true heq] at HEQ
      clear HSY HNX heq hF2 hP4 hP5 hP3
      go_wp2_with fail
      refine HEQ.out.mono ?_
      rintro e w6 ⟨rfl, hD6⟩
      have x6 := x4.trans (hD6.mono x4.size)
      go_wp2
      go_ret3
      rw [HK.out, HX.out]
      exact ⟨rfl, hB0.trans (x6.mono hB0.size)⟩
     ·have HX : Hid (lstA (befF N G.es) (splB N G.es) (N * N + 1 - (n + 1)) (n + 1) F2 = R) := by rw [Hid, ← hl2.out, HNX.out heq, show N * N + 1 - (n + 1) = N * N - n by omega]
      have hlt := HLT.out heq
      rw [decide_eq_false heq] at HEQ
      clear HSY HNX HLT heq hF2
      go_wp2_with fail
      refine HEQ.out.mono ?_
      rintro e w6 ⟨rfl, hD6⟩
      have x6 := x4.trans (hD6.mono x4.size)
      have hP6 := hP4.below hD6
      clear hP4 hP5 hP3
      go_wp2
      go_roundw
      case rel => exact ⟨n + 1, F2, p4, c4, bs4, by go_num, rfl, hP6, HCH, HX, by omega, x6⟩
      case measure => simp [intOf]; omega
end
section
open Go.RowKit Go.Sort
theorem fold_snoc (es : List Ed) (L : List Bool) (k : Nat) (h : k < es.length) : (es.take (k + 1)).foldl rndE L = rndE ((es.take k).foldl rndE L) es[k] := by
 rw [List.take_succ_eq_append_getElem h, List.foldl_append]; rfl
theorem fold_len (es : List Ed) (L : List Bool) : (es.foldl rndE L).length = L.length := rnd_len es L
set_option maxRecDepth 100000 in
set_option maxHeartbeats 2000000 in
theorem r10reached_any (G : Gr) (p : Option Addr) (c s : Nat) (w : World) (hin : Sg 3 w edE p G.es) (hv : Vg G) (hs : (s : Int) < G.n) :
  Calls Tryz.prog 177 #[(.agg #[.int .i64 G.q, .int .i64 G.n, .slice p G.es.length c]), .int .i64 s] w fun e w' => ∃ b, e = .returned (.slice (some ⟨b, 0, none⟩) G.n.toNat G.n.toNat) ∧ w.heap.size ≤ b ∧ VRow w' b 4 ((rchR G s).map Value.bool) ∧ RowKit.Below w.heap.size w w' := by
 obtain ⟨i2, hi2, hx0, hx1, hx3⟩ := info_parts infoBg
 obtain ⟨w0, hw0⟩ : ∃ w0, w0 = w.alloc (.cells #[.int .i64 G.q, .int .i64 G.n, .slice p G.es.length c] 24) := ⟨_, rfl⟩
 have b0 : VRow w0 w.heap.size 24 [.int .i64 G.q, .int .i64 G.n, .slice p G.es.length c] := by subst hw0; exact VRow.new w _ _
 have hB0 : RowKit.Below w.heap.size w w0 := by subst hw0; exact (RowKit.Below.refl _ _).alloc (Nat.le_refl _) _
 have HIN := hidI (hin.below hB0)
 have HB0 := hidI hB0
 have HV := hidI hv
 obtain ⟨N, hN⟩ : ∃ N : Nat, G.n = N := ⟨G.n.toNat, by have := hv.n1; omega⟩
 have hN64 : N ≤ 64 := by have := hv.n2; omega
 have hNT : G.n.toNat = N := by omega
 have hsN : s < N := by omega
 have hsI : (s : Int) < (N : Int) := by omega
 have hlen := hv.len
 have HR : Hid (rchR G s = rnds G.es N ((List.replicate N false).set s true)) := by unfold Hid rchR; rw [hNT]
 have g1 := b0.at 1 rfl
 rw [hN] at g1
 have HN := hidI hN
 rw [hNT]
 have hbl := b0.lt
 clear hin hv hs hN hNT hB0
 go_enter Tryz.func177, Tryz.ntmps177
 go_upto_region 1 with fail
 rw [← hw0]
 clear hw0
 go_upto_region 2 with (at_make; refine wpList_make_full _ rfl _ _ 90 rfl w0.heap.size 4 i2 (.bool false) 1 Tryz.underlying90 hi2 hx0 hx1 .i64 .i64 _ _ N rfl rfl (by omega) (by omega) (by rw [hx3]; omega) (by unfold maxLen; omega) (Nat.le_refl _) ?_; intro w5 hown hgrow)
 have hr5 := made_rowZ (z := .bool false) rfl hown
 have hB5 : RowKit.Below w0.heap.size w0 w5 := (RowKit.Below.refl _ _).grown hgrow (Nat.le_refl _) (by simp)
 clear hown hgrow g1
 obtain ⟨bs, hbs⟩ : ∃ bs, bs = w0.heap.size := ⟨_, rfl⟩
 rw [← hbs] at hr5 hB5 hbl
 rw [← hbs]
 have HBS := hidI hbs
 have k0 := hr5.at s (v := .bool false) (by simp [hsN])
 have z0 := hr5.frozen s
 have hr6 := VRow.set (i := s) (.bool true) hr5
 have hB6 := hB5.setCell (p := ⟨bs, s, none⟩) (Nat.le_refl _) (.bool true)
 rw [show (List.replicate N (Value.bool false)).set s (.bool true) = ((List.replicate N false).set s true).map Value.bool by rw [← List.map_replicate, List.map_set]] at hr6
 have hll : ((List.replicate N false).set s true).length = N := by simp
 generalize (List.replicate N false).set s true = L0 at *
 clear hbs hr5 hB5
 go_wp2_with fail
 clear k0 z0
 go_loopw [6] (fun iv wr => ∃ k : Nat, k ≤ N ∧ iv = .int .i64 k ∧ VRow wr bs 4 ((rnds G.es k L0).map Value.bool) ∧ RowKit.Below bs w0 wr) (fun iv _ => N - (intOf iv).toNat)
 case atStart => exact ⟨0, by omega, rfl, hr6, hB6⟩
 case round =>
  clear hr6 hB6
  obtain ⟨k, hk, rfl, hrow, hB⟩ := hrel
  have b1 := b0.below hB hbl
  have g1 := b1.at 1 rfl
  have g2 := b1.at 2 rfl
  rw [HN.out] at g1
  by_cases hlt : k < N
  ·have hltI : (k : Int) < (N : Int) := by omega
   have HS : Hid (rnds G.es (k + 1) L0 = (G.es.take G.es.length).foldl rndE (rnds G.es k L0)) := by rw [Hid, List.take_length]; rfl
   have hLk : (rnds G.es k L0).length = N := by rw [rnds_len]; exact hll
   generalize rnds G.es k L0 = Lk at *
   go_wp2_with fail
   clear g1 g2 b1
   go_loopw [7] (fun jv wx => ∃ j : Nat, j ≤ G.es.length ∧ jv = .int .i64 j ∧ VRow wx bs 4 (((G.es.take j).foldl rndE Lk).map Value.bool) ∧ RowKit.Below bs w0 wx) (fun jv _ => G.es.length - (intOf jv).toNat)
   case atStart => exact ⟨0, by omega, rfl, hrow, hB⟩
   case round =>
    clear hrow hB
    obtain ⟨j, hj, rfl, hrow, hB⟩ := hrel
    have b1 := b0.below hB hbl
    have g2 := b1.at 2 rfl
    by_cases hlt2 : j < G.es.length
    ·have hltI2 : (j : Int) < (G.es.length : Int) := by omega
     obtain ⟨b3, o3, rfl, hb3, e0, e1, e2⟩ := (HIN.out.below (by rw [← HBS.out]; exact hB)).get3 j hlt2 rfl
     have hins := HV.out.ins _ (List.getElem_mem hlt2)
     have HX := hidI (fold_snoc G.es Lk j hlt2)
     have hL : ((G.es.take j).foldl rndE Lk).length = N := by rw [fold_len]; exact hLk
     generalize (G.es.take j).foldl rndE Lk = L at *
     generalize G.es[j] = x at *
     obtain ⟨xf, xl, xt⟩ := x
     have hins : 0 ≤ xf ∧ 0 ≤ xl ∧ 0 ≤ xt ∧ xf < G.n ∧ xt < G.n ∧ xl < G.q := hins
     have hNo := HN.out
     obtain ⟨F, rfl⟩ : ∃ F : Nat, xf = F := ⟨xf.toNat, by omega⟩
     obtain ⟨T, rfl⟩ : ∃ T : Nat, xt = T := ⟨xt.toNat, by omega⟩
     have e0 : wr.cell? ⟨b3, o3 + j * 3, none⟩ = some (.int .i64 (F : Int)) := e0
     have e2 : wr.cell? ⟨b3, o3 + j * 3 + 2, none⟩ = some (.int .i64 (T : Int)) := e2
     have hF : F < N := by omega
     have hT : T < N := by omega
     have hFI : (F : Int) < (N : Int) := by omega
     have hTI : (T : Int) < (N : Int) := by omega
     have k3 := hrow.at F (v := .bool (L.getD F false)) (by simp [hL, hF, List.getD])
     have k4 := hrow.at T (v := .bool (L.getD T false)) (by simp [hL, hT, List.getD])
     have z4 := hrow.frozen T
     cases hb : L.getD F false
     ·have HX2 : Hid ((G.es.take (j + 1)).foldl rndE Lk = L) := by rw [Hid, HX.out]; exact if_neg (show ¬ L.getD F false = true by rw [hb]; decide)
      rw [hb] at k3
      clear HX hb hins hNo
      go_wp2
      go_roundw
      case rel => exact ⟨j + 1, by omega, by go_num, by rw [HX2.out]; exact hrow, hB⟩
      case measure => simp [intOf]; omega
     ·have HX2 : Hid ((G.es.take (j + 1)).foldl rndE Lk = L.set T true) := by rw [Hid, HX.out]; exact if_pos hb
      rw [hb] at k3
      have hrow2 := VRow.set (i := T) (.bool true) hrow
      have hB2 := hB.setCell (p := ⟨bs, T, none⟩) (Nat.le_refl _) (.bool true)
      clear HX hb hins hNo
      go_wp2
      go_roundw
      case rel => exact ⟨j + 1, by omega, by go_num, by rw [HX2.out, List.map_set]; exact hrow2, hB2⟩
      case measure => simp [intOf]; omega
    ·have hltI2 : ¬ (j : Int) < (G.es.length : Int) := by omega
     obtain rfl : j = G.es.length := by omega
     go_wp2
     go_roundw
     case rel => exact ⟨k + 1, by omega, by go_num, by rw [HS.out]; exact hrow, hB⟩
     case measure => simp [intOf]; omega
  ·have hltI : ¬ (k : Int) < (N : Int) := by omega
   obtain rfl : k = N := by omega
   go_wp2
   go_ret
   exact ⟨bs, rfl, by omega, by rw [HR.out]; exact hrow, HB0.out.trans (hB.mono (by omega))⟩
end
end Go.Proofs.YtocbhlohcikapaaGreatDoor
