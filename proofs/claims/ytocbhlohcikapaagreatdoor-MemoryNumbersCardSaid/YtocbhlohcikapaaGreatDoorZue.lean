/-
  Words, plain lemmas and walks, merged: Nk, Nt, Law, Nv, Ma, Ia, Mm, Hm, Ho, Mb, Dt.
-/
import Derived.Test.YtocbhlohcikapaaGreatDoorZud
import Derived.Test.YtocbhlohcikapaaGreatDoorZub
import Derived.Test.YtocbhlohcikapaaGreatDoorZua
import Derived.Test.YtocbhlohcikapaaGreatDoorRows
import Derived.ProofKit
import Derived.OpenShut
import Derived.ShutString
import Derived.SliceStrings
import Derived.Lib.SmallJoins
import Derived.Deep.Slices
import Derived.Deep.Fields
import Derived.ChangeSame
import Derived.RangeFuncNested
import Derived.RangeFuncBound
import Derived.RangeFuncCalls
import Derived.RangeFuncLeaves
import Derived.Shelf.Abstract
import Derived.Shelf.RegionOpen
import Derived.OwnWalkIn
import Derived.TacticsInMore
import Derived.LoopNIn
import Derived.LoopIn
import Derived.Test.YtocbhlohcikapaaGreatDoorProg
import Derived.Orders
import Derived.RegionTactic
set_option linter.unusedVariables false
set_option linter.unusedSimpArgs false
namespace Go.Proofs.YtocbhlohcikapaaGreatDoor
section
open Go.RowKit Go.Sort Go.Shelf Go.Lib
set_option maxRecDepth 100000 in
set_option maxHeartbeats 4000000 in
theorem rmMerge_any (G : Gr) (p : Option Addr) (c : Nat) (w : World) (hin : Sg 3 w edE p G.es) (hl : G.es.length ≤ 9223372036854775807) :
  Calls Tryz.prog 62 #[(.agg #[.int .i64 G.q, .int .i64 G.n, .slice p G.es.length c])] w (RetMe (merA G).1 (merA G).2.1 (merA G).2.2 w) := by
 obtain ⟨i0, hi0, hz0, hz1, hz2⟩ := info_parts infoE
 obtain ⟨w0, hw0⟩ : ∃ w0, w0 = (w.alloc (.cells #[.int .i64 G.q, .int .i64 G.n, .slice p G.es.length c] 24)).alloc (.cells #[.int .i64 0, .int .i64 0, .slice none 0 0] 24) := ⟨_, rfl⟩
 have b0 : VRow w0 w.heap.size 24 [.int .i64 G.q, .int .i64 G.n, .slice p G.es.length c] := by subst hw0; exact (VRow.new w _ _).alloc _
 have b1 : VRow w0 (w.heap.size + 1) 24 [.int .i64 0, .int .i64 0, .slice none 0 0] := by subst hw0; exact VRow.new1 w _ _ _
 have hB0 : RowKit.Below w.heap.size w w0 := by subst hw0; exact ((RowKit.Below.refl _ _).alloc (Nat.le_refl _) _).alloc (by simp) _
 have HIN := hidI (hin.below hB0)
 have HCH := hidI (rmcheck_any G p c w0 HIN.out hl)
 have hs0 : w.heap.size + 2 ≤ w0.heap.size := by subst hw0; simp
 clear hin
 obtain ⟨r, hr⟩ : ∃ r, chkD G = r := ⟨_, rfl⟩
 rw [hr] at HCH
 by_cases h1 : r = 0
 ·subst h1
  have HK := hidI (merA_ok hr)
  obtain ⟨hv, hd⟩ := chkD_iff.1 hr
  have HV := hidI hv
  have HP := hidI (fun W (hW : RowKit.Below w0.heap.size w0 W) => rclasses_any G p c W (HIN.out.below hW) hv)
  have HBD := hidI (@cl_bd G)
  have HCLN := hidI (cl_len G)
  have HMG : Hid (mgA G = makeA G.q (mxC (clA G)) (G.es.map (mgE (clA G)))) := rfl
  obtain ⟨N, hN⟩ : ∃ N : Nat, G.n = N := ⟨G.n.toNat, by have := hv.n1; omega⟩
  have HN := hidI hN
  have hn64 : N ≤ 64 := by have := hv.n2; omega
  have hlen := hv.len
  rw [show G.n.toNat = N by rw [hN]; rfl] at HCLN
  clear hr hv hd hN
  generalize clA G = C at *
  go_enter Tryz.func62, Tryz.ntmps62
  go_wp2_with fail
  rw [← hw0]
  clear hw0
  refine HCH.out.mono ?_
  rintro e wa ⟨rfl, hBa⟩
  have a0 := b0.below hBa b0.lt
  have a1 := b1.below hBa b1.lt
  have xa := hB0.trans (hBa.mono hB0.size)
  have f0 := a0.at 0 rfl; have f1 := a0.at 1 rfl; have f2 := a0.at 2 rfl
  have HBA := hidI hBa
  have hsa : w.heap.size + 2 ≤ wa.heap.size := Nat.le_trans hs0 hBa.size
  go_wp2_with fail
  refine (HP.out wa hBa).mono ?_
  rintro e w1 ⟨cb, rfl, hcb, hrC, hB1⟩
  have x1 := xa.trans (hB1.mono xa.size)
  have HB1 := hidI (HBA.out.trans (hB1.mono HBA.out.size))
  have c0 := a0.below hB1 a0.lt
  have c1 := a1.below hB1 a1.lt
  clear f0 f1 f2
  have f1 := c0.at 1 rfl
  rw [HN.out] at f1
  have hclN : N = C.length := HCLN.out.symm
  rw [hclN] at f1
  have hcl64 : C.length ≤ 64 := by omega
  clear hB1 b0 b1 hB0 HP hBa a0 a1 hclN
  go_wp2
  go_loop [7, 8] (fun nv iv => ∃ k : Nat, k ≤ C.length ∧ iv = .int .i64 k ∧ nv = .int .i64 (mxC (C.take k))) (fun _ iv => C.length - (intOf iv).toNat)
  case atStart => exact ⟨0, by omega, rfl, rfl⟩
  case round =>
   obtain ⟨k, hk, rfl, rfl⟩ := hrel
   by_cases hlt : k < C.length
   ·have hltI : (k : Int) < (C.length : Int) := by omega
    have e1 := hrC.at k (v := .int .i64 C[k]) (by simp [hlt])
    have hb := HBD.out _ (List.getElem_mem hlt)
    have hm := mxC_gen (C.take k) 0 (fun x hx => by have := HBD.out x (List.mem_of_mem_take hx); have := HN.out; omega) (by omega) (by omega)
    have HS : Hid (mxC (C.take (k + 1)) = max (mxC (C.take k)) (C[k] + 1)) := by rw [Hid, List.take_succ_eq_append_getElem hlt, mxC_snoc]
    change 0 ≤ mxC (C.take k) ∧ mxC (C.take k) ≤ 1001 at hm
    have hx2 : 0 ≤ C[k] ∧ C[k] ≤ 64 := by have := HN.out; omega
    clear hb
    generalize mxC (C.take k) = m at *
    generalize C[k] = x at *
    go_wp2
    go_round
    case rel => exact ⟨k + 1, by omega, by go_num, by rw [HS.out]⟩
    case measure => simp [intOf]; omega
   ·have hltI : ¬ (k : Int) < (C.length : Int) := by omega
    obtain rfl : k = C.length := by omega
    rw [List.take_length]
    have hm := mxC_gen C 0 (fun x hx => by have := HBD.out x hx; have := HN.out; omega) (by omega) (by omega)
    change 0 ≤ mxC C ∧ mxC C ≤ 1001 at hm
    generalize hmx : mxC C = m at *
    have hmx := hidI hmx
    go_wp2
    clear f1
    go_loopw [9, 10] (fun ov iv wr => ∃ k : Nat, k ≤ G.es.length ∧ iv = .int .i64 k ∧ wr.ownsRow w1.heap.size 44 3 ov k (cat ((G.es.take k).map (mgE C))) ∧ RowKit.Below w1.heap.size w1 wr) (fun _ iv _ => G.es.length - (intOf iv).toNat)
    case atStart => exact ⟨0, by omega, rfl, World.ownsRow_nil _ _ _ _, RowKit.Below.refl _ _⟩
    case round =>
     obtain ⟨k, hk, rfl, hown, hB⟩ := hrel
     have xr := x1.trans (hB.mono x1.size)
     have cr := c0.below hB c0.lt
     have cs := c1.below hB c1.lt
     have f0 := cr.at 0 rfl; have f1 := cr.at 1 rfl; have f2 := cr.at 2 rfl
     by_cases hlt : k < G.es.length
     ·have hltI : (k : Int) < (G.es.length : Int) := by omega
      obtain ⟨b3, o3, rfl, hb3, e0, e1, e2⟩ := (HIN.out.below (show RowKit.Below w0.heap.size w0 wr from HB1.out.trans (hB.mono HB1.out.size))).get3 k hlt rfl
      have hins := HV.out.ins _ (List.getElem_mem hlt)
      have HNN := hidI (mg_snoc C G.es k hlt)
      generalize (G.es.take k).map (mgE C) = M at *
      generalize hx : G.es[k] = x at *
      obtain ⟨xf, xl, xt⟩ := x
      have hins : 0 ≤ xf ∧ 0 ≤ xl ∧ 0 ≤ xt ∧ xf < G.n ∧ xt < G.n ∧ xl < G.q := hins
      have e0 : wr.cell? ⟨b3, o3 + k * 3, none⟩ = some (.int .i64 xf) := e0
      have e1 : wr.cell? ⟨b3, o3 + k * 3 + 1, none⟩ = some (.int .i64 xl) := e1
      have e2 : wr.cell? ⟨b3, o3 + k * 3 + 2, none⟩ = some (.int .i64 xt) := e2
      obtain ⟨F, rfl⟩ : ∃ F : Nat, xf = F := ⟨xf.toNat, by omega⟩
      obtain ⟨T, rfl⟩ : ∃ T : Nat, xt = T := ⟨xt.toNat, by omega⟩
      have hF : F < C.length := by have := HCLN.out; have := HN.out; omega
      have hT : T < C.length := by have := HCLN.out; have := HN.out; omega
      have hFI : (F : Int) < (C.length : Int) := by omega
      have hTI : (T : Int) < (C.length : Int) := by omega
      have hbF := HBD.out _ (List.getElem_mem hF)
      have hbT := HBD.out _ (List.getElem_mem hT)
      have HMX : Hid (mgE C ⟨(F : Int), xl, (T : Int)⟩ = ⟨C[F], xl, C[T]⟩) := by
       rw [Hid]; unfold mgE; simp only; rw [cg_get hF, cg_get hT]
      have hrCr := hrC.below hB hrC.lt
      obtain ⟨wb, hwb⟩ : ∃ wb, wb = wr.alloc (.cells #[.int .i64 (F : Int), .int .i64 xl, .int .i64 (T : Int)] 44) := ⟨_, rfl⟩
      have bx : VRow wb wr.heap.size 44 [.int .i64 (F : Int), .int .i64 xl, .int .i64 (T : Int)] := by subst hwb; exact VRow.new wr _ _
      have hBb : RowKit.Below wr.heap.size wr wb := by subst hwb; exact (RowKit.Below.refl _ _).alloc (Nat.le_refl _) _
      have hownb : wb.ownsRow w1.heap.size 44 3 u9 k (cat M) := by subst hwb; exact hown.alloc _
      have hBw := hB.trans (hBb.mono hB.size)
      have hrCb := hrCr.below hBb hrCr.lt
      have k0 := bx.at 0 rfl; have k1 := bx.at 1 rfl; have k2 := bx.at 2 rfl
      have k3 := hrCb.at F (v := .int .i64 (C[F]'hF)) (by simp [hF])
      have k4 := hrCb.at T (v := .int .i64 (C[T]'hT)) (by simp [hT])
      have hnx : some wr.heap.size ≠ u9.ownBlock := fun h => by have := (hown.lt _ h.symm).2; omega
      have hnc : some cb ≠ u9.ownBlock := fun h => by have := (hown.lt _ h.symm).1; have := hrC.lt; omega
      obtain ⟨xb, hxb⟩ : ∃ xb, xb = wr.heap.size := ⟨_, rfl⟩
      rw [← hxb] at hnx
      rw [← hxb] at k0 k1 k2
      generalize C[F]'hF = cf at *
      generalize C[T]'hT = ct at *
      have HBG : Hid (∀ (o : Obj) (wA : World), ((wb.alloc o).drew).grownBy wA u9.ownBlock → RowKit.Below w1.heap.size w1 wA) := fun o wA hg =>
       ((hBw.alloc hBw.size o).trans ((show Dr (wb.alloc o) (wb.alloc o).drew from ⟨1, rfl⟩).below _)).grown hg (by have := hBw.size; show w1.heap.size ≤ (wb.alloc o).heap.size; rw [World.size_alloc]; omega) (fun j e => (hown.lt j e).1)
      go_upto_region 15 with fail
      rw [← hwb, ← hxb]
      clear hwb hxb bx e0 e1 e2 f0 f1 f2
      go_region_held3 (fun w' => w'.cell? ⟨xb, 0, none⟩ = some (.int .i64 (F : Int)) ∧ w'.cell? ⟨xb, 1, none⟩ = some (.int .i64 xl) ∧ w'.cell? ⟨xb, 2, none⟩ = some (.int .i64 (T : Int)) ∧ w'.cell? ⟨cb, F, none⟩ = some (.int .i64 cf) ∧ w'.cell? ⟨cb, T, none⟩ = some (.int .i64 ct))
        (first | (go_split_ands; refine ⟨?_, ?_, ?_, ?_, ?_⟩ <;> first | assumption | (go_keep; done) | exact cell_grown (n := 1) hgA k0 hnx | exact cell_grown (n := 1) hgA k1 hnx | exact cell_grown (n := 1) hgA k2 hnx | exact cell_grown (n := 1) hgA k3 hnc | exact cell_grown (n := 1) hgA k4 hnc))
        (first
         | (go_split_ands; refine step_append_sg (by rfl) _ _ _ (by rfl) u9 (some ⟨_, 0, none⟩) 1 1 (by rfl) (by rfl) w1.heap.size 44 i0 _ Tryz.underlying22 hi0 hz0 hz1 hz2 rfl M k [⟨cf, xl, ct⟩] rfl (by omega) (by first | exact (hownb.dr ⟨1, rfl⟩).alloc _ | exact hownb.alloc _) (by first | exact Sg.of_row (l := [⟨cf, xl, ct⟩]) (VRow.new _ 44 (cat [⟨cf, xl, ct⟩]))) (by have := hBw.size; simp; omega) ?_; intro vA wA hoA hgA))
      all_goals
       have hBf := HBG.out _ _ hgA
       go_wp2
       go_roundw
       case rel => exact ⟨k + 1, by omega, by go_num, by rw [HNN.out, HMX.out]; exact hoA, hBf⟩
       case measure => simp [intOf]; omega
     ·have hltI : ¬ (k : Int) < (G.es.length : Int) := by omega
      obtain rfl : k = G.es.length := by omega
      rw [List.take_length] at hown
      obtain ⟨pv, mv, cv, rfl⟩ := own_shape hown
      obtain ⟨hmv, hsv⟩ := sg_len (p' := none) hown
      have hlm : (G.es.map (mgE C)).length ≤ 100000 := by rw [List.length_map]; omega
      have HM : Hid (Calls Tryz.prog 133 #[.int .i64 G.q, .int .i64 m, .slice pv mv cv] wr (RetGr (makeA G.q m (G.es.map (mgE C))).1 (makeA G.q m (G.es.map (mgE C))).2 wr)) := by
       subst hmv; exact rMake_any G.q m (G.es.map (mgE C)) pv cv wr hsv (by rw [List.length_map]; omega)
      rw [← HMG.out] at HM
      clear hmv HMG
      generalize mgA G = R at *
      have hrCr := hrC.below hB hrC.lt
      go_wp2_with fail
      refine HM.out.mono ?_
      rintro e w3 ⟨p3, c3, rfl, hs3, hc3, hB3⟩
      have x3 := xr.trans (hB3.mono xr.size)
      have e1 := cs.below hB3 cs.lt
      have hz : w.heap.size + 1 < wr.heap.size := cs.lt
      have hr3 := hrCr.below hB3 hrCr.lt
      clear f0 f1 f2
      obtain ⟨w4, hw4⟩ : ∃ w4, w4 = w3.alloc (.cells #[.int .i64 R.1.q, .int .i64 R.1.n, .slice p3 R.1.es.length c3] 24) := ⟨_, rfl⟩
      have hB4 : RowKit.Below w3.heap.size w3 w4 := by subst hw4; exact (RowKit.Below.refl _ _).alloc (Nat.le_refl _) _
      have bn : VRow w4 w3.heap.size 24 [.int .i64 R.1.q, .int .i64 R.1.n, .slice p3 R.1.es.length c3] := by subst hw4; exact VRow.new w3 _ _
      obtain ⟨nb, hnb⟩ : ∃ nb, nb = w3.heap.size := ⟨_, rfl⟩
      rw [← hnb] at bn
      have x4 := x3.trans (hB4.mono x3.size)
      have e4 := e1.below hB4 e1.lt
      have hr4 := hr3.below hB4 hr3.lt
      have n0 := bn.at 0 rfl; have n1 := bn.at 1 rfl; have n2 := bn.at 2 rfl
      have j0 := e4.at 0 rfl; have j1 := e4.at 1 rfl; have j2 := e4.at 2 rfl
      have z0 := e4.frozen 0; have z1 := e4.frozen 1; have z2 := e4.frozen 2
      have hne : nb ≠ w.heap.size + 1 := by have := e1.lt; omega
      obtain ⟨r6, hs6, hl6, x6⟩ := box3N (w := w) (G := R.1) (p := p3) (c := c3) (q := some ⟨cb, 0, none⟩) (l := C) (n := w.heap.size + 2) e4 (hs3.below hB4) (.inr ⟨cb, rfl, by omega, hr4⟩) (by omega) x4 (by omega)
      unfold set3N at r6 hs6 hl6 x6
      go_upto_region 17 with fail
      rw [← hw4, ← hnb]
      clear hw4 hnb
      go_wp2
      have y0 := r6.at 0 rfl; have y1 := r6.at 1 rfl; have y2 := r6.at 2 rfl
      refine bodyPost_ret (v := .tuple #[.agg #[.int .i64 R.1.q, .int .i64 R.1.n, .slice p3 R.1.es.length c3], .slice (some ⟨cb, 0, none⟩) C.length C.length, .int .i64 R.2]) (by simp [results, Tryz.results62, go_sem, y0, y1, y2]) rfl ?_
      exact RetMe.of HK.out hs6 hc3 (hl6.mono (by omega)) x6
 ·have HK := hidI (merA_bad (G := G) (by rw [hr]; exact h1))
  rw [hr] at HK
  have hrb : (r == 0) = false := by simpa using h1
  have hrc : (r != 0) = true := by simpa using h1
  clear hr h1
  go_enter Tryz.func62, Tryz.ntmps62
  go_wp2_with fail
  rw [← hw0]
  clear hw0
  refine HCH.out.mono ?_
  rintro e w1 ⟨rfl, hB1⟩
  have c1 := b1.below hB1 b1.lt
  have x1 := hB0.trans (hB1.mono hB0.size)
  have j0 := c1.at 0 rfl; have j1 := c1.at 1 rfl; have j2 := c1.at 2 rfl
  have z0 := c1.frozen 0; have z1 := c1.frozen 1; have z2 := c1.frozen 2
  obtain ⟨r6, hs6, hl6, x6⟩ := box3N (w := w) (G := ⟨0, 0, []⟩) (p := none) (c := 0) (q := none) (l := []) (n := w.heap.size + 2) c1 (Sg.nil _ _ _ _) (.inl rfl) (by omega) x1 (by omega)
  unfold set3N at r6 hs6 hl6 x6
  simp only [List.length_nil] at r6 hs6 hl6 x6
  have y0 := r6.at 0 rfl; have y1 := r6.at 1 rfl; have y2 := r6.at 2 rfl
  go_wp2
  refine bodyPost_ret (v := .tuple #[.agg #[.int .i64 0, .int .i64 0, .slice none 0 0], .slice none 0 0, .int .i64 r]) (by simp [results, Tryz.results62, go_sem, y0, y1, y2]) rfl ?_
  exact RetMe.of (H := ⟨0, 0, []⟩) (l := []) HK.out hs6 (by simp) (.inl rfl) x6
end
section
open Go.RowKit Go.Sort Go.Shelf Go.Lib
theorem equalI_n (l m : List Int) (p p' : Option Addr) (c c' : Nat) (w : World) (hl : Sl w (Value.int .i64) p l) (hm : Sl w (Value.int .i64) p' m) (h1 : l.length ≤ 9223372036854775807) (h2 : m.length ≤ 9223372036854775807) :
  Calls Tryz.prog 20 #[.slice p l.length c, .slice p' m.length c'] w fun e w' => e = .returned (.bool (decide (l = m))) ∧ Dr w w' := by
 by_cases hlen : l.length = m.length
 ·rcases Nat.eq_zero_or_pos l.length with h0 | h0
  ·have e1 : l = [] := List.length_eq_zero_iff.1 h0
   have e2 : m = [] := List.length_eq_zero_iff.1 (by omega)
   subst e1; subst e2
   refine (Tryz.slices_Equal_int_empty p p' c 0 c' w (by omega)).mono ?_
   rintro e w' ⟨rfl, rfl⟩
   exact ⟨rfl, Dr.refl _⟩
  ·obtain ⟨b, off, rfl, hb, hc⟩ := hl.get 0 h0
   obtain ⟨b', off', rfl, hb', hc'⟩ := hm.get 0 (by omega)
   refine (Tryz.slices_Equal_int b off l.length c b' off' m.length c' l m w (Nat.le_refl _) (Nat.le_refl _) h1 h2 (fun j hj => by rw [hc j hj, List.getD_eq_getElem?_getD, List.getElem?_eq_getElem hj]; rfl) (fun j hj => by rw [hc' j hj, List.getD_eq_getElem?_getD, List.getElem?_eq_getElem hj]; rfl)).mono ?_
   rintro e w' ⟨rfl, hD⟩
   rw [List.take_length, List.take_length]
   refine ⟨?_, hD⟩
   by_cases e : l = m <;> simp [e]
 ·have hne : l ≠ m := fun e => hlen (by rw [e])
  refine (Tryz.slices_Equal_int_lens p p' l.length c m.length c' w hlen).mono ?_
  rintro e w' ⟨rfl, rfl⟩
  exact ⟨by rw [decide_eq_false hne], Dr.refl _⟩
abbrev GA := {x : Gr × Option Addr × Nat // x.1.es.length ≤ 9223372036854775807}
instance : Inhabited GA := ⟨⟨(⟨0, 0, []⟩, none, 0), by simp⟩⟩
end
section
open Go.ChangeShapes Go.WideShapes Go.ChangeAt Go.RowKit
theorem own : ownKnob Tryz.prog.godebug = none := by kernel_rfl
theorem laidOut : laidOutB Tryz.prog = true := by kernel_rfl
theorem trodAll_below {H : Type} {enc : TypeId × Value → H} {W W' : World} (hb : Below W.heap.size W W') :
  ∀ (ts : List TypeId) (vs : List Value) (ds : List (DataW H)) (p : List MemPlace), (∀ t ∈ ts, Tryz.prog.readableRec t = true ∧ t < Tryz.prog.types.size) →
   DataW.TrodAll enc Tryz.prog W 0 (fun _ => true) true ts vs ds p → (∀ x ∈ p, x.block < W.heap.size) →
   DataW.TrodAll enc Tryz.prog W' 0 (fun b => decide (b < W.heap.size)) true ts vs ds p
 | [], vs, ds, p, _, h, _ => by
  obtain ⟨rfl, rfl, rfl⟩ := trodAll_nil h
  exact trodAll_mk0
 | t :: ts, vs, ds, p, ht, h, hlt => by
  obtain ⟨v, vs', d, ds', p', q', rfl, rfl, rfl, h0, h1⟩ := trodAll_cons h
  exact trodAll_cons_mk (Below.trod laidOut (ht t List.mem_cons_self).1 (ht t List.mem_cons_self).2 h0 hb (fun x hx => hlt x (List.mem_append_left _ hx)))
   (trodAll_below hb ts vs' ds' q' (fun t h => ht t (List.mem_cons_of_mem _ h)) h1 (fun x hx => hlt x (List.mem_append_right _ hx)))
theorem law_post {H : Type} {enc : TypeId × Value → H} {f : Func} {s : ChangeSpec} {W W' : World} {args : Array Value} {ds gs : List (DataW H)} {before : List MemPlace}
  (hW : DataW.Whole enc Tryz.prog f.params.toList s.vars false W args.toList ds gs before) (hv : s.vars = [])
  (hr : f.resultTypes = #[4]) (ht : ∀ t ∈ f.params.toList, Tryz.prog.readableRec t = true ∧ t < Tryz.prog.types.size)
  (hfr : (s.fn H (ds ++ gs)).results = [.lit (.bool true)]) (hfa : (s.fn H (ds ++ gs)).args = ds) (hfv : (s.fn H (ds ++ gs)).vars = [])
  (hB : Below W.heap.size W W') : s.post enc Tryz.prog f false true false false W args (.bool true) W' := by
 have hW' := hW
 obtain ⟨p, q, hA, hV, rfl, hfz, hnd⟩ := hW
 have hlt : ∀ x ∈ p, x.block < W.heap.size := fun x hx => hW'.lt x (List.mem_append_left _ hx)
 refine ⟨ds, gs, _, [] ++ [], p, [], hW', ?_, ?_, ?_, hB.frame _, fun h => by cases h⟩
 ·rw [hfr, hr]; exact trodAll_mk1 (shut_bool Tryz.underlying4 true)
 ·rw [hfa]; exact trodAll_below hB _ _ _ _ ht hA hlt
 ·rw [hfv, hv]; exact rfl
end
section
open Go.Joins Go.ChangeShapes Go.WideShapes Go.ChangeAt Go.RowKit Go.Deep
open Go.ChangeMaps (open_string shut_string)
section
variable {H : Type} {enc : TypeId × Value → H} {P : Program} {w : World} {base : Nat} {spare : Nat → Bool} {held : Bool}
theorem open_slice_fields {t e : TypeId} {fs : Array Field} {fuel : Nat} {cs : List Value} {x : DataW H × List MemPlace} (ht : P.underlying t = some (.slice e)) (he : P.underlying e = some (.struct fs))
  (hone : oneCellFields P fs = true) (hC : P.cellsOf e = fs.size) (h : DataW.trod enc P w base spare held fuel t cs = some x) :
  (cs = [.slice none 0 0] ∧ x = (.nil, [])) ∨
  ∃ (a : Addr) (len cap m : Nat) (D : Nat → DataW H) (Pl : Nat → List MemPlace), cs = [.slice (some a) len cap] ∧ base ≤ a.block ∧ len ≤ cap ∧ cap ≤ maxLen ∧ m = (if spare a.block then cap else len) ∧
   x = (.slice ((List.range len).map D) ((List.range (m - len)).map fun j => D (len + j)), MemPlace.row a (m * fs.size) ++ (List.range m).flatMap Pl) ∧
   ∀ i, i < m → ∃ (ys : List (DataW H × List MemPlace)) (n : Nat), D i = .agg (ys.map (·.1)) ∧ Pl i = ys.flatMap (·.2) ∧ ys.length = fs.size ∧
    ∀ (j : Nat) (f : Field), fs[j]? = some f → ∃ (v : Value) (y : DataW H × List MemPlace), w.cell? (a.add (i * fs.size + j)) = some v ∧ ys[j]? = some y ∧ DataW.trod enc P w base spare held n f.type [v] = some y := by
 rcases open_slice ht h with h0 | ⟨a, len, cap, m, n, D, Pl, hcs, hb, hl, hm, hmm, hx, hi⟩
 ·exact .inl h0
 ·refine .inr ⟨a, len, cap, m, D, Pl, hcs, hb, hl, hm, hmm, by rw [hC] at hx; exact hx, fun i him => ?_⟩
  obtain ⟨cs', hc, ht'⟩ := hi i him
  rw [hC] at hc
  obtain ⟨ys, n', hn', hy, hlen, hyl, hf⟩ := DataW.trod_struct he ht'
  obtain ⟨_, hcl, hat⟩ := World.cells?_some hc
  simp only [Prod.mk.injEq] at hy
  refine ⟨ys, n', hy.1, hy.2, hyl, fun j f hj => ?_⟩
  obtain ⟨ho, hk⟩ := hone_of hone j f hj
  have hjl : j < fs.size := (Array.getElem?_eq_some_iff.1 hj).1
  have hcell := hat j hjl
  have hv : cs'[j]? = some (cs'[j]'(by omega)) := List.getElem?_eq_getElem (by omega)
  have h1 := hf j f hj
  rw [ho, hk] at h1
  have hone' : (cs'.drop j).take 1 = [cs'[j]'(by omega)] := by
   rw [List.drop_eq_getElem_cons (by omega)]
   rfl
  rw [hone'] at h1
  have hys : ys[j]? = some (ys[j]'(by omega)) := List.getElem?_eq_getElem (by omega)
  refine ⟨_, _, ?_, hys, h1.trans hys⟩
  rw [← Go.Deep.add_add, hcell, hv]
end
theorem list_of {α : Type} {P : Nat → α → Prop} : ∀ (n : Nat), (∀ i, i < n → ∃ x, P i x) → ∃ l : List α, l.length = n ∧ ∀ i (h : i < l.length), P i l[i]
 | 0, _ => ⟨[], rfl, fun i h => by simp at h⟩
 | n + 1, h => by
  obtain ⟨l, hl, hp⟩ := list_of n (fun i hi => h i (by omega))
  obtain ⟨x, hx⟩ := h n (by omega)
  refine ⟨l ++ [x], by simp [hl], fun i hi => ?_⟩
  by_cases h2 : i < l.length
  ·rw [List.getElem_append_left h2]; exact hp i h2
  ·have : i = n := by simp at hi; omega
   subst this
   subst hl
   simpa using hx
theorem cellsGraph : Tryz.prog.cellsOf 24 = 3 := by kernel_rfl
theorem readGraph : Tryz.prog.readableRec 24 = true ∧ 24 < Tryz.prog.types.size := ⟨by kernel_rfl, of_decide_eq_true (by kernel_rfl)⟩
theorem edges_at {H : Type} {enc : TypeId × Value → H} {W : World} {fuel : Nat} {v : Value} {y : DataW H × List MemPlace}
  (h : DataW.trod enc Tryz.prog W 0 (fun _ => true) true fuel 22 [v] = some y) (hlt : ∀ x ∈ y.2, x.block < W.heap.size) :
  ∃ (p : Option Addr) (l : List Ed) (c : Nat), v = .slice p l.length c ∧ Sg 3 W edE p l ∧ l.length ≤ 9223372036854775807 := by
 rcases open_slice_fields Tryz.underlying22 Tryz.underlying44 (by kernel_rfl) (by kernel_rfl) h with ⟨hcs, hx⟩ | ⟨a, len, cap, m, D, Pl, hcs, _, hl, hm, hmm, hx, hf⟩
 ·simp at hcs
  subst hcs
  exact ⟨none, [], 0, rfl, Sg.nil _ _ _ _, by simp⟩
 ·simp at hcs
  subst hcs hx
  simp only [if_true] at hmm
  subst hmm
  obtain ⟨l, hll, hp⟩ := list_of (P := fun i (s : Ed) => W.cell? (a.add (i * 3 + 0)) = some (.int .i64 s.f) ∧ W.cell? (a.add (i * 3 + 1)) = some (.int .i64 s.l) ∧ W.cell? (a.add (i * 3 + 2)) = some (.int .i64 s.t)) len (fun i hi => by
   obtain ⟨ys, n, _, _, _, hj⟩ := hf i (by omega)
   obtain ⟨v0, y0, hc0, _, h0⟩ := hj 0 _ rfl
   obtain ⟨v1, y1, hc1, _, h1⟩ := hj 1 _ rfl
   obtain ⟨v2, y2, hc2, _, h2⟩ := hj 2 _ rfl
   obtain ⟨n0, e0, _, _⟩ := DataW.trod_int Tryz.underlying3 h0
   obtain ⟨n1, e1, _, _⟩ := DataW.trod_int Tryz.underlying3 h1
   obtain ⟨n2, e2, _, _⟩ := DataW.trod_int Tryz.underlying3 h2
   simp at e0 e1 e2
   subst e0 e1 e2
   exact ⟨⟨n0, n1, n2⟩, hc0, hc1, hc2⟩)
  subst hll
  refine ⟨some a, l, _, rfl, ?_, by unfold maxLen at hm; omega⟩
  by_cases h0 : l.length = 0
  ·exact .inl (List.length_eq_zero_iff.1 h0)
  ·obtain ⟨b, off, spot⟩ := a
   have hspot : spot = none := by simpa [Addr.add] using World.cell?_spot (hp 0 (by omega)).1
   subst hspot
   refine .inr ⟨b, off, rfl, hlt (.cell b off) (List.mem_append_left _ (MemPlace.mem_row.2 ⟨0, Nat.mul_pos (by omega) (by decide), by simp⟩)), fun i hi j hj => ?_⟩
   have hc := hp i hi
   have : j = 0 ∨ j = 1 ∨ j = 2 := by omega
   rw [Nat.add_assoc, ← add_plain]
   rcases this with rfl | rfl | rfl
   ·rw [hc.1]; rfl
   ·rw [hc.2.1]; rfl
   ·rw [hc.2.2]; rfl
set_option maxRecDepth 100000 in
theorem graph_in {H : Type} {enc : TypeId × Value → H} {W : World} {ps : List MemPlace} {v : Value} {d : DataW H} {base : Nat} (hval : Value.okWide Tryz.prog W .any base 24 v)
  (h : DataW.Trod enc Tryz.prog W 0 (fun _ => true) true 24 v d ps) (hlt : ∀ x ∈ ps, x.block < W.heap.size) :
  ∃ (G : Gr) (p : Option Addr) (c : Nat), v = .agg #[.int .i64 G.q, .int .i64 G.n, .slice p G.es.length c] ∧ Sg 3 W edE p G.es ∧ G.es.length ≤ 9223372036854775807 := by
 obtain ⟨v0, v1, v2, y0, y1, y2, n, rfl, rfl, rfl, h0, h1, h2⟩ := open_agg3 Tryz.underlying24 (by kernel_rfl) cellsGraph hval h
 obtain ⟨q, e0, _, _⟩ := DataW.trod_int Tryz.underlying3 h0
 obtain ⟨k, e1, _, _⟩ := DataW.trod_int Tryz.underlying3 h1
 simp at e0 e1
 subst e0 e1
 obtain ⟨p, l, c, rfl, s, b⟩ := edges_at h2 (fun x hx => hlt x (List.mem_append_right _ (List.mem_append_right _ hx)))
 exact ⟨⟨q, k, l⟩, p, c, rfl, s, b⟩
end
section
open Go.RowKit
def prsR (es : List Ed) (i m : Nat) : List (Nat × Nat) := ((List.range m).filter (fun k => decide ((eget es i).l = (eget es k).l))).map (Prod.mk i)
def prsTo (es : List Ed) : Nat → List (Nat × Nat)
 | 0 => []
 | i + 1 => prsTo es i ++ prsR es i es.length
def prs (es : List Ed) : List (Nat × Nat) := prsTo es es.length
theorem prsTo_succ (es : List Ed) (i : Nat) : prsTo es (i + 1) = prsTo es i ++ prsR es i es.length := rfl
theorem prsR_zero (es : List Ed) (i : Nat) : prsR es i 0 = [] := rfl
theorem prsR_yes {es : List Ed} {i m : Nat} (h : (eget es i).l = (eget es m).l) : prsR es i (m + 1) = prsR es i m ++ [(i, m)] := by
 unfold prsR; rw [List.range_succ, List.filter_append, List.filter_cons_of_pos (by simpa using h)]; simp
theorem prsR_no {es : List Ed} {i m : Nat} (h : (eget es i).l ≠ (eget es m).l) : prsR es i (m + 1) = prsR es i m := by
 unfold prsR; rw [List.range_succ, List.filter_append, List.filter_cons_of_neg (by simpa using h)]; simp
theorem mem_prsR {es : List Ed} {i m : Nat} {p : Nat × Nat} : p ∈ prsR es i m ↔ p.1 = i ∧ p.2 < m ∧ (eget es i).l = (eget es p.2).l := by
 unfold prsR
 rw [List.mem_map]
 constructor
 ·rintro ⟨k, hk, rfl⟩
  obtain ⟨h1, h2⟩ := List.mem_filter.1 hk
  exact ⟨rfl, List.mem_range.1 h1, of_decide_eq_true h2⟩
 ·rintro ⟨rfl, h1, h2⟩
  exact ⟨p.2, List.mem_filter.2 ⟨List.mem_range.2 h1, decide_eq_true h2⟩, rfl⟩
theorem mem_prsTo {es : List Ed} {p : Nat × Nat} : ∀ {m : Nat}, p ∈ prsTo es m ↔ p.1 < m ∧ p.2 < es.length ∧ (eget es p.1).l = (eget es p.2).l
 | 0 => by simp [prsTo]
 | m + 1 => by
  rw [prsTo_succ, List.mem_append, mem_prsTo, mem_prsR]
  constructor
  ·rintro (⟨h1, h2, h3⟩ | ⟨h1, h2, h3⟩)
   ·exact ⟨by omega, h2, h3⟩
   ·subst h1; exact ⟨by omega, h2, h3⟩
  ·rintro ⟨h1, h2, h3⟩
   by_cases e : p.1 = m
   ·exact .inr ⟨e, h2, by rw [← e]; exact h3⟩
   ·exact .inl ⟨by omega, h2, h3⟩
theorem mem_prs {es : List Ed} {p : Nat × Nat} : p ∈ prs es ↔ p.1 < es.length ∧ p.2 < es.length ∧ (eget es p.1).l = (eget es p.2).l := mem_prsTo
theorem prsR_len (es : List Ed) (i m : Nat) : (prsR es i m).length ≤ m := by
 unfold prsR; rw [List.length_map]; exact Nat.le_trans (List.length_filter_le _ _) (by simp)
theorem prsTo_len (es : List Ed) : ∀ m, (prsTo es m).length ≤ m * es.length
 | 0 => by simp [prsTo]
 | m + 1 => by
  have := prsTo_len es m; have := prsR_len es m es.length
  rw [prsTo_succ, List.length_append, Nat.succ_mul]; omega
def pix (N : Nat) (s t : Int) : Nat := (s * N + t).toNat
def lkB (F : List Bool) (j : Nat) : Bool := F.getD j false
theorem lkB_get {F : List Bool} {j : Nat} (h : j < F.length) : lkB F j = F[j] := by simp [lkB, h]
theorem lkB_out {F : List Bool} {j : Nat} (h : F.length ≤ j) : lkB F j = false := by simp [lkB, List.getElem?_eq_none h]
theorem lkB_set {F : List Bool} {j k : Nat} {v : Bool} (hj : j < F.length) : lkB (F.set j v) k = if j = k then v else lkB F k := by
 unfold lkB
 rw [List.getD_eq_getElem?_getD, List.getD_eq_getElem?_getD, List.getElem?_set]
 split
 ·rename_i e; subst e; simp [hj]
 ·rfl
theorem lkB_ext {F H : List Bool} (hl : F.length = H.length) (h : ∀ j, lkB F j = lkB H j) : F = H := by
 refine List.ext_getElem hl (fun i h1 h2 => ?_)
 rw [← lkB_get h1, ← lkB_get h2, h i]
theorem pix_lt {N : Nat} {s t : Int} (h0 : 0 ≤ s) (h1 : s < N) (h2 : 0 ≤ t) (h3 : t < N) : pix N s t < N * N := by
 have h : s * N ≤ ((N : Int) - 1) * N := Int.mul_le_mul_of_nonneg_right (by omega) (by omega)
 have h' : 0 ≤ s * N := Int.mul_nonneg h0 (by omega)
 have e : ((N : Int) - 1) * N = N * N - N := by rw [Int.sub_mul, Int.one_mul]
 unfold pix
 have : ((N * N : Nat) : Int) = (N : Int) * N := by simp
 omega
theorem pix_at {N : Nat} {s t : Int} (h0 : 0 ≤ s) (h2 : 0 ≤ t) : ((pix N s t : Nat) : Int) = s * N + t := by
 have h' : 0 ≤ s * N := Int.mul_nonneg h0 (by omega)
 unfold pix; omega
def pst (N : Nat) (es : List Ed) (fr gt : Ed → Int) (F out : List Bool) (p : Nat × Nat) : List Bool :=
 if lkB F (pix N (fr (eget es p.1)) (fr (eget es p.2))) = true then out.set (pix N (gt (eget es p.1)) (gt (eget es p.2))) true else out
def pTo (N : Nat) (es : List Ed) (fr gt : Ed → Int) (F : List Bool) (l : List (Nat × Nat)) : List Bool := l.foldl (pst N es fr gt F) (List.replicate (N * N) false)
theorem pTo_nil (N : Nat) (es : List Ed) (fr gt : Ed → Int) (F : List Bool) : pTo N es fr gt F [] = List.replicate (N * N) false := rfl
theorem pTo_snoc (N : Nat) (es : List Ed) (fr gt : Ed → Int) (F : List Bool) (l : List (Nat × Nat)) (p : Nat × Nat) : pTo N es fr gt F (l ++ [p]) = pst N es fr gt F (pTo N es fr gt F l) p := by simp [pTo, List.foldl_append]
theorem pst_len (N : Nat) (es : List Ed) (fr gt : Ed → Int) (F out : List Bool) (p : Nat × Nat) : (pst N es fr gt F out p).length = out.length := by unfold pst; split <;> simp
theorem pfold_len (N : Nat) (es : List Ed) (fr gt : Ed → Int) (F : List Bool) : ∀ (l : List (Nat × Nat)) (out : List Bool), (l.foldl (pst N es fr gt F) out).length = out.length
 | [], _ => rfl
 | p :: l, out => by rw [List.foldl_cons, pfold_len N es fr gt F l, pst_len]
theorem pTo_len (N : Nat) (es : List Ed) (fr gt : Ed → Int) (F : List Bool) (l : List (Nat × Nat)) : (pTo N es fr gt F l).length = N * N := by unfold pTo; rw [pfold_len]; simp
theorem lkB_pfold {N : Nat} {es : List Ed} {fr gt : Ed → Int} {F : List Bool} {j : Nat} : ∀ {l : List (Nat × Nat)} {out : List Bool}, (∀ p ∈ l, pix N (gt (eget es p.1)) (gt (eget es p.2)) < out.length) →
  (lkB (l.foldl (pst N es fr gt F) out) j = true ↔ lkB out j = true ∨ ∃ p ∈ l, lkB F (pix N (fr (eget es p.1)) (fr (eget es p.2))) = true ∧ pix N (gt (eget es p.1)) (gt (eget es p.2)) = j)
 | [], out, _ => by simp
 | p :: l, out, h => by
  rw [List.foldl_cons, lkB_pfold (fun q hq => by rw [pst_len]; exact h q (by simp [hq]))]
  have hp := h p (by simp)
  unfold pst
  split
  ·rename_i hf
   rw [lkB_set hp]
   constructor
   ·rintro (h1 | ⟨q, hq, h1⟩)
    ·by_cases e : pix N (gt (eget es p.1)) (gt (eget es p.2)) = j
     ·exact .inr ⟨p, by simp, hf, e⟩
     ·rw [if_neg e] at h1; exact .inl h1
    ·exact .inr ⟨q, by simp [hq], h1⟩
   ·rintro (h1 | ⟨q, hq, h1, h2⟩)
    ·left; split <;> simp [h1]
    ·rcases List.mem_cons.1 hq with e | e
     ·subst e; left; rw [if_pos h2]
     ·exact .inr ⟨q, e, h1, h2⟩
  ·rename_i hf
   constructor
   ·rintro (h1 | ⟨q, hq, h1⟩)
    ·exact .inl h1
    ·exact .inr ⟨q, by simp [hq], h1⟩
   ·rintro (h1 | ⟨q, hq, h1, h2⟩)
    ·exact .inl h1
    ·rcases List.mem_cons.1 hq with e | e
     ·subst e; exact absurd h1 hf
     ·exact .inr ⟨q, e, h1, h2⟩
def aftF (N : Nat) (es : List Ed) (F : List Bool) : List Bool := pTo N es Ed.f Ed.t F (prs es)
def befF (N : Nat) (es : List Ed) (F : List Bool) : List Bool := pTo N es Ed.t Ed.f F (prs es)
def allF2 (N : Nat) : List Bool := List.replicate (N * N) true
def difB (N : Nat) (F : List Bool) : Bool := (List.range N).any fun s => (List.range N).any fun t => decide (s ≠ t) && lkB F (pix N s t)
def partB (N : Nat) (es : List Ed) (F H : List Bool) : Bool := (prs es).any fun p => decide (p.1 ≠ p.2) && (lkB F (pix N (eget es p.1).f (eget es p.2).f) && lkB H (pix N (eget es p.1).t (eget es p.2).t))
def splB (N : Nat) (es : List Ed) (F : List Bool) : Bool := (prs es).any fun p => decide (p.1 ≠ p.2) && (decide ((eget es p.1).f = (eget es p.2).f) && lkB F (pix N (eget es p.1).t (eget es p.2).t))
def lstA (st : List Bool → List Bool) (pr : List Bool → Bool) : Nat → Nat → List Bool → Int × Bool
 | 0, _, _ => (0, false)
 | f + 1, n, F => if pr F = false then ((n : Int), true) else if st F = F then (0, false) else lstA st pr f (n + 1) (st F)
def SubF (F H : List Bool) : Prop := F.length = H.length ∧ ∀ j, lkB F j = true → lkB H j = true
theorem SubF.refl (F : List Bool) : SubF F F := ⟨rfl, fun _ h => h⟩
theorem SubF.trans {F H K : List Bool} (h : SubF F H) (k : SubF H K) : SubF F K := ⟨h.1.trans k.1, fun j e => k.2 j (h.2 j e)⟩
def cntB : List Bool → Nat
 | [] => 0
 | b :: l => (if b = true then 1 else 0) + cntB l
theorem cnt_le : ∀ F : List Bool, cntB F ≤ F.length
 | [] => Nat.le_refl _
 | b :: l => by have := cnt_le l; rw [List.length_cons]; unfold cntB; split <;> omega
theorem SubF.tail {a b : Bool} {F H : List Bool} (h : SubF (a :: F) (b :: H)) : SubF F H ∧ (a = true → b = true) :=
 ⟨⟨by have := h.1; simpa using this, fun j e => h.2 (j + 1) e⟩, fun e => h.2 0 e⟩
theorem SubF.cnt : ∀ {F H : List Bool}, SubF F H → cntB F ≤ cntB H
 | [], [], _ => Nat.le_refl _
 | [], _ :: _, h => by cases h.1
 | _ :: _, [], h => by cases h.1
 | a :: F, b :: H, h => by
  obtain ⟨h1, h2⟩ := h.tail
  have := h1.cnt
  unfold cntB
  cases a <;> cases b
  ·simp; omega
  ·simp; omega
  ·cases h2 rfl
  ·simp; omega
theorem SubF.cnt_lt : ∀ {F H : List Bool}, SubF F H → F ≠ H → cntB F < cntB H
 | [], [], _, h => absurd rfl h
 | [], _ :: _, h, _ => by cases h.1
 | _ :: _, [], h, _ => by cases h.1
 | a :: F, b :: H, h, hne => by
  obtain ⟨h1, h2⟩ := h.tail
  have hc := h1.cnt
  unfold cntB
  by_cases e : F = H
  ·subst e
   cases a <;> cases b
   ·exact absurd rfl hne
   ·simp
   ·cases h2 rfl
   ·exact absurd rfl hne
  ·have := h1.cnt_lt e
   cases a <;> cases b
   ·simp; omega
   ·simp; omega
   ·cases h2 rfl
   ·simp; omega
structure MonF (M : Nat) (st : List Bool → List Bool) : Prop where
 len : ∀ F, (st F).length = M
 mono : ∀ F H, SubF F H → SubF (st F) (st H)
theorem sub_all {N : Nat} {F : List Bool} (h : F.length = N * N) : SubF F (allF2 N) := ⟨by simp [h, allF2], fun j e => by
 by_cases hj : j < N * N
 ·simp [lkB, allF2, hj]
 ·rw [lkB_out (by omega)] at e; cases e⟩
structure Chn (M : Nat) (st : List Bool → List Bool) (F : List Bool) : Prop where
 len : F.length = M
 sub : SubF (st F) F
theorem Chn.all {N : Nat} {st : List Bool → List Bool} (h : MonF (N * N) st) : Chn (N * N) st (allF2 N) := ⟨by simp [allF2], sub_all (h.len _)⟩
theorem Chn.next {M : Nat} {st : List Bool → List Bool} (h : MonF M st) {F : List Bool} (c : Chn M st F) : Chn M st (st F) := ⟨h.len _, h.mono _ _ c.sub⟩
theorem Chn.lt {M : Nat} {st : List Bool → List Bool} {F : List Bool} (c : Chn M st F) (hne : st F ≠ F) : cntB (st F) < cntB F := c.sub.cnt_lt hne
theorem pTo_mon {N : Nat} {es : List Ed} {fr gt : Ed → Int} (l : List (Nat × Nat)) (hb : ∀ p ∈ l, pix N (gt (eget es p.1)) (gt (eget es p.2)) < N * N) : MonF (N * N) (fun F => pTo N es fr gt F l) :=
 ⟨fun F => pTo_len _ _ _ _ _ _, fun F H h => ⟨by rw [pTo_len, pTo_len], fun j e => by
  have k := lkB_pfold (fr := fr) (F := F) (j := j) (l := l) (out := List.replicate (N * N) false) (by simpa using hb)
  have k' := lkB_pfold (fr := fr) (F := H) (j := j) (l := l) (out := List.replicate (N * N) false) (by simpa using hb)
  rcases k.1 e with e | ⟨p, hp, h1, h2⟩
  ·exact k'.2 (.inl e)
  ·exact k'.2 (.inr ⟨p, hp, h.2 _ h1, h2⟩)⟩⟩
theorem Gr.at_ {G : Gr} {k : Nat} (h : k < G.es.length) : eget G.es k ∈ G.es := by rw [eget_eq _ _ h]; exact List.getElem_mem h
theorem aft_mon {G : Gr} (hv : Vg G) {N : Nat} (hN : G.n = N) : MonF (N * N) (aftF N G.es) :=
 pTo_mon _ (fun p hp => by
  obtain ⟨h1, h2, _⟩ := mem_prs.1 hp
  have k1 := hv.ins _ (Gr.at_ h1); have k2 := hv.ins _ (Gr.at_ h2)
  exact pix_lt (by omega) (by omega) (by omega) (by omega))
theorem bef_mon {G : Gr} (hv : Vg G) {N : Nat} (hN : G.n = N) : MonF (N * N) (befF N G.es) :=
 pTo_mon _ (fun p hp => by
  obtain ⟨h1, h2, _⟩ := mem_prs.1 hp
  have k1 := hv.ins _ (Gr.at_ h1); have k2 := hv.ins _ (Gr.at_ h2)
  exact pix_lt (by omega) (by omega) (by omega) (by omega))
def memA (G : Gr) : Int × Bool × Int := if chkG G ≠ 0 then (0, false, 1) else
 ((lstA (aftF G.n.toNat G.es) (difB G.n.toNat) (G.n.toNat * G.n.toNat + 1) 0 (allF2 G.n.toNat)).1, (lstA (aftF G.n.toNat G.es) (difB G.n.toNat) (G.n.toNat * G.n.toNat + 1) 0 (allF2 G.n.toNat)).2, 0)
def antA (G : Gr) : Int × Bool × Int := if chkG G ≠ 0 then (0, false, 1) else
 ((lstA (befF G.n.toNat G.es) (splB G.n.toNat G.es) (G.n.toNat * G.n.toNat + 1) 0 (allF2 G.n.toNat)).1, (lstA (befF G.n.toNat G.es) (splB G.n.toNat G.es) (G.n.toNat * G.n.toNat + 1) 0 (allF2 G.n.toNat)).2, 0)
end
section
open Go.RowKit
def stpI (es : List Ed) : Nat → Int → Int → Prop
 | 0, s, t => s = t
 | n + 1, s, t => ∃ x ∈ es, x.f = s ∧ stpI es n x.t t
def Rch (es : List Ed) (s t : Int) : Prop := ∃ n, stpI es n s t
theorem stpI_app {es : List Ed} : ∀ {n m : Nat} {s t u : Int}, stpI es n s t → stpI es m t u → stpI es (n + m) s u
 | 0, m, s, t, u, h, k => by cases h; rwa [Nat.zero_add]
 | n + 1, m, s, t, u, ⟨x, hx, hf, h⟩, k => by
  rw [Nat.succ_add]
  exact ⟨x, hx, hf, stpI_app h k⟩
theorem Rch.refl {es : List Ed} (s : Int) : Rch es s s := ⟨0, rfl⟩
theorem Rch.trans {es : List Ed} {s t u : Int} (h : Rch es s t) (k : Rch es t u) : Rch es s u := by
 obtain ⟨n, h⟩ := h; obtain ⟨m, k⟩ := k
 exact ⟨n + m, stpI_app h k⟩
theorem Rch.edge {es : List Ed} {x : Ed} (h : x ∈ es) : Rch es x.f x.t := ⟨1, x, h, rfl, rfl⟩
theorem Rch.keep {es : List Ed} {P : Int → Prop} (hP : ∀ x ∈ es, P x.f → P x.t) : ∀ {s t : Int}, Rch es s t → P s → P t := by
 rintro s t ⟨n, h⟩
 induction n generalizing s with
 | zero => cases h; exact id
 | succ n ih =>
  obtain ⟨x, hx, rfl, h⟩ := h
  exact fun hs => ih h (hP x hx hs)
def On (L : List Bool) (i : Nat) : Prop := L.getD i false = true
instance (L : List Bool) (i : Nat) : Decidable (On L i) := inferInstanceAs (Decidable (_ = _))
theorem on_set {L : List Bool} {i j : Nat} (hi : i < L.length) : On (L.set i true) j ↔ j = i ∨ On L j := by
 unfold On
 rw [List.getD_eq_getElem?_getD, List.getD_eq_getElem?_getD, List.getElem?_set]
 by_cases h : i = j
 ·subst h; simp [hi]
 ·rw [if_neg h]
  constructor
  ·exact .inr
  ·rintro (e | e)
   ·exact absurd e.symm h
   ·exact e
theorem on_rep (n i : Nat) : ¬ On (List.replicate n false) i := by
 unfold On
 rw [List.getD_eq_getElem?_getD, List.getElem?_replicate]
 split <;> simp
theorem on_ext {L M : List Bool} (h : L.length = M.length) (k : ∀ i, i < L.length → (On L i ↔ On M i)) : L = M := by
 refine List.ext_getElem h fun i h1 h2 => ?_
 have := k i h1
 unfold On at this
 rw [List.getD_eq_getElem?_getD, List.getD_eq_getElem?_getD, List.getElem?_eq_getElem h1, List.getElem?_eq_getElem h2] at this
 rw [Bool.eq_iff_iff]; exact this
def offs (L : List Bool) : Nat := L.countP (fun b => !b)
theorem offs_set : ∀ {L : List Bool} {i : Nat}, i < L.length → ¬ On L i → offs (L.set i true) + 1 = offs L
 | [], i, h, _ => by simp at h
 | b :: L, 0, _, h => by
  have hb : b = false := by cases b <;> simp_all [On]
  subst hb
  simp [offs]
 | b :: L, i + 1, h, k => by
  have := offs_set (L := L) (i := i) (by simpa using h) (fun e => k (by unfold On at e ⊢; simpa using e))
  unfold offs at this ⊢
  rw [List.set_cons_succ, List.countP_cons, List.countP_cons]; omega
theorem offs_mono : ∀ {L M : List Bool}, L.length = M.length → (∀ i, On L i → On M i) → offs M ≤ offs L
 | [], [], _, _ => Nat.le_refl _
 | [], _ :: _, h, _ => by simp at h
 | _ :: _, [], h, _ => by simp at h
 | a :: L, b :: M, h, k => by
  have ih := offs_mono (L := L) (M := M) (by simpa using h) (fun i e => by have := k (i + 1) (by unfold On at e ⊢; simpa using e); unfold On at this ⊢; simpa using this)
  have h0 := k 0
  unfold offs at ih ⊢
  rw [List.countP_cons, List.countP_cons]
  cases a <;> cases b <;> simp_all [On] <;> omega
theorem offs_rep (n : Nat) : offs (List.replicate n false) = n := by
 unfold offs; simp [List.countP_replicate]
theorem offs_le (L : List Bool) : offs L ≤ L.length := List.countP_le_length
def nxs (es : List Ed) (s : Nat) : List Int := (es.filter (fun x => decide (x.f = (s : Int)))).map Ed.t
theorem mem_nxs {es : List Ed} {s : Nat} {t : Int} : t ∈ nxs es s ↔ ∃ x ∈ es, x.f = (s : Int) ∧ x.t = t := by
 unfold nxs
 rw [List.mem_map]
 constructor
 ·rintro ⟨x, hx, rfl⟩
  obtain ⟨h1, h2⟩ := List.mem_filter.1 hx
  exact ⟨x, h1, of_decide_eq_true h2, rfl⟩
 ·rintro ⟨x, h1, h2, rfl⟩
  exact ⟨x, List.mem_filter.2 ⟨h1, decide_eq_true h2⟩, rfl⟩
def vis1 (v : List Bool → Nat → List Bool) (L : List Bool) (t : Int) : List Bool := if L.getD t.toNat false = true then L else v L t.toNat
def visA (es : List Ed) : Nat → List Bool → Nat → List Bool
 | 0, L, _ => L
 | f + 1, L, s => (nxs es s).foldl (vis1 (visA es f)) (L.set s true)
def rchA (G : Gr) (s : Nat) : List Bool := visA G.es (G.n.toNat + 1) (List.replicate G.n.toNat false) s
structure Vis (es : List Ed) (L M : List Bool) (ok : Int → Prop) : Prop where
 len : M.length = L.length
 mono : ∀ i, On L i → On M i
 snd : ∀ i : Nat, On M i → On L i ∨ ok i
 cls : ∀ i : Nat, On M i → ¬ On L i → ∀ t ∈ nxs es i, On M t.toNat
theorem visA_ok {es : List Ed} {n : Nat} (hes : ∀ x ∈ es, 0 ≤ x.t ∧ x.t < n) : ∀ (f : Nat) (L : List Bool) (s : Nat), L.length = n → s < n → ¬ On L s → offs L ≤ f → Vis es L (visA es f L s) (fun t => Rch es s t) ∧ On (visA es f L s) s
 | 0, L, s, hl, hs, ho, hf => by
  have := offs_set (by omega) ho; omega
 | f + 1, L, s, hl, hs, ho, hf => by
  have hoff := offs_set (L := L) (i := s) (by omega) ho
  have key : ∀ (ts : List Int) (A : List Bool), (∀ t ∈ ts, ∃ x ∈ es, x.f = (s : Int) ∧ x.t = t) → A.length = n → offs A ≤ f →
    Vis es A (ts.foldl (vis1 (visA es f)) A) (fun t => Rch es s t) ∧ ∀ t ∈ ts, On (ts.foldl (vis1 (visA es f)) A) t.toNat := by
   intro ts
   induction ts with
   | nil => intro A _ _ _; exact ⟨⟨rfl, fun _ h => h, fun _ h => .inl h, fun _ h k => absurd h k⟩, fun _ h => by cases h⟩
   | cons t ts ih =>
    intro A hts hA hfA
    obtain ⟨x, hx, hxf, hxt⟩ := hts t (by simp)
    have hb := hes x hx
    rw [hxt] at hb
    have hR : Rch es s t := by have := Rch.edge hx; rwa [hxf, hxt] at this
    rw [List.foldl_cons]
    have one : Vis es A (vis1 (visA es f) A t) (fun t => Rch es s t) ∧ On (vis1 (visA es f) A t) t.toNat := by
     unfold vis1
     by_cases hon : On A t.toNat
     ·rw [if_pos (show A.getD t.toNat false = true from hon)]
      exact ⟨⟨rfl, fun _ h => h, fun _ h => .inl h, fun _ h k => absurd h k⟩, hon⟩
     ·rw [if_neg (show ¬ A.getD t.toNat false = true from hon)]
      obtain ⟨v, h2⟩ := visA_ok hes f A t.toNat hA (by omega) hon hfA
      refine ⟨⟨v.len, v.mono, fun i hi => ?_, v.cls⟩, h2⟩
      rcases v.snd i hi with h | h
      ·exact .inl h
      ·refine .inr (hR.trans ?_)
       have e : ((t.toNat : Nat) : Int) = t := by omega
       rw [← e]; exact h
    obtain ⟨v1, o1⟩ := one
    obtain ⟨v2, o2⟩ := ih (vis1 (visA es f) A t) (fun u hu => hts u (by simp [hu])) (by rw [v1.len]; exact hA) (Nat.le_trans (offs_mono v1.len.symm v1.mono) hfA)
    refine ⟨⟨v2.len.trans v1.len, fun i h => v2.mono i (v1.mono i h), fun i h => ?_, fun i h k => ?_⟩, fun u hu => ?_⟩
    ·rcases v2.snd i h with h | h
     ·exact v1.snd i h
     ·exact .inr h
    ·by_cases hm : On (vis1 (visA es f) A t) i
     ·exact fun u hu => v2.mono _ (v1.cls i hm k u hu)
     ·exact v2.cls i h hm
    ·rcases List.mem_cons.1 hu with rfl | hu
     ·exact v2.mono _ o1
     ·exact o2 u hu
  obtain ⟨v, o⟩ := key (nxs es s) (L.set s true) (fun t ht => mem_nxs.1 ht) (by rw [List.length_set]; exact hl) (by omega)
  show Vis es L ((nxs es s).foldl (vis1 (visA es f)) (L.set s true)) _ ∧ On ((nxs es s).foldl (vis1 (visA es f)) (L.set s true)) s
  have hset : ∀ j, On (L.set s true) j ↔ j = s ∨ On L j := fun j => on_set (by omega)
  refine ⟨⟨by rw [v.len, List.length_set], fun i h => v.mono i ((hset i).2 (.inr h)), fun i h => ?_, fun i h k => ?_⟩, v.mono s ((hset s).2 (.inl rfl))⟩
  ·rcases v.snd i h with h | h
   ·rcases (hset i).1 h with rfl | h
    ·exact .inr (Rch.refl _)
    ·exact .inl h
   ·exact .inr h
  ·by_cases hi : i = s
   ·subst hi; exact o
   ·exact v.cls i h (fun e => ((hset i).1 e).elim hi k)
theorem rchA_len (G : Gr) (hv : Vg G) {s : Nat} (hs : (s : Int) < G.n) : (rchA G s).length = G.n.toNat := by
 have h := (visA_ok (es := G.es) (n := G.n.toNat) (fun x hx => by have := hv.ins x hx; omega) (G.n.toNat + 1) (List.replicate G.n.toNat false) s (by simp) (by omega) (on_rep _ _) (by rw [offs_rep]; omega)).1.len
 rw [List.length_replicate] at h; exact h
theorem rchA_iff {G : Gr} (hv : Vg G) {s t : Nat} (hs : (s : Int) < G.n) : On (rchA G s) t ↔ Rch G.es s t := by
 obtain ⟨v, o⟩ := visA_ok (es := G.es) (n := G.n.toNat) (fun x hx => by have := hv.ins x hx; omega) (G.n.toNat + 1) (List.replicate G.n.toNat false) s (by simp) (by omega) (on_rep _ _) (by rw [offs_rep]; omega)
 constructor
 ·intro h
  rcases v.snd t h with h | h
  ·exact absurd h (on_rep _ _)
  ·exact h
 ·intro h
  have := h.keep (P := fun (u : Int) => On (rchA G s) u.toNat) (fun x hx hf => by
   have hb := hv.ins x hx
   exact v.cls x.f.toNat hf (on_rep _ _) x.t (mem_nxs.2 ⟨x, hx, by omega, rfl⟩)) (by rw [Int.toNat_natCast]; exact o)
  simpa using this
def rndE (L : List Bool) (x : Ed) : List Bool := if L.getD x.f.toNat false = true then L.set x.t.toNat true else L
def rnd (es : List Ed) (L : List Bool) : List Bool := es.foldl rndE L
def rnds (es : List Ed) : Nat → List Bool → List Bool
 | 0, L => L
 | k + 1, L => rnd es (rnds es k L)
def rchR (G : Gr) (s : Nat) : List Bool := rnds G.es G.n.toNat ((List.replicate G.n.toNat false).set s true)
theorem rndE_len (L : List Bool) (x : Ed) : (rndE L x).length = L.length := by unfold rndE; split <;> simp
theorem rnd_len : ∀ (es : List Ed) (L : List Bool), (rnd es L).length = L.length
 | [], _ => rfl
 | x :: es, L => by have := rnd_len es (rndE L x); unfold rnd at this ⊢; rw [List.foldl_cons, this, rndE_len]
theorem rnds_len (es : List Ed) (L : List Bool) : ∀ k, (rnds es k L).length = L.length
 | 0 => rfl
 | k + 1 => by rw [rnds, rnd_len, rnds_len es L k]
theorem rnd_ok {P : Int → Prop} : ∀ (es : List Ed) (L : List Bool), (∀ x ∈ es, 0 ≤ x.f ∧ 0 ≤ x.t ∧ x.t < L.length) → (∀ x ∈ es, P x.f → P x.t) → (∀ i : Nat, On L i → P i) →
  (∀ i, On L i → On (rnd es L) i) ∧ (∀ i : Nat, On (rnd es L) i → P i) ∧ ∀ x ∈ es, On L x.f.toNat → On (rnd es L) x.t.toNat
 | [], L, _, _, hL => ⟨fun _ h => h, hL, fun _ h => by cases h⟩
 | x :: es, L, hb, hP, hL => by
  have hx := hb x (by simp)
  have h0 : (∀ i, On L i → On (rndE L x) i) ∧ (∀ i : Nat, On (rndE L x) i → P i) ∧ (On L x.f.toNat → On (rndE L x) x.t.toNat) := by
   unfold rndE
   by_cases h : On L x.f.toNat
   ·rw [if_pos (show L.getD x.f.toNat false = true from h)]
    have hs : ∀ j, On (L.set x.t.toNat true) j ↔ j = x.t.toNat ∨ On L j := fun j => on_set (by omega)
    refine ⟨fun i hi => (hs i).2 (.inr hi), fun i hi => ?_, fun _ => (hs _).2 (.inl rfl)⟩
    rcases (hs i).1 hi with rfl | hi
    ·have := hP x (by simp) (by have := hL _ h; rwa [show ((x.f.toNat : Nat) : Int) = x.f by omega] at this)
     rwa [show ((x.t.toNat : Nat) : Int) = x.t by omega]
    ·exact hL i hi
   ·rw [if_neg (show ¬ L.getD x.f.toNat false = true from h)]
    exact ⟨fun _ h => h, hL, fun k => absurd k h⟩
  obtain ⟨a1, a2, a3⟩ := h0
  obtain ⟨b1, b2, b3⟩ := rnd_ok es (rndE L x) (fun y hy => by rw [rndE_len]; exact hb y (by simp [hy])) (fun y hy => hP y (by simp [hy])) a2
  refine ⟨fun i h => b1 i (a1 i h), b2, fun y hy h => ?_⟩
  rcases List.mem_cons.1 hy with rfl | hy
  ·exact b1 _ (a3 h)
  ·exact b3 y hy (a1 _ h)
theorem rchR_iff {G : Gr} (hv : Vg G) {s t : Nat} (hs : (s : Int) < G.n) : On (rchR G s) t ↔ Rch G.es s t := by
 obtain ⟨L0, hL0⟩ : ∃ L0, L0 = (List.replicate G.n.toNat false).set s true := ⟨_, rfl⟩
 have hlen : L0.length = G.n.toNat := by rw [hL0]; simp
 have on0 : ∀ i, On L0 i ↔ i = s := fun i => by
  rw [hL0, on_set (by simp; omega)]
  constructor
  ·rintro (h | h)
   ·exact h
   ·exact absurd h (on_rep _ _)
  ·exact .inl
 have hbd : ∀ k, ∀ x ∈ G.es, 0 ≤ x.f ∧ 0 ≤ x.t ∧ x.t < (rnds G.es k L0).length := fun k x hx => by rw [rnds_len, hlen]; have := hv.ins x hx; omega
 have hP : ∀ x ∈ G.es, Rch G.es s x.f → Rch G.es s x.t := fun x hx h => h.trans (Rch.edge hx)
 have snd : ∀ k, ∀ i : Nat, On (rnds G.es k L0) i → Rch G.es s i := by
  intro k
  induction k with
  | zero => intro i hi; rw [rnds, on0] at hi; subst hi; exact Rch.refl _
  | succ k ih => exact (rnd_ok (P := fun u => Rch G.es s u) G.es _ (hbd k) hP ih).2.1
 have mono : ∀ k i, On (rnds G.es k L0) i → On (rnds G.es (k + 1) L0) i := fun k => (rnd_ok (P := fun _ => True) G.es _ (hbd k) (fun _ _ _ => trivial) (fun _ _ => trivial)).1
 have step : ∀ k, ∀ x ∈ G.es, On (rnds G.es k L0) x.f.toNat → On (rnds G.es (k + 1) L0) x.t.toNat := fun k => (rnd_ok (P := fun _ => True) G.es _ (hbd k) (fun _ _ _ => trivial) (fun _ _ => trivial)).2.2
 have grow : ∀ k, (∀ x ∈ G.es, On (rnds G.es k L0) x.f.toNat → On (rnds G.es k L0) x.t.toNat) ∨ offs (rnds G.es k L0) + (k + 1) ≤ G.n.toNat := by
  intro k
  induction k with
  | zero =>
   refine .inr ?_
   have := offs_set (L := List.replicate G.n.toNat false) (i := s) (by simp; omega) (on_rep _ _)
   rw [offs_rep, ← hL0] at this
   show offs L0 + 1 ≤ _
   omega
  | succ k ih =>
   by_cases hc : ∀ x ∈ G.es, On (rnds G.es k L0) x.f.toNat → On (rnds G.es k L0) x.t.toNat
   ·have same : ∀ i, On (rnds G.es (k + 1) L0) i → On (rnds G.es k L0) i := fun i hi => by
     have := (rnd_ok (P := fun u => On (rnds G.es k L0) u.toNat) G.es _ (hbd k) hc (fun i h => by simpa using h)).2.1 i hi
     simpa using this
    exact .inl (fun x hx h => mono k _ (hc x hx (same _ h)))
   ·rcases ih with ih | ih
    ·exact absurd ih hc
    ·refine .inr ?_
     have : ∃ x ∈ G.es, On (rnds G.es k L0) x.f.toNat ∧ ¬ On (rnds G.es k L0) x.t.toNat := Classical.byContradiction fun h => hc (fun x hx hf => Classical.byContradiction fun ht => h ⟨x, hx, hf, ht⟩)
     obtain ⟨x, hx, h1, h2⟩ := this
     have hb := hbd k x hx
     have h3 := offs_set (L := rnds G.es k L0) (i := x.t.toNat) (by omega) h2
     have h4 := offs_mono (L := (rnds G.es k L0).set x.t.toNat true) (M := rnds G.es (k + 1) L0) (by rw [List.length_set, rnds_len, rnds_len]) (fun i hi => by
      rcases (on_set (L := rnds G.es k L0) (by omega)).1 hi with rfl | hi
      ·exact step k x hx h1
      ·exact mono k i hi)
     omega
 have closed : ∀ x ∈ G.es, On (rnds G.es G.n.toNat L0) x.f.toNat → On (rnds G.es G.n.toNat L0) x.t.toNat := by
  rcases grow G.n.toNat with h | h
  ·exact h
  ·omega
 have first : ∀ k, On (rnds G.es k L0) s := by
  intro k
  induction k with
  | zero => exact (on0 s).2 rfl
  | succ k ih => exact mono k s ih
 unfold rchR
 rw [← hL0]
 constructor
 ·exact snd _ t
 ·intro h
  have := h.keep (P := fun (u : Int) => On (rnds G.es G.n.toNat L0) u.toNat) closed (by simpa using first _)
  simpa using this
theorem rchR_len (G : Gr) (s : Nat) : (rchR G s).length = G.n.toNat := by unfold rchR; rw [rnds_len]; simp
theorem rch_same {G : Gr} (hv : Vg G) {s : Nat} (hs : (s : Int) < G.n) : rchR G s = rchA G s :=
 on_ext (by rw [rchR_len, rchA_len G hv hs]) (fun i _ => by rw [rchR_iff hv hs, rchA_iff hv hs])
end
section
open Go.RowKit
def dbeg (N : Nat) (es : List Ed) (p : Nat × Nat) : Nat := pix N (eget es p.1).f (eget es p.2).f
def dend (N : Nat) (es : List Ed) (p : Nat × Nat) : Nat := pix N (eget es p.1).t (eget es p.2).t
def dif2 (es : List Ed) (p : Nat × Nat) : Bool := decide ((eget es p.1).f ≠ (eget es p.2).f) && decide ((eget es p.1).t ≠ (eget es p.2).t)
def dnxL (N : Nat) (es : List Ed) (L : List (Nat × Nat)) (n : Nat) : List (Nat × Nat) := L.filter (fun p => dif2 es p && decide (dbeg N es p = n))
def dnx (N : Nat) (es : List Ed) (n : Nat) : List (Nat × Nat) := dnxL N es (prs es) n
theorem dnxL_no {N : Nat} {es : List Ed} {L : List (Nat × Nat)} {p : Nat × Nat} (h : dif2 es p = false) (n : Nat) : dnxL N es (L ++ [p]) n = dnxL N es L n := by
 unfold dnxL; rw [List.filter_append, List.filter_cons_of_neg (by simp [h])]; simp
theorem dnxL_at {N : Nat} {es : List Ed} {L : List (Nat × Nat)} {p : Nat × Nat} (h : dif2 es p = true) : dnxL N es (L ++ [p]) (dbeg N es p) = dnxL N es L (dbeg N es p) ++ [p] := by
 unfold dnxL; rw [List.filter_append, List.filter_cons_of_pos (by simp [h])]; simp
theorem dnxL_off {N : Nat} {es : List Ed} {L : List (Nat × Nat)} {p : Nat × Nat} {n : Nat} (h : n ≠ dbeg N es p) : dnxL N es (L ++ [p]) n = dnxL N es L n := by
 unfold dnxL; rw [List.filter_append, List.filter_cons_of_neg (by simp; intro _ e; exact h e.symm)]; simp
theorem dnxL_len (N : Nat) (es : List Ed) (L : List (Nat × Nat)) (n : Nat) : (dnxL N es L n).length ≤ L.length := List.length_filter_le _ _
theorem mem_dnx {N : Nat} {es : List Ed} {n : Nat} {p : Nat × Nat} (h : p ∈ dnx N es n) : p.1 < es.length ∧ p.2 < es.length := by
 have h1 := mem_prs.1 (List.mem_filter.1 h).1
 exact ⟨h1.1, h1.2.1⟩
theorem dnx_len (N : Nat) (es : List Ed) (n : Nat) (h : es.length ≤ 1024) : (dnx N es n).length ≤ 1048576 := by
 have h1 := dnxL_len N es (prs es) n
 have h2 := prsTo_len es es.length
 have h3 : es.length * es.length ≤ 1024 * 1024 := Nat.mul_le_mul h h
 unfold dnx; unfold prs at h1 ⊢; omega
def shE (N : Nat) (es : List Ed) (s : Nat) : List (Nat × Nat) → List Bool × List Nat → Option (List Bool × List Nat)
 | [], st => some st
 | e :: l, st => if dend N es e = s then none else shE N es s l (if lkB st.1 (dend N es e) = true then st else (st.1.set (dend N es e) true, st.2 ++ [dend N es e]))
theorem shE_append (N : Nat) (es : List Ed) (s : Nat) : ∀ (l m : List (Nat × Nat)) (st : List Bool × List Nat), shE N es s (l ++ m) st = (shE N es s l st).bind (shE N es s m)
 | [], _, _ => rfl
 | e :: l, m, st => by
  rw [List.cons_append]
  unfold shE
  split
  ·rfl
  ·exact shE_append N es s l m _
theorem shE_met {N : Nat} {es : List Ed} {s : Nat} {l m : List (Nat × Nat)} {e : Nat × Nat} {st st' : List Bool × List Nat} (h : shE N es s l st = some st') (he : dend N es e = s) : shE N es s (l ++ e :: m) st = none := by
 rw [shE_append, h]; show shE N es s (e :: m) st' = none; unfold shE; rw [if_pos he]
theorem shE_old {N : Nat} {es : List Ed} {s : Nat} {l : List (Nat × Nat)} {e : Nat × Nat} {st st' : List Bool × List Nat} (h : shE N es s l st = some st') (he : dend N es e ≠ s) (hl : lkB st'.1 (dend N es e) = true) : shE N es s (l ++ [e]) st = some st' := by
 rw [shE_append, h]; show shE N es s [e] st' = some st'; unfold shE; rw [if_neg he, if_pos hl]; rfl
theorem shE_new {N : Nat} {es : List Ed} {s : Nat} {l : List (Nat × Nat)} {e : Nat × Nat} {st st' : List Bool × List Nat} (h : shE N es s l st = some st') (he : dend N es e ≠ s) (hl : lkB st'.1 (dend N es e) = false) : shE N es s (l ++ [e]) st = some (st'.1.set (dend N es e) true, st'.2 ++ [dend N es e]) := by
 rw [shE_append, h]; show shE N es s [e] st' = some _; unfold shE; rw [if_neg he, if_neg (by simp [hl])]; rfl
structure ShI (M : Nat) (st : List Bool × List Nat) : Prop where
 len : st.1.length = M
 lt : ∀ q ∈ st.2, q < M
 sz : st.2.length + offs st.1 ≤ M
theorem ShI.start {M : Nat} {se : List Bool} (h : se.length = M) : ShI M (se, []) := ⟨h, by simp, by have := offs_le se; simp; omega⟩
theorem ShI.push {M : Nat} {st : List Bool × List Nat} {q : Nat} (h : ShI M st) (hq : q < M) (hl : lkB st.1 q = false) : ShI M (st.1.set q true, st.2 ++ [q]) := by
 have hq' : q < st.1.length := by rw [h.len]; exact hq
 refine ⟨by simp [h.len], fun x hx => ?_, ?_⟩
 ·rcases List.mem_append.1 hx with e | e
  ·exact h.lt x e
  ·rw [List.mem_singleton.1 e]; exact hq
 ·have ho := offs_set (L := st.1) (i := q) hq' (by
   intro e; have e' : lkB st.1 q = true := e; rw [hl] at e'; cases e')
  have := h.sz
  rw [List.length_append, List.length_singleton]
  show st.2.length + 1 + offs (st.1.set q true) ≤ M
  omega
def shN (N : Nat) (es : List Ed) (s lim : Nat) : Nat → Nat → List Bool × List Nat → Nat
 | 0, _, _ => lim
 | f + 1, n, st => if n < lim ∧ st.2 ≠ [] then
   match shE N es s (st.2.flatMap (dnx N es)) (st.1, []) with
   | none => n
   | some st' => shN N es s lim f (n + 1) st'
  else lim
def shA (N : Nat) (es : List Ed) (s lim : Nat) : Nat := shN N es s lim lim 1 (List.replicate (N * N) false, [s])
theorem shN_stop {N : Nat} {es : List Ed} {s lim f n : Nat} {st : List Bool × List Nat} (h : ¬ (n < lim ∧ st.2 ≠ [])) : shN N es s lim f n st = lim := by
 cases f with
 | zero => rfl
 | succ f => unfold shN; rw [if_neg h]
theorem shN_met {N : Nat} {es : List Ed} {s lim f n : Nat} {st : List Bool × List Nat} (hf : lim ≤ f + n) (h : n < lim) (h2 : st.2 ≠ []) (hm : shE N es s (st.2.flatMap (dnx N es)) (st.1, []) = none) : shN N es s lim f n st = n := by
 cases f with
 | zero => omega
 | succ f => unfold shN; rw [if_pos ⟨h, h2⟩, hm]
theorem shN_step {N : Nat} {es : List Ed} {s lim f n : Nat} {st st' : List Bool × List Nat} (hf : lim ≤ f + n) (h : n < lim) (h2 : st.2 ≠ []) (hm : shE N es s (st.2.flatMap (dnx N es)) (st.1, []) = some st') : shN N es s lim f n st = shN N es s lim (f - 1) (n + 1) st' := by
 cases f with
 | zero => omega
 | succ f => rw [shN, if_pos ⟨h, h2⟩, hm]; rfl
theorem shN_le (N : Nat) (es : List Ed) (s lim : Nat) : ∀ (f n : Nat) (st : List Bool × List Nat), shN N es s lim f n st ≤ lim
 | 0, _, _ => Nat.le_refl _
 | f + 1, n, st => by
  rw [shN]
  split
  ·rename_i h
   split
   ·omega
   ·exact shN_le N es s lim f _ _
  ·exact Nat.le_refl _
theorem shN_ge (N : Nat) (es : List Ed) (s lim : Nat) : ∀ (f n : Nat) (st : List Bool × List Nat), 1 ≤ n → 1 ≤ lim → 1 ≤ shN N es s lim f n st
 | 0, _, _, _, h => h
 | f + 1, n, st, hn, hl => by
  rw [shN]
  split
  ·split
   ·exact hn
   ·exact shN_ge N es s lim f _ _ (by omega) hl
  ·exact hl
theorem shA_le (N : Nat) (es : List Ed) (s lim : Nat) : shA N es s lim ≤ lim := shN_le _ _ _ _ _ _ _
theorem shA_ge (N : Nat) (es : List Ed) (s : Nat) {lim : Nat} (h : 1 ≤ lim) : 1 ≤ shA N es s lim := shN_ge _ _ _ _ _ _ _ (Nat.le_refl _) h
def canA (N : Nat) (es : List Ed) (s : Nat) : Nat → List Bool
 | 0 => (List.replicate (N * N) false).set s true
 | k + 1 => (List.range (N * N)).map fun p => (dnx N es p).any fun e => lkB (canA N es s k) (dend N es e)
theorem canA_len (N : Nat) (es : List Ed) (s : Nat) : ∀ k, (canA N es s k).length = N * N
 | 0 => by simp [canA]
 | k + 1 => by simp [canA]
theorem canA_succ {N : Nat} {es : List Ed} {s k p : Nat} (h : lkB (canA N es s (k + 1)) p = true) : (dnx N es p).any (fun e => lkB (canA N es s k) (dend N es e)) = true := by
 by_cases hp : p < N * N
 ·rw [lkB_get (by rw [canA_len]; exact hp)] at h
  simpa [canA] using h
 ·rw [lkB_out (by rw [canA_len]; omega)] at h; cases h
def cyW (N : Nat) (es : List Ed) (s : Nat) : Nat → Nat → List (Nat × Nat)
 | 0, _ => []
 | k + 1, at_ => match (dnx N es at_).find? (fun e => lkB (canA N es s k) (dend N es e)) with
  | some e => e :: cyW N es s k (dend N es e)
  | none => []
theorem cyW_step {N : Nat} {es : List Ed} {s k a : Nat} (h : lkB (canA N es s (k + 1)) a = true) :
  ∃ e, (dnx N es a).find? (fun e => lkB (canA N es s k) (dend N es e)) = some e ∧ lkB (canA N es s k) (dend N es e) = true ∧ cyW N es s (k + 1) a = e :: cyW N es s k (dend N es e) := by
 obtain ⟨e, he⟩ := Option.isSome_iff_exists.1 (List.find?_isSome.2 (List.any_eq_true.1 (canA_succ h)))
 exact ⟨e, he, by simpa using List.find?_some he, by rw [cyW, he]⟩
theorem cyW_len {N : Nat} {es : List Ed} {s : Nat} : ∀ (k a : Nat), lkB (canA N es s k) a = true → (cyW N es s k a).length = k
 | 0, _, _ => rfl
 | k + 1, a, h => by
  obtain ⟨e, _, h1, h2⟩ := cyW_step h
  rw [h2, List.length_cons, cyW_len k _ h1]
def cycA (N : Nat) (es : List Ed) (s n : Nat) : Option (List (Nat × Nat)) := if lkB (canA N es s n) s = true then some (cyW N es s n s) else none
theorem cycA_len {N : Nat} {es : List Ed} {s n : Nat} {c : List (Nat × Nat)} (h : cycA N es s n = some c) : c.length = n := by
 unfold cycA at h
 split at h
 ·rename_i hc; cases h; exact cyW_len n s hc
 ·cases h
def fstI (c : List (Nat × Nat)) : List Int := c.map fun e => (e.1 : Int)
def sndI (c : List (Nat × Nat)) : List Int := c.map fun e => (e.2 : Int)
def minS (N : Nat) (es : List Ed) : Nat → Nat → Nat
 | 0, n => n
 | m + 1, n => shA N es m (minS N es m n)
theorem minS_le (N : Nat) (es : List Ed) (n : Nat) : ∀ m, minS N es m n ≤ n
 | 0 => Nat.le_refl _
 | m + 1 => Nat.le_trans (shA_le _ _ _ _) (minS_le N es n m)
theorem minS_ge (N : Nat) (es : List Ed) {n : Nat} (h : 1 ≤ n) : ∀ m, 1 ≤ minS N es m n
 | 0 => h
 | m + 1 => shA_ge _ _ _ (minS_ge N es h m)
def betW (x : List (Nat × Nat)) : Option (List (Nat × Nat)) → List (Nat × Nat)
 | none => x
 | some f => if cmpL (fstI x) (fstI f) < 0 then x else if cmpL (fstI x) (fstI f) = 0 then (if cmpL (sndI x) (sndI f) < 0 then x else f) else f
def bstW (N : Nat) (es : List Ed) (n : Nat) : Nat → Option (List (Nat × Nat))
 | 0 => none
 | m + 1 => match cycA N es m n with
  | none => bstW N es n m
  | some x => some (betW x (bstW N es n m))
def witA (G : Gr) : List (Nat × Nat) × Bool × Int :=
 if chkG G ≠ 0 then ([], false, 1) else if (detA G).1 = false then ([], false, 8) else
 if minS G.n.toNat G.es (G.n.toNat * G.n.toNat) (G.n.toNat * G.n.toNat + 1) = G.n.toNat * G.n.toNat + 1 then ([], false, 0) else
 ((bstW G.n.toNat G.es (minS G.n.toNat G.es (G.n.toNat * G.n.toNat) (G.n.toNat * G.n.toNat + 1)) (G.n.toNat * G.n.toNat)).getD [], true, 0)
end
section
open Go.RowKit Go.Shelf
attribute [local go_sem] Oper.semAt_some
def lvL (es : List Ed) (s : Int) (k : Nat) : List (Nat × Ed) := ((List.range k).filter (fun i => decide ((eget es i).f = s))).map (fun i => (i, eget es i))
theorem lvL_succ {es : List Ed} {s : Int} {k : Nat} (h : k < es.length) : lvL es s (k + 1) = lvL es s k ++ (if es[k].f = s then [(k, es[k])] else []) := by
 unfold lvL
 rw [List.range_succ, List.filter_append, List.map_append]
 congr 1
 by_cases hs : es[k].f = s <;> simp [eget_eq es k h, hs]
theorem lvL_len (es : List Ed) (s : Int) (k : Nat) : (lvL es s k).length ≤ k := by
 unfold lvL
 rw [List.length_map]
 exact Nat.le_trans (List.length_filter_le _ _) (by simp)
def KX (a b : Nat) (W W' : World) : Prop := ∀ i, i < b → i ≠ a → W'.heap[i]? = W.heap[i]?
theorem KX.refl (a b : Nat) (W : World) : KX a b W W := fun _ _ _ => rfl
theorem KX.trans {a b : Nat} {X Y Z : World} (h : KX a b X Y) (k : KX a b Y Z) : KX a b X Z := fun i h1 h2 => (k i h1 h2).trans (h i h1 h2)
theorem KX.boxed {a b B : Nat} {t : TypeId} {v : Value} {W W' : World} (h : KX a b W W') (h1 : B < b) (h2 : B ≠ a) (hb : Boxed W B t v) : Boxed W' B t v := (h B h1 h2).trans hb
def SgB (n : Nat) (w : World) (p : Option Addr) (l : List Ed) : Prop :=
 l = [] ∨ ∃ b off, p = some ⟨b, off, none⟩ ∧ b < n ∧ b < w.heap.size ∧ ∀ i (h : i < l.length) j, j < 3 → w.cell? ⟨b, off + i * 3 + j, none⟩ = (edE l[i])[j]?
theorem SgB.of {n : Nat} {w : World} {p : Option Addr} {l : List Ed} (h : Sg 3 w edE p l) (hn : w.heap.size ≤ n) : SgB n w p l := by
 rcases h with h | ⟨b, off, h1, h2, h3⟩
 ·exact .inl h
 ·exact .inr ⟨b, off, h1, by omega, h2, h3⟩
theorem SgB.sg {n : Nat} {w : World} {p : Option Addr} {l : List Ed} (h : SgB n w p l) : Sg 3 w edE p l := by
 rcases h with h | ⟨b, off, h1, _, h2, h3⟩
 ·exact .inl h
 ·exact .inr ⟨b, off, h1, h2, h3⟩
theorem SgB.kept {n : Nat} {w w' : World} {p : Option Addr} {l : List Ed} (h : SgB n w p l) (hk : ∀ i, i < n → w'.heap[i]? = w.heap[i]?) : SgB n w' p l := by
 rcases h with h | ⟨b, off, h1, h2, h3, h4⟩
 ·exact .inl h
 ·have e := hk b h2
  have hlt : b < w'.heap.size := by
   rcases Nat.lt_or_ge b w'.heap.size with h' | h'
   ·exact h'
   ·rw [Array.getElem?_eq_none h', Array.getElem?_eq_getElem h3] at e; cases e
  exact .inr ⟨b, off, h1, h2, hlt, fun i hi j hj => (World.cell?_of_block (w := w) (a := ⟨b, off + i * 3 + j, none⟩) e).trans (h4 i hi j hj)⟩
theorem SgB.kx {n a b : Nat} {w w' : World} {p : Option Addr} {l : List Ed} (h : SgB n w p l) (hk : KX a b w w') (h1 : n ≤ b) (h2 : n ≤ a) : SgB n w' p l :=
 h.kept (fun i hi => hk i (by omega) (by omega))
theorem SgB.alloc {n : Nat} {w : World} {p : Option Addr} {l : List Ed} (h : SgB n w p l) (hn : n ≤ w.heap.size) (o : Obj) : SgB n (w.alloc o) p l :=
 h.kept (fun i hi => Below.heap_alloc w o i (by omega))
def encL (x : Nat × Ed) : Array Value := #[.int .i64 (x.1 : Int), .agg #[.int .i64 x.2.f, .int .i64 x.2.l, .int .i64 x.2.t]]
end
section
open Go.RowKit Go.Shelf
attribute [local go_sem] Oper.semAt_some
def KS (m B : Nat) (W W' : World) : Prop := ∀ i, (i < m ∨ i = B) → W'.heap[i]? = W.heap[i]?
theorem KS.refl (m B : Nat) (W : World) : KS m B W W := fun _ _ => rfl
theorem KS.trans {m B : Nat} {X Y Z : World} (h : KS m B X Y) (k : KS m B Y Z) : KS m B X Z := fun i h1 => (k i h1).trans (h i h1)
theorem KS_b {m B n : Nat} (hm : m ≤ n) (hB : B < n) (W : World) (l : Nat) (o o' : Obj) (hl : n ≤ l) (_ : W.heap[l]? = some o) (_ : o.isCells = false) (_ : o.isWalk = false) : KS m B W (W.putObj l o') :=
 fun i h1 => World.putObj_heap_other (by omega)
theorem KS.boxed {m B : Nat} {t : TypeId} {v : Value} {W W' : World} (h : KS m B W W') (hb : Boxed W B t v) : Boxed W' B t v := (h B (.inr rfl)).trans hb
theorem KS.low {m B : Nat} {W W' : World} (h : KS m B W W') : ∀ i, i < m → W'.heap[i]? = W.heap[i]? := fun i hi => h i (.inl hi)
set_option maxRecDepth 100000 in
set_option maxHeartbeats 1000000 in
theorem leavingS_in (F : Fence) (n : Nat) (hf : F.fn 153) (hro : F.round = none) (hn : 1 ≤ n) (l m Bg Bs : Nat) (G : Gr) (s : Int) (p : Option Addr) (c : Nat) (hlen : G.es.length ≤ 1024) (J Jx : List (Nat × Ed) → World → Prop)
  (hA : ∀ pre W o, J pre W → J pre (W.alloc o))
  (hY : ∀ pre x W, J pre W → pre.length < G.es.length → YieldAt F (n - 1) Tryz.prog l (encL x) W fun e W' =>
   (e = .returned (.bool true) ∧ J (pre ++ [x]) W' ∧ KS m Bs W W') ∨ (e = .returned (.bool false) ∧ Jx (pre ++ [x]) W'))
  (W : World) (hmb : m ≤ Bs) (hg : VRow W Bg 24 [.int .i64 G.q, .int .i64 G.n, .slice p G.es.length c]) (hs : Boxed W Bs 3 (.int .i64 s)) (hin : SgB m W p G.es) (h0 : J [] W) :
  CallsIn F n Tryz.prog 153 #[.func (.yield l) #[] #[], .pointer (some ⟨Bg, 0, none⟩), .pointer (some ⟨Bs, 0, none⟩)] W fun e W' => (∃ v, e = .returned v) ∧
   ((∃ ys : List (Nat × Ed), ys = lvL G.es s G.es.length ∧ J ys W') ∨ (∃ pre : List (Nat × Ed), True ∧ Jx pre W')) := by
 refine callsIn_of_wp Tryz.func153 rfl hf ?_ hro
 simp only [Tryz.ntmps153, List.size_toArray, List.length_cons, List.length_nil, Nat.reduceAdd, Nat.reduceSub, Array.replicate_succ, Array.replicate_zero, List.push_toArray, List.append_toArray, List.nil_append, List.cons_append]
 have f2 := hg.at 2 rfl
 gi_wp2
 clear f2
 gi_loopw [9] (fun i wr => ∃ (k : Nat) (pre : List (Nat × Ed)), k ≤ G.es.length ∧ i = .int .i64 k ∧ Hid (pre = lvL G.es s k) ∧ J pre wr ∧ Boxed wr Bs 3 (.int .i64 s) ∧ SgB m wr p G.es) (fun i _ => G.es.length - (intOf i).toNat)
 case atStart => exact ⟨0, [], Nat.zero_le _, rfl, rfl, h0, hs, hin⟩
 case round =>
  obtain ⟨k, pre, hk, rfl, hp, hJs, hnx, hsg⟩ := hrel
  by_cases hlt : k < G.es.length
  ·have hpl : pre.length < G.es.length := by rw [hp.out]; have := lvL_len G.es s k; omega
   obtain ⟨b3, o3, rfl, hb3, e0, e1, e2⟩ := hsg.sg.get3 k hlt rfl
   have HN := hidI (lvL_succ (s := s) hlt)
   have hnA := hnx.alloc (.cells #[.int .i64 G.es[k].f, .int .i64 G.es[k].l, .int .i64 G.es[k].t] 44)
   have hgA := hsg.alloc (by have := hnx.lt; omega) (.cells #[.int .i64 G.es[k].f, .int .i64 G.es[k].l, .int .i64 G.es[k].t] 44)
   have hJA := hA pre wr (.cells #[.int .i64 G.es[k].f, .int .i64 G.es[k].l, .int .i64 G.es[k].t] 44) hJs
   have HY := hidI (hY pre (k, G.es[k]) (wr.alloc (.cells #[.int .i64 G.es[k].f, .int .i64 G.es[k].l, .int .i64 G.es[k].t] 44)) hJA hpl)
   have hbs := hnA.cell
   generalize hx : G.es[k] = x at *
   by_cases he : x.f = s
   ·have hb : (x.f == s) = true := by simpa using he
    have HN : Hid (lvL G.es s (k + 1) = lvL G.es s k ++ [(k, x)]) := by rw [Hid, HN.out, if_pos he]
    obtain ⟨fn, tmps, assign, body, hy, hR⟩ := HY.out
    unfold encL at hy
    simp only at hy
    clear he
    gi_wp2
    refine hR.mono ?_
    rintro e W3 (⟨rfl, hJ3, hk3⟩ | ⟨rfl, hJx3⟩)
    ·gi_wp2
     go_roundw
     case rel => exact ⟨k + 1, _, by omega, by go_num, by unfold Hid; rw [HN.out, ← hp.out], hJ3, hk3.boxed hnA, hgA.kept hk3.low⟩
     case measure => simp [intOf]; omega
    ·gi_wp2
     refine bodyPost_ret (results_none rfl _ _ _) rfl ?_
     exact ⟨⟨_, rfl⟩, .inr ⟨_, trivial, hJx3⟩⟩
   ·have hb : (x.f == s) = false := by simpa using he
    have HN : Hid (lvL G.es s (k + 1) = lvL G.es s k) := by rw [Hid, HN.out, if_neg he, List.append_nil]
    clear he
    gi_wp2
    rename_i K1 hK1 x1 h1 w1 e1
    refine ⟨fun f hf => (by cases hf), hK1 _ _ ?_⟩
    clear e1
    gi_wp2
    go_roundw
    case rel => exact ⟨k + 1, _, by omega, by go_num, by unfold Hid; rw [HN.out, ← hp.out], hJA, hnA, hgA⟩
    case measure => simp [intOf]; omega
  ·obtain rfl : k = G.es.length := by omega
   gi_wp2
   go_end0
   exact ⟨⟨_, rfl⟩, .inl ⟨_, hp.out, hJs⟩⟩
theorem leavingS_stops (F : Fence) (n : Nat) (hf : F.fn 153) (hro : F.round = none) (hn : 1 ≤ n) (m Bg Bs : Nat) (G : Gr) (s : Int) (p : Option Addr) (c : Nat) (hlen : G.es.length ≤ 1024) (w : World)
  (hmb : m ≤ Bs) (hg : VRow w Bg 24 [.int .i64 G.q, .int .i64 G.n, .slice p G.es.length c]) (hs : Boxed w Bs 3 (.int .i64 s)) (hin : SgB m w p G.es) :
  SeqStopsK F n Tryz.prog 153 #[.pointer (some ⟨Bg, 0, none⟩), .pointer (some ⟨Bs, 0, none⟩)] encL (KS m Bs) (fun ys => ys = lvL G.es s G.es.length) (fun _ => True) G.es.length w := fun l J Jx W hW hJ _ hY h0 =>
 leavingS_in F n hf hro hn l m Bg Bs G s p c hlen J Jx (fun pre W o h => hJ pre W _ none h (World.grownBy_alloc W o none) (fun r e => by cases e)) hY W hmb (hg.below hW hg.lt) ((KH.of_below hW hs.lt).boxed hs) (hin.kept (fun i hi => hW.block i (by have := hs.lt; omega))) h0
end
section
open Go.RowKit Go.Shelf
attribute [local go_sem] Oper.semAt_some
def KPm (m : Nat) (W W' : World) : Prop := (∀ i, i < m → W'.heap[i]? = W.heap[i]?) ∧ ∀ (i : Nat) (cur : Array Value) (t : TypeId) (fz : Nat × Nat), (t = 44 ∨ t = 92) → W.heap[i]? = some (.cells cur t fz) → W'.heap[i]? = some (.cells cur t fz)
theorem KPm.trans {m : Nat} {X Y Z : World} (h : KPm m X Y) (k : KPm m Y Z) : KPm m X Z := ⟨fun i hi => (k.1 i hi).trans (h.1 i hi), fun i c t f ht e => k.2 i c t f ht (h.2 i c t f ht e)⟩
theorem KPm.put {m n : Nat} (hm : m ≤ n) (W : World) (l : Nat) (o o' : Obj) (hl : n ≤ l) (h : W.heap[l]? = some o) (ho : o.isCells = false) (_ : o.isWalk = false) : KPm m W (W.putObj l o') :=
 ⟨fun i hi => World.putObj_heap_other (by omega), fun i c t f _ e => by
  have hne : i ≠ l := by rintro rfl; rw [h] at e; cases e; cases ho
  exact (World.putObj_heap_other hne).trans e⟩
theorem KPm.edge {m : Nat} {W W' : World} {B : Nat} {l : List Value} (h : KPm m W W') (r : VRow W B 44 l) : VRow W' B 44 l := h.2 _ _ _ _ (.inl rfl) r
theorem KPm.pairs {m : Nat} {W W' : World} {B : Nat} {l : List Value} (h : KPm m W W') (r : VRow W B 92 l) : VRow W' B 92 l := h.2 _ _ _ _ (.inr rfl) r
theorem KPm.size {m : Nat} {W W' : World} (h : KPm m W W') (hm : m ≤ W.heap.size) : m ≤ W'.heap.size := by
 rcases Nat.eq_zero_or_pos m with e | e
 ·omega
 ·have h1 := h.1 (m - 1) (by omega)
  rw [Array.getElem?_eq_getElem (show m - 1 < W.heap.size by omega)] at h1
  have := (Array.getElem?_eq_some_iff.1 h1).1
  omega
abbrev PrE (es : List Ed) : Type := {x : Nat × Nat // x ∈ prs es}
def encPr {es : List Ed} (x : PrE es) : Array Value := #[.int .i64 (x.1.1 : Int), .int .i64 (x.1.2 : Int)]
set_option maxRecDepth 100000 in
set_option maxHeartbeats 2000000 in
theorem pedges_in (F : Fence) (n : Nat) (hf : F.fn 149) (hro : F.round = none) (hn : 1 ≤ n) (l m Bp : Nat) (G : Gr) (p : Option Addr) (c : Nat) (vb : Value) (hlen : G.es.length ≤ 1024) (J Jx : List (PrE G.es) → World → Prop)
  (hA : ∀ pre W o, J pre W → J pre (W.alloc o))
  (hY : ∀ pre x W, J pre W → pre.length < 1024 * 1024 → YieldAt F (n - 1) Tryz.prog l (encPr x) W fun e W' =>
   (e = .returned (.bool true) ∧ J (pre ++ [x]) W' ∧ KPm m W W') ∨ (e = .returned (.bool false) ∧ Jx (pre ++ [x]) W'))
  (W : World) (hmW : m ≤ W.heap.size) (hg : VRow W Bp 92 [.int .i64 G.q, .int .i64 G.n, .slice p G.es.length c, vb]) (hin : SgB m W p G.es) (h0 : J [] W) :
  CallsIn F n Tryz.prog 149 #[.func (.yield l) #[] #[], .pointer (some ⟨Bp, 0, none⟩)] W fun e W' => (∃ v, e = .returned v) ∧
   ((∃ ys : List (PrE G.es), ys.map Subtype.val = prs G.es ∧ J ys W') ∨ (∃ pre : List (PrE G.es), True ∧ Jx pre W')) := by
 refine callsIn_of_wp Tryz.func149 rfl hf ?_ hro
 simp only [Tryz.ntmps149, List.size_toArray, List.length_cons, List.length_nil, Nat.reduceAdd, Nat.reduceSub, Array.replicate_succ, Array.replicate_zero, List.push_toArray, List.append_toArray, List.nil_append, List.cons_append]
 have f2 := hg.at 2 rfl
 have HA := hidI hA; have HY := hidI hY
 clear hA hY
 gi_wp2
 clear f2
 gi_loopw [11] (fun i wr => ∃ (k : Nat) (pre : List (PrE G.es)), k ≤ G.es.length ∧ i = .int .i64 k ∧ Hid (pre.map Subtype.val = prsTo G.es k) ∧ J pre wr ∧ VRow wr Bp 92 [.int .i64 G.q, .int .i64 G.n, .slice p G.es.length c, vb] ∧ SgB m wr p G.es ∧ m ≤ wr.heap.size) (fun i _ => G.es.length - (intOf i).toNat)
 case atStart => exact ⟨0, [], Nat.zero_le _, rfl, rfl, h0, hg, hin, hmW⟩
 case round =>
  clear h0 hg hin hmW
  obtain ⟨k, pre, hk, rfl, hp, hJ, hg, hsg, hmW⟩ := hrel
  by_cases hlt : k < G.es.length
  ·obtain ⟨b3, o3, rfl, hb3, e0, e1, e2⟩ := hsg.sg.get3 k hlt rfl
   have HN := hidI (prsTo_succ G.es k)
   have HE := hidI (eget_eq G.es k hlt)
   have hxA := VRow.new wr 44 [.int .i64 G.es[k].f, .int .i64 G.es[k].l, .int .i64 G.es[k].t]
   have hgA := hg.alloc (.cells #[.int .i64 G.es[k].f, .int .i64 G.es[k].l, .int .i64 G.es[k].t] 44)
   have hsA := hsg.alloc hmW (.cells #[.int .i64 G.es[k].f, .int .i64 G.es[k].l, .int .i64 G.es[k].t] 44)
   have hJA := HA.out pre wr (.cells #[.int .i64 G.es[k].f, .int .i64 G.es[k].l, .int .i64 G.es[k].t] 44) hJ
   have hmA : m ≤ (wr.alloc (.cells #[.int .i64 G.es[k].f, .int .i64 G.es[k].l, .int .i64 G.es[k].t] 44)).heap.size := by simp; omega
   have HK : Hid (∀ j : Nat, (eget G.es k).l = (eget G.es j).l → prsR G.es k (j + 1) = prsR G.es k j ++ [(k, j)]) := fun j h => prsR_yes h
   have HK2 : Hid (∀ j : Nat, (eget G.es k).l ≠ (eget G.es j).l → prsR G.es k (j + 1) = prsR G.es k j) := fun j h => prsR_no h
   have HL : Hid (∀ j, j < G.es.length → (pre.map Subtype.val ++ prsR G.es k j).length < 1024 * 1024) := fun j hj => by
    have h1 := prsTo_len G.es k; have h2 := prsR_len G.es k j
    have h3 := Nat.mul_le_mul (show k ≤ 1023 by omega) hlen
    rw [hp.out, List.length_append]; omega
   rw [HE.out] at HK HK2
   generalize hx : G.es[k] = x at *
   have hgs := hgA.at 2 rfl
   clear hJ hsg hg
   gi_wp2
   clear hgs
   obtain ⟨wo, rfl⟩ : ∃ wo : World, wo = wr := ⟨_, rfl⟩
   gi_loopw [20] (fun jv wx => ∃ (j : Nat) (pr2 : List (PrE G.es)), j ≤ G.es.length ∧ jv = .int .i64 j ∧ Hid (pr2.map Subtype.val = pre.map Subtype.val ++ prsR G.es k j) ∧ J pr2 wx ∧ VRow wx Bp 92 [.int .i64 G.q, .int .i64 G.n, .slice (some ⟨b3, o3, none⟩) G.es.length c, vb] ∧ SgB m wx (some ⟨b3, o3, none⟩) G.es ∧ m ≤ wx.heap.size ∧ VRow wx wo.heap.size 44 [.int .i64 x.f, .int .i64 x.l, .int .i64 x.t]) (fun jv _ => G.es.length - (intOf jv).toNat)
   case atStart => exact ⟨0, pre, Nat.zero_le _, rfl, by rw [Hid, prsR_zero, List.append_nil], hJA, hgA, hsA, hmA, hxA⟩
   case round =>
    clear hJA hgA hsA hmA hxA
    obtain ⟨j, pr2, hj, rfl, hp2, hJ, hg, hsg, hmW, hxx⟩ := hrel
    by_cases hlt2 : j < G.es.length
    ·obtain ⟨b4, o4, e', hb4, d0, d1, d2⟩ := hsg.sg.get3 j hlt2 rfl
     cases e'
     have HE2 := hidI (eget_eq G.es j hlt2)
     have HKj := hidI (HK.out j)
     have HKn := hidI (HK2.out j)
     rw [HE2.out] at HKj HKn
     have HLj := hidI (HL.out j hlt2)
     generalize hy : G.es[j] = y at *
     have hyA := VRow.new wr 44 [.int .i64 y.f, .int .i64 y.l, .int .i64 y.t]
     have hxA := hxx.alloc (.cells #[.int .i64 y.f, .int .i64 y.l, .int .i64 y.t] 44)
     have hgA := hg.alloc (.cells #[.int .i64 y.f, .int .i64 y.l, .int .i64 y.t] 44)
     have hsA := hsg.alloc hmW (.cells #[.int .i64 y.f, .int .i64 y.l, .int .i64 y.t] 44)
     have hJA := HA.out pr2 wr (.cells #[.int .i64 y.f, .int .i64 y.l, .int .i64 y.t] 44) hJ
     have hmA : m ≤ (wr.alloc (.cells #[.int .i64 y.f, .int .i64 y.l, .int .i64 y.t] 44)).heap.size := by simp; omega
     have hlj : pr2.length < 1024 * 1024 := by have h1 := HLj.out; rw [← hp2.out, List.length_map] at h1; exact h1
     have HYj := hidI (fun h : (k, j) ∈ prs G.es => HY.out pr2 ⟨(k, j), h⟩ (wr.alloc (.cells #[.int .i64 y.f, .int .i64 y.l, .int .i64 y.t] 44)) hJA hlj)
     clear hlj
     have x1 := hxA.at 1 rfl
     have y1 := hyA.at 1 rfl
     clear hJ hg hsg hxx
     by_cases he : x.l = y.l
     ·have hb : (x.l == y.l) = true := by simpa using he
      have HKj := hidI (HKj.out he)
      have HIN := hidI (mem_prs.2 ⟨hlt, hlt2, by rw [HE.out, HE2.out]; exact he⟩ : (k, j) ∈ prs G.es)
      obtain ⟨fn, tmps, assign, body, hyd, hR⟩ := HYj.out HIN.out
      unfold encPr at hyd
      simp only at hyd
      clear he HKn
      gi_wp2
      refine hR.mono ?_
      rintro e W3 (⟨rfl, hJ3, hk3⟩ | ⟨rfl, hJx3⟩)
      ·have hg3 := hk3.pairs hgA
       have hx3 := hk3.edge hxA
       have hs3 := hsA.kept hk3.1
       have hm3 := hk3.size hmA
       clear hgA hxA hsA hmA hyA x1 y1 d0 d1 d2
       gi_wp2
       go_roundw
       case rel => exact ⟨j + 1, pr2 ++ [⟨(k, j), HIN.out⟩], by omega, by go_num, by rw [Hid, HKj.out, List.map_append, hp2.out, List.append_assoc]; rfl, hJ3, hg3, hs3, hm3, hx3⟩
       case measure => simp [intOf]; omega
      ·clear hgA hxA hsA hmA hyA x1 y1 d0 d1 d2
       gi_wp2
       refine bodyPost_ret (results_none rfl _ _ _) rfl ?_
       exact ⟨⟨_, rfl⟩, .inr ⟨_, trivial, hJx3⟩⟩
     ·have hb : (x.l == y.l) = false := by simpa using he
      have HKn := hidI (HKn.out he)
      clear he HKj HYj
      gi_wp2
      rename_i K1 hK1 x2 h1 w1 e1
      refine ⟨fun f hf => (by cases hf), hK1 _ _ ?_⟩
      clear e1
      gi_wp2
      go_roundw
      case rel => exact ⟨j + 1, pr2, by omega, by go_num, by rw [Hid, HKn.out]; exact hp2.out, hJA, hgA, hsA, hmA, hxA⟩
      case measure => simp [intOf]; omega
    ·obtain rfl : j = G.es.length := by omega
     gi_wp2
     go_roundw
     case rel => exact ⟨k + 1, pr2, by omega, by go_num, by rw [Hid, HN.out, hp2.out, hp.out], hJ, hg, hsg, hmW⟩
     case measure => simp [intOf]; omega
  ·obtain rfl : k = G.es.length := by omega
   gi_wp2
   go_end0
   exact ⟨⟨_, rfl⟩, .inl ⟨_, hp.out, hJ⟩⟩
end
section
open Go
section
variable {P : Program} {ops : Array Oper} {Q : Exit → Act → World → Prop} {md : Region.Mode}
def rdyAtD (md : Region.Mode) (ops : Array Oper) (listed : Array Bool) (i : Nat) : Bool := ((ops[i]?).map (·.after.all fun e => !Region.binds md e || listed.getD e.on false)).getD false
theorem mem_readyD {listed : Array Bool} {i : Nat} : i ∈ Region.ready md ops listed ↔ i < ops.size ∧ listed.getD i true = false ∧ rdyAtD md ops listed i = true := by
 unfold Region.ready rdyAtD
 rw [List.mem_filter, List.mem_range, Bool.and_eq_true, Bool.not_eq_true']
theorem getD_falseD {listed : Array Bool} {i : Nat} (h : listed.getD i true = false) : ∃ hi : i < listed.size, listed[i] = false := by
 by_cases hi : i < listed.size
 ·refine ⟨hi, ?_⟩
  simpa [Array.getD, hi] using h
 ·simp [Array.getD, hi] at h
theorem wpAny_invD (Inv : Array Bool → Act → World → Prop)
  (hstep : ∀ listed a w i, Inv listed a w → i ∈ Region.ready md ops listed → wpOp P ops Q i (Inv (listed.setIfInBounds i true)) a w)
  (hend : ∀ listed a w, Inv listed a w → Region.ready md ops listed = [] → Q .normal a w) :
  ∀ (fuel : Nat) (listed : Array Bool) (a : Act) (w : World), listed.toList.count false ≤ fuel → Inv listed a w → wpAny P md ops Q fuel listed a w
 | 0, listed, a, w, hc, hI => by
  have hr : Region.ready md ops listed = [] := by
   rw [List.eq_nil_iff_forall_not_mem]
   intro i hi
   obtain ⟨hl, he⟩ := getD_falseD (mem_readyD.1 hi).2.1
   have hm : false ∈ listed.toList := by rw [← he]; exact Array.getElem_mem_toList hl
   have := List.count_pos_iff.2 hm
   omega
  exact ⟨hr, hend _ _ _ hI hr⟩
 | fuel + 1, listed, a, w, hc, hI => ⟨hend _ _ _ hI, fun i hi => wpOp_mono (fun a' w' h => wpAny_invD Inv hstep hend fuel _ a' w' (by
   obtain ⟨hl, he⟩ := getD_falseD (mem_readyD.1 hi).2.1
   rw [Array.toList_setIfInBounds, List.count_set (by simpa using hl)]
   have hm : false ∈ listed.toList := by rw [← he]; exact Array.getElem_mem_toList hl
   have := List.count_pos_iff.2 hm
   have e2 : (listed.toList[i]'(by simpa using hl)) = false := by simpa using he
   rw [e2]
   rw [if_pos (by rfl), if_neg (by decide)]
   omega) h) (hstep _ _ _ i hI hi)⟩
theorem ready_nilD {listed : Array Bool} (hs : listed.size = ops.size) (hd : ((List.range ops.size).all fun i => ((ops[i]?).map (·.after.all fun e => !Region.binds md e || decide (e.on < i))).getD true) = true)
  (h : Region.ready md ops listed = []) : ∀ i, i < ops.size → listed.getD i false = true := by
 intro i
 induction i using Nat.strongRecOn with
 | ind i ih =>
  intro hi
  cases hx : listed.getD i false with
  | true => rfl
  | false =>
   exfalso
   have hl : i < listed.size := by omega
   have hx2 : listed.getD i true = false := by simpa [Array.getD, hl] using hx
   have : i ∈ Region.ready md ops listed := by
    rw [mem_readyD]
    refine ⟨hi, hx2, ?_⟩
    have h1 := List.all_eq_true.1 hd i (List.mem_range.2 hi)
    unfold rdyAtD
    rw [Array.getElem?_eq_getElem hi] at h1 ⊢
    simp only [Option.map_some, Option.getD_some, Array.all_eq_true] at h1 ⊢
    intro j hj
    have h2 := h1 j hj
    cases hb : Region.binds md ops[i].after[j] with
    | false => rfl
    | true =>
     rw [hb, Bool.not_true, Bool.false_or] at h2
     have h3 := of_decide_eq_true h2
     rw [ih _ h3 (by omega), Bool.or_true]
   rw [h] at this
   cases this
end
def frD (A : Act) (f : Nat → Option Value) : Act := { A with tmps := A.tmps.mapIdx fun i v => (f i).getD v }
theorem fr_noneD (A : Act) : frD A (fun _ => none) = A := by
 unfold frD
 have : (A.tmps.mapIdx fun i v => ((none : Option Value)).getD v) = A.tmps := by apply Array.ext <;> simp
 rw [this]
theorem fr_putD {A : Act} {f : Nat → Option Value} (t : Nat) (v : Value) : (frD A f).put (some t) v = frD A (fun i => if i = t then some v else f i) := by
 unfold frD Act.put
 simp only
 congr 1
 apply Array.ext
 ·simp
 ·intro i h1 h2
  by_cases e : t = i
  ·subst e; simp
  ·have e' : ¬ i = t := fun h => e h.symm
   rw [Array.getElem_setIfInBounds_ne (by simpa using h2) e]
   simp [e']
theorem fr_put0D {A : Act} {f : Nat → Option Value} (v : Value) : (frD A f).put none v = frD A f := rfl
theorem dst_uniqD {ops : Array Oper} (hn : (ops.toList.filterMap (·.dst)).Nodup) {i j : Nat} {o o' : Oper} {t : Nat} (hi : ops[i]? = some o) (hj : ops[j]? = some o') (ht : o.dst = some t) (ht' : o'.dst = some t) : i = j := by
 have key : ∀ (l : List Oper), (l.filterMap (·.dst)).Nodup → ∀ (i j : Nat) (o o' : Oper), l[i]? = some o → l[j]? = some o' → o.dst = some t → o'.dst = some t → i = j := by
  intro l
  induction l with
  | nil => intro _ i j o o' h; simp at h
  | cons x l ih =>
   intro hn i j o o' hi hj h1 h2
   have hn' : (l.filterMap (·.dst)).Nodup := by
    rw [List.filterMap_cons] at hn
    split at hn
    ·exact hn
    ·exact (List.nodup_cons.1 hn).2
   have hx : ∀ (k : Nat) (o'' : Oper), l[k]? = some o'' → o''.dst = some t → x.dst ≠ some t := by
    intro k o'' hk ho'' he
    rw [List.filterMap_cons, he] at hn
    exact (List.nodup_cons.1 hn).1 (List.mem_filterMap.2 ⟨o'', List.mem_of_getElem? hk, ho''⟩)
   cases i with
   | zero =>
    cases j with
    | zero => rfl
    | succ j => simp at hi hj; subst hi; exact absurd h1 (hx j o' hj h2)
   | succ i =>
    cases j with
    | zero => simp at hi hj; subst hj; exact absurd h2 (hx i o hi h1)
    | succ j => simp at hi hj; rw [ih hn' i j o o' hi hj h1 h2]
 exact key ops.toList hn i j o o' (by simpa using hi) (by simpa using hj) ht ht'
def dstsD (ops : Array Oper) : List Nat := ops.toList.filterMap (·.dst)
section
variable {P : Program} {ops : Array Oper} {Q : Exit → Act → World → Prop}
theorem getD_setD {l : Array Bool} {i j : Nat} (h : l.getD j false = true) : (l.setIfInBounds i true).getD j false = true := by
 by_cases hj : j < l.size
 ·by_cases e : i = j
  ·subst e; simp [Array.getD, hj]
  ·simp [Array.getD, hj] at h
   simp [Array.getD, hj, e, h]
 ·simp [Array.getD, hj] at h
structure InvD (ops : Array Oper) (vals : Nat → Value) (S : World → Prop) (l : Array Bool) (f : Nat → Option Value) (W : World) : Prop where
 sz : l.size = ops.size
 st : S W
 dom : ∀ t, t ∉ dstsD ops → f t = none
 val : ∀ i o t, ops[i]? = some o → o.dst = some t → l.getD i false = true → f t = some (vals i)
theorem region_det {id : Nat} {A : Act} {w : World} (hm : P.follows .mixedOrders = true) (vals : Nat → Value) (S : World → Prop)
  (hd : ((List.range ops.size).all fun i => ((ops[i]?).map (·.after.all fun e => !Region.binds .any e || decide (e.on < i))).getD true) = true)
  (hn : (dstsD ops).Nodup) (hlt : (dstsD ops).all (fun t => decide (t < A.tmps.size)) = true)
  (h0 : S { w with drawn := w.drawn + 1 })
  (hstep : ∀ (i : Nat) (o : Oper), ops[i]? = some o → ∀ (a : Act) (W : World), S W → a.tmps.size = A.tmps.size →
   (∀ e ∈ o.after, Region.binds .any e = true → ∀ o', ops[e.on]? = some o' → ∀ t, o'.dst = some t → a.tmps[t]? = some (vals e.on)) →
   (∀ t, t ∉ dstsD ops → a.tmps[t]? = A.tmps[t]?) →
   ∀ K : Act → World → Prop, (∀ W', S W' → K (a.put o.dst (vals i)) W') → if Region.wanted o (yielded ops a.tmps) = true then Oper.wp P o a W K Q else K (a.put o.dst undef) W)
  (hend : ∀ f W, S W → (∀ t, t ∉ dstsD ops → f t = none) → (∀ i o t, ops[i]? = some o → o.dst = some t → f t = some (vals i)) → Q .normal (frD A f) W) :
  (Code.region id ops true).wp P Q A w := by
 refine wp_region_any hm (wpAny_invD (fun l a W => ∃ f, a = frD A f ∧ InvD ops vals S l f W) ?_ ?_ _ _ _ _ ?_ ?_)
 ·rintro l a W i ⟨f, rfl, hI⟩ hi
  obtain ⟨h1, h2, h3⟩ := mem_readyD.1 hi
  obtain ⟨hl, he⟩ := getD_falseD h2
  have ho : ops[i]? = some ops[i] := Array.getElem?_eq_getElem h1
  refine wpOp_step ho (fun K hK => ?_)
  refine hstep i ops[i] ho (frD A f) W hI.st (by simp [frD]) ?_ ?_ K ?_
  ·intro e he' hb o' hoe t hdt
   have h4 : l.getD e.on false = true := by
    unfold rdyAtD at h3
    rw [ho] at h3
    simp only [Option.map_some, Option.getD_some, Array.all_eq_true] at h3
    obtain ⟨k, hk, rfl⟩ := Array.mem_iff_getElem.1 he'
    have := h3 k hk
    rw [Bool.or_eq_true] at this
    rcases this with h5 | h5
    ·rw [hb] at h5; cases h5
    ·exact h5
   have hv := hI.val e.on o' t hoe hdt h4
   have ht : t < A.tmps.size := by
    have := List.all_eq_true.1 hlt t (by unfold dstsD; exact List.mem_filterMap.2 ⟨o', by have := Array.mem_of_getElem? hoe; simpa using this, hdt⟩)
    exact of_decide_eq_true this
   simp only [frD, Array.getElem?_mapIdx, hv, Option.getD_some]
   rw [Array.getElem?_eq_getElem ht]; rfl
  ·intro t ht
   simp only [frD, Array.getElem?_mapIdx, hI.dom t ht, Option.getD_none]
   cases A.tmps[t]? <;> rfl
  ·intro W' hS
   refine hK _ _ ⟨(match ops[i].dst with | some t => fun k => if k = t then some (vals i) else f k | none => f), ?_, ?_⟩
   ·cases hx : ops[i].dst with
    | none => exact fr_put0D _
    | some t => exact fr_putD t _
   ·refine ⟨by simpa using hI.sz, hS, ?_, ?_⟩
    ·intro t ht
     cases hx : ops[i].dst with
     | none => exact hI.dom t ht
     | some t' =>
      have : t ≠ t' := by
       rintro rfl
       exact ht (by unfold dstsD; exact List.mem_filterMap.2 ⟨ops[i], by simp, hx⟩)
      show (if t = t' then _ else f t) = none
      rw [if_neg this]; exact hI.dom t ht
    ·intro j o t hoj hdt hdone
     by_cases hij : j = i
     ·subst hij
      rw [ho] at hoj
      cases hoj
      rw [hdt]
      show (if t = t then some (vals j) else f t) = _
      rw [if_pos rfl]
     ·have hold : l.getD j false = true := by
       by_cases hjl : j < l.size
       ·simp [Array.getD, hjl, Ne.symm hij] at hdone
        simp [Array.getD, hjl, hdone]
       ·simp [Array.getD, hjl] at hdone
      have hv := hI.val j o t hoj hdt hold
      cases hx : ops[i].dst with
      | none => exact hv
      | some t' =>
       show (if t = t' then some (vals i) else f t) = _
       have : t ≠ t' := by
        rintro rfl
        exact hij (dst_uniqD hn hoj ho hdt hx)
       rw [if_neg this]; exact hv
 ·rintro l a W ⟨f, rfl, hI⟩ hr
  have hall := ready_nilD hI.sz hd hr
  refine hend f W hI.st hI.dom (fun i o t ho ht => hI.val i o t ho ht (hall i ?_))
  exact (Array.getElem?_eq_some_iff.1 ho).1
 ·rw [Array.toList_replicate]
  exact Nat.le_trans List.count_le_length (by simp)
 ·exact ⟨_, (fr_noneD A).symm, by simp, h0, fun _ _ => rfl, fun i o t ho ht hx => by
   by_cases hjl : i < ops.size <;> simp [Array.getD, hjl] at hx⟩
def putsD (A : Act) (L : List (Nat × Value)) : Act := L.foldl (fun a p => a.put (some p.1) p.2) A
def updD (g : Nat → Option Value) (p : Nat × Value) : Nat → Option Value := fun k => if k = p.1 then some p.2 else g k
theorem putsD_fr {A : Act} : ∀ (L : List (Nat × Value)) (g : Nat → Option Value), L.foldl (fun a p => a.put (some p.1) p.2) (frD A g) = frD A (L.foldl updD g)
 | [], _ => rfl
 | p :: L, g => by
  rw [List.foldl_cons, List.foldl_cons, fr_putD]
  exact putsD_fr L _
theorem updD_out : ∀ (L : List (Nat × Value)) (g : Nat → Option Value) (t : Nat), t ∉ L.map (·.1) → L.foldl updD g t = g t
 | [], _, _, _ => rfl
 | p :: L, g, t, h => by
  rw [List.map_cons, List.mem_cons, not_or] at h
  rw [List.foldl_cons, updD_out L _ t h.2]
  show (if t = p.1 then some p.2 else g t) = g t
  rw [if_neg h.1]
theorem updD_in : ∀ (L : List (Nat × Value)) (g : Nat → Option Value) (i : Nat) (h : i < L.length), (L.map (·.1)).Nodup → L.foldl updD g L[i].1 = some L[i].2
 | [], _, i, h, _ => by simp at h
 | p :: L, g, 0, _, hn => by
  rw [List.foldl_cons]
  show L.foldl updD (updD g p) p.1 = some p.2
  rw [updD_out L _ p.1 (List.nodup_cons.1 hn).1]
  show (if p.1 = p.1 then some p.2 else g p.1) = some p.2
  rw [if_pos rfl]
 | p :: L, g, i + 1, h, hn => by
  rw [List.foldl_cons]
  exact updD_in L _ i (by simpa using h) (List.nodup_cons.1 hn).2
theorem region_detL {id : Nat} {A : Act} {w : World} (hm : P.follows .mixedOrders = true) (L : List (Nat × Value)) (S : World → Prop)
  (hL : L.map (fun p => some p.1) = ops.toList.map (·.dst))
  (hd : ((List.range ops.size).all fun i => ((ops[i]?).map (·.after.all fun e => !Region.binds .any e || decide (e.on < i))).getD true) = true)
  (hnb : decide (L.map (·.1)).Nodup = true) (hlt : (L.map (·.1)).all (fun t => decide (t < A.tmps.size)) = true)
  (h0 : S { w with drawn := w.drawn + 1 })
  (hstep : ∀ (i : Nat) (o : Oper), ops[i]? = some o → ∀ (a : Act) (W : World), S W →
   (∀ e ∈ o.after, Region.binds .any e = true → ∀ p, L[e.on]? = some p → a.tmps[p.1]? = some p.2) →
   (∀ t, (L.map (·.1)).contains t = false → a.tmps[t]? = A.tmps[t]?) →
   ∀ K : Act → World → Prop, (∀ W', S W' → K (a.put o.dst ((L[i]?.map (·.2)).getD undef)) W') → if Region.wanted o (yielded ops a.tmps) = true then Oper.wp P o a W K Q else K (a.put o.dst undef) W)
  (hend : ∀ W, S W → Q .normal (putsD A L) W) :
  (Code.region id ops true).wp P Q A w := by
 have hn := of_decide_eq_true hnb
 have hlen : L.length = ops.size := by
  have := congrArg List.length hL
  simpa using this
 have hdst : dstsD ops = L.map (·.1) := by
  unfold dstsD
  have h1 : ∀ (l : List Oper) (M : List (Nat × Value)), M.map (fun p => some p.1) = l.map (·.dst) → l.filterMap (·.dst) = M.map (·.1) := by
   intro l
   induction l with
   | nil => intro M h; cases M with
    | nil => rfl
    | cons p M => simp at h
   | cons o l ih =>
    intro M h
    cases M with
    | nil => simp at h
    | cons p M =>
     simp only [List.map_cons, List.cons.injEq] at h
     rw [List.filterMap_cons, ← h.1, ih M h.2]; rfl
  exact h1 _ _ hL
 have hat : ∀ (i : Nat) (o : Oper) (t : Nat), ops[i]? = some o → o.dst = some t → ∃ v, L[i]? = some (t, v) := by
  intro i o t ho ht
  have h1 := congrArg (fun l => l[i]?) hL
  simp only [List.getElem?_map] at h1
  rw [show ops.toList[i]? = some o by simpa using ho] at h1
  cases hx : L[i]? with
  | none => rw [hx] at h1; simp at h1
  | some p =>
   rw [hx] at h1
   simp only [Option.map_some, Option.some.injEq] at h1
   rw [ht] at h1
   obtain ⟨a, b⟩ := p
   cases h1
   exact ⟨b, rfl⟩
 refine region_det hm (fun i => (L[i]?.map (·.2)).getD undef) S hd (by rw [hdst]; exact hn) (by rw [hdst]; exact hlt) h0 ?_ ?_
 ·intro i o ho a W hS hz hdep hout K hK
  refine hstep i o ho a W hS ?_ (fun t ht => hout t (by rw [hdst]; intro hm; rw [List.contains_iff_mem.2 hm] at ht; cases ht)) K hK
  intro e he hb p hp
  have hel : e.on < ops.size := by rw [← hlen]; exact (List.getElem?_eq_some_iff.1 hp).1
  have ho' : ops[e.on]? = some ops[e.on] := Array.getElem?_eq_getElem hel
  have hdp : ops[e.on].dst = some p.1 := by
   have h1 := congrArg (fun l => l[e.on]?) hL
   simp only [List.getElem?_map] at h1
   rw [hp, show ops.toList[e.on]? = some ops[e.on] by rw [Array.getElem?_toList]; exact ho'] at h1
   simpa using h1.symm
  have := hdep e he hb _ ho' p.1 hdp
  rw [this]
  show some ((L[e.on]?.map (·.2)).getD undef) = _
  rw [hp]; rfl
 ·intro f W hS hout hval
  have hf : f = L.foldl updD (fun _ => none) := by
   funext t
   by_cases ht : t ∈ L.map (·.1)
   ·obtain ⟨i, hi, he⟩ := List.mem_iff_getElem.1 ht
    have hi' : i < L.length := by simpa using hi
    have h1 := updD_in L (fun _ => none) i hi' hn
    have e2 : L[i].1 = t := by simpa using he
    rw [e2] at h1
    rw [h1]
    have hio : i < ops.size := by omega
    have ho' : ops[i]? = some ops[i] := Array.getElem?_eq_getElem hio
    have hdp : ops[i].dst = some t := by
     have h1 := congrArg (fun l => l[i]?) hL
     simp only [List.getElem?_map] at h1
     rw [List.getElem?_eq_getElem hi', show ops.toList[i]? = some ops[i] by rw [Array.getElem?_toList]; exact ho'] at h1
     simp only [Option.map_some, Option.some.injEq] at h1
     rw [← h1, e2]
    have := hval i _ t ho' hdp
    rw [this, List.getElem?_eq_getElem hi']; rfl
   ·rw [hout t (by rw [hdst]; exact ht), updD_out L _ t ht]
  have := hend W hS
  have e : L.foldl (fun a p => a.put (some p.1) p.2) (frD A (fun _ => none)) = frD A f := by rw [putsD_fr, ← hf]
  rw [fr_noneD] at e
  unfold putsD at this
  rw [e] at this
  exact this
end
end
end Go.Proofs.YtocbhlohcikapaaGreatDoor
