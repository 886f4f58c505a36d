/-
  Words, plain lemmas and walks, merged: Mt, Mv, Dg, Dh, Db, Ac, Dc, Dj, Ad, Ae.
-/
import Derived.Test.YtocbhlohcikapaaGreatDoorZul
import Derived.Test.YtocbhlohcikapaaGreatDoorZub
import Derived.Test.YtocbhlohcikapaaGreatDoorZua
import Derived.Test.YtocbhlohcikapaaGreatDoorZuk
import Derived.Test.YtocbhlohcikapaaGreatDoorZue
import Derived.Test.YtocbhlohcikapaaGreatDoorZuc
import Derived.Test.YtocbhlohcikapaaGreatDoorZuh
set_option linter.unusedVariables false
set_option linter.unusedSimpArgs false
namespace Go.Proofs.YtocbhlohcikapaaGreatDoor
section
open Go.RowKit Go.Sort Go.Shelf
def numAt (W : World) (v : Value) : Int := match v with
 | .pointer (some a) => intOf ((W.cell? a).getD undef)
 | _ => 0
theorem numAt_row {W : World} {B : Nat} {k : Int} (h : VRow W B 3 [.int .i64 k]) : numAt W (.pointer (some ⟨B, 0, none⟩)) = k := by
 show intOf ((W.cell? _).getD undef) = k; rw [h.at 0 rfl]; rfl
def RetCy (o : Option (List (Nat × Nat))) (w : World) (e : Ending) (w' : World) : Prop := RowKit.Below w.heap.size w w' ∧ ∃ p q ca cb, e = .returned (.tuple #[.slice p (o.getD []).length ca, .slice q (o.getD []).length cb]) ∧ (o = none → p = none) ∧ Sl w' (Value.int .i64) p (fstI (o.getD [])) ∧ Sl w' (Value.int .i64) q (sndI (o.getD []))
set_option maxRecDepth 100000 in
set_option maxHeartbeats 4000000 in
theorem mmCycle_any (G : Gr) (p : Option Addr) (c M N bn s n : Nat) (hv : Vg G) (hN : G.n = N) (hM : M = N * N) (hs : s < M) (hn : n ≤ 4097) (w : World) (hin : Sg 3 w edE p G.es) (hD : DbM w bn M (dnx N G.es)) :
  Calls Tryz.prog 88 #[(.agg #[.int .i64 G.q, .int .i64 G.n, .slice p G.es.length c, .slice (some ⟨bn, 0, none⟩) M M]), .int .i64 s, .int .i64 n] w (RetCy (cycA N G.es s n) w) := by
 obtain ⟨i1, hi1, hy0, hy1, hy3⟩ := info_parts infoIg
 obtain ⟨i3, hi3, hz0, hz1, hz3⟩ := info_parts infoCb
 have hN64 : N ≤ 64 := by have := hv.n2; omega
 have hM4 : M ≤ 4096 := by rw [hM]; exact Nat.mul_le_mul hN64 hN64
 have hlen := hv.len
 have hmk := run_make_row' (P := Tryz.prog) 90 4 (.bool false) 1 Tryz.underlying90 infoBl rfl .i64 .i64 M (by omega) (by omega)
 obtain ⟨w0, hw0⟩ : ∃ w0, w0 = w.alloc (.cells #[.int .i64 G.q, .int .i64 G.n, .slice p G.es.length c, .slice (some ⟨bn, 0, none⟩) M M] 103) := ⟨_, rfl⟩
 have b0 : VRow w0 w.heap.size 103 [.int .i64 G.q, .int .i64 G.n, .slice p G.es.length c, .slice (some ⟨bn, 0, none⟩) M M] := by subst hw0; exact VRow.new w _ _
 have hB0 : RowKit.Below w.heap.size w w0 := by subst hw0; exact (RowKit.Below.refl _ _).alloc (Nat.le_refl _) _
 have HX := hidI (fun W (h : RowKit.Below w0.heap.size w0 W) => hB0.trans (h.mono hB0.size))
 have HB := hidI (fun W (h : RowKit.Below w0.heap.size w0 W) => b0.below h b0.lt)
 have HD0 := hidI (hD.below hB0)
 have HV := hidI hv; have HNN := hidI hN; have HMM := hidI hM
 have HIN := hidI (fun W (h : RowKit.Below w0.heap.size w0 W) => (hin.below hB0).below h)
 have HRL := hidI (fun n => dnx_len N G.es n hlen)
 have HRM := hidI (fun n x (h : x ∈ dnx N G.es n) => mem_dnx h)
 have hsI : (s : Int) < (M : Int) := by omega
 obtain ⟨K, hK⟩ : ∃ K, K = n + 1 := ⟨_, rfl⟩
 have q0 : IntKind.i64.wrap ((n : Int) + 1) = (K : Int) := by rw [IntWalk.i64_in _ (by omega)]; omega
 have hK5 : K ≤ 5000 := by omega
 have hKp : (0 : Int) < (K : Int) := by omega
 have hKq : 0 < K := by omega
 have HKN := hidI hK
 have f3 := b0.at 3 rfl
 clear hv hN hM hin hD hK
 go_enter Tryz.func88, Tryz.ntmps88
 go_upto_region 1 with fail
 rw [← hw0]
 clear hw0
 go_upto_region 2 with (at_make; refine wpList_make_full _ rfl _ _ 94 rfl w0.heap.size 90 i3 (.slice none 0 0) 1 Tryz.underlying94 hi3 hz0 hz1 .i64 .i64 _ _ K rfl rfl (by omega) (by omega) (by rw [hz3]; omega) (by unfold maxLen; omega) (Nat.le_refl _) ?_; intro w1 hown hgrow)
 have hr1 := made_rowZ (z := .slice none 0 0) rfl hown
 have hB1 : RowKit.Below w0.heap.size w0 w1 := (RowKit.Below.refl _ _).grown hgrow (Nat.le_refl _) (by simp)
 clear hown hgrow f3 b0 hB0 q0
 obtain ⟨w2, hw2⟩ : ∃ w2, w2 = w1.alloc (.cells #[.slice (some ⟨w0.heap.size, 0, none⟩) K K] 94) := ⟨_, rfl⟩
 have h8 : VRow w2 w1.heap.size 94 [.slice (some ⟨w0.heap.size, 0, none⟩) K K] := by subst hw2; exact VRow.new w1 _ _
 have hc2 : VRow w2 w0.heap.size 90 (List.replicate K (.slice none 0 0)) := by subst hw2; exact hr1.alloc _
 have hB2 : RowKit.Below w0.heap.size w0 w2 := by subst hw2; exact hB1.alloc hB1.size _
 obtain ⟨bc, hbc⟩ : ∃ bc, bc = w0.heap.size := ⟨_, rfl⟩
 obtain ⟨B8, hB8⟩ : ∃ B8, B8 = w1.heap.size := ⟨_, rfl⟩
 rw [← hw2, ← hbc, ← hB8]
 rw [← hbc] at h8 hc2
 rw [← hB8] at h8
 have HBC : Hid (w0.heap.size ≤ bc) := by unfold Hid; omega
 have hbcl := hc2.lt
 have hB8l := h8.lt
 clear hw2 hr1 hB1 hbc hB8
 refine region_detW (by kernel_rfl) 7 [(some 21, some (.slice (some ⟨bc, 0, none⟩) K K)), (some 22, some (.pointer (some ⟨w.heap.size, 3, none⟩))), (some 23, some (.slice (some ⟨bn, 0, none⟩) M M)), (some 24, some (.int .i64 (M : Int))), (some 25, none), (some 26, some (.pointer (some ⟨bc, 0, none⟩))), (none, none)]
  (fun d f W => Kp4 w2 bc 0 M (d 6) (f 25) W) (by kernel_rfl) (by kernel_rfl) (by kernel_rfl) (by kernel_rfl) (Kp4.start _ _ _ _) ?_ ?_
 focus
  intro i o ho a d f W hS hdi hdn hnd hdep hout hold KK hKK
  have hil : i < 7 := (Array.getElem?_eq_some_iff.1 ho).1
  have hcases : i = 0 ∨ i = 1 ∨ i = 2 ∨ i = 3 ∨ i = 4 ∨ i = 5 ∨ i = 6 := by omega
  clear hil
  have u3 := hout 3 (by kernel_rfl)
  have u8 := hout 8 (by kernel_rfl)
  simp at u3 u8
  clear hout
  have e6 : d 6 = false := by
   rcases hcases with rfl | rfl | rfl | rfl | rfl | rfl | rfl
   ·exact hnd 6 (by kernel_rfl)
   ·exact hnd 6 (by kernel_rfl)
   ·exact hnd 6 (by kernel_rfl)
   ·exact hnd 6 (by kernel_rfl)
   ·exact hnd 6 (by kernel_rfl)
   ·exact hnd 6 (by kernel_rfl)
   ·exact hdi
  have hb := hS.p e6
  have c8 := (h8.below hb h8.lt).at 0 rfl
  have d3 := (HB.out W (hB2.trans (hb.mono hB2.size))).at 3 rfl
  have hcW := hc2.below hb hbcl
  have z0 := hcW.frozen 0
  clear hb h8 hc2 hB2
  rcases hcases with rfl | rfl | rfl | rfl | rfl | rfl | rfl
  all_goals (simp only [List.getElem?_toArray, List.getElem?_cons_succ, List.getElem?_cons_zero, Option.some.injEq] at ho; subst ho; simp [Region.binds] at hdep; (try go_split_ands))
  ·go_simp; exact hKK _ _ (fun u hu => Option.some.inj hu) hS
  ·go_simp; exact hKK _ _ (fun u hu => Option.some.inj hu) hS
  ·go_simp; exact hKK _ _ (fun u hu => Option.some.inj hu) hS
  ·go_simp; exact hKK _ _ (fun u hu => Option.some.inj hu) hS
  ·have h25 := (hold 4 (by kernel_rfl) _ rfl 25 rfl).1
   have h := hS
   rw [e6, h25] at h
   have hfin := h.make (cs := madeCells #[.bool false] M) (by apply Array.toList_inj.1; rw [toList_madeCells_one])
   clear z0
   go_simp
   exact hKK _ _ (fun u hu => by cases hu) (by
    show Kp4 _ _ _ _ (d 6) (some _) _
    rw [e6]; exact hfin)
  ·go_simp; exact hKK _ _ (fun u hu => Option.some.inj hu) hS
  ·obtain ⟨v, hv, hat⟩ : ∃ v, f 25 = some v ∧ a.tmps[25]? = some v := by assumption
   obtain ⟨b, rfl, hbl, hrb⟩ := hS.m e6 _ hv
   have h := hS
   rw [e6, hv] at h
   have hfin := h.store
   have k0 := hcW.at 0 (v := .slice none 0 0) (by rw [List.getElem?_replicate]; exact if_pos (by omega))
   have HV1 := hidI hv
   clear hrb h hv
   go_simp
   exact hKK undef _ (fun u hu => by cases hu) (by
    show Kp4 _ _ _ _ true (f 25) _
    rw [HV1.out]; exact hfin)
 intro d f W9 hS hall hf
 have e6 : d 6 = true := hall 6 (by decide)
 obtain ⟨V, b, hV, hbl, hrb, rfl⟩ := hS.q e6
 simp only [putsD, List.filterMap_cons, List.filterMap_nil, Option.map_some, Option.map_none, Option.getD_some, Option.getD_none, List.foldl_cons, List.foldl_nil, Act.put, List.setIfInBounds_toArray, List.set_cons_zero, List.set_cons_succ]
 generalize (f 25).getD undef = v25
 clear hf hall hS e6
 have a8 := (h8.below hV h8.lt); have ac := hc2.below hV hbcl
 have aB := hB2.trans (hV.mono hB2.size)
 have ac2 := VRow.set (i := 0) (.slice (some ⟨b, 0, none⟩) M M) ac
 have a82 := a8.other (i := 0) (.slice (some ⟨b, 0, none⟩) M M) (row_ne a8 ac (by decide))
 have ab2 := hrb.other (i := 0) (.slice (some ⟨b, 0, none⟩) M M) (row_ne hrb ac (by decide))
 have aB2 := aB.setCell (p := ⟨bc, 0, none⟩) HBC.out (.slice (some ⟨b, 0, none⟩) M M)
 have hb0 : w0.heap.size ≤ b := Nat.le_trans hB2.size hbl
 generalize V.setCell ⟨bc, 0, none⟩ (.slice (some ⟨b, 0, none⟩) M M) = V2 at *
 clear a8 ac aB hrb h8 hc2 hB2 hV hbl
 have c8 := a82.at 0 rfl
 have cc := ac2.at 0 (v := .slice (some ⟨b, 0, none⟩) M M) (by rw [List.getElem?_set_self (by simp; omega)])
 have cb := ab2.at s (v := .bool false) (by rw [List.getElem?_replicate]; exact if_pos hs)
 have zb := ab2.frozen s
 go_upto_region 4 with fail
 clear cc cb zb c8
 have ab3 := VRow.set (i := s) (.bool true) ab2
 have a83 := a82.other (i := s) (.bool true) (row_ne a82 ab2 (by decide))
 have ac3 := ac2.other (i := s) (.bool true) (row_ne ac2 ab2 (by decide))
 have aB3 := aB2.setCell (p := ⟨b, s, none⟩) hb0 (.bool true)
 generalize V2.setCell ⟨b, s, none⟩ (.bool true) = V3 at *
 clear a82 ac2 ab2 aB2
 obtain ⟨w4, hw4⟩ : ∃ w4, w4 = V3.alloc (.cells #[.int .i64 1] 3) := ⟨_, rfl⟩
 have hCy : CyM w0 B8 V3.heap.size bc K M 1 ((List.replicate K (.slice none 0 0)).set 0 (.slice (some ⟨b, 0, none⟩) M M)) (fun _ => b) (canA N G.es s) 1 w4 := by
  rw [hw4]
  refine ⟨aB3.alloc aB3.size _, a83.alloc _, VRow.new V3 _ _, ac3.alloc _, by simp, fun i hi => ?_, fun i hi => ?_, fun i j hi hj hij => by omega, fun i hi => hb0, HBC.out, aB3.size⟩
  ·obtain rfl : i = 0 := by omega
   rw [List.getElem?_set_self (by simp; omega)]
  ·obtain rfl : i = 0 := by omega
   rw [canA, ← HMM.out, List.map_set, List.map_replicate]
   exact ab3.alloc _
 obtain ⟨B9, hB9⟩ : ∃ B9, B9 = V3.heap.size := ⟨_, rfl⟩
 rw [← hB9] at hCy
 go_upto_region 5 with fail
 rw [← hw4, ← hB9]
 clear hw4 hB9 aB3 a83 ac3 ab3
 have hKp2 : 1 ≤ K := by omega
 go_loopw [9] (fun kv wr => ∃ (k B9 : Nat) (rows : List Value) (br : Nat → Nat), k + 1 ≤ K ∧ kv = .pointer (some ⟨B9, 0, none⟩) ∧ CyM w0 B8 B9 bc K M ((k : Int) + 1) rows br (canA N G.es s) (k + 1) wr) (fun kv wr => K - (numAt wr kv).toNat)
 case atStart => exact ⟨0, B9, _, _, hKp2, rfl, hCy⟩
 case round =>
  clear hCy
  obtain ⟨k, B9, rows, br, hk, rfl, hC⟩ := hrel
  have c9 := hC.b9.at 0 rfl
  have HM0 := hidI (numAt_row hC.b9)
  by_cases hlt : k + 1 < K
  ·have hltI : (k : Int) + 1 ≤ (n : Int) := by have := HKN.out; omega
   have hkKI : (k : Int) + 1 < (K : Int) := by omega
   have q2 : IntKind.i64.wrap ((k : Int) + 1 + 1) = (k : Int) + 1 + 1 := IntWalk.i64_in _ (by omega)
   have HQ2 := hidI q2
   clear q2
   go_upto_region 7 with fail
   clear c9
   refine region_detW (by kernel_rfl) 8 [(some 37, some (.slice (some ⟨bc, 0, none⟩) K K)), (some 38, some (.int .i64 ((k : Int) + 1))), (some 39, some (.pointer (some ⟨w.heap.size, 3, none⟩))), (some 40, some (.slice (some ⟨bn, 0, none⟩) M M)), (some 41, some (.int .i64 (M : Int))), (some 42, none), (some 43, some (.pointer (some ⟨bc, k + 1, none⟩))), (none, none)]
    (fun d f W => Kp4 wr bc (k + 1) M (d 7) (f 42) W) (by kernel_rfl) (by kernel_rfl) (by kernel_rfl) (by kernel_rfl) (Kp4.start _ _ _ _) ?_ ?_
   focus
    intro i o ho a d f W hS hdi hdn hnd hdep hout hold KK hKK
    have hil : i < 8 := (Array.getElem?_eq_some_iff.1 ho).1
    have hcases : i = 0 ∨ i = 1 ∨ i = 2 ∨ i = 3 ∨ i = 4 ∨ i = 5 ∨ i = 6 ∨ i = 7 := by omega
    clear hil
    have u3 := hout 3 (by kernel_rfl)
    have u8 := hout 8 (by kernel_rfl)
    have u9 := hout 9 (by kernel_rfl)
    simp at u3 u8 u9
    clear hout
    have e7 : d 7 = false := by
     rcases hcases with rfl | rfl | rfl | rfl | rfl | rfl | rfl | rfl
     ·exact hnd 7 (by kernel_rfl)
     ·exact hnd 7 (by kernel_rfl)
     ·exact hnd 7 (by kernel_rfl)
     ·exact hnd 7 (by kernel_rfl)
     ·exact hnd 7 (by kernel_rfl)
     ·exact hnd 7 (by kernel_rfl)
     ·exact hnd 7 (by kernel_rfl)
     ·exact hdi
    have hb := hS.p e7
    have hCW := hC.below hb
    have c8 := hCW.b8.at 0 rfl
    have c9 := hCW.b9.at 0 rfl
    have d3 := (HB.out W hCW.b).at 3 rfl
    have hkl : k + 1 < rows.length := by rw [hC.len]; exact hlt
    have k0 := hCW.hd.at (k + 1) (v := rows[k + 1]) (List.getElem?_eq_getElem hkl)
    have z0 := hCW.hd.frozen (k + 1)
    clear hb hC hCW
    rcases hcases with rfl | rfl | rfl | rfl | rfl | rfl | rfl | rfl
    all_goals (simp only [List.getElem?_toArray, List.getElem?_cons_succ, List.getElem?_cons_zero, Option.some.injEq] at ho; subst ho; simp [Region.binds] at hdep; (try go_split_ands))
    ·go_simp; exact hKK _ _ (fun u hu => Option.some.inj hu) hS
    ·go_simp; exact hKK _ _ (fun u hu => Option.some.inj hu) hS
    ·go_simp; exact hKK _ _ (fun u hu => Option.some.inj hu) hS
    ·go_simp; exact hKK _ _ (fun u hu => Option.some.inj hu) hS
    ·go_simp; exact hKK _ _ (fun u hu => Option.some.inj hu) hS
    ·have h42 := (hold 5 (by kernel_rfl) _ rfl 42 rfl).1
     have h := hS
     rw [e7, h42] at h
     have hfin := h.make (cs := madeCells #[.bool false] M) (by apply Array.toList_inj.1; rw [toList_madeCells_one])
     clear z0 k0
     go_simp
     exact hKK _ _ (fun u hu => by cases hu) (by
      show Kp4 _ _ _ _ (d 7) (some _) _
      rw [e7]; exact hfin)
    ·clear k0 z0
     go_simp; exact hKK _ _ (fun u hu => Option.some.inj hu) hS
    ·obtain ⟨v, hv, hat⟩ : ∃ v, f 42 = some v ∧ a.tmps[42]? = some v := by assumption
     obtain ⟨b, rfl, hbl, hrb⟩ := hS.m e7 _ hv
     have h := hS
     rw [e7, hv] at h
     have hfin := h.store
     have HV1 := hidI hv
     clear hrb h hv
     go_simp
     exact hKK undef _ (fun u hu => by cases hu) (by
      show Kp4 _ _ _ _ true (f 42) _
      rw [HV1.out]; exact hfin)
   intro d f W9 hS hall hf
   have e7 : d 7 = true := hall 7 (by decide)
   obtain ⟨V, b, hV, hbl, hrb, rfl⟩ := hS.q e7
   simp only [putsD, List.filterMap_cons, List.filterMap_nil, Option.map_some, Option.map_none, Option.getD_some, Option.getD_none, List.foldl_cons, List.foldl_nil, Act.put, List.setIfInBounds_toArray, List.set_cons_zero, List.set_cons_succ]
   generalize (f 42).getD undef = v42
   have hcl := canA_len N G.es s (k + 1)
   rw [← HMM.out] at hcl
   have hC2 := ((hC.below hV).add hlt (fun i hi e => by have := (hC.mem i hi).lt; omega) (Nat.le_trans hC.b.size hbl) (F0 := parF (canA N G.es s (k + 1)) 0) (by rw [parF_zero, hcl, List.map_replicate]; exact hrb)).cong (F' := fun i => if i = k + 1 then parF (canA N G.es s (k + 1)) 0 else canA N G.es s i) (fun i _ => rfl)
   generalize V.setCell ⟨bc, k + 1, none⟩ (.slice (some ⟨b, 0, none⟩) M M) = V2 at *
   obtain ⟨rows2, hr2⟩ : ∃ r, r = rows.set (k + 1) (.slice (some ⟨b, 0, none⟩) M M) := ⟨_, rfl⟩
   obtain ⟨br2, hbr2⟩ : ∃ r, r = (fun i => if i = k + 1 then b else br i) := ⟨_, rfl⟩
   rw [← hr2, ← hbr2] at hC2
   clear hf hall hS e7 hV hbl hrb hC hr2 hbr2
   have d3 := (HB.out V2 hC2.b).at 3 rfl
   have HCL := hidI hcl
   clear hcl
   go_wp2_with fail
   clear d3
   go_loopw [47] (fun iv wx => ∃ q : Nat, q ≤ M ∧ iv = .int .i64 q ∧ CyM w0 B8 B9 bc K M ((k : Int) + 1) rows2 br2 (fun i => if i = k + 1 then parF (canA N G.es s (k + 1)) q else canA N G.es s i) (k + 2) wx) (fun iv _ => M - (intOf iv).toNat)
   case atStart => exact ⟨0, by omega, rfl, hC2⟩
   case round =>
    clear hC2
    obtain ⟨q, hq, rfl, hC⟩ := hrel
    by_cases hlt2 : q < M
    ·have hlt2I : (q : Int) < (M : Int) := by omega
     obtain ⟨r, c', hcell, hsg⟩ := HD0.out.at hlt2
     obtain ⟨vs, hvs, _, _⟩ := HD0.out
     have hc1 := (hC.b.cell (p := ⟨bn, q, none⟩) hvs.lt).trans hcell
     have hsg1 := hsg.below hC.b
     have d3 := (HB.out wr hC.b).at 3 rfl
     have HQL := hidI (HRL.out q)
     have HQM := hidI (fun x h => HRM.out q x h)
     have hrk := hC.row k (by omega)
     have hrk1 := hC.row (k + 1) (by omega)
     have hcl0 := canA_len N G.es s k
     rw [← HMM.out] at hcl0
     have HCON : Hid (∀ W, RowKit.Below wr.heap.size wr W → Calls Tryz.prog 144 #[.slice r (dnx N G.es q).length c', .func (.func 145) #[] #[.pointer (some ⟨B8, 0, none⟩), .pointer (some ⟨B9, 0, none⟩), .pointer (some ⟨w.heap.size, 0, none⟩)]] W fun e w' => e = .returned (.bool (lkB (canA N G.es s (k + 1)) q)) ∧ RowKit.Below W.heap.size W w') := by
      intro W hW
      have hval : lkB (canA N G.es s (k + 1)) q = (dnx N G.es q).any (fun e => lkB (canA N G.es s k) (dend N G.es e)) := by
       rw [lkB_get (by rw [HCL.out]; exact hlt2)]; simp [canA]
      rw [hval]
      refine containsW_any (fun e => lkB (canA N G.es s k) (dend N G.es e)) 145 _ (enters_of Tryz.func145 (by kernel_rfl) rfl) (dnx N G.es q) r c' W (fun W' x hx hW' => ?_) (hsg1.below hW) (HRL.out q)
      have hC' := (hC.below hW).below hW'
      have hm := hC'.mem k (by omega)
      rw [if_neg (show ¬ k = k + 1 by omega)] at hm
      exact mmCycle1_any G p c M N bn HV.out HNN.out HMM.out B8 B9 w.heap.size bc (br2 k) K k rows2 (canA N G.es s k) hK5 (by omega) hcl0 W' (HIN.out W' hC'.b) hC'.b8 hC'.b9 (HB.out W' hC'.b) hC'.hd hrk hm x (HQM.out x hx).1 (HQM.out x hx).2
     have HSET : Hid ((parF (canA N G.es s (k + 1)) q).set q (lkB (canA N G.es s (k + 1)) q) = parF (canA N G.es s (k + 1)) (q + 1)) := parF_set (by rw [HCL.out]; exact hlt2)
     have hpl := parF_len (F := canA N G.es s (k + 1)) (p := q) (by rw [HCL.out]; exact hq)
     rw [HCL.out] at hpl
     obtain ⟨ans, hans⟩ : ∃ a, a = lkB (canA N G.es s (k + 1)) q := ⟨_, rfl⟩
     rw [← hans] at HCON HSET
     have HRK := hidI hrk
     clear hcell hsg hsg1 hvs hcl0 hans hrk
     generalize dnx N G.es q = Rq at *
     go_upto_region 11 with fail
     clear d3 hc1
     have hk1I : (k : Int) + 1 < (K : Int) := hkKI
     refine region_detW (by kernel_rfl) 10 [(some 52, some (.slice (some ⟨bc, 0, none⟩) K K)), (some 53, some (.int .i64 ((k : Int) + 1))), (some 54, some (.pointer (some ⟨bc, k + 1, none⟩))), (some 55, some (.slice (some ⟨br2 (k + 1), 0, none⟩) M M)), (some 56, some (.int .i64 (q : Int))), (some 57, some (.slice r Rq.length c')), (some 58, some (.func (.func 145) #[] #[.pointer (some ⟨B8, 0, none⟩), .pointer (some ⟨B9, 0, none⟩), .pointer (some ⟨w.heap.size, 0, none⟩)])), (some 59, some (.bool ans)), (some 60, some (.pointer (some ⟨br2 (k + 1), q, none⟩))), (none, none)]
      (fun d _ W => Kp5 wr (br2 (k + 1)) q ans (d 9) W) (by kernel_rfl) (by kernel_rfl) (by kernel_rfl) (by kernel_rfl) ⟨_, below_dN (RowKit.Below.refl _ _) 1, rfl⟩ ?_ ?_
     focus
      intro i o ho a d f W hS hdi hdn hnd hdep hout hold KK hKK
      have hil : i < 10 := (Array.getElem?_eq_some_iff.1 ho).1
      have hcases : i = 0 ∨ i = 1 ∨ i = 2 ∨ i = 3 ∨ i = 4 ∨ i = 5 ∨ i = 6 ∨ i = 7 ∨ i = 8 ∨ i = 9 := by omega
      clear hil
      have u3 := hout 3 (by kernel_rfl)
      have u8 := hout 8 (by kernel_rfl)
      have u9 := hout 9 (by kernel_rfl)
      have u10 := hout 10 (by kernel_rfl)
      have u11 := hout 11 (by kernel_rfl)
      simp at u3 u8 u9 u10 u11
      clear hout
      have e9 : d 9 = false := by
       rcases hcases with rfl | rfl | rfl | rfl | rfl | rfl | rfl | rfl | rfl | rfl
       ·exact hnd 9 (by kernel_rfl)
       ·exact hnd 9 (by kernel_rfl)
       ·exact hnd 9 (by kernel_rfl)
       ·exact hnd 9 (by kernel_rfl)
       ·exact hnd 9 (by kernel_rfl)
       ·exact hnd 9 (by kernel_rfl)
       ·exact hnd 9 (by kernel_rfl)
       ·exact hnd 9 (by kernel_rfl)
       ·exact hnd 9 (by kernel_rfl)
       ·exact hdi
      obtain ⟨W3, hW3, hWe⟩ := hS
      rw [e9, if_neg (by decide)] at hWe
      subst hWe
      have HS : Hid (Kp5 wr (br2 (k + 1)) q ans (d 9) W) := ⟨W, hW3, by rw [e9, if_neg (by decide)]⟩
      have hCW := hC.below hW3
      have c8 := hCW.b8.at 0 rfl
      have c9 := hCW.b9.at 0 rfl
      have ck := hCW.hd.at (k + 1) hrk1
      have hmem := hCW.mem (k + 1) (by omega)
      rw [if_pos rfl] at hmem
      have hcb := hmem.at q (v := .bool (lkB (parF (canA N G.es s (k + 1)) q) q)) (by
       rw [List.getElem?_map, List.getElem?_eq_getElem (by rw [hpl]; exact hlt2), lkB_get (by rw [hpl]; exact hlt2)]; rfl)
      have hzb := hmem.frozen q
      have HW3 := hidI hW3
      clear hC hCW hmem hpl hrk1 hW3
      generalize lkB (parF (canA N G.es s (k + 1)) q) q = ob at *
      rcases hcases with rfl | rfl | rfl | rfl | rfl | rfl | rfl | rfl | rfl | rfl
      all_goals (simp only [List.getElem?_toArray, List.getElem?_cons_succ, List.getElem?_cons_zero, Option.some.injEq] at ho; subst ho; simp [Region.binds] at hdep; (try go_split_ands))
      ·go_simp; exact hKK _ _ (fun u hu => Option.some.inj hu) HS.out
      ·go_simp; exact hKK _ _ (fun u hu => Option.some.inj hu) HS.out
      ·go_simp; exact hKK _ _ (fun u hu => Option.some.inj hu) HS.out
      ·go_simp; exact hKK _ _ (fun u hu => Option.some.inj hu) HS.out
      ·go_simp; exact hKK _ _ (fun u hu => Option.some.inj hu) HS.out
      ·go_simp; exact hKK _ _ (fun u hu => Option.some.inj hu) HS.out
      ·go_simp; exact hKK _ _ (fun u hu => Option.some.inj hu) HS.out
      ·clear hcb hzb ck c8 c9
       go_simp
       refine (HCON.out W HW3.out).mono ?_
       rintro e wk ⟨rfl, hBk⟩
       exact hKK _ _ (fun u hu => by rw [← Option.some.inj hu]) (by
        show Kp5 _ _ _ _ (d 9) _
        rw [e9]; exact ⟨wk, HW3.out.trans (hBk.mono HW3.out.size), (if_neg (by decide)).symm⟩)
      ·go_simp; exact hKK _ _ (fun u hu => Option.some.inj hu) HS.out
      ·have hfin : Kp5 wr (br2 (k + 1)) q ans true (W.setCell ⟨br2 (k + 1), q, none⟩ (.bool ans)) := ⟨W, HW3.out, (if_pos rfl).symm⟩
       go_simp
       exact hKK undef _ (fun u hu => by cases hu) hfin
     intro d f W9 hS hall hf
     have e9 : d 9 = true := hall 9 (by decide)
     obtain ⟨W3, hW3, hWe⟩ := hS
     rw [e9, if_pos rfl] at hWe
     subst hWe
     have hC9 := ((hC.below hW3).put (i := k + 1) (j := q) (v := ans) (by omega)).cong (F' := fun i => if i = k + 1 then parF (canA N G.es s (k + 1)) (q + 1) else canA N G.es s i) (fun i _ => by
      by_cases e : i = k + 1
      ·subst e; rw [if_pos rfl, if_pos rfl, if_pos rfl, HSET.out]
      ·rw [if_neg e, if_neg e, if_neg e])
     simp only [putsD, List.filterMap_cons, List.filterMap_nil, Option.map_some, Option.map_none, Option.getD_some, Option.getD_none, List.foldl_cons, List.foldl_nil, Act.put, List.setIfInBounds_toArray, List.set_cons_zero, List.set_cons_succ]
     generalize W3.setCell ⟨br2 (k + 1), q, none⟩ (.bool ans) = V3 at *
     clear hf hall hC hW3 e9 hrk1 hpl
     go_wp2_with fail
     go_roundw
     case rel => exact ⟨q + 1, by omega, by go_num, hC9⟩
     case measure => simp [intOf]; omega
    ·obtain rfl : q = M := by omega
     have hlt2I : ¬ (q : Int) < (q : Int) := by omega
     have hC3 := hC.cong (F' := canA N G.es s) (fun i _ => by
      by_cases e : i = k + 1
      ·subst e; rw [if_pos rfl]; exact (by have := parF_all (canA N G.es s (k + 1)); rw [HCL.out] at this; exact this.symm)
      ·rw [if_neg e])
     clear hC
     have c9 := hC3.b9.at 0 rfl
     obtain ⟨w5, hw5⟩ : ∃ w5, w5 = wr.alloc (.cells #[.int .i64 ((k : Int) + 1)] 3) := ⟨_, rfl⟩
     obtain ⟨B', hB'⟩ : ∃ B', B' = wr.heap.size := ⟨_, rfl⟩
     have hC5 := (hC3.below (show RowKit.Below wr.heap.size wr w5 by rw [hw5]; exact (RowKit.Below.refl _ _).alloc (Nat.le_refl _) _)).box (kv' := (k : Int) + 1) (B := B') (by rw [hw5, hB']; exact VRow.new wr _ _) (by rw [hB']; exact hC3.b.size)
     clear hC3
     go_upto_region 6 with fail
     rw [← hw5, ← hB']
     clear hw5 hB' c9
     have c9 := hC5.b9.at 0 rfl
     have z9 := hC5.b9.frozen 0
     have HN5 := hidI (hC5.num ((k : Int) + 1 + 1))
     have HM5 := hidI (numAt_row HN5.out.b9)
     clear hC5
     have q2 := HQ2.out
     go_wp2_with fail
     go_roundw
     case rel => exact ⟨k + 1, B', rows2, br2, by omega, rfl, HN5.out⟩
     case measure =>
      rw [HM5.out, HM0.out]; omega
  ·have hltI : ¬ (k : Int) + 1 ≤ (n : Int) := by have := HKN.out; omega
   obtain rfl : n = k := by have := HKN.out; omega
   have hnK : (n : Int) < (K : Int) := by omega
   have hrn := hC.row n (by omega)
   have c8 := hC.b8.at 0 rfl
   have cn := hC.hd.at n hrn
   have hcln := canA_len N G.es s n
   rw [← HMM.out] at hcln
   have cb := (hC.mem n (by omega)).at s (v := .bool (lkB (canA N G.es s n) s)) (by
    rw [List.getElem?_map, List.getElem?_eq_getElem (by rw [hcln]; exact hs), lkB_get (by rw [hcln]; exact hs)]; rfl)
   obtain ⟨ob, hob⟩ : ∃ ob, ob = lkB (canA N G.es s n) s := ⟨_, rfl⟩
   rw [← hob] at cb
   clear hcln hrn
   cases ob
   ·have HNONE : Hid (cycA N G.es s n = none) := by unfold Hid cycA; rw [if_neg (by rw [← hob]; decide)]
    have hX := HX.out wr hC.b
    clear hob hC
    go_wp2_with fail
    refine bodyPost_ret (v := .tuple #[.slice none 0 0, .slice none 0 0]) (by simp [results, Tryz.results88, go_sem]) rfl ?_
    rw [HNONE.out]
    exact ⟨hX, none, none, 0, 0, rfl, fun _ => rfl, Sl.nil _ _ _, Sl.nil _ _ _⟩
   ·have HSOME : Hid (cycA N G.es s n = some (cyW N G.es s n s)) := by unfold Hid cycA; rw [if_pos hob.symm]
    have q3 : IntKind.i64.wrap ((n : Int) - 1) = (n : Int) - 1 := IntWalk.i64_in _ (by omega)
    obtain ⟨w6, hw6⟩ : ∃ w6, w6 = wr.alloc (.cells #[.int .i64 ((n : Int) - 1)] 3) := ⟨_, rfl⟩
    obtain ⟨B15, hB15⟩ : ∃ B15, B15 = wr.heap.size := ⟨_, rfl⟩
    have hC6 := hC.below (show RowKit.Below wr.heap.size wr w6 by rw [hw6]; exact (RowKit.Below.refl _ _).alloc (Nat.le_refl _) _)
    have h15 : VRow w6 B15 3 [.int .i64 ((n : Int) - 1)] := by rw [hw6, hB15]; exact VRow.new wr _ _
    have HON : Hid (lkB (canA N G.es s n) s = true) := hob.symm
    clear hob hC
    go_upto_region 20 with fail
    rw [← hw6, ← hB15]
    clear hw6 hB15 c8 c9 cn cb q3 HM0
    have HC6 := hidI hC6
    go_loopw [12, 13, 14, 15] (fun av bv tv kv wx => ∃ (k B15 a : Nat) (z : Int) (acc : List (Nat × Nat)), z = (k : Int) - 1 ∧ k ≤ n ∧ kv = .pointer (some ⟨B15, 0, none⟩) ∧ tv = .int .i64 a ∧ a < M ∧ Hid (lkB (canA N G.es s k) a = true ∧ acc ++ cyW N G.es s k a = cyW N G.es s n s ∧ acc.length + k = n) ∧ RowKit.Below w6.heap.size w6 wx ∧ VRow wx B15 3 [.int .i64 z] ∧
     wx.ownsRow w6.heap.size 3 1 av acc.length ((fstI acc).map (Value.int .i64)) ∧ wx.ownsRow w6.heap.size 3 1 bv acc.length ((sndI acc).map (Value.int .i64)) ∧ NEI av bv ∧ Hid (av.ownBlock ≠ some B15 ∧ bv.ownBlock ≠ some B15)) (fun _ _ _ kv wr => (numAt wr kv + 1).toNat)
    case atStart => exact ⟨n, B15, s, _, [], rfl, Nat.le_refl _, rfl, rfl, hs, ⟨HON.out, rfl, Nat.zero_add _⟩, RowKit.Below.refl _ _, h15, World.ownsRow_nil _ _ _ _, World.ownsRow_nil _ _ _ _, (fun j hj => by cases hj), (fun e => by cases e), (fun e => by cases e)⟩
    case round =>
     clear hC6 h15
     obtain ⟨k, B15, a, z, acc, hz, hk, rfl, rfl, ha, HA, hB, h15, hoa, hob, hab, HNB⟩ := hrel
     have HM0 := hidI (numAt_row h15)
     have c15 := h15.at 0 rfl
     by_cases hk0 : 0 < k
     ·obtain ⟨k', rfl⟩ : ∃ k', k = k' + 1 := ⟨k - 1, by omega⟩
      obtain rfl : z = (k' : Int) := by omega
      have hz0 : (0 : Int) ≤ (k' : Int) := by omega
      clear hz
      have hcan := HA.out.1
      obtain ⟨e0, hfe, hce, hcw⟩ := cyW_step hcan
      have hacc2 := HA.out.2
      rw [hcw] at hacc2
      obtain ⟨r, c', hcell, hsg⟩ := HD0.out.at ha
      obtain ⟨vs, hvs, _, _⟩ := HD0.out
      have HCC := hidI (fun W (h : RowKit.Below w0.heap.size w0 W) => (h.cell (p := ⟨bn, a, none⟩) hvs.lt).trans hcell)
      have HSG := hidI (fun W (h : RowKit.Below w0.heap.size w0 W) => hsg.below h)
      have HWB := hidI (fun W (h : RowKit.Below w6.heap.size w6 W) => (HC6.out.below h).b)
      have HQL := hidI (HRL.out a)
      have HQM := hidI (fun x h => HRM.out a x h)
      have hcl0 := canA_len N G.es s k'
      rw [← HMM.out] at hcl0
      have hem := List.mem_of_find?_eq_some hfe
      have hed := HQM.out e0 hem
      have hdl := dend_lt HV.out HNN.out HMM.out hed.1 hed.2
      have HEND := hidI (fun W (h : RowKit.Below w0.heap.size w0 W) => mmEnd_any G p c (.slice (some ⟨bn, 0, none⟩) M M) N HV.out HNN.out e0.1 e0.2 hed.1 hed.2 W (HIN.out W h))
      have HIDX := hidI (indexW_any (fun e => lkB (canA N G.es s k') (dend N G.es e)) 147 #[.pointer (some ⟨B8, 0, none⟩), .pointer (some ⟨B15, 0, none⟩), .pointer (some ⟨w.heap.size, 0, none⟩)] (enters_of Tryz.func147 (by kernel_rfl) rfl) (dnx N G.es a) r c' wr e0 hfe (fun W x hx hW => by
       have hC' := (HC6.out.below hB).below hW
       exact mmCycle2_any G p c M N bn HV.out HNN.out HMM.out B8 B15 w.heap.size bc (br k') K k' rows (canA N G.es s k') hK5 (by omega) hcl0 W (HIN.out W hC'.b) hC'.b8 (h15.below hW h15.lt) (HB.out W hC'.b) hC'.hd (hC'.row k' (by omega)) (hC'.mem k' (by omega)) x (HQM.out x hx).1 (HQM.out x hx).2) (HSG.out wr (HWB.out wr hB)) (HRL.out a))
      have haI : (a : Int) < (M : Int) := by omega
      have HACC := hidI hacc2
      have HCE := hidI hce
      obtain ⟨⟨x1, x2⟩, hx⟩ : ∃ x : Nat × Nat, x = e0 := ⟨_, rfl⟩
      subst hx
      obtain ⟨D, hD⟩ : ∃ D, D = dend N G.es (x1, x2) := ⟨_, rfl⟩
      rw [← hD] at hdl
      rw [show dend N G.es ((x1, x2) : Nat × Nat) = D from hD.symm] at HACC HCE
      have HENDD : Hid (∀ W, RowKit.Below w0.heap.size w0 W → Calls Tryz.prog 143 #[(.agg #[.int .i64 G.q, .int .i64 G.n, .slice p G.es.length c, .slice (some ⟨bn, 0, none⟩) M M]), .agg #[.int .i64 (x1 : Int), .int .i64 (x2 : Int)]] W fun e w' => e = .returned (.int .i64 (D : Int)) ∧ RowKit.Below W.heap.size W w') := by
       intro W h; have := HEND.out W h; rw [← hD] at this; exact this
      clear hcan hfe hce hcw hacc2 hcell hsg hvs hcl0 hem hed HEND HA hD HQM
      have d3 := (HB.out wr (HWB.out wr hB)).at 3 rfl
      have hc1 := HCC.out wr (HWB.out wr hB)
      generalize dnx N G.es a = Rq at *
      have hRl := HQL.out
      go_wp2_with fail
      refine HIDX.out.mono ?_
      rintro e w7 ⟨i, hget, rfl, hB7⟩
      have hiR : i < Rq.length := (List.getElem?_eq_some_iff.1 hget).1
      have hiI : (i : Int) < (Rq.length : Int) := by omega
      have hB7' := hB.trans (hB7.mono hB.size)
      have d3 := (HB.out w7 (HWB.out w7 hB7')).at 3 rfl
      have hc1 := HCC.out w7 (HWB.out w7 hB7')
      obtain ⟨b6, o6, e', hb6, g0, g1⟩ := (HSG.out w7 (HWB.out w7 hB7')).get2 i hiR
      cases e'
      rw [show Rq[i] = (x1, x2) from (List.getElem?_eq_some_iff.1 hget).2] at g0 g1
      have h157 := h15.below hB7 h15.lt
      have hoa7 := hoa.below hB7; have hob7 := hob.below hB7
      clear HIDX hget hB7 h15 hoa hob hB
      obtain ⟨w8, hw8⟩ : ∃ w8, w8 = w7.alloc (.cells #[.int .i64 (x1 : Int), .int .i64 (x2 : Int)] 149) := ⟨_, rfl⟩
      obtain ⟨Be, hBe⟩ : ∃ Be, Be = w7.heap.size := ⟨_, rfl⟩
      have he8 : VRow w8 Be 149 [.int .i64 (x1 : Int), .int .i64 (x2 : Int)] := by rw [hw8, hBe]; exact VRow.new w7 _ _
      have hoa8 : w8.ownsRow w6.heap.size 3 1 u12 acc.length ((fstI acc).map (Value.int .i64)) := by rw [hw8]; exact hoa7.alloc _
      have hob8 : w8.ownsRow w6.heap.size 3 1 u13 acc.length ((sndI acc).map (Value.int .i64)) := by rw [hw8]; exact hob7.alloc _
      have h158 : VRow w8 B15 3 [.int .i64 (k' : Int)] := by rw [hw8]; exact h157.alloc _
      have hB8 : RowKit.Below w6.heap.size w6 w8 := by rw [hw8]; exact hB7'.alloc hB7'.size _
      have HQ : Hid (Kq6 w6.heap.size B15 w8 u12 u13) := ⟨fun j e => ⟨(hoa8.lt j e).2, fun e2 => HNB.out.1 (by rw [e, e2]), hab j e⟩, fun j e => ⟨(hob8.lt j e).2, fun e2 => HNB.out.2 (by rw [e, e2]), fun e2 => hab j e2 e⟩, h158.lt, hB8.size⟩
      have HHA := hidI (fun j e => (hoa8.lt j e).1)
      have HHC := hidI (fun j e => (hob8.lt j e).1)
      have HB8 := hidI hB8
      clear hoa7 hob7 h157 hB7' hB8 hab
      go_upto_region 24 with fail
      rw [← hw8, ← hBe]
      clear hw8 hBe g0 g1 d3 hc1
      have hacl := HACC.out.2
      refine region_detW (by kernel_rfl) 16 [(some 93, some u12), (some 94, some (.pointer (some ⟨Be, 0, none⟩))), (some 95, some (.int .i64 (x1 : Int))), (some 96, none), (some 97, none), (some 98, some u13), (some 99, some (.pointer (some ⟨Be, 1, none⟩))), (some 100, some (.int .i64 (x2 : Int))), (some 101, none), (some 102, none), (some 103, some (.agg #[.int .i64 G.q, .int .i64 G.n, .slice p G.es.length c, .slice (some ⟨bn, 0, none⟩) M M])), (some 104, some (.agg #[.int .i64 (x1 : Int), .int .i64 (x2 : Int)])), (some 105, some (.int .i64 (D : Int))), (some 12, none), (some 13, none), (some 14, some (.int .i64 (D : Int)))]
       (fun _ f W => Kr6 w6.heap.size B15 Be (k' : Int) [.int .i64 (x1 : Int), .int .i64 (x2 : Int)] w8 u12 u13 ((fstI acc).map (Value.int .i64)) ((sndI acc).map (Value.int .i64)) acc.length (x1 : Int) (x2 : Int) (f 12) (f 13) (f 96) (f 97) (f 101) (f 102) W) (by kernel_rfl) (by kernel_rfl) (by kernel_rfl) (by kernel_rfl)
       ⟨⟨below_dN (RowKit.Below.refl _ _) 1, Nat.le_refl _, h158, he8, ⟨(fun _ e => by cases e), fun _ => hoa8, (fun _ e => by cases e)⟩, ⟨(fun _ e => by cases e), fun _ => hob8, (fun _ e => by cases e)⟩, (fun _ _ e => by cases e)⟩, (fun _ e => by cases e), (fun _ e => by cases e)⟩ ?_ ?_
      focus
       intro i o ho a d f W hS hdi hdn hnd hdep hout hold KK hKK
       have hil : i < 16 := (Array.getElem?_eq_some_iff.1 ho).1
       have hcases : i = 0 ∨ i = 1 ∨ i = 2 ∨ i = 3 ∨ i = 4 ∨ i = 5 ∨ i = 6 ∨ i = 7 ∨ i = 8 ∨ i = 9 ∨ i = 10 ∨ i = 11 ∨ i = 12 ∨ i = 13 ∨ i = 14 ∨ i = 15 := by omega
       clear hil he8 hoa8 hob8 h158
       have u3 := hout 3 (by kernel_rfl)
       have u17 := hout 17 (by kernel_rfl)
       simp at u3 u17
       clear hout
       rcases hcases with rfl | rfl | rfl | rfl | rfl | rfl | rfl | rfl | rfl | rfl | rfl | rfl | rfl | rfl | rfl | rfl
       all_goals (simp only [List.getElem?_toArray, List.getElem?_cons_succ, List.getElem?_cons_zero, Option.some.injEq] at ho; subst ho; simp [Region.binds] at hdep; (try go_split_ands))
       ·have h12 := (hold 13 (by kernel_rfl) _ rfl 12 rfl).2
        simp at h12
        go_simp; exact hKK _ _ (fun u hu => Option.some.inj hu) hS
       ·have ce := hS.k.e.at 0 rfl
        go_simp; exact hKK _ _ (fun u hu => Option.some.inj hu) hS
       ·have ce := hS.k.e.at 0 rfl
        go_simp; exact hKK _ _ (fun u hu => Option.some.inj hu) hS
       ·have h96 := (hold 3 (by kernel_rfl) _ rfl 96 rfl).1
        have h := hS.k
        rw [h96] at h
        have hfin := h.buildA HQ.out
        go_simp
        exact hKK _ _ (fun u hu => by cases hu) (by
         show Kr6 _ _ _ _ _ _ _ _ _ _ _ _ _ (f 12) (f 13) (some _) (f 97) (f 101) (f 102) _
         exact ⟨hfin, hS.l, hS.r⟩)
       ·have h97 := (hold 4 (by kernel_rfl) _ rfl 97 rfl).1
        have h12 := (hold 13 (by kernel_rfl) _ rfl 12 rfl).1
        obtain ⟨v, hv, hat⟩ : ∃ v, f 96 = some v ∧ a.tmps[96]? = some v := by assumption
        obtain ⟨b, rfl, hSb, hrb⟩ := hS.k.a.bl v hv
        have h := hS.k
        rw [h97] at h
        have hln : acc.length ≤ 4097 := by omega
        refine step_append_lies W rfl (.tmp 93) (.tmp 96) 30 rfl w6.heap.size 3 i1 _ 1 8 Tryz.underlying30 hi1 hy0 hy1 hy3 rfl (by decide) u12 acc.length ((fstI acc).map (Value.int .i64)) (by simp [Act.eval, *]) (h.a.pre rfl) ⟨b, 0, none⟩ 1 1 [.int .i64 (x1 : Int)] (by simp [Act.eval, *]) rfl (World.news_of_block hrb) (fun u hu => by obtain rfl := List.mem_singleton.1 hu; rfl) (by omega) (by simp [maxLen]; omega) (by omega) (by have := hS.k.sz; have := HQ.out.h; omega) _ rfl ?_
        intro g' cap w' hown' hgrow hgw _
        have hfin := h.appA HQ.out HHA.out hown' hgrow hgw
        exact hKK _ _ (fun u hu => by cases hu) (by
         show Kr6 _ _ _ _ _ _ _ _ _ _ _ _ _ (f 12) (f 13) (f 96) (some _) (f 101) (f 102) w'
         exact ⟨hfin, (fun v hv => by rw [h12] at hv; cases hv), hS.r⟩)
       ·have h13 := (hold 14 (by kernel_rfl) _ rfl 13 rfl).2
        simp at h13
        go_simp; exact hKK _ _ (fun u hu => Option.some.inj hu) hS
       ·have ce := hS.k.e.at 1 rfl
        go_simp; exact hKK _ _ (fun u hu => Option.some.inj hu) hS
       ·have ce := hS.k.e.at 1 rfl
        go_simp; exact hKK _ _ (fun u hu => Option.some.inj hu) hS
       ·have h101 := (hold 8 (by kernel_rfl) _ rfl 101 rfl).1
        have h := hS.k
        rw [h101] at h
        have hfin := h.buildC HQ.out
        go_simp
        exact hKK _ _ (fun u hu => by cases hu) (by
         show Kr6 _ _ _ _ _ _ _ _ _ _ _ _ _ (f 12) (f 13) (f 96) (f 97) (some _) (f 102) _
         exact ⟨hfin, hS.l, hS.r⟩)
       ·have h97 := (hold 9 (by kernel_rfl) _ rfl 102 rfl).1
        have h12 := (hold 14 (by kernel_rfl) _ rfl 13 rfl).1
        obtain ⟨v, hv, hat⟩ : ∃ v, f 101 = some v ∧ a.tmps[101]? = some v := by assumption
        obtain ⟨b, rfl, hSb, hrb⟩ := hS.k.c.bl v hv
        have h := hS.k
        rw [h97] at h
        have hln : acc.length ≤ 4097 := by omega
        refine step_append_lies W rfl (.tmp 98) (.tmp 101) 30 rfl w6.heap.size 3 i1 _ 1 8 Tryz.underlying30 hi1 hy0 hy1 hy3 rfl (by decide) u13 acc.length ((sndI acc).map (Value.int .i64)) (by simp [Act.eval, *]) (h.c.pre rfl) ⟨b, 0, none⟩ 1 1 [.int .i64 (x2 : Int)] (by simp [Act.eval, *]) rfl (World.news_of_block hrb) (fun u hu => by obtain rfl := List.mem_singleton.1 hu; rfl) (by omega) (by simp [maxLen]; omega) (by omega) (by have := hS.k.sz; have := HQ.out.h; omega) _ rfl ?_
        intro g' cap w' hown' hgrow hgw _
        have hfin := h.appC HQ.out HHC.out hown' hgrow hgw
        exact hKK _ _ (fun u hu => by cases hu) (by
         show Kr6 _ _ _ _ _ _ _ _ _ _ _ _ _ (f 12) (f 13) (f 96) (f 97) (f 101) (some _) w'
         exact ⟨hfin, hS.l, (fun v hv => by rw [h12] at hv; cases hv)⟩)
       ·have hWB := HB.out W (HWB.out W (HB8.out.trans hS.k.b))
        have d0 := hWB.at 0 rfl; have d1 := hWB.at 1 rfl; have d2 := hWB.at 2 rfl; have d3 := hWB.at 3 rfl
        clear hWB
        go_simp; exact hKK _ _ (fun u hu => Option.some.inj hu) hS
       ·have ce := hS.k.e.at 0 rfl; have ce1 := hS.k.e.at 1 rfl
        go_simp; exact hKK _ _ (fun u hu => Option.some.inj hu) hS
       ·have hW := HWB.out W (HB8.out.trans hS.k.b)
        go_simp
        refine (HENDD.out W hW).mono ?_
        rintro e wk ⟨rfl, hBk⟩
        have hfin := hS.k.below HQ.out hBk
        exact hKK _ _ (fun u hu => by rw [← Option.some.inj hu]) ⟨hfin, hS.l, hS.r⟩
       ·obtain ⟨v, hv, hat⟩ : ∃ v, f 97 = some v ∧ a.tmps[97]? = some v := by assumption
        have HV1 := hidI hv
        clear hv
        go_simp
        exact hKK _ _ (fun u hu => by cases hu) (by
         show Kr6 _ _ _ _ _ _ _ _ _ _ _ _ _ (some v) (f 13) (f 96) (f 97) (f 101) (f 102) W
         exact ⟨hS.k, (fun u hu => by rw [← hu]; exact HV1.out), hS.r⟩)
       ·obtain ⟨v, hv, hat⟩ : ∃ v, f 102 = some v ∧ a.tmps[102]? = some v := by assumption
        have HV1 := hidI hv
        clear hv
        go_simp
        exact hKK _ _ (fun u hu => by cases hu) (by
         show Kr6 _ _ _ _ _ _ _ _ _ _ _ _ _ (f 12) (some v) (f 96) (f 97) (f 101) (f 102) W
         exact ⟨hS.k, hS.l, (fun u hu => by rw [← hu]; exact HV1.out)⟩)
       ·go_simp; exact hKK _ _ (fun u hu => Option.some.inj hu) hS
      intro d f W9 hS hall hf
      obtain ⟨v12, hv12, -⟩ := hf (some 12, none) (by simp) 12 rfl
      obtain ⟨v13, hv13, -⟩ := hf (some 13, none) (by simp) 13 rfl
      have h97 := hS.l _ hv12
      have h102 := hS.r _ hv13
      obtain ⟨ga, capa, -, ho1, -⟩ := hS.k.a.post _ h97
      obtain ⟨gb, capb, -, ho2, -⟩ := hS.k.c.post _ h102
      have hne9 := hS.k.ne _ _ h97 h102
      have h159 := hS.k.z
      have hB9 := HB8.out.trans hS.k.b
      simp only [putsD, List.filterMap_cons, List.filterMap_nil, Option.map_some, Option.map_none, Option.getD_some, Option.getD_none, List.foldl_cons, List.foldl_nil, Act.put, List.setIfInBounds_toArray, List.set_cons_zero, List.set_cons_succ]
      rw [hv12, hv13]
      simp only [Option.getD_some]
      generalize (f 96).getD undef = v96
      generalize (f 97).getD undef = v97
      generalize (f 101).getD undef = v101
      generalize (f 102).getD undef = v102
      clear hf hall hS hv12 hv13 h97 h102 he8 hoa8 hob8 h158
      have q4 : IntKind.i64.wrap ((k' : Int) - 1) = (k' : Int) - 1 := IntWalk.i64_in _ (by omega)
      have HQ4 := hidI q4
      have c15 := h159.at 0 rfl
      obtain ⟨w10, hw10⟩ : ∃ w10, w10 = W9.alloc (.cells #[.int .i64 (k' : Int)] 3) := ⟨_, rfl⟩
      obtain ⟨B', hB'⟩ : ∃ B', B' = W9.heap.size := ⟨_, rfl⟩
      have ha10 : w10.ownsRow w6.heap.size 3 1 v12 (acc ++ [(x1, x2)]).length ((fstI (acc ++ [(x1, x2)])).map (Value.int .i64)) := by
       rw [hw10, List.length_append, show (fstI (acc ++ [(x1, x2)])).map (Value.int .i64) = (fstI acc).map (Value.int .i64) ++ [.int .i64 (x1 : Int)] by simp [fstI]]; exact ho1.alloc _
      have hb10 : w10.ownsRow w6.heap.size 3 1 v13 (acc ++ [(x1, x2)]).length ((sndI (acc ++ [(x1, x2)])).map (Value.int .i64)) := by
       rw [hw10, List.length_append, show (sndI (acc ++ [(x1, x2)])).map (Value.int .i64) = (sndI acc).map (Value.int .i64) ++ [.int .i64 (x2 : Int)] by simp [sndI]]; exact ho2.alloc _
      have HNB' : Hid (v12.ownBlock ≠ some B' ∧ v13.ownBlock ≠ some B') := by
       rw [hB']
       exact ⟨fun e => by have := (ho1.lt _ e).2; omega, fun e => by have := (ho2.lt _ e).2; omega⟩
      have h1510 : VRow w10 B' 3 [.int .i64 (k' : Int)] := by rw [hw10, hB']; exact VRow.new W9 _ _
      have hB10 : RowKit.Below w6.heap.size w6 w10 := by rw [hw10]; exact hB9.alloc hB9.size _
      have hBl : w6.heap.size ≤ B' := by rw [hB']; exact hB9.size
      clear ho1 ho2 h159 hB9 q4
      go_upto_region 21 with fail
      rw [← hw10, ← hB']
      clear hw10 hB' c15
      have c15 := h1510.at 0 rfl
      have z15 := h1510.frozen 0
      have q4 := HQ4.out
      have ha11 := ownsRow_setCell_other ha10 (a := ⟨B', 0, none⟩) HNB'.out.1 (.int .i64 ((k' : Int) - 1))
      have hb11 := ownsRow_setCell_other hb10 (a := ⟨B', 0, none⟩) HNB'.out.2 (.int .i64 ((k' : Int) - 1))
      have h1511 := VRow.set (i := 0) (.int .i64 ((k' : Int) - 1)) h1510
      have hB11 := hB10.setCell (p := ⟨B', 0, none⟩) hBl (.int .i64 ((k' : Int) - 1))
      have HM1 := hidI (numAt_row h1511)
      clear ha10 hb10 h1510 hB10
      go_wp2_with fail
      generalize w10.setCell ⟨B', 0, none⟩ (.int .i64 ((k' : Int) - 1)) = w11 at *
      clear c15 z15
      go_roundw
      case rel => exact ⟨k', B', D, (k' : Int) - 1, acc ++ [(x1, x2)], rfl, by omega, rfl, rfl, hdl, ⟨HCE.out, by rw [List.append_assoc]; exact HACC.out.1, by rw [List.length_append]; show acc.length + 1 + k' = n; omega⟩, hB11, h1511, ha11, hb11, hne9, HNB'.out⟩
      case measure => rw [HM1.out, HM0.out]; omega
     ·obtain rfl : k = 0 := by omega
      have hz0 : ¬ (0 : Int) ≤ z := by omega
      have hacc : acc = cyW N G.es s n s := by have := HA.out.2.1; rw [cyW, List.append_nil] at this; exact this
      have hX := HX.out wr (HC6.out.below hB).b
      obtain ⟨pa, ca, rfl, hsa⟩ := own_sl hoa
      obtain ⟨pb, cb, rfl, hsb⟩ := own_sl hob
      have hl1 : (fstI acc).length = acc.length := by simp [fstI]
      have hl2 : (sndI acc).length = acc.length := by simp [sndI]
      have HACC := hidI hacc
      rw [hl1, hl2]
      clear hl1 hl2 hacc hoa hob hab HA HNB
      go_wp2_with fail
      refine bodyPost_ret (v := .tuple #[.slice pa acc.length ca, .slice pb acc.length cb]) (by simp [results, Tryz.results88, go_sem]) rfl ?_
      rw [HSOME.out]
      show RowKit.Below _ _ _ ∧ _
      rw [Option.getD_some, ← HACC.out]
      exact ⟨hX, pa, pb, ca, cb, rfl, (fun e => by cases e), hsa, hsb⟩
end
section
open Go.RowKit Go.Sort Go.Shelf
structure TwoL (o : Option (List (Nat × Nat))) (fv sv : Value) (W : World) : Prop where
 ex : ∃ p q ca cb, fv = .slice p (o.getD []).length ca ∧ sv = .slice q (o.getD []).length cb ∧ (o = none → p = none) ∧ Sl W (Value.int .i64) p (fstI (o.getD [])) ∧ Sl W (Value.int .i64) q (sndI (o.getD []))
theorem TwoL.below {o : Option (List (Nat × Nat))} {fv sv : Value} {W W' : World} (h : TwoL o fv sv W) (hB : RowKit.Below W.heap.size W W') : TwoL o fv sv W' := by
 obtain ⟨p, q, ca, cb, h1, h2, h3, h4, h5⟩ := h.ex
 exact ⟨p, q, ca, cb, h1, h2, h3, h4.below hB, h5.below hB⟩
theorem TwoL.nil (W : World) : TwoL none (.slice none 0 0) (.slice none 0 0) W := ⟨none, none, 0, 0, rfl, rfl, fun _ => rfl, Sl.nil _ _ _, Sl.nil _ _ _⟩
def bstS : Option (List (Nat × Nat)) → Option (List (Nat × Nat)) → Option (List (Nat × Nat))
 | none, b => b
 | some x, b => some (betW x b)
theorem bstW_succ (N : Nat) (es : List Ed) (n m : Nat) : bstW N es n (m + 1) = bstS (cycA N es m n) (bstW N es n m) := by
 rw [bstW]; cases cycA N es m n <;> rfl
theorem bet_len {x g : List (Nat × Nat)} {n : Nat} (hx : x.length = n) (hg : g.length = n) : (betW x (some g)).length = n := by
 simp only [betW]
 split
 ·exact hx
 ·split
  ·split
   ·exact hx
   ·exact hg
  ·exact hg
theorem bst_len {N : Nat} {es : List Ed} {n : Nat} : ∀ (m : Nat) (f : List (Nat × Nat)), bstW N es n m = some f → f.length = n
 | 0, _, h => by cases h
 | m + 1, f, h => by
  rw [bstW] at h
  cases hc : cycA N es m n with
  | none => rw [hc] at h; exact bst_len m f h
  | some x =>
   rw [hc] at h
   have hx := cycA_len hc
   cases hb : bstW N es n m with
   | none => rw [hb] at h; cases h; exact hx
   | some g =>
    have hg := bst_len m g hb
    rw [hb] at h
    have h : betW x (some g) = f := Option.some.inj h
    rw [← h]
    exact bet_len hx hg
def RetWi (A : List (Nat × Nat) × Bool × Int) (w : World) (e : Ending) (w' : World) : Prop := RowKit.Below w.heap.size w w' ∧ ∃ p q ca cb, e = .returned (.tuple #[.slice p A.1.length ca, .slice q A.1.length cb, .bool A.2.1, .int .i64 A.2.2]) ∧ Sl w' (Value.int .i64) p (fstI A.1) ∧ Sl w' (Value.int .i64) q (sndI A.1)
set_option maxRecDepth 100000 in
set_option maxHeartbeats 4000000 in
theorem mmWitness_any (G : Gr) (p : Option Addr) (c : Nat) (w : World) (hin : Sg 3 w edE p G.es) (hl : G.es.length ≤ 9223372036854775807) :
  Calls Tryz.prog 31 #[(.agg #[.int .i64 G.q, .int .i64 G.n, .slice p G.es.length c])] w (RetWi (witA G) w) := by
 obtain ⟨w0, hw0⟩ : ∃ w0, w0 = w.alloc (.cells #[.int .i64 G.q, .int .i64 G.n, .slice p G.es.length c] 24) := ⟨_, rfl⟩
 have b0 : VRow w0 w.heap.size 24 [.int .i64 G.q, .int .i64 G.n, .slice p G.es.length c] := by subst hw0; exact VRow.new w _ _
 have hB0 : RowKit.Below w.heap.size w w0 := by subst hw0; exact (RowKit.Below.refl _ _).alloc (Nat.le_refl _) _
 have HDT := hidI (gDet_any G p c w0 (hin.below hB0) hl)
 have f0 := b0.at 0 rfl; have f1 := b0.at 1 rfl; have f2 := b0.at 2 rfl
 by_cases hc : chkG G = 0
 ·cases hd : (detA G).1
  ·have HK : Hid (witA G = ([], false, 8)) := by unfold Hid witA; rw [if_neg (by simpa using hc), if_pos hd]
   rw [hd, show (detA G).2 = 0 by rw [detA_ok hc]] at HDT
   clear hc hd hin
   go_enter Tryz.func31, Tryz.ntmps31
   go_upto_region 1 with fail
   rw [← hw0]
   clear hw0
   go_wp2_with fail
   refine HDT.out.mono ?_
   rintro e w1 ⟨rfl, hB1⟩
   have x1 := hB0.trans (RowKit.Below.mono hB1 hB0.size)
   go_wp2
   refine bodyPost_ret (v := .tuple #[.slice none 0 0, .slice none 0 0, .bool false, .int .i64 8]) (by simp [results, Tryz.results31, go_sem]) rfl ?_
   rw [HK.out]
   exact ⟨x1, none, none, 0, 0, rfl, Sl.nil _ _ _, Sl.nil _ _ _⟩
  ·have hv : Vg G := chkG_ok.1 hc
   obtain ⟨N, hN⟩ : ∃ N : Nat, G.n = N := ⟨G.n.toNat, by have := hv.n1; omega⟩
   obtain ⟨M, hM⟩ : ∃ M, M = N * N := ⟨_, rfl⟩
   have hNT : G.n.toNat = N := by omega
   have hN64 : N ≤ 64 := by have := hv.n2; omega
   have hM4 : M ≤ 4096 := by rw [hM]; exact Nat.mul_le_mul hN64 hN64
   have HK : Hid (witA G = if minS N G.es M (M + 1) = M + 1 then ([], false, 0) else ((bstW N G.es (minS N G.es M (M + 1)) M).getD [], true, 0)) := by unfold Hid witA; rw [if_neg (by simpa using hc), if_neg (by simp [hd]), hNT, ← hM]
   rw [hd, show (detA G).2 = 0 by rw [detA_ok hc]] at HDT
   have HND := hidI (fun W (h : RowKit.Below w0.heap.size w0 W) => mmNewDouble_any G p c M N hv hN hM W ((hin.below hB0).below h))
   have HSH := hidI (fun bn s lim (hs : s < M) (h1 : 1 ≤ lim) (h2 : lim ≤ 4097) W (h : RowKit.Below w0.heap.size w0 W) (hD : DbM W bn M (dnx N G.es)) => mmShortest_any G p c M N bn s lim hv hN hM hs h1 h2 W ((hin.below hB0).below h) hD)
   have HCY := hidI (fun bn s n (hs : s < M) (h2 : n ≤ 4097) W (h : RowKit.Below w0.heap.size w0 W) (hD : DbM W bn M (dnx N G.es)) => mmCycle_any G p c M N bn s n hv hN hM hs h2 W ((hin.below hB0).below h) hD)
   have q0 : IntKind.i64.wrap ((M : Int) + 1) = ((M + 1 : Nat) : Int) := by rw [IntWalk.i64_in _ (by omega)]; omega
   have HB0 := hidI hB0
   have qnil : ∀ (w : World) (a : Option Addr) (n c n' c' : Nat), (binOp .eql 30 (.slice a n c) (.slice none n' c')).run Tryz.prog w = .ok (.bool a.isNone) w := fun w a n c n' c' => Lib.run_eql_slice_nil w _ _ a n c n' c' Tryz.underlying30
   clear hc hd hin hv hN hM hNT
   go_enter Tryz.func31, Tryz.ntmps31
   go_upto_region 1 with fail
   rw [← hw0]
   clear hw0
   go_wp2_with fail
   refine HDT.out.mono ?_
   rintro e w1 ⟨rfl, hB1⟩
   have hB1 : RowKit.Below w0.heap.size w0 w1 := hB1
   clear f0 f1 f2
   have f0 := (b0.below hB1 b0.lt).at 0 rfl; have f1 := (b0.below hB1 b0.lt).at 1 rfl; have f2 := (b0.below hB1 b0.lt).at 2 rfl
   clear HDT
   go_wp2_with fail
   refine (HND.out w1 hB1).mono ?_
   rintro e w2 ⟨bn, vs, rfl, hbn, hD, hB2⟩
   obtain ⟨w3, hw3⟩ : ∃ w3, w3 = w2.alloc (.cells #[.int .i64 G.q, .int .i64 G.n, .slice p G.es.length c, .slice (some ⟨bn, 0, none⟩) M M] 103) := ⟨_, rfl⟩
   obtain ⟨B8, hB8⟩ : ∃ B8, B8 = w2.heap.size := ⟨_, rfl⟩
   have hB23 : RowKit.Below w2.heap.size w2 w3 := by rw [hw3]; exact (RowKit.Below.refl _ _).alloc (Nat.le_refl _) _
   have hD3 := hD.mem.below hB23
   have h8 : VRow w3 B8 103 [.int .i64 G.q, .int .i64 G.n, .slice p G.es.length c, .slice (some ⟨bn, 0, none⟩) M M] := by rw [hw3, hB8]; exact VRow.new w2 _ _
   have hB3 : RowKit.Below w0.heap.size w0 w3 := (hB1.trans (hB2.mono hB1.size)).trans (hB23.mono (by have := hB1.size; have := hB2.size; omega))
   have H8 := hidI (fun W (h : RowKit.Below w3.heap.size w3 W) => h8.below h h8.lt)
   have HD3 := hidI (fun W (h : RowKit.Below w3.heap.size w3 W) => hD3.below h)
   have HB3 := hidI (fun W (h : RowKit.Below w3.heap.size w3 W) => hB3.trans (h.mono hB3.size))
   have d3 := h8.at 3 rfl
   clear hB23 hD3 hD hbn hB2 f0 f1 f2 h8 hB3 hB1 b0
   go_upto_region 7 with fail
   rw [← hw3, ← hB8]
   clear hw3 hB8
   go_wp2_with fail
   clear d3 q0
   go_loopw [10, 37] (fun nv iv wr => ∃ m : Nat, m ≤ M ∧ iv = .int .i64 m ∧ nv = .int .i64 ((minS N G.es m (M + 1) : Nat) : Int) ∧ RowKit.Below w3.heap.size w3 wr) (fun _ iv _ => M - (intOf iv).toNat)
   case atStart => exact ⟨0, by omega, rfl, rfl, RowKit.Below.refl _ _⟩
   case round =>
    obtain ⟨m, hm, rfl, rfl, hB⟩ := hrel
    by_cases hlt : m < M
    ·have hltI : (m : Int) < (M : Int) := by omega
     have h8 := H8.out wr hB
     have d0 := h8.at 0 rfl; have d1 := h8.at 1 rfl; have d2 := h8.at 2 rfl; have d3 := h8.at 3 rfl
     have HS := hidI (HSH.out bn m (minS N G.es m (M + 1)) hlt (minS_ge N G.es (by omega) m) (Nat.le_trans (minS_le N G.es (M + 1) m) (by omega)) wr (HB3.out wr hB) (HD3.out wr hB))
     have HSU : Hid (shA N G.es m (minS N G.es m (M + 1)) = minS N G.es (m + 1) (M + 1)) := rfl
     rw [HSU.out] at HS
     clear h8
     go_wp2_with fail
     refine HS.out.mono ?_
     rintro e w4 ⟨rfl, hB4⟩
     have hB5 := hB.trans (hB4.mono hB.size)
     go_wp2
     go_roundw
     case rel => exact ⟨m + 1, by omega, by go_num, rfl, hB5⟩
     case measure => simp [intOf]; omega
    ·obtain rfl : m = M := by omega
     have hltI : ¬ (m : Int) < (m : Int) := by omega
     have hn1 := minS_ge N G.es (n := m + 1) (by omega) m
     have hn2 := minS_le N G.es (m + 1) m
     obtain ⟨n, hn⟩ : ∃ n, n = minS N G.es m (m + 1) := ⟨_, rfl⟩
     rw [← hn] at HK hn1 hn2
     rw [← hn]
     clear hn
     by_cases he : n = m + 1
     ·have hb : ((n : Int) == ((m + 1 : Nat) : Int)) = true := by simp [he]
      rw [if_pos he] at HK
      have hX := HB0.out.trans ((HB3.out wr hB).mono HB0.out.size)
      clear he
      go_wp2_with fail
      refine bodyPost_ret (v := .tuple #[.slice none 0 0, .slice none 0 0, .bool false, .int .i64 0]) (by simp [results, Tryz.results31, go_sem]) rfl ?_
      rw [HK.out]
      exact ⟨hX, none, none, 0, 0, rfl, Sl.nil _ _ _, Sl.nil _ _ _⟩
     ·have hb : ((n : Int) == ((m + 1 : Nat) : Int)) = false := by simp; omega
      rw [if_neg he] at HK
      have h8 := H8.out wr hB
      have d3 := h8.at 3 rfl
      have ht : TwoL (bstW N G.es n 0) (.slice none 0 0) (.slice none 0 0) wr := TwoL.nil wr
      clear h8 he
      go_wp2_with fail
      clear d3 hb
      go_loopw [12, 13, 51] (fun fv sv iv wr => ∃ j : Nat, j ≤ m ∧ iv = .int .i64 j ∧ TwoL (bstW N G.es n j) fv sv wr ∧ RowKit.Below w3.heap.size w3 wr) (fun _ _ iv _ => m - (intOf iv).toNat)
      case atStart => exact ⟨0, by omega, rfl, ht, hB⟩
      case round =>
       clear ht hB
       obtain ⟨j, hj, rfl, ht, hB⟩ := hrel
       by_cases hlt : j < m
       ·have hltI2 : (j : Int) < (m : Int) := by omega
        have h8 := H8.out wr hB
        have d0 := h8.at 0 rfl; have d1 := h8.at 1 rfl; have d2 := h8.at 2 rfl; have d3 := h8.at 3 rfl
        have HC := hidI (HCY.out bn j n hlt (by omega) wr (HB3.out wr hB) (HD3.out wr hB))
        obtain ⟨oc, hoc⟩ : ∃ o, o = cycA N G.es j n := ⟨_, rfl⟩
        have HBS : Hid (bstW N G.es n (j + 1) = bstS oc (bstW N G.es n j)) := by rw [hoc]; exact bstW_succ _ _ _ _
        have HCL : Hid (∀ x, oc = some x → x.length = n) := fun x e => cycA_len (hoc.symm.trans e)
        rw [← hoc] at HC
        have HBL := hidI (fun f => @bst_len N G.es n j f)
        obtain ⟨ob, hob⟩ : ∃ o, o = bstW N G.es n j := ⟨_, rfl⟩
        rw [← hob] at HBS HBL ht
        clear h8 hoc hob
        go_wp2_with fail
        refine HC.out.mono ?_
        rintro e w4 ⟨hB4, pa, pb, ca, cb, rfl, hnil, hsa, hsb⟩
        have hB5 := hB.trans (hB4.mono hB.size)
        have ht4 := ht.below hB4
        clear HC ht hB hB4 d0 d1 d2 d3
        rcases oc with _ | x
        ·obtain rfl := hnil rfl
         simp only [Option.getD_none, List.length_nil]
         have hbs : bstW N G.es n (j + 1) = ob := HBS.out
         rw [← hbs] at ht4
         clear hbs
         clear HBS hsa hsb hnil
         go_wp2_with fail
         go_roundw
         case rel => exact ⟨j + 1, by omega, by go_num, ht4, hB5⟩
         case measure => simp [intOf]; omega
        ·have hxn := HCL.out x rfl
         simp only [Option.getD_some] at hsa hsb ⊢
         have hl1 : (fstI x).length = x.length := by simp [fstI]
         have hl2 : (sndI x).length = x.length := by simp [sndI]
         obtain ⟨ba, oa, rfl, _⟩ := hsa.get 0 (by rw [hl1]; omega)
         obtain ⟨pf, qf, cf, df, rfl, rfl, hfn, hfa, hfb⟩ := ht4.ex
         have hTX : TwoL (some x) (.slice (some ⟨ba, oa, none⟩) x.length ca) (.slice pb x.length cb) w4 := ⟨_, _, _, _, rfl, rfl, (fun e => by cases e), hsa, hsb⟩
         have hm1 : ((fstI (ob.getD [])).length) = (ob.getD []).length := by simp [fstI]
         have hm2 : ((sndI (ob.getD [])).length) = (ob.getD []).length := by simp [sndI]
         have hob : (ob.getD []).length ≤ 4097 := by
          cases ob with
          | none => simp
          | some f => have := HBL.out f rfl; show f.length ≤ 4097; omega
         have HC1 := hidI (compareI_any (fstI x) (fstI (ob.getD [])) (some ⟨ba, oa, none⟩) pf ca cf w4 hsa hfa (by omega) (by omega))
         have HC2 := hidI (compareI_any (sndI x) (sndI (ob.getD [])) pb qf cb df w4 hsb hfb (by omega) (by omega))
         rw [hl1, hm1] at HC1
         rw [hl2, hm2] at HC2
         have HT4 := hidI ht4
         have HTX := hidI hTX
         have hB5' := hidI hB5
         have HXN := hidI hxn
         clear hsa hsb hfa hfb hl1 hl2 hm1 hm2 ht4 hTX hnil hxn
         rcases ob with _ | f
         ·obtain rfl := hfn rfl
          have HU : Hid (bstW N G.es n (j + 1) = some x) := HBS.out
          clear HBS HC2
          generalize cmpL (fstI x) (fstI ((none : Option (List (Nat × Nat))).getD [])) = C1 at *
          simp only [Option.getD_none, List.length_nil] at HC1 ⊢
          go_wp2_with fail
          refine HC1.out.mono ?_
          rintro e w5 ⟨rfl, rfl⟩
          go_wp2_with fail
          go_roundw
          case rel => exact ⟨j + 1, by omega, by go_num, by rw [HU.out]; exact HTX.out, hB5'.out⟩
          case measure => simp [intOf]; omega
         ·have hR1 : Hid (cmpL (fstI x) (fstI f) < 0 → bstW N G.es n (j + 1) = some x) := fun h => by
           have e : bstW N G.es n (j + 1) = some (betW x (some f)) := HBS.out
           rw [e]; simp only [betW]; rw [if_pos h]
          have hR2 : Hid (¬ cmpL (fstI x) (fstI f) < 0 → cmpL (fstI x) (fstI f) ≠ 0 → bstW N G.es n (j + 1) = some f) := fun h h2 => by
           have e : bstW N G.es n (j + 1) = some (betW x (some f)) := HBS.out
           rw [e]; simp only [betW]; rw [if_neg h, if_neg h2]
          have hR3 : Hid (cmpL (fstI x) (fstI f) = 0 → cmpL (sndI x) (sndI f) < 0 → bstW N G.es n (j + 1) = some x) := fun h h2 => by
           have e : bstW N G.es n (j + 1) = some (betW x (some f)) := HBS.out
           rw [e]; simp only [betW]; rw [if_neg (by omega), if_pos h, if_pos h2]
          have hR4 : Hid (cmpL (fstI x) (fstI f) = 0 → ¬ cmpL (sndI x) (sndI f) < 0 → bstW N G.es n (j + 1) = some f) := fun h h2 => by
           have e : bstW N G.es n (j + 1) = some (betW x (some f)) := HBS.out
           rw [e]; simp only [betW]; rw [if_neg (by omega), if_pos h, if_neg h2]
          have hfl := HBL.out f rfl
          obtain ⟨pf2, qf2, cf2, df2, e1, e2, _, hfa2, _⟩ := HT4.out.ex
          simp only [Option.getD_some] at HC1 HC2 e1 e2 hfa2 ⊢
          cases e1; cases e2
          obtain ⟨bf, of, rfl, _⟩ := hfa2.get 0 (by simp [fstI]; omega)
          generalize cmpL (fstI x) (fstI f) = C1 at *
          generalize cmpL (sndI x) (sndI f) = C2 at *
          clear HBS hfa2 hfn hfl
          go_wp2_with fail
          refine HC1.out.mono ?_
          rintro e w5 ⟨rfl, rfl⟩
          by_cases h1 : C1 < 0
          ·have HU := hidI (hR1.out h1)
           clear hR1 hR2 hR3 hR4 HC1 HC2
           go_wp2_with fail
           go_roundw
           case rel => exact ⟨j + 1, by omega, by go_num, by rw [HU.out]; exact HTX.out, hB5'.out⟩
           case measure => simp [intOf]; omega
          ·by_cases h2 : C1 = 0
           ·have hb2 : (C1 == 0) = true := by simp [h2]
            by_cases h3 : C2 < 0
            ·have HU := hidI (hR3.out h2 h3)
             clear hR1 hR2 hR3 hR4 HC1 h2
             go_wp2_with fail
             refine HC2.out.mono ?_
             rintro e w6 ⟨rfl, rfl⟩
             go_wp2_with fail
             go_roundw
             case rel => exact ⟨j + 1, by omega, by go_num, by rw [HU.out]; exact HTX.out, hB5'.out⟩
             case measure => simp [intOf]; omega
            ·have HU := hidI (hR4.out h2 (by omega))
             clear hR1 hR2 hR3 hR4 HC1 h2
             go_wp2_with fail
             refine HC2.out.mono ?_
             rintro e w6 ⟨rfl, rfl⟩
             go_wp2_with fail
             go_roundw
             case rel => exact ⟨j + 1, by omega, by go_num, by rw [HU.out]; exact HT4.out, hB5'.out⟩
             case measure => simp [intOf]; omega
           ·have hb2 : (C1 == 0) = false := by simpa using h2
            have HU := hidI (hR2.out (by omega) h2)
            clear hR1 hR2 hR3 hR4 HC1 HC2 h2
            go_wp2_with fail
            go_roundw
            case rel => exact ⟨j + 1, by omega, by go_num, by rw [HU.out]; exact HT4.out, hB5'.out⟩
            case measure => simp [intOf]; omega
       ·obtain rfl : j = m := by omega
        have hltI2 : ¬ (j : Int) < (j : Int) := by omega
        obtain ⟨pf, qf, cf, df, rfl, rfl, hfn, hfa, hfb⟩ := ht.ex
        have hX := HB0.out.trans ((HB3.out wr hB).mono HB0.out.size)
        generalize bstW N G.es n j = ob at *
        clear ht hfn hB
        go_wp2_with fail
        refine bodyPost_ret (v := .tuple #[.slice pf (ob.getD []).length cf, .slice qf (ob.getD []).length df, .bool true, .int .i64 0]) (by simp [results, Tryz.results31, go_sem]) rfl ?_
        rw [HK.out]
        exact ⟨hX, pf, qf, cf, df, rfl, hfa, hfb⟩
 ·have HK : Hid (witA G = ([], false, 1)) := by unfold Hid witA; rw [if_pos hc]
  rw [detA_bad hc] at HDT
  clear hc hin
  go_enter Tryz.func31, Tryz.ntmps31
  go_upto_region 1 with fail
  rw [← hw0]
  clear hw0
  go_wp2_with fail
  refine HDT.out.mono ?_
  rintro e w1 ⟨rfl, hB1⟩
  have x1 := hB0.trans (RowKit.Below.mono hB1 hB0.size)
  go_wp2
  refine bodyPost_ret (v := .tuple #[.slice none 0 0, .slice none 0 0, .bool false, .int .i64 1]) (by simp [results, Tryz.results31, go_sem]) rfl ?_
  rw [HK.out]
  exact ⟨x1, none, none, 0, 0, rfl, Sl.nil _ _ _, Sl.nil _ _ _⟩
end
section
open Go.RowKit Go.Sort Go.Shelf Go.Lib
def RetG2 (G : Gr) (w : World) (e : Ending) (w' : World) : Prop := ∃ p c, e = .returned (.agg #[.int .i64 2, .int .i64 2, .slice p 3 c]) ∧ Sg 3 w' edE p G.es ∧ RowKit.Below w.heap.size w w'
set_option maxRecDepth 100000 in
set_option maxHeartbeats 1000000 in
theorem golden15_any (w : World) : Calls Tryz.prog 71 #[] w (RetG2 goldG w) := by
 go_enter Tryz.func71, Tryz.ntmps71
 go_wp2
 have b1 : VRow ((w.alloc (.cells #[.int .i64 2, .int .i64 2, .slice (some ⟨w.heap.size + 1, 0, none⟩) 3 3] 24)).alloc (.cells #[.int .i64 0, .int .i64 0, .int .i64 0, .int .i64 0, .int .i64 1, .int .i64 1, .int .i64 1, .int .i64 0, .int .i64 0] 44)) w.heap.size 24 [.int .i64 2, .int .i64 2, .slice (some ⟨w.heap.size + 1, 0, none⟩) 3 3] := (VRow.new w _ _).alloc _
 have y0 := b1.at 0 rfl; have y1 := b1.at 1 rfl; have y2 := b1.at 2 rfl
 have hr : VRow ((w.alloc (.cells #[.int .i64 2, .int .i64 2, .slice (some ⟨w.heap.size + 1, 0, none⟩) 3 3] 24)).alloc (.cells #[.int .i64 0, .int .i64 0, .int .i64 0, .int .i64 0, .int .i64 1, .int .i64 1, .int .i64 1, .int .i64 0, .int .i64 0] 44)) (w.heap.size + 1) 44 (cat goldG.es) := VRow.new1 w _ _ _
 have x1 : RowKit.Below w.heap.size w ((w.alloc (.cells #[.int .i64 2, .int .i64 2, .slice (some ⟨w.heap.size + 1, 0, none⟩) 3 3] 24)).alloc (.cells #[.int .i64 0, .int .i64 0, .int .i64 0, .int .i64 0, .int .i64 1, .int .i64 1, .int .i64 1, .int .i64 0, .int .i64 0] 44)) := ((RowKit.Below.refl _ _).alloc (Nat.le_refl _) _).alloc (by simp) _
 refine bodyPost_ret (v := (.agg #[.int .i64 2, .int .i64 2, .slice (some ⟨w.heap.size + 1, 0, none⟩) 3 3])) (by simp [results, Tryz.results71, go_sem, y0, y1, y2]) rfl ?_
 exact ⟨_, _, rfl, Sg.of_row hr, x1⟩
set_option maxRecDepth 100000 in
set_option maxHeartbeats 1000000 in
theorem even15_any (w : World) : Calls Tryz.prog 72 #[] w (RetG2 evenG w) := by
 go_enter Tryz.func72, Tryz.ntmps72
 go_wp2
 have b1 : VRow ((w.alloc (.cells #[.int .i64 2, .int .i64 2, .slice (some ⟨w.heap.size + 1, 0, none⟩) 3 3] 24)).alloc (.cells #[.int .i64 0, .int .i64 0, .int .i64 1, .int .i64 0, .int .i64 1, .int .i64 0, .int .i64 1, .int .i64 0, .int .i64 0] 44)) w.heap.size 24 [.int .i64 2, .int .i64 2, .slice (some ⟨w.heap.size + 1, 0, none⟩) 3 3] := (VRow.new w _ _).alloc _
 have y0 := b1.at 0 rfl; have y1 := b1.at 1 rfl; have y2 := b1.at 2 rfl
 have hr : VRow ((w.alloc (.cells #[.int .i64 2, .int .i64 2, .slice (some ⟨w.heap.size + 1, 0, none⟩) 3 3] 24)).alloc (.cells #[.int .i64 0, .int .i64 0, .int .i64 1, .int .i64 0, .int .i64 1, .int .i64 0, .int .i64 1, .int .i64 0, .int .i64 0] 44)) (w.heap.size + 1) 44 (cat evenG.es) := VRow.new1 w _ _ _
 have x1 : RowKit.Below w.heap.size w ((w.alloc (.cells #[.int .i64 2, .int .i64 2, .slice (some ⟨w.heap.size + 1, 0, none⟩) 3 3] 24)).alloc (.cells #[.int .i64 0, .int .i64 0, .int .i64 1, .int .i64 0, .int .i64 1, .int .i64 0, .int .i64 1, .int .i64 0, .int .i64 0] 44)) := ((RowKit.Below.refl _ _).alloc (Nat.le_refl _) _).alloc (by simp) _
 refine bodyPost_ret (v := (.agg #[.int .i64 2, .int .i64 2, .slice (some ⟨w.heap.size + 1, 0, none⟩) 3 3])) (by simp [results, Tryz.results72, go_sem, y0, y1, y2]) rfl ?_
 exact ⟨_, _, rfl, Sg.of_row hr, x1⟩
theorem run_mx6 (w : World) : (Builtin.max_ #[27, 27, 27, 27, 27, 27] 27 #[.int .i64 0, .int .i64 0, .int .i64 0, .int .i64 0, .int .i64 0, .int .i64 0]).run Tryz.prog w = .ok (.int .i64 0) w := by kernel_rfl
set_option maxRecDepth 100000 in
set_option maxHeartbeats 4000000 in
theorem awake15_any (w : World) : Calls Tryz.prog 22 #[] w fun e w' => e = .returned (.bool true) ∧ RowKit.Below w.heap.size w w' := by
 have HM : Hid (∀ W p c, Sg 3 W edE p goldG.es → Calls Tryz.prog 23 #[(.agg #[.int .i64 2, .int .i64 2, .slice p 3 c])] W fun e w' => e = .returned (.tuple #[.int .i64 1, .bool true, .int .i64 0]) ∧ RowKit.Below W.heap.size W w') := fun W p c hs => by
  have h := mmMemory_any goldG p c W hs (by decide); rw [gold_mem] at h; exact h
 have HA : Hid (∀ W p c, Sg 3 W edE p goldG.es → Calls Tryz.prog 25 #[(.agg #[.int .i64 2, .int .i64 2, .slice p 3 c])] W fun e w' => e = .returned (.tuple #[.int .i64 0, .bool true, .int .i64 0]) ∧ RowKit.Below W.heap.size W w') := fun W p c hs => by
  have h := mmAntic_any goldG p c W hs (by decide); rw [gold_ant] at h; exact h
 have HT : Hid (∀ W p c, Sg 3 W edE p goldG.es → Calls Tryz.prog 27 #[(.agg #[.int .i64 2, .int .i64 2, .slice p 3 c])] W fun e w' => e = .returned (.tuple #[.int .i64 1, .bool true, .int .i64 0]) ∧ RowKit.Below W.heap.size W w') := fun W p c hs => by
  have h := mmType_any goldG p c W hs (by decide); rw [gold_typ] at h; exact h
 have HN : Hid (∀ W p c, Sg 3 W edE p evenG.es → Calls Tryz.prog 23 #[(.agg #[.int .i64 2, .int .i64 2, .slice p 3 c])] W fun e w' => e = .returned (.tuple #[.int .i64 0, .bool false, .int .i64 0]) ∧ RowKit.Below W.heap.size W w') := fun W p c hs => by
  have h := mmMemory_any evenG p c W hs (by decide); rw [even_mem] at h; exact h
 have HI : Hid (∀ W p c, Sg 3 W edE p evenG.es → Calls Tryz.prog 27 #[(.agg #[.int .i64 2, .int .i64 2, .slice p 3 c])] W fun e w' => e = .returned (.tuple #[.int .i64 0, .bool false, .int .i64 0]) ∧ RowKit.Below W.heap.size W w') := fun W p c hs => by
  have h := mmType_any evenG p c W hs (by decide); rw [even_typ] at h; exact h
 have HW : Hid (∀ W p c, Sg 3 W edE p evenG.es → Calls Tryz.prog 31 #[(.agg #[.int .i64 2, .int .i64 2, .slice p 3 c])] W fun e w' => ∃ q r cq cr, e = .returned (.tuple #[.slice q 2 cq, .slice r 2 cr, .bool true, .int .i64 0]) ∧ Sl w' (Value.int .i64) q [0, 2] ∧ Sl w' (Value.int .i64) r [2, 0] ∧ RowKit.Below W.heap.size W w') := fun W p c hs => by
  have h := mmWitness_any evenG p c W hs (by decide)
  rw [even_wit] at h
  exact h.mono (fun e w' ⟨hB, q, r, cq, cr, h1, h2, h3⟩ => ⟨q, r, cq, cr, h1, h2, h3, hB⟩)
 go_enter Tryz.func22, Tryz.ntmps22
 go_wp2_with fail
 refine (golden15_any w).mono ?_
 rintro e w1 ⟨p1, c1, rfl, s1, hB1⟩
 have x1 := hB1
 go_wp2_with fail
 refine (HM.out w1 p1 c1 s1).mono ?_
 rintro e w2 ⟨rfl, hB2⟩
 have x2 := x1.trans (hB2.mono x1.size)
 clear s1 HM hB1 hB2 x1
 go_wp2_with fail
 refine (golden15_any w2).mono ?_
 rintro e w3 ⟨p3, c3, rfl, s3, hB3⟩
 have x3 := x2.trans (hB3.mono x2.size)
 go_wp2_with fail
 refine (HA.out w3 p3 c3 s3).mono ?_
 rintro e w4 ⟨rfl, hB4⟩
 have x4 := x3.trans (hB4.mono x3.size)
 clear s3 HA hB3 hB4 x2 x3
 go_wp2_with fail
 refine (golden15_any w4).mono ?_
 rintro e w5 ⟨p5, c5, rfl, s5, hB5⟩
 have x5 := x4.trans (hB5.mono x4.size)
 go_wp2_with fail
 refine (HT.out w5 p5 c5 s5).mono ?_
 rintro e w6 ⟨rfl, hB6⟩
 have x6 := x5.trans (hB6.mono x5.size)
 clear s5 HT hB5 hB6 x4 x5
 go_wp2_with fail
 refine (even15_any w6).mono ?_
 rintro e w7 ⟨p7, c7, rfl, s7, hB7⟩
 have x7 := x6.trans (hB7.mono x6.size)
 go_wp2_with fail
 refine (HN.out w7 p7 c7 s7).mono ?_
 rintro e w8 ⟨rfl, hB8⟩
 have x8 := x7.trans (hB8.mono x7.size)
 clear s7 HN hB7 hB8 x6 x7
 go_wp2_with fail
 refine (even15_any w8).mono ?_
 rintro e w9 ⟨p9, c9, rfl, s9, hB9⟩
 have x9 := x8.trans (hB9.mono x8.size)
 go_wp2_with fail
 refine (HI.out w9 p9 c9 s9).mono ?_
 rintro e w10 ⟨rfl, hB10⟩
 have x10 := x9.trans (hB10.mono x9.size)
 clear s9 HI hB9 hB10 x8 x9
 go_wp2_with fail
 refine (even15_any w10).mono ?_
 rintro e w11 ⟨p11, c11, rfl, s11, hB11⟩
 have x11 := x10.trans (hB11.mono x10.size)
 go_wp2_with fail
 refine (HW.out w11 p11 c11 s11).mono ?_
 rintro e w12 ⟨q, r, cq, cr, rfl, hq, hr, hB12⟩
 have x12 := x11.trans (hB12.mono x11.size)
 clear s11 HW hB11 hB12 x10 x11
 have hr1 : VRow (w12.alloc (.cells #[.int .i64 0, .int .i64 2] 3)) w12.heap.size 3 (([0, 2] : List Int).map (Value.int .i64)) := VRow.new w12 _ _
 have hB13 : RowKit.Below w12.heap.size w12 (w12.alloc (.cells #[.int .i64 0, .int .i64 2] 3)) := (RowKit.Below.refl _ _).alloc (Nat.le_refl _) _
 have HE1 : Hid (Calls Tryz.prog 20 #[.slice q 2 cq, .slice (some ⟨w12.heap.size, 0, none⟩) 2 2] (w12.alloc (.cells #[.int .i64 0, .int .i64 2] 3)) fun e w' => e = .returned (.bool true) ∧ RowKit.Below w12.heap.size w12 w') := by
  have h := equalI_n [0, 2] [0, 2] q (some ⟨w12.heap.size, 0, none⟩) cq 2 _ (hq.below hB13) (Sl.of_vrow hr1) (by decide) (by decide)
  rw [decide_eq_true rfl] at h
  exact h.mono (fun e w' h => ⟨h.1, hB13.trans ((h.2.below _).mono hB13.size)⟩)
 clear hr1
 have hr := hidI hr
 have hmx := run_mx6
 go_wp2_with fail
 refine HE1.out.mono ?_
 rintro e w13 ⟨rfl, hB14⟩
 have x13 := x12.trans (hB14.mono x12.size)
 have hr14 := hr.out.below hB14
 have hr2 : VRow (w13.alloc (.cells #[.int .i64 2, .int .i64 0] 3)) w13.heap.size 3 (([2, 0] : List Int).map (Value.int .i64)) := VRow.new w13 _ _
 have hB15 : RowKit.Below w13.heap.size w13 (w13.alloc (.cells #[.int .i64 2, .int .i64 0] 3)) := (RowKit.Below.refl _ _).alloc (Nat.le_refl _) _
 have HE2 : Hid (Calls Tryz.prog 20 #[.slice r 2 cr, .slice (some ⟨w13.heap.size, 0, none⟩) 2 2] (w13.alloc (.cells #[.int .i64 2, .int .i64 0] 3)) fun e w' => e = .returned (.bool true) ∧ RowKit.Below w13.heap.size w13 w') := by
  have h := equalI_n [2, 0] [2, 0] r (some ⟨w13.heap.size, 0, none⟩) cr 2 _ (hr14.below hB15) (Sl.of_vrow hr2) (by decide) (by decide)
  rw [decide_eq_true rfl] at h
  exact h.mono (fun e w' h => ⟨h.1, hB15.trans ((h.2.below _).mono hB15.size)⟩)
 clear hr2 HE1 hr hr14 x12 hB14 hB13 hB15
 go_wp2_with fail
 refine HE2.out.mono ?_
 rintro e w14 ⟨rfl, hB16⟩
 have x14 := x13.trans (hB16.mono x13.size)
 go_wp2
 go_ret
 exact ⟨rfl, x14⟩
end
section
open Go.RowKit Go.Sort Go.Shelf Go.Lib
def gr15 (G : Gr) : Bool := (decide (8 < G.n) && decide (G.n ≤ 64)) || ((decide (30 < G.es.length) && decide (G.es.length ≤ 1024)) || decide (1027 < G.es.length))
set_option maxRecDepth 100000 in
set_option maxHeartbeats 1000000 in
theorem r11Great_any (G : Gr) (p : Option Addr) (c : Nat) (w : World) (hl : G.es.length ≤ 9223372036854775807) :
  Calls Tryz.prog 70 #[(.agg #[.int .i64 G.q, .int .i64 G.n, .slice p G.es.length c])] w fun e w' => e = .returned (.bool (gr15 G)) ∧ RowKit.Below w.heap.size w w' := by
 have b0 : VRow (w.alloc (.cells #[.int .i64 G.q, .int .i64 G.n, .slice p G.es.length c] 24)) w.heap.size 24 [.int .i64 G.q, .int .i64 G.n, .slice p G.es.length c] := VRow.new w _ _
 have hB0 : RowKit.Below w.heap.size w (w.alloc (.cells #[.int .i64 G.q, .int .i64 G.n, .slice p G.es.length c] 24)) := (RowKit.Below.refl _ _).alloc (Nat.le_refl _) _
 have HG : Hid (gr15 G = ((decide (8 < G.n) && decide (G.n ≤ 64)) || ((decide (30 < G.es.length) && decide (G.es.length ≤ 1024)) || decide (1027 < G.es.length)))) := rfl
 have f0 := b0.at 0 rfl; have f1 := b0.at 1 rfl; have f2 := b0.at 2 rfl
 go_enter Tryz.func70, Tryz.ntmps70
 go_wp2
 all_goals go_ret
 all_goals exact ⟨ret_bool (by rw [HG.out, Bool.eq_iff_iff]; simp; omega), hB0⟩
set_option maxRecDepth 100000 in
theorem great15_any (G : Gr) (p : Option Addr) (c : Nat) (w : World) (hl : G.es.length ≤ 9223372036854775807) :
  Calls Tryz.prog 21 #[(.agg #[.int .i64 G.q, .int .i64 G.n, .slice p G.es.length c])] w fun e w' => e = .returned (.bool (gr15 G)) ∧ RowKit.Below w.heap.size w w' := by
 have b0 : VRow (w.alloc (.cells #[.int .i64 G.q, .int .i64 G.n, .slice p G.es.length c] 24)) w.heap.size 24 [.int .i64 G.q, .int .i64 G.n, .slice p G.es.length c] := VRow.new w _ _
 have hB0 : RowKit.Below w.heap.size w (w.alloc (.cells #[.int .i64 G.q, .int .i64 G.n, .slice p G.es.length c] 24)) := (RowKit.Below.refl _ _).alloc (Nat.le_refl _) _
 have hR := hidI (r11Great_any G p c (w.alloc (.cells #[.int .i64 G.q, .int .i64 G.n, .slice p G.es.length c] 24)) hl)
 have f0 := b0.at 0 rfl; have f1 := b0.at 1 rfl; have f2 := b0.at 2 rfl
 generalize gr15 G = b at *
 go_enter Tryz.func21, Tryz.ntmps21
 go_wp2_with fail
 refine hR.out.mono ?_
 rintro e w1 ⟨rfl, hB1⟩
 go_wp2
 go_ret
 exact ⟨rfl, hB0.trans (hB1.mono hB0.size)⟩
end
section
open Go.RowKit
section
variable {G : Gr} {N : Nat}
end
section
variable {G : Gr} {N : Nat}
theorem lkB_rep (n j : Nat) : lkB (List.replicate n false) j = false := by
 by_cases h : j < n
 ·rw [lkB_get (by simpa using h)]; simp
 ·exact lkB_out (by simp; omega)
end
end
section
open Go.RowKit Go.Sort Go.Shelf
def rowF (N : Nat) (F : List Bool) (i : Nat) : List Bool := (List.range N).map fun t => lkB F (i * N + t)
theorem rowF_len (N : Nat) (F : List Bool) (i : Nat) : (rowF N F i).length = N := by simp [rowF]
theorem rowF_get {N : Nat} {F : List Bool} {i t : Nat} (h : t < N) : (rowF N F i)[t]'(by rw [rowF_len]; exact h) = lkB F (i * N + t) := by simp [rowF]
theorem place_inj {N s t i j : Nat} (ht : t < N) (hj : j < N) (h : s * N + t = i * N + j) : s = i ∧ t = j := by
 have e : s = i := by
  rcases Nat.lt_trichotomy s i with h' | h' | h'
  ·have := Nat.mul_le_mul_right N (show s + 1 ≤ i by omega); rw [Nat.succ_mul] at this; omega
  ·exact h'
  ·have := Nat.mul_le_mul_right N (show i + 1 ≤ s by omega); rw [Nat.succ_mul] at this; omega
 subst e
 exact ⟨rfl, by omega⟩
theorem place_lt {N s t k : Nat} (hs : s < k) (ht : t < N) : s * N + t < k * N := by
 have := Nat.mul_le_mul_right N (show s + 1 ≤ k by omega)
 rw [Nat.succ_mul] at this; omega
theorem rowF_set {N : Nat} {F : List Bool} {s t : Nat} (hF : s * N + t < F.length) (ht : t < N) (v : Bool) (i : Nat) : rowF N (F.set (s * N + t) v) i = if i = s then (rowF N F i).set t v else rowF N F i := by
 refine List.ext_getElem (by split <;> simp [rowF]) (fun j h1 h2 => ?_)
 have hj : j < N := by rw [rowF_len] at h1; exact h1
 rw [rowF_get hj, lkB_set hF]
 by_cases e : i = s
 ·subst e
  simp only [if_true]
  rw [List.getElem_set]
  by_cases e2 : t = j
  ·subst e2; simp
  ·rw [if_neg (fun h => e2 (place_inj ht hj h).2), if_neg e2, rowF_get hj]
 ·simp only [if_neg e]
  rw [rowF_get hj, if_neg (fun h => e (place_inj ht hj h).1.symm)]
theorem rowF_rep (N n i : Nat) : rowF N (List.replicate n false) i = List.replicate N false := by
 refine List.ext_getElem (by simp [rowF]) (fun j h1 h2 => ?_)
 rw [rowF_get (by rw [rowF_len] at h1; exact h1), lkB_rep]; simp
structure PB (B N k : Nat) (F : List Bool) (v : Value) (bs : List Nat) (W : World) : Prop where
 own : W.ownsRow B 90 1 v k (bs.map (fun b => .slice (some ⟨b, 0, none⟩) N N))
 len : bs.length = k
 ge : ∀ b ∈ bs, B ≤ b
 nd : bs.Nodup
 rows : ∀ i (h : i < bs.length), VRow W bs[i] 4 ((rowF N F i).map Value.bool)
section
variable {B N k : Nat} {F : List Bool} {v : Value} {bs : List Nat} {W W' : World}
theorem PB.below (h : PB B N k F v bs W) (hB : RowKit.Below W.heap.size W W') : PB B N k F v bs W' :=
 ⟨h.own.below hB, h.len, h.ge, h.nd, fun i hi => (h.rows i hi).below hB (h.rows i hi).lt⟩
theorem PB.mono {B' : Nat} (h : PB B N k F v bs W) (hB : B' ≤ B) : PB B' N k F v bs W :=
 ⟨own_baseI h.own hB, h.len, fun b hb => Nat.le_trans hB (h.ge b hb), h.nd, h.rows⟩
theorem PB.shape (h : PB B N k F v bs W) : ∃ p cap, v = .slice p k cap ∧ ∀ s (hs : s < k), ∃ g, p = some ⟨g, 0, none⟩ ∧ g < W.heap.size ∧ W.cell? ⟨g, s, none⟩ = some (.slice (some ⟨bs[s]'(by rw [h.len]; exact hs), 0, none⟩) N N) := by
 rcases h.own.2 with ⟨e, h0⟩ | ⟨g, cap, cur, e, hg, hh, hc, hm, hs, ht⟩
 ·exact ⟨none, 0, by rw [e, h0], fun s hs => by omega⟩
 ·refine ⟨some ⟨g, 0, none⟩, cap, e, fun s hs => ⟨g, rfl, (Array.getElem?_eq_some_iff.1 hh).1, ?_⟩⟩
  obtain ⟨q, d, e', hsl⟩ := own_sl (enc := fun b : Nat => Value.slice (some ⟨b, 0, none⟩) N N) (l := bs) h.own
  rw [e] at e'
  cases e'
  obtain ⟨b, o, ep, _, hcl⟩ := hsl.get s (by rw [h.len]; exact hs)
  cases ep
  have := hcl s (by rw [h.len]; exact hs)
  rwa [Nat.zero_add] at this
theorem PB.get (h : PB B N k F v bs W) {s t : Nat} (hs : s < bs.length) (ht : t < N) : W.cell? ⟨bs[s], t, none⟩ = some (.bool (lkB F (s * N + t))) := by
 rw [(h.rows s hs).cell]
 have : t < (rowF N F s).length := by rw [rowF_len]; exact ht
 simp [this, rowF_get ht]
theorem own_setO {e b i sz n : Nat} {t : TypeId} {u : Value} {xs l : List Value} (h : W.ownsRow B e sz v n xs) (hb : VRow W b t l) (hne : t ≠ e) : (W.setCell ⟨b, i, none⟩ u).ownsRow B e sz v n xs := by
 refine ⟨h.1, h.2.imp id ?_⟩
 rintro ⟨g, cap, cur, e1, e2, e3, e4⟩
 refine ⟨g, cap, cur, e1, e2, ?_, e4⟩
 have hgb : g ≠ b := fun e' => by
  subst e'
  rw [show W.heap[g]? = _ from hb] at e3
  cases e3; exact hne rfl
 exact (Below.heap_setCell _ _ _ _ hgb).trans e3
theorem PB.set (h : PB B N k F v bs W) {s t : Nat} (hs : s < bs.length) (ht : t < N) (hF : s * N + t < F.length) (u : Bool) : PB B N k (F.set (s * N + t) u) v bs (W.setCell ⟨bs[s], t, none⟩ (.bool u)) := by
 refine ⟨own_setO h.own (h.rows s hs) (by decide), h.len, h.ge, h.nd, fun i hi => ?_⟩
 rw [rowF_set hF ht]
 by_cases e : i = s
 ·subst e
  rw [if_pos rfl, List.map_set]
  exact (h.rows i hi).set (i := t) (.bool u)
 ·rw [if_neg e]
  exact (h.rows i hi).other _ (fun e' => e ((List.getElem_inj h.nd).1 e'))
theorem PB.push {b : Nat} {v' : Value} {W2 : World} (h : PB B N k F v bs W) (hB : RowKit.Below W.heap.size W W2) (hb : W.heap.size ≤ b) (hBW : B ≤ W.heap.size) (hr : VRow W2 b 4 ((rowF N F k).map Value.bool)) (hg : W2.grownBy W' v.ownBlock)
  (ho : W'.ownsRow B 90 1 v' (k + 1) (bs.map (fun b => Value.slice (some ⟨b, 0, none⟩) N N) ++ [.slice (some ⟨b, 0, none⟩) N N])) : PB B N (k + 1) F v' (bs ++ [b]) W' := by
 have h2 := h.below hB
 have hty : ∀ {b : Nat} {l : List Value}, VRow W2 b 4 l → VRow W' b 4 l := fun h => VRow.grown h hg (own_not h2.own h (by decide))
 refine ⟨by rw [List.map_append]; exact ho, by rw [List.length_append, h.len]; rfl, fun x hx => ?_, ?_, fun i hi => ?_⟩
 ·rcases List.mem_append.1 hx with hx | hx
  ·exact h.ge x hx
  ·obtain rfl := List.mem_singleton.1 hx; omega
 ·rw [List.nodup_append]
  refine ⟨h.nd, by simp, fun x hx y hy => ?_⟩
  obtain rfl := List.mem_singleton.1 hy
  obtain ⟨i, hi, rfl⟩ := List.mem_iff_getElem.1 hx
  have := (h.rows i hi).lt
  omega
 ·by_cases hik : i < bs.length
  ·rw [List.getElem_append_left hik]; exact hty (h2.rows i hik)
  ·have hl := h.len
   have : i = bs.length := by simp at hi; omega
   subst this
   have e : (bs ++ [b])[bs.length]'hi = b := by simp
   rw [e, hl]; exact hty hr
end
def RetPB (N : Nat) (F : List Bool) (w : World) (e : Ending) (w' : World) : Prop := ∃ v bs, e = .returned v ∧ PB w.heap.size N N F v bs w' ∧ RowKit.Below w.heap.size w w'
theorem own_emptyB (W : World) {B : Nat} (hB : B ≤ W.heap.size) : (W.alloc (.cells #[] 90)).ownsRow B 90 1 (.slice (some ⟨W.heap.size, 0, none⟩) 0 0) 0 [] :=
 ⟨rfl, .inr ⟨W.heap.size, 0, #[], rfl, hB, VRow.new W 90 [], Nat.le_refl _, by simp [maxLen], rfl, rfl⟩⟩
set_option maxRecDepth 100000 in
set_option maxHeartbeats 2000000 in
theorem r15none_any (G : Gr) (p : Option Addr) (c N : Nat) (hN : G.n = N) (hN64 : N ≤ 64) (w : World) : Calls Tryz.prog 142 #[(.agg #[.int .i64 G.q, .int .i64 G.n, .slice p G.es.length c])] w (RetPB N (List.replicate (N * N) false) w) := by
 obtain ⟨i1, hi1, hy0, hy1, hy3⟩ := info_parts infoCb
 obtain ⟨i2, hi2, hx0, hx1, hx3⟩ := info_parts infoBl
 obtain ⟨w0, hw0⟩ : ∃ w0, w0 = w.alloc (.cells #[.int .i64 G.q, .int .i64 G.n, .slice p G.es.length c] 24) := ⟨_, rfl⟩
 have b0 : VRow w0 w.heap.size 24 [.int .i64 G.q, .int .i64 G.n, .slice p G.es.length c] := by subst hw0; exact VRow.new w _ _
 have hB0 : RowKit.Below w.heap.size w w0 := by subst hw0; exact (RowKit.Below.refl _ _).alloc (Nat.le_refl _) _
 have HNN := hidI hN
 have hP0 : PB w0.heap.size N 0 (List.replicate (N * N) false) (.slice (some ⟨w0.heap.size, 0, none⟩) 0 0) [] (w0.alloc (.cells #[] 90)) := ⟨own_emptyB w0 (Nat.le_refl _), rfl, (fun b hb => by cases hb), List.nodup_nil, fun i hi => by simp at hi⟩
 have hB1 : RowKit.Below w0.heap.size w0 (w0.alloc (.cells #[] 90)) := (RowKit.Below.refl _ _).alloc (Nat.le_refl _) _
 clear hN
 go_enter Tryz.func142, Tryz.ntmps142
 go_upto_region 1 with fail
 rw [← hw0]
 clear hw0
 go_wp2_with fail
 go_loopw [3, 4] (fun ov iv wr => ∃ (k : Nat) (bs : List Nat), k ≤ N ∧ iv = .int .i64 k ∧ PB w0.heap.size N k (List.replicate (N * N) false) ov bs wr ∧ RowKit.Below w0.heap.size w0 wr) (fun _ iv _ => N - (intOf iv).toNat)
 case atStart => exact ⟨0, [], Nat.zero_le _, rfl, hP0, hB1⟩
 case round =>
  clear hP0 hB1
  obtain ⟨k, bs, hk, rfl, hP, hB⟩ := hrel
  have c0 := b0.below hB b0.lt
  have f1 := c0.at 1 rfl
  rw [HNN.out] at f1
  clear c0
  by_cases hlt : k < N
  ·have hltI : (k : Int) < (N : Int) := by omega
   have hzr := hB.size
   obtain ⟨pv, mv, cv, rfl⟩ := own_shI hP.own
   go_wp2_with (first
    | (at_make; refine wpList_make_full _ rfl _ _ 90 rfl wr.heap.size 4 i2 (.bool false) 1 Tryz.underlying90 hi2 hx0 hx1 .i64 .i64 _ _ N rfl rfl (by omega) (by omega) (by rw [hx3]; omega) (by unfold maxLen; omega) (Nat.le_refl _) ?_; intro w5 hown hgrow; have hB5 : RowKit.Below wr.heap.size wr w5 := (RowKit.Below.refl _ _).grown hgrow (Nat.le_refl _) (by simp); have hr5 := made_rowZ (z := .bool false) rfl hown; have hnew := cell_one_at w5 (.slice (some ⟨wr.heap.size, 0, none⟩) N N) 90 w5.heap.size rfl; have hown5 := (hP.own.below hB5).alloc (.cells #[.slice (some ⟨wr.heap.size, 0, none⟩) N N] 90))
    | (at_builtin; refine wpList_append_own _ rfl _ _ 95 rfl w0.heap.size 90 i1 (.slice none 0 0) 1 24 Tryz.underlying95 hi1 hy0 hy1 hy3 rfl (by decide) _ _ _ rfl hown5 ⟨w5.heap.size, 0, none⟩ 1 1 [.slice (some ⟨wr.heap.size, 0, none⟩) N N] rfl rfl hnew (by simp [Value.oneCell']) (by simp [maxLen]; omega) (by omega) (by rw [World.size_alloc]; have := hB5.size; omega) ?_; intro v' w9 hown' hgrow' _))
   have hBA : RowKit.Below wr.heap.size wr (w5.alloc (.cells #[.slice (some ⟨wr.heap.size, 0, none⟩) N N] 90)) := hB5.alloc hB5.size _
   have hP9 := hP.push hBA (Nat.le_refl _) hzr (by rw [rowF_rep, List.map_replicate]; exact hr5.alloc _) hgrow' hown'
   have hB9 : RowKit.Below w0.heap.size w0 w9 := (hB.trans (hBA.mono hzr)).grown hgrow' (Nat.le_trans hzr hBA.size) (fun j e => (hP.own.lt j e).1)
   clear hP hown hown' hown5 hr5 hnew f1
   go_wp2
   go_roundw
   case rel => exact ⟨k + 1, bs ++ [wr.heap.size], by omega, by go_num, hP9, hB9⟩
   case measure => simp [intOf]; omega
  ·obtain rfl : k = N := by omega
   have hltI : ¬ (k : Int) < (k : Int) := by omega
   go_wp2
   go_ret
   exact ⟨_, bs, rfl, hP.mono hB0.size, hB0.trans (hB.mono hB0.size)⟩
end
section
open Go.RowKit
def diaV (N : Nat) (v : Bool) (F : List Bool) : Nat → List Bool
 | 0 => F
 | k + 1 => (diaV N v F k).set (k * N + k) v
theorem diaV_len (N : Nat) (v : Bool) (F : List Bool) : ∀ k, (diaV N v F k).length = F.length
 | 0 => rfl
 | k + 1 => by rw [diaV, List.length_set, diaV_len N v F k]
theorem dia_lt {N k : Nat} (h : k < N) : k * N + k < N * N := by
 have := Nat.mul_le_mul_right N (show k + 1 ≤ N by omega)
 rw [Nat.succ_mul] at this; omega
theorem diaV_at {N : Nat} {v : Bool} {F : List Bool} (hF : F.length = N * N) : ∀ (k j : Nat), k ≤ N → lkB (diaV N v F k) j = if ∃ x, x < k ∧ j = x * N + x then v else lkB F j
 | 0, j, _ => by
  rw [if_neg (by rintro ⟨x, h, _⟩; omega)]; rfl
 | k + 1, j, hk => by
  rw [diaV, lkB_set (by rw [diaV_len, hF]; exact dia_lt (by omega)), diaV_at hF k j (by omega)]
  by_cases e : k * N + k = j
  ·rw [if_pos e, if_pos ⟨k, by omega, e.symm⟩]
  ·rw [if_neg e]
   by_cases h : ∃ x, x < k ∧ j = x * N + x
   ·obtain ⟨x, h1, h2⟩ := h
    rw [if_pos ⟨x, h1, h2⟩, if_pos ⟨x, by omega, h2⟩]
   ·rw [if_neg h, if_neg]
    rintro ⟨x, h1, h2⟩
    by_cases ex : x = k
    ·subst ex; exact e h2.symm
    ·exact h ⟨x, by omega, h2⟩
section
variable {G : Gr} {N : Nat}
end
end
section
open Go.RowKit Go.Sort Go.Shelf
def filT (N m : Nat) : List Bool := (List.range (N * N)).map fun i => decide (i < m)
theorem filT_len (N m : Nat) : (filT N m).length = N * N := by simp [filT]
theorem filT_zero (N : Nat) : filT N 0 = List.replicate (N * N) false := List.ext_getElem (by simp [filT]) (fun i h1 h2 => by simp [filT])
theorem filT_all (N : Nat) : filT N (N * N) = allF2 N := List.ext_getElem (by simp [filT, allF2]) (fun i h1 h2 => by
 rw [filT_len] at h1
 simp [filT, allF2, h1])
theorem filT_set {N m : Nat} (h : m < N * N) : (filT N m).set m true = filT N (m + 1) := List.ext_getElem (by simp [filT]) (fun i h1 h2 => by
 rw [List.getElem_set]
 simp only [filT, List.getElem_map, List.getElem_range]
 by_cases e : m = i
 ·subst e; simp
 ·rw [if_neg e, decide_eq_decide]; omega)
theorem filT_row (N k : Nat) : filT N (k * N + N) = filT N ((k + 1) * N + 0) := by rw [Nat.succ_mul]; rfl
theorem PB.spot {B N : Nat} {F : List Bool} {p : Option Addr} {cv : Nat} {bs : List Nat} {W : World} (h : PB B N N F (.slice p N cv) bs W) {s t : Nat} (hs : s < N) (ht : t < N) (hF : F.length = N * N) :
  ∃ g b, p = some ⟨g, 0, none⟩ ∧ g < W.heap.size ∧ W.cell? ⟨g, s, none⟩ = some (.slice (some ⟨b, 0, none⟩) N N) ∧ W.cell? ⟨b, t, none⟩ = some (.bool (lkB F (s * N + t))) ∧ W.frozen? ⟨b, t, none⟩ = false ∧ B ≤ b ∧ ∀ u, PB B N N (F.set (s * N + t) u) (.slice p N cv) bs (W.setCell ⟨b, t, none⟩ (.bool u)) := by
 have hlen := h.len
 obtain ⟨pv', cv', e', hsh⟩ := h.shape
 cases e'
 obtain ⟨g, e', hg, hc⟩ := hsh s hs
 have hk' : s < bs.length := by omega
 exact ⟨g, bs[s], e', hg, hc, h.get hk' ht, (h.rows s hk').frozen t, h.ge _ (List.getElem_mem hk'), fun u => h.set hk' ht (by rw [hF]; exact place_lt hs ht) u⟩
set_option maxRecDepth 100000 in
set_option maxHeartbeats 2000000 in
theorem r15All_any (G : Gr) (p : Option Addr) (c N : Nat) (hN : G.n = N) (hN64 : N ≤ 64) (w : World) : Calls Tryz.prog 77 #[(.agg #[.int .i64 G.q, .int .i64 G.n, .slice p G.es.length c])] w (RetPB N (allF2 N) w) := by
 obtain ⟨w0, hw0⟩ : ∃ w0, w0 = w.alloc (.cells #[.int .i64 G.q, .int .i64 G.n, .slice p G.es.length c] 24) := ⟨_, rfl⟩
 have b0 : VRow w0 w.heap.size 24 [.int .i64 G.q, .int .i64 G.n, .slice p G.es.length c] := by subst hw0; exact VRow.new w _ _
 have hB0 : RowKit.Below w.heap.size w w0 := by subst hw0; exact (RowKit.Below.refl _ _).alloc (Nat.le_refl _) _
 have HNN := hidI hN
 have HNO := hidI (r15none_any G p c N hN hN64 w0)
 have g0 := b0.at 0 rfl; have g1 := b0.at 1 rfl; have g2 := b0.at 2 rfl
 clear hN
 go_enter Tryz.func77, Tryz.ntmps77
 go_upto_region 1 with fail
 rw [← hw0]
 clear hw0
 go_wp2_with fail
 refine HNO.out.mono ?_
 rintro e w1 ⟨v, bs, rfl, hP1, hB1⟩
 have hP1 : PB w0.heap.size N N (filT N (0 * N + 0)) v bs w1 := by rw [Nat.zero_mul, filT_zero]; exact hP1
 clear g0 g1 g2 HNO
 obtain ⟨pv, cv, rfl, hsh1⟩ := hP1.shape
 go_wp2_with fail
 go_loopw [4] (fun iv wr => ∃ k : Nat, k ≤ N ∧ iv = .int .i64 k ∧ PB w0.heap.size N N (filT N (k * N + 0)) (.slice pv N cv) bs wr ∧ RowKit.Below w0.heap.size w0 wr) (fun iv _ => N - (intOf iv).toNat)
 case atStart => exact ⟨0, Nat.zero_le _, rfl, hP1, hB1⟩
 case round =>
  clear hsh1 hP1 hB1
  obtain ⟨k, hk, rfl, hP, hB⟩ := hrel
  have f1 := (b0.below hB b0.lt).at 1 rfl
  rw [HNN.out] at f1
  by_cases hlt : k < N
  ·have hltI : (k : Int) < (N : Int) := by omega
   have HR := hidI (filT_row N k)
   go_wp2_with fail
   obtain ⟨wo, rfl⟩ : ∃ wo : World, wo = wr := ⟨_, rfl⟩
   go_loopw [5] (fun jv wx => ∃ j : Nat, j ≤ N ∧ jv = .int .i64 j ∧ PB w0.heap.size N N (filT N (k * N + j)) (.slice pv N cv) bs wx ∧ RowKit.Below w0.heap.size w0 wx) (fun jv _ => N - (intOf jv).toNat)
   case atStart => exact ⟨0, Nat.zero_le _, rfl, hP, hB⟩
   case round =>
    clear hP hB f1
    obtain ⟨j, hj, rfl, hP, hB⟩ := hrel
    have f1 := (b0.below hB b0.lt).at 1 rfl
    rw [HNN.out] at f1
    by_cases hlt2 : j < N
    ·have hltI2 : (j : Int) < (N : Int) := by omega
     obtain ⟨g, b, e', hg, hc, hcj, hz, hge, hP2⟩ := hP.spot hlt hlt2 (filT_len _ _)
     have hP2 := hP2 true
     rw [filT_set (place_lt hlt hlt2)] at hP2
     have hB2 := hB.setCell (p := ⟨b, j, none⟩) hge (.bool true)
     cases e'
     clear hP
     go_wp2_with fail
     go_roundw
     case rel => exact ⟨j + 1, by omega, by go_num, hP2, hB2⟩
     case measure => simp [intOf]; omega
    ·obtain rfl : j = N := by omega
     have hltI2 : ¬ (j : Int) < (j : Int) := by omega
     rw [HR.out] at hP
     go_wp2_with fail
     go_roundw
     case rel => exact ⟨k + 1, by omega, by go_num, hP, hB⟩
     case measure => simp [intOf]; omega
  ·obtain rfl : k = N := by omega
   have hltI : ¬ (k : Int) < (k : Int) := by omega
   rw [Nat.add_zero, filT_all] at hP
   go_wp2
   go_ret
   exact ⟨_, bs, rfl, hP.mono hB0.size, hB0.trans (hB.mono hB0.size)⟩
set_option maxRecDepth 100000 in
set_option maxHeartbeats 2000000 in
theorem r15diagonal_any (G : Gr) (p : Option Addr) (c N : Nat) (hN : G.n = N) (hN64 : N ≤ 64) (w : World) : Calls Tryz.prog 84 #[(.agg #[.int .i64 G.q, .int .i64 G.n, .slice p G.es.length c])] w (RetPB N (diaV N true (List.replicate (N * N) false) N) w) := by
 obtain ⟨w0, hw0⟩ : ∃ w0, w0 = w.alloc (.cells #[.int .i64 G.q, .int .i64 G.n, .slice p G.es.length c] 24) := ⟨_, rfl⟩
 have b0 : VRow w0 w.heap.size 24 [.int .i64 G.q, .int .i64 G.n, .slice p G.es.length c] := by subst hw0; exact VRow.new w _ _
 have hB0 : RowKit.Below w.heap.size w w0 := by subst hw0; exact (RowKit.Below.refl _ _).alloc (Nat.le_refl _) _
 have HNN := hidI hN
 have HNO := hidI (r15none_any G p c N hN hN64 w0)
 have g0 := b0.at 0 rfl; have g1 := b0.at 1 rfl; have g2 := b0.at 2 rfl
 clear hN
 go_enter Tryz.func84, Tryz.ntmps84
 go_upto_region 1 with fail
 rw [← hw0]
 clear hw0
 go_wp2_with fail
 refine HNO.out.mono ?_
 rintro e w1 ⟨v, bs, rfl, hP1, hB1⟩
 have hP1 : PB w0.heap.size N N (diaV N true (List.replicate (N * N) false) 0) v bs w1 := hP1
 clear g0 g1 g2 HNO
 obtain ⟨pv, cv, rfl, hsh1⟩ := hP1.shape
 go_wp2_with fail
 go_loopw [4] (fun iv wr => ∃ k : Nat, k ≤ N ∧ iv = .int .i64 k ∧ PB w0.heap.size N N (diaV N true (List.replicate (N * N) false) k) (.slice pv N cv) bs wr ∧ RowKit.Below w0.heap.size w0 wr) (fun iv _ => N - (intOf iv).toNat)
 case atStart => exact ⟨0, Nat.zero_le _, rfl, hP1, hB1⟩
 case round =>
  clear hsh1 hP1 hB1
  obtain ⟨k, hk, rfl, hP, hB⟩ := hrel
  have f1 := (b0.below hB b0.lt).at 1 rfl
  rw [HNN.out] at f1
  by_cases hlt : k < N
  ·have hltI : (k : Int) < (N : Int) := by omega
   obtain ⟨g, b, e', hg, hc, hcj, hz, hge, hP2⟩ := hP.spot hlt hlt (by rw [diaV_len, List.length_replicate])
   have hP2 := hP2 true
   have HS : Hid ((diaV N true (List.replicate (N * N) false) k).set (k * N + k) true = diaV N true (List.replicate (N * N) false) (k + 1)) := hidI rfl
   rw [HS.out] at hP2
   have hB2 := hB.setCell (p := ⟨b, k, none⟩) hge (.bool true)
   cases e'
   clear hP
   go_wp2_with fail
   go_roundw
   case rel => exact ⟨k + 1, by omega, by go_num, hP2, hB2⟩
   case measure => simp [intOf]; omega
  ·obtain rfl : k = N := by omega
   have hltI : ¬ (k : Int) < (k : Int) := by omega
   go_wp2
   go_ret
   exact ⟨_, bs, rfl, hP.mono hB0.size, hB0.trans (hB.mono hB0.size)⟩
end
section
open Go.RowKit Go.Sort Go.Shelf
theorem pix_nat (N k j : Nat) : pix N (k : Int) (j : Int) = k * N + j := by
 unfold pix
 rw [← Int.natCast_mul, ← Int.natCast_add]; rfl
theorem eq_at {N : Nat} {F H : List Bool} (hF : F.length = N * N) (hH : H.length = N * N) (h : ∀ i, i < N * N → lkB F i = lkB H i) : F = H := lkB_ext (by rw [hF, hH]) (fun j => by
 by_cases e : j < N * N
 ·exact h j e
 ·rw [lkB_out (by omega), lkB_out (by omega)])
theorem upto_step {P : Nat → Prop} {m : Nat} (h : ∀ i, i < m → P i) (hm : P m) : ∀ i, i < m + 1 → P i := fun i hi => by
 rcases Nat.lt_succ_iff_lt_or_eq.1 hi with h3 | h3
 ·exact h i h3
 ·subst h3; exact hm
theorem upto_row {P : Nat → Prop} {N k : Nat} (h : ∀ i, i < k * N + N → P i) : ∀ i, i < (k + 1) * N + 0 → P i := fun i hi => h i (by rw [Nat.succ_mul] at hi; omega)
set_option maxRecDepth 100000 in
set_option maxHeartbeats 2000000 in
theorem r15same_any {N B1 B2 : Nat} {F H : List Bool} {p1 p2 : Option Addr} {c1 c2 : Nat} {bs1 bs2 : List Nat} {w : World} (hN64 : N ≤ 64) (hP1 : PB B1 N N F (.slice p1 N c1) bs1 w) (hP2 : PB B2 N N H (.slice p2 N c2) bs2 w) (hF : F.length = N * N) (hH : H.length = N * N) :
  Calls Tryz.prog 80 #[.slice p1 N c1, .slice p2 N c2] w fun e w' => e = .returned (.bool (decide (F = H))) ∧ RowKit.Below w.heap.size w w' := by
 have HP1 := hidI hP1; have HP2 := hidI hP2
 have HF := hidI hF; have HH := hidI hH
 have HNE : Hid (∀ i, lkB F i ≠ lkB H i → decide (F = H) = false) := fun i h => decide_eq_false (fun e => h (by rw [e]))
 have HEQ : Hid ((∀ i, i < N * N + 0 → lkB F i = lkB H i) → decide (F = H) = true) := fun h => decide_eq_true (eq_at hF hH h)
 generalize decide (F = H) = R at *
 clear hP1 hP2 hF hH
 go_enter Tryz.func80, Tryz.ntmps80
 go_wp2
 go_loopw [5] (fun i wr => ∃ k : Nat, k ≤ N ∧ i = .int .i64 k ∧ Hid (∀ j, j < k * N + 0 → lkB F j = lkB H j) ∧ RowKit.Below w.heap.size w wr) (fun i _ => N - (intOf i).toNat)
 case atStart => exact ⟨0, by omega, rfl, fun j h => by omega, RowKit.Below.refl _ _⟩
 case round =>
  obtain ⟨k, hk, rfl, hj, hB⟩ := hrel
  by_cases hlt : k < N
  ·have hltI : (k : Int) < (N : Int) := by omega
   go_wp2
   obtain ⟨wo, rfl⟩ : ∃ wo : World, wo = wr := ⟨_, rfl⟩
   go_loopw [6] (fun i wx => ∃ m : Nat, m ≤ N ∧ i = .int .i64 m ∧ Hid (∀ j, j < k * N + m → lkB F j = lkB H j) ∧ RowKit.Below w.heap.size w wx) (fun i _ => N - (intOf i).toNat)
   case atStart => exact ⟨0, by omega, rfl, hj, hB⟩
   case round =>
    clear hj hB
    obtain ⟨m, hm, rfl, hj, hB⟩ := hrel
    by_cases hlt2 : m < N
    ·have hltI2 : (m : Int) < (N : Int) := by omega
     obtain ⟨g1, b1, e1, hg1, hc1, hd1, _, _, _⟩ := (HP1.out.below hB).spot hlt hlt2 HF.out
     obtain ⟨g2, b2, e2, hg2, hc2, hd2, _, _, _⟩ := (HP2.out.below hB).spot hlt hlt2 HH.out
     cases e1
     cases e2
     by_cases he : lkB F (k * N + m) = lkB H (k * N + m)
     ·have HST := hidI (upto_step hj.out he)
      clear hj
      generalize lkB F (k * N + m) = x at *
      generalize lkB H (k * N + m) = y at *
      subst he
      cases x
      all_goals
       go_wp2
       (refine wp_region_quiet_lit (by kernel_rfl) (by kernel_rfl) ?_; (repeat (first | go_big_quiet_step (fail) | quiet_step (fail))); refine wpQuiet_nil ?_; intro _ hwq; obtain ⟨nq, hwq2⟩ := hwq; subst hwq2)
       go_wp2
       go_roundw
       case rel => exact ⟨m + 1, by omega, by go_num, HST.out, below_dN hB _⟩
       case measure => simp [intOf]; omega
     ·have HR := hidI (HNE.out _ he)
      clear hj
      generalize lkB F (k * N + m) = x at *
      generalize lkB H (k * N + m) = y at *
      cases x
      all_goals cases y
      all_goals (first | exact absurd rfl he | clear he)
      all_goals
       go_wp2
       (refine wp_region_quiet_lit (by kernel_rfl) (by kernel_rfl) ?_; (repeat (first | go_big_quiet_step (fail) | quiet_step (fail))); refine wpQuiet_nil ?_; intro _ hwq; obtain ⟨nq, hwq2⟩ := hwq; subst hwq2)
       go_wp2
       go_ret
       exact ⟨ret_bool HR.out.symm, below_dN hB _⟩
    ·obtain rfl : m = N := by omega
     have hltI2 : ¬ (m : Int) < (m : Int) := by omega
     have HST := hidI (upto_row hj.out)
     go_wp2
     go_roundw
     case rel => exact ⟨k + 1, by omega, by go_num, HST.out, hB⟩
     case measure => simp [intOf]; omega
  ·obtain rfl : k = N := by omega
   have hltI : ¬ (k : Int) < (k : Int) := by omega
   have HR := hidI (HEQ.out hj.out)
   go_wp2
   go_ret
   exact ⟨ret_bool HR.out.symm, hB⟩
theorem difR_yes {N : Nat} {F : List Bool} {k m : Nat} (hk : k < N) (hm : m < N) (hne : k ≠ m) (h : lkB F (k * N + m) = true) : difB N F = true := by
 unfold difB
 exact List.any_eq_true.2 ⟨k, List.mem_range.2 hk, List.any_eq_true.2 ⟨m, List.mem_range.2 hm, by rw [pix_nat, h]; simpa using hne⟩⟩
theorem difR_no {N : Nat} {F : List Bool} (h : ∀ i, i < N * N + 0 → ∀ s t, t < N → i = s * N + t → (lkB F i && decide (s ≠ t)) = false) : difB N F = false := by
 unfold difB
 refine List.any_eq_false.2 (fun s hs => ?_)
 rw [Bool.not_eq_true]
 refine List.any_eq_false.2 (fun t ht => ?_)
 have hs' := List.mem_range.1 hs
 have ht' := List.mem_range.1 ht
 have := h (s * N + t) (place_lt hs' ht') s t ht' rfl
 rw [pix_nat, Bool.and_comm, this]; simp
set_option maxRecDepth 100000 in
set_option maxHeartbeats 2000000 in
theorem r15apart_any {N B1 : Nat} {F : List Bool} {p1 : Option Addr} {c1 : Nat} {bs1 : List Nat} {w : World} (hN64 : N ≤ 64) (hP1 : PB B1 N N F (.slice p1 N c1) bs1 w) (hF : F.length = N * N) :
  Calls Tryz.prog 78 #[.slice p1 N c1] w fun e w' => e = .returned (.bool (difB N F)) ∧ w' = w := by
 have HP1 := hidI hP1
 have HF := hidI hF
 have HNE : Hid (∀ k m, k < N → m < N → k ≠ m → lkB F (k * N + m) = true → difB N F = true) := fun k m => difR_yes
 have HEQ := hidI (@difR_no N F)
 generalize difB N F = R at *
 clear hP1 hF
 go_enter Tryz.func78, Tryz.ntmps78
 go_wp2
 go_loop [3] (fun i => ∃ k : Nat, k ≤ N ∧ i = .int .i64 k ∧ Hid (∀ j, j < k * N + 0 → ∀ s t, t < N → j = s * N + t → (lkB F j && decide (s ≠ t)) = false)) (fun i => N - (intOf i).toNat)
 case atStart => exact ⟨0, by omega, rfl, fun j h => by omega⟩
 case round =>
  obtain ⟨k, hk, rfl, hj⟩ := hrel
  by_cases hlt : k < N
  ·have hltI : (k : Int) < (N : Int) := by omega
   go_wp2
   go_loop [4] (fun i => ∃ m : Nat, m ≤ N ∧ i = .int .i64 m ∧ Hid (∀ j, j < k * N + m → ∀ s t, t < N → j = s * N + t → (lkB F j && decide (s ≠ t)) = false)) (fun i => N - (intOf i).toNat)
   case atStart => exact ⟨0, by omega, rfl, hj⟩
   case round =>
    clear hj
    obtain ⟨m, hm, rfl, hj⟩ := hrel
    by_cases hlt2 : m < N
    ·have hltI2 : (m : Int) < (N : Int) := by omega
     obtain ⟨g1, b1, e1, hg1, hc1, hd1, _, _, _⟩ := HP1.out.spot hlt hlt2 HF.out
     cases e1
     by_cases he : (lkB F (k * N + m) && decide (k ≠ m)) = false
     ·have HST : Hid (∀ j, j < k * N + (m + 1) → ∀ s t, t < N → j = s * N + t → (lkB F j && decide (s ≠ t)) = false) := upto_step hj.out (fun s t ht e => by
       obtain ⟨rfl, rfl⟩ := place_inj hlt2 ht e
       exact he)
      have hb2 : lkB F (k * N + m) = true → ((k : Int) != (m : Int)) = false := fun h => by
       rw [h] at he
       simp only [Bool.true_and, decide_eq_false_iff_not, Decidable.not_not] at he
       simp [he]
      clear he hj
      generalize lkB F (k * N + m) = x at *
      cases x
      ·clear hb2
       go_wp2
       go_round
       case rel => exact ⟨m + 1, by omega, by go_num, HST.out⟩
       case measure => simp [intOf]; omega
      ·have hb := hb2 rfl
       clear hb2
       go_wp2
       go_round
       case rel => exact ⟨m + 1, by omega, by go_num, HST.out⟩
       case measure => simp [intOf]; omega
     ·rw [Bool.not_eq_false, Bool.and_eq_true, decide_eq_true_eq] at he
      have HR := hidI (HNE.out k m hlt hlt2 he.2 he.1)
      have hx := he.1
      have hb : ((k : Int) != (m : Int)) = true := by have := he.2; simp; omega
      rw [hx] at hd1
      clear he hj hx
      go_wp2
      go_ret
      exact ⟨ret_bool HR.out.symm, rfl⟩
    ·obtain rfl : m = N := by omega
     have hltI2 : ¬ (m : Int) < (m : Int) := by omega
     have HST := hidI (upto_row hj.out)
     go_wp2
     go_round
     case rel => exact ⟨k + 1, by omega, by go_num, HST.out⟩
     case measure => simp [intOf]; omega
  ·obtain rfl : k = N := by omega
   have hltI : ¬ (k : Int) < (k : Int) := by omega
   have HR := hidI (HEQ.out hj.out)
   go_wp2
   go_ret
   exact ⟨ret_bool HR.out.symm, rfl⟩
end
end Go.Proofs.YtocbhlohcikapaaGreatDoor
