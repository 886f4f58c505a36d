/-
  Words, plain lemmas and walks, merged: Mf, Mj, If, Ig, Ih, Ii, Ib, Ij, Hl, Hn.
-/
import Derived.Test.YtocbhlohcikapaaGreatDoorZug
import Derived.Test.YtocbhlohcikapaaGreatDoorZua
import Derived.Test.YtocbhlohcikapaaGreatDoorZue
import Derived.Deep.CutBlock
import Derived.Deep.DeepCutAuto
import Derived.Deep.RegionHeld3
import Derived.Test.YtocbhlohcikapaaGreatDoorZuf
import Derived.Deep.AppendLies
import Derived.OneCell
import Derived.Lib.OwnKind
import Derived.Laws.EntriesVeiled
import Derived.RangeFuncNested
import Derived.RangeFuncBound
import Derived.RangeFuncCalls
import Derived.RangeFuncLeaves
import Derived.Test.YtocbhlohcikapaaGreatDoorProg
import Derived.Test.YtocbhlohcikapaaGreatDoorZuc
import Derived.Test.YtocbhlohcikapaaGreatDoorZub
set_option linter.unusedVariables false
set_option linter.unusedSimpArgs false
namespace Go.Proofs.YtocbhlohcikapaaGreatDoor
section
open Go.RowKit Go.Shelf
attribute [local go_sem] Oper.semAt_some
def hitS (N : Nat) (es : List Ed) (F : List Bool) (p : Nat × Nat) : Bool := decide (p.1 ≠ p.2) && (decide ((eget es p.1).f = (eget es p.2).f) && lkB F (pix N (eget es p.1).t (eget es p.2).t))
theorem splB_yes {N : Nat} {es : List Ed} {F : List Bool} {p : Nat × Nat} (hp : p ∈ prs es) (h : hitS N es F p = true) : splB N es F = true := List.any_eq_true.2 ⟨p, hp, h⟩
theorem splB_no {N : Nat} {es : List Ed} {F : List Bool} (h : ∀ p ∈ prs es, hitS N es F p = false) : splB N es F = false := List.any_eq_false.2 (fun p hp => by rw [Bool.not_eq_true]; exact h p hp)
set_option maxRecDepth 100000 in
set_option maxHeartbeats 4000000 in
theorem mmSplit_in (G : Gr) (p : Option Addr) (c : Nat) (pb : Option Addr) (M cb : Nat) (F : List Bool) (N : Nat) (hv : Vg G) (hN : G.n = N) (hM : M = N * N) (hF : F.length = M) (w : World) (hin : Sg 3 w edE p G.es) (hs : SlB w.heap.size w pb F) :
  CallsIn Fence.wide 9 Tryz.prog 82 #[(.agg #[.int .i64 G.q, .int .i64 G.n, .slice p G.es.length c, .slice pb M cb])] w fun e w' => e = .returned (.bool (splB N G.es F)) ∧ RowKit.Below w.heap.size w w' := by
 have HIN := hidI hin; have HV := hidI hv; have HS := hidI hs; have HNN := hidI hN; have HMM := hidI hM; have HFL := hidI hF
 have hl := hv.len
 have hN64 : N ≤ 64 := by have := hv.n2; omega
 have HYES := hidI (fun q h1 h2 => @splB_yes N G.es F q h1 h2)
 have HNO := hidI (@splB_no N G.es F)
 generalize splB N G.es F = R at *
 clear hin hv hs hN hM hF
 obtain ⟨w0, hw0⟩ : ∃ w0, w0 = (w.alloc (.cells #[.int .i64 G.q, .int .i64 G.n, .slice p G.es.length c, .slice pb M cb] 92)).alloc (.cells #[.bool false] 4) := ⟨_, rfl⟩
 have b0 : VRow w0 w.heap.size 92 [.int .i64 G.q, .int .i64 G.n, .slice p G.es.length c, .slice pb M cb] := by subst hw0; exact (VRow.new w _ _).alloc _
 have b1 : VRow w0 (w.heap.size + 1) 4 [.bool false] := by subst hw0; exact VRow.new1 w _ _ _
 have hB0 : RowKit.Below w.heap.size w w0 := by subst hw0; exact ((RowKit.Below.refl _ _).alloc (Nat.le_refl _) _).alloc (by simp) _
 have HW0 := hidI hw0.symm
 clear hw0
 have c0 : VRow ((w.alloc (.cells #[.int .i64 G.q, .int .i64 G.n, .slice p G.es.length c, .slice pb M cb] 92)).alloc (.cells #[.bool false] 4)) w.heap.size 92 [.int .i64 G.q, .int .i64 G.n, .slice p G.es.length c, .slice pb M cb] := (VRow.new w _ _).alloc _
 have f0 := c0.at 0 rfl; have f1 := c0.at 1 rfl; have f2 := c0.at 2 rfl; have f3 := c0.at 3 rfl
 refine callsIn_of_wp_marks Tryz.func82 rfl trivial ?_ rfl
 simp only [Tryz.ntmps82, List.size_toArray, List.length_cons, List.length_nil, Nat.reduceAdd, Nat.reduceSub, Array.replicate_succ, Array.replicate_zero, List.push_toArray, List.append_toArray, List.nil_append, List.cons_append]
 gi_wp2_with (refine ⟨trivial, ?_⟩; gi_at_call 93)
 rw [HW0.out]
 refine (mmEdges_in Fence.wide 8 trivial rfl _ G.q G.n p G.es.length c (.slice pb M cb) rfl _).mono ?_
 rintro e w' ⟨rfl, rfl⟩
 clear f0 f1 f2 f3 c0
 gi_wp2
 obtain ⟨W0, hW0⟩ : ∃ W0, W0 = w0.alloc (.cells #[.int .i64 G.q, .int .i64 G.n, .slice p G.es.length c, .slice pb M cb] 92) := ⟨_, rfl⟩
 have a0 : VRow W0 w.heap.size 92 [.int .i64 G.q, .int .i64 G.n, .slice p G.es.length c, .slice pb M cb] := by subst hW0; exact b0.alloc _
 have a1 : VRow W0 (w.heap.size + 1) 4 [.bool false] := by subst hW0; exact b1.alloc _
 have ae : VRow W0 w0.heap.size 92 [.int .i64 G.q, .int .i64 G.n, .slice p G.es.length c, .slice pb M cb] := by subst hW0; exact VRow.new w0 _ _
 have x0 : RowKit.Below w.heap.size w W0 := by subst hW0; exact hB0.alloc hB0.size _
 have hz1 : w.heap.size + 1 < W0.heap.size := a1.lt
 rw [← hW0]
 clear hW0 b0 b1 HW0
 refine' wpIn_rangeFunc_ownG rfl (by omega) (gf := 149) (lb := #[.pointer (some ⟨w0.heap.size, 0, none⟩)]) rfl trivial (enters_of Tryz.func149 (by kernel_rfl) rfl)
  (pedges_stops Fence.wide 8 trivial rfl (by omega) w.heap.size w0.heap.size G p c (.slice pb M cb) hl W0 x0.size ae ((SgB.of HIN.out (Nat.le_refl _)).kept (fun i hi => x0.block i hi))) KPm.trans (KPm.put x0.size) (RowKit.Below.refl _ _) (fun _ => rfl)
  (fun pre W => ((VRow W w.heap.size 92 [.int .i64 G.q, .int .i64 G.n, .slice p G.es.length c, .slice pb M cb] ∧ VRow W (w.heap.size + 1) 4 [.bool false]) ∧ RowKit.Below w.heap.size w W) ∧ Hid (∀ q ∈ pre.map Subtype.val, hitS N G.es F q = false))
  (fun c' _ W => ((VRow W (w.heap.size + 1) 4 [.bool true]) ∧ RowKit.Below w.heap.size w W) ∧ c' = .ret ∧ R = true)
  (OwnFrom.and (OwnFrom.and (OwnFrom.and ((VRow.own w.heap.size 92 (fun _ : List (PrE G.es) => [.int .i64 G.q, .int .i64 G.n, .slice p G.es.length c, .slice pb M cb])).from _) ((VRow.own (w.heap.size + 1) 4 (fun _ => [.bool false])).from _)) (ownFrom_below (Nat.le_refl _) x0.size)) (fun _ _ _ _ h _ _ => h))
  (fun _ => OwnFrom.and (OwnFrom.and ((VRow.own (w.heap.size + 1) 4 (fun _ : List (PrE G.es) => [.bool true])).from _) (ownFrom_below (Nat.le_refl _) x0.size)) (fun _ _ _ _ h _ _ => h))
  ⟨⟨⟨a0, a1⟩, x0⟩, fun q hq => by cases hq⟩
  _ ?assign ?body ?done ?stop
 case assign =>
  intro l x W K hK
  unfold encPr
  gi_wp2
  exact hK
 case body =>
  rintro l pre ⟨⟨i, k⟩, hik⟩ W ⟨⟨⟨kp, k1⟩, hB⟩, hno⟩ hlen
  obtain ⟨hi, hk, -⟩ := mem_prs.1 hik
  replace hi : i < G.es.length := hi
  replace hk : k < G.es.length := hk
  have HSN : Hid (hitS N G.es F (i, k) = false → ∀ q ∈ (pre ++ [(⟨(i, k), hik⟩ : PrE G.es)]).map Subtype.val, hitS N G.es F q = false) := fun h q hq => by
   rw [List.map_append] at hq
   rcases List.mem_append.1 hq with hq | hq
   ·exact hno.out q hq
   ·obtain rfl := List.mem_singleton.1 hq; exact h
  have HYE := hidI (HYES.out (i, k) hik)
  have HHIT : Hid (hitS N G.es F (i, k) = (decide (i ≠ k) && (decide ((eget G.es i).f = (eget G.es k).f) && lkB F (pix N (eget G.es i).t (eget G.es k).t)))) := rfl
  generalize hitS N G.es F (i, k) = hit at *
  have vx := HV.out.ins _ (Gr.at_ hi); have vy := HV.out.ins _ (Gr.at_ hk)
  have hxe := eget_eq G.es i hi; have hye := eget_eq G.es k hk
  obtain ⟨b4, o4, rfl, hb4, e0, e1, e2⟩ := (HIN.out.below hB).get3 i hi rfl
  obtain ⟨b5, o5, e', hb5, d0, d1, d2⟩ := (HIN.out.below hB).get3 k hk rfl
  cases e'
  rw [← hxe] at e0 e1 e2
  rw [← hye] at d0 d1 d2
  generalize eget G.es i = x at *
  generalize eget G.es k = y at *
  clear hxe hye
  have hnI := HNN.out
  have hxt : 0 ≤ x.t ∧ x.t < (N : Int) ∧ 0 ≤ y.t ∧ y.t < (N : Int) := by omega
  have HHAS := hidI (fun W' (h : RowKit.Below w.heap.size w W') => mmHas_any G (some ⟨b4, o4, none⟩) c w.heap.size pb M cb F N HNN.out hN64 HMM.out HFL.out x.t y.t hxt.1 hxt.2.1 hxt.2.2.1 hxt.2.2.2 W' (HS.out.below h))
  clear hnI hxt vx vy hno
  generalize lkB F (pix N x.t y.t) = hh at *
  have f2 := kp.at 2 rfl
  refine wpIn_block ?_
  refine wpIn_seq_k (fun KK hKK => ?_)
  refine region_inW (by kernel_rfl) (by kernel_rfl) 16 [(some 11, some (.pointer (some ⟨w.heap.size, 0, none⟩))), (some 12, some (.pointer (some ⟨w.heap.size, 2, none⟩))), (some 13, some (.slice (some ⟨b4, o4, none⟩) G.es.length c)), (some 14, some (.int .i64 (i : Int))), (some 15, some (.pointer (some ⟨b4, o4 + i * 3, none⟩))), (some 16, some (.agg #[.int .i64 x.f, .int .i64 x.l, .int .i64 x.t])),
    (some 17, some (.pointer (some ⟨w.heap.size, 0, none⟩))), (some 18, some (.pointer (some ⟨w.heap.size, 2, none⟩))), (some 19, some (.slice (some ⟨b4, o4, none⟩) G.es.length c)), (some 20, some (.int .i64 (k : Int))), (some 21, some (.pointer (some ⟨b4, o4 + k * 3, none⟩))), (some 22, some (.agg #[.int .i64 y.f, .int .i64 y.l, .int .i64 y.t])), (some 5, none), (some 6, none), (none, none), (none, none)]
   (fun d f W' => Kp2 W x y (d 14) (d 15) (f 5) (f 6) W') (by kernel_rfl) (by kernel_rfl) (by kernel_rfl) (by kernel_rfl) ⟨below_dN (RowKit.Below.refl _ _) 1, (fun _ e => by cases e), (fun _ e => by cases e), (fun _ _ e => by cases e)⟩ ?_ ?_
  focus
   intro i' o ho a d f W' hS hdi hdn hnd hdep hout hold K hK
   have hil : i' < 16 := (Array.getElem?_eq_some_iff.1 ho).1
   have hcases : i' = 0 ∨ i' = 1 ∨ i' = 2 ∨ i' = 3 ∨ i' = 4 ∨ i' = 5 ∨ i' = 6 ∨ i' = 7 ∨ i' = 8 ∨ i' = 9 ∨ i' = 10 ∨ i' = 11 ∨ i' = 12 ∨ i' = 13 ∨ i' = 14 ∨ i' = 15 := by omega
   clear hil
   have u1 := hout 1 (by kernel_rfl)
   have u4 := hout 3 (by kernel_rfl)
   have u5 := hout 4 (by kernel_rfl)
   simp at u1 u4 u5
   clear hout
   have hc2 := (hS.b.cell (p := ⟨w.heap.size, 2, none⟩) kp.lt).trans f2
   have g0 := (hS.b.cell (p := ⟨b4, o4 + i * 3, none⟩) hb4).trans e0
   have g1 := (hS.b.cell (p := ⟨b4, o4 + i * 3 + 1, none⟩) hb4).trans e1
   have g2 := (hS.b.cell (p := ⟨b4, o4 + i * 3 + 2, none⟩) hb4).trans e2
   have h0 := (hS.b.cell (p := ⟨b4, o4 + k * 3, none⟩) hb4).trans d0
   have h1 := (hS.b.cell (p := ⟨b4, o4 + k * 3 + 1, none⟩) hb4).trans d1
   have h2 := (hS.b.cell (p := ⟨b4, o4 + k * 3 + 2, none⟩) hb4).trans d2
   have hiI : (i : Int) < (G.es.length : Int) := by omega
   have hkI : (k : Int) < (G.es.length : Int) := by omega
   clear e0 e1 e2 d0 d1 d2 f2
   rcases hcases with rfl | rfl | rfl | rfl | rfl | rfl | rfl | rfl | rfl | rfl | rfl | rfl | rfl | rfl | rfl | rfl
   all_goals (simp only [List.getElem?_toArray, List.getElem?_cons_succ, List.getElem?_cons_zero, Option.some.injEq] at ho; subst ho; simp [Region.binds] at hdep; (try go_split_ands))
   ·go_simp; exact hK _ _ (fun u hu => Option.some.inj hu) hS
   ·go_simp; exact hK _ _ (fun u hu => Option.some.inj hu) hS
   ·go_simp; exact hK _ _ (fun u hu => Option.some.inj hu) hS
   ·go_simp; exact hK _ _ (fun u hu => Option.some.inj hu) hS
   ·go_simp; exact hK _ _ (fun u hu => Option.some.inj hu) hS
   ·go_simp; exact hK _ _ (fun u hu => Option.some.inj hu) hS
   ·go_simp; exact hK _ _ (fun u hu => Option.some.inj hu) hS
   ·go_simp; exact hK _ _ (fun u hu => Option.some.inj hu) hS
   ·go_simp; exact hK _ _ (fun u hu => Option.some.inj hu) hS
   ·go_simp; exact hK _ _ (fun u hu => Option.some.inj hu) hS
   ·go_simp; exact hK _ _ (fun u hu => Option.some.inj hu) hS
   ·go_simp; exact hK _ _ (fun u hu => Option.some.inj hu) hS
   ·have h6 := (hold 12 (by kernel_rfl) _ rfl 5 rfl).1
    have e14 := hnd 14 (by kernel_rfl)
    have h := hS
    rw [e14, h6] at h
    have hfin := h.new6
    go_simp
    exact hK _ _ (fun u hu => by cases hu) (by
     show Kp2 _ _ _ (d 14) (d 15) (some _) (f 6) _
     rw [e14]; exact hfin)
   ·have h7 := (hold 13 (by kernel_rfl) _ rfl 6 rfl).1
    have e15 := hnd 15 (by kernel_rfl)
    have h := hS
    rw [e15, h7] at h
    have hfin := h.new7
    go_simp
    exact hK _ _ (fun u hu => by cases hu) (by
     show Kp2 _ _ _ (d 14) (d 15) (f 5) (some _) _
     rw [e15]; exact hfin)
   ·obtain ⟨v, hv, hat⟩ : ∃ v, f 5 = some v ∧ a.tmps[5]? = some v := by assumption
    have e14 : d 14 = false := hdi
    have h := hS
    rw [e14, hv] at h
    obtain ⟨b, rfl, hbl, hzr⟩ := h.a _ rfl
    have k0 := hzr.at 0 rfl; have k1 := hzr.at 1 rfl; have k2 := hzr.at 2 rfl
    have z0 := hzr.frozen 0; have z1 := hzr.frozen 1; have z2 := hzr.frozen 2
    have hfin := h.set6
    have HV1 := hidI hv
    clear hzr h hv
    go_simp
    exact hK undef _ (fun u hu => by cases hu) (by
     show Kp2 _ _ _ true (d 15) (f 5) (f 6) _
     rw [HV1.out]; exact hfin)
   ·obtain ⟨v, hv, hat⟩ : ∃ v, f 6 = some v ∧ a.tmps[6]? = some v := by assumption
    have e15 : d 15 = false := hdi
    have h := hS
    rw [e15, hv] at h
    obtain ⟨b, rfl, hbl, hzr⟩ := h.c _ rfl
    have k0 := hzr.at 0 rfl; have k1 := hzr.at 1 rfl; have k2 := hzr.at 2 rfl
    have z0 := hzr.frozen 0; have z1 := hzr.frozen 1; have z2 := hzr.frozen 2
    have hfin := h.set7
    have HV1 := hidI hv
    clear hzr h hv
    go_simp
    exact hK undef _ (fun u hu => by cases hu) (by
     show Kp2 _ _ _ (d 14) true (f 5) (f 6) _
     rw [HV1.out]; exact hfin)
  intro d f W2 hS hall hf
  have e14 : d 14 = true := hall 14 (by decide)
  have e15 : d 15 = true := hall 15 (by decide)
  obtain ⟨v6, hv6, -⟩ := hf (some 5, none) (by simp) 5 rfl
  obtain ⟨v7, hv7, -⟩ := hf (some 6, none) (by simp) 6 rfl
  obtain ⟨b6, rfl, hb6, r6⟩ := hS.a _ hv6
  obtain ⟨b7, rfl, hb7, r7⟩ := hS.c _ hv7
  rw [e14, if_pos rfl] at r6
  rw [e15, if_pos rfl] at r7
  have hBS := hS.b
  simp only [putsD, List.filterMap_cons, List.filterMap_nil, Option.map_some, Option.map_none, Option.getD_some, Option.getD_none, List.foldl_cons, List.foldl_nil, Act.put, List.setIfInBounds_toArray, List.set_cons_zero, List.set_cons_succ]
  rw [hv6, hv7]
  simp only [Option.getD_some]
  clear hf hv6 hv7 hS hall e14 e15 e0 e1 e2 d0 d1 d2 f2
  have kp2 := kp.below hBS kp.lt
  have p0 := kp2.at 0 rfl; have p1 := kp2.at 1 rfl; have p2 := kp2.at 2 rfl; have p3 := kp2.at 3 rfl
  have g0 := r6.at 0 rfl; have g2 := r6.at 2 rfl
  have h0 := r7.at 0 rfl; have h2 := r7.at 2 rfl
  have hB2 := hB.trans (hBS.mono hB.size)
  have k12 := k1.below hBS k1.lt
  have HOUT : Hid (hit = false → ∀ W3, RowKit.Below W2.heap.size W2 W3 → KeepsFrom W0.heap.size W W3 ∧ KPm w.heap.size W W3 ∧ (((VRow W3 w.heap.size 92 [.int .i64 G.q, .int .i64 G.n, .slice (some ⟨b4, o4, none⟩) G.es.length c, .slice pb M cb] ∧ VRow W3 (w.heap.size + 1) 4 [.bool false]) ∧ RowKit.Below w.heap.size w W3) ∧ Hid (∀ q ∈ (pre ++ [(⟨(i, k), hik⟩ : PrE G.es)]).map Subtype.val, hitS N G.es F q = false))) := fun h W3 h3 =>
   ⟨KeepsFrom.below (hBS.trans (h3.mono hBS.size)), KPm.below (hBS.trans (h3.mono hBS.size)) hB.size, ⟨⟨⟨kp2.below h3 kp2.lt, k12.below h3 k12.lt⟩, hB2.trans (h3.mono hB2.size)⟩, HSN.out h⟩⟩
  have HK1 := hidI (fun W3 (h3 : RowKit.Below W2.heap.size W2 W3) => k12.below h3 k12.lt)
  clear kp k1 kp2 k12 r6 r7
  refine hKK _ _ ?_
  by_cases hik2 : i = k
  ·have hb : ((i : Int) != (k : Int)) = false := by simp [hik2]
   have HX : Hid (hit = false) := by rw [Hid, HHIT.out]; simp [hik2]
   have HGO := hidI (HOUT.out HX.out W2 (RowKit.Below.refl _ _))
   clear hik2 HHIT HOUT HYE HSN HX
   gi_wp2
   rename_i KX hKX
   refine ⟨trivial, hKX _ _ ?_⟩
   gi_wp2
   exact HGO.out
  ·have hb : ((i : Int) != (k : Int)) = true := by simp; omega
   by_cases hxy : x.f = y.f
   ·have hb2 : (x.f == y.f) = true := by simpa using hxy
    have HX : Hid (hit = hh) := by rw [Hid, HHIT.out]; simp [hik2, hxy]
    clear hxy HHIT
    gi_wp2_with fail
    refine ⟨trivial, ?_⟩
    refine ((callsIn_wide.2 (HHAS.out W2 hB2)).inRound l).mono ?_
    rintro e W3 ⟨rfl, hB3⟩
    have k13 := HK1.out W3 hB3
    have t0 := k13.at 0 rfl; have s0 := k13.frozen 0
    have hBS3 := hBS.trans (hB3.mono hBS.size)
    have hB3w := hB2.trans (hB3.mono hB2.size)
    clear p0 p1 p2 p3 g0 g2 h0 h2
    cases hh
    ·have HGO := hidI (HOUT.out HX.out W3 hB3)
     clear HOUT HYE HSN HX HK1
     gi_wp2
     exact HGO.out
    ·have HR := hidI (HYE.out HX.out)
     clear HOUT HYE HSN HX HK1
     gi_wp2
     show KeepsFrom W0.heap.size W _ ∧ _
     exact ⟨(KeepsFrom.below hBS3).trans ((KeepsOthers.setCell _ _ _).from _), ⟨VRow.set (i := 0) _ k13, hB3w.setCell (show w.heap.size ≤ w.heap.size + 1 by omega) _⟩, rfl, HR.out⟩
   ·have hb2 : (x.f == y.f) = false := by simpa using hxy
    have HX : Hid (hit = false) := by rw [Hid, HHIT.out]; simp [hxy]
    have HGO := hidI (HOUT.out HX.out W2 (RowKit.Below.refl _ _))
    clear hxy HHIT HOUT HYE HSN HX
    gi_wp2
    rename_i KX hKX
    refine ⟨trivial, hKX _ _ ?_⟩
    gi_wp2
    exact HGO.out
 case done =>
  rintro D ys W hD' hys ⟨⟨⟨kp, k1⟩, hB⟩, hno⟩ hK
  rw [hys] at hno
  have HR := hidI (HNO.out hno.out)
  have hneD : D ≠ w.heap.size + 1 := fun e => by
   subst e
   rw [show W.heap[w.heap.size + 1]? = _ from k1] at hK; cases hK
  have t0 := k1.at 0 rfl; have s0 := k1.frozen 0
  have r1 := VRow.set (i := 0) (.bool false) k1
  have hK1 : (W.setCell ⟨w.heap.size + 1, 0, none⟩ (.bool false)).heap[D]? = some (.deferred (some [])) := (Below.heap_setCell _ _ _ _ hneD).trans hK
  have hB1 := hB.setCell (show w.heap.size ≤ w.heap.size + 1 by omega) (.bool false) (p := ⟨w.heap.size + 1, 0, none⟩)
  have hDw : w.heap.size ≤ D := Nat.le_trans x0.size hD'
  gi_wp2
  clear k1 kp hB hK t0 s0
  generalize W.setCell ⟨w.heap.size + 1, 0, none⟩ (.bool false) = Wz at *
  have ry := r1.put (.deferred none) hK1 rfl
  have y0 := ry.at 0 rfl
  refine ⟨by simp, .inl ⟨_, _, rfl, run_takeDeferred hK1, ?_⟩⟩
  refine ⟨.bool false, by simp [results, Tryz.results82, go_sem, y0], ?_⟩
  exact ⟨ret_bool HR.out.symm, below_put hB1 hDw hK1 _⟩
 case stop =>
  rintro D c' pre W hD' _ ⟨⟨k1, hB⟩, rfl, hR⟩ hK
  have HR := hidI hR
  have hDw : w.heap.size ≤ D := Nat.le_trans x0.size hD'
  clear hR
  gi_wp2
  have ry := k1.put (.deferred none) hK rfl
  have y0 := ry.at 0 rfl
  refine ⟨by simp, .inl ⟨_, _, rfl, run_takeDeferred hK, ?_⟩⟩
  refine ⟨.bool true, by simp [results, Tryz.results82, go_sem, y0], ?_⟩
  exact ⟨ret_bool HR.out.symm, below_put hB hDw hK _⟩
end
section
open Go.RowKit Go.Sort Go.Shelf
theorem slb_row {W : World} {b : Nat} {F : List Bool} (h : VRow W b 4 (F.map Value.bool)) : SlB W.heap.size W (some ⟨b, 0, none⟩) F :=
 .inr ⟨b, 0, rfl, h.lt, h.lt, fun i hi => by rw [Nat.zero_add, h.cell]; simp [hi]⟩
section
variable {G : Gr} {p : Option Addr} {c N M : Nat} {w : World}
theorem after_at (hv : Vg G) (hN : G.n = N) (hM : M = N * N) (hin : Sg 3 w edE p G.es) : StepAt G p c M (aftF N G.es) 75 w := fun F b W hF hW hr =>
 callsIn_wide.1 (mmAfter_in G p c (some ⟨b, 0, none⟩) M M F N hv hN hM hF W (hin.below hW) (slb_row hr))
theorem before_at (hv : Vg G) (hN : G.n = N) (hM : M = N * N) (hin : Sg 3 w edE p G.es) : StepAt G p c M (befF N G.es) 81 w := fun F b W hF hW hr =>
 callsIn_wide.1 (mmBefore_in G p c (some ⟨b, 0, none⟩) M M F N hv hN hM hF W (hin.below hW) (slb_row hr))
theorem differs_at (hv : Vg G) (hN : G.n = N) (hM : M = N * N) : PropAt G p c M (difB N) 76 w := fun F b W hF _ hr =>
 mmDiffers_any G p c W.heap.size (some ⟨b, 0, none⟩) M M F N hN (by have := hv.n2; omega) hM hF W (slb_row hr)
theorem split_at_ (hv : Vg G) (hN : G.n = N) (hM : M = N * N) (hin : Sg 3 w edE p G.es) : PropAt G p c M (splB N G.es) 82 w := fun F b W hF hW hr =>
 callsIn_wide.1 (mmSplit_in G p c (some ⟨b, 0, none⟩) M M F N hv hN hM hF W (hin.below hW) (slb_row hr))
end
set_option maxRecDepth 100000 in
set_option maxHeartbeats 1000000 in
theorem mmMemory_any (G : Gr) (p : Option Addr) (c : Nat) (w : World) (hin : Sg 3 w edE p G.es) (hl : G.es.length ≤ 9223372036854775807) :
  Calls Tryz.prog 23 #[(.agg #[.int .i64 G.q, .int .i64 G.n, .slice p G.es.length c])] w fun e w' => e = .returned (.tuple #[.int .i64 (memA G).1, .bool (memA G).2.1, .int .i64 (memA G).2.2]) ∧ RowKit.Below w.heap.size w w' := by
 obtain ⟨w0, hw0⟩ : ∃ w0, w0 = w.alloc (.cells #[.int .i64 G.q, .int .i64 G.n, .slice p G.es.length c] 24) := ⟨_, rfl⟩
 have b0 : VRow w0 w.heap.size 24 [.int .i64 G.q, .int .i64 G.n, .slice p G.es.length c] := by subst hw0; exact VRow.new w _ _
 have hB0 : RowKit.Below w.heap.size w w0 := by subst hw0; exact (RowKit.Below.refl _ _).alloc (Nat.le_refl _) _
 obtain ⟨r, hr⟩ : ∃ r, chkG G = r := ⟨_, rfl⟩
 have HCK := hidI (gCheck_r G p c w0 r hr (hin.below hB0) hl)
 have f0 := b0.at 0 rfl; have f1 := b0.at 1 rfl; have f2 := b0.at 2 rfl
 by_cases hr0 : r = 0
 ·subst hr0
  have hv := chkG_ok.1 hr
  have hN : G.n = (G.n.toNat : Int) := by have := hv.n1; omega
  have HK : Hid (memA G = ((lstA (aftF G.n.toNat G.es) (difB G.n.toNat) (G.n.toNat * G.n.toNat + 1) 0 (allF2 G.n.toNat)).1, (lstA (aftF G.n.toNat G.es) (difB G.n.toNat) (G.n.toNat * G.n.toNat + 1) 0 (allF2 G.n.toNat)).2, 0)) := by
   unfold Hid memA; rw [if_neg (by simp [hr])]
  have HL := hidI (fun W (hW : RowKit.Below w0.heap.size w0 W) => mmLeast_any G p c G.n.toNat (G.n.toNat * G.n.toNat) (aftF G.n.toNat G.es) (difB G.n.toNat) 75 76 W hN (by have := hv.n2; omega) rfl
   (enters_of Tryz.func75 (by kernel_rfl) rfl) (enters_of Tryz.func76 (by kernel_rfl) rfl) (after_at hv hN rfl ((hin.below hB0).below hW)) (differs_at hv hN rfl) (aft_mon hv hN))
  rw [HK.out]
  generalize lstA (aftF G.n.toNat G.es) (difB G.n.toNat) (G.n.toNat * G.n.toNat + 1) 0 (allF2 G.n.toNat) = R at *
  clear hin hr hv hN HK
  go_enter Tryz.func23, Tryz.ntmps23
  go_upto_region 1 with fail
  rw [← hw0]
  clear hw0
  go_wp2_with fail
  refine HCK.out.mono ?_
  rintro e w1 ⟨rfl, hB1⟩
  have x1 := hB0.trans (hB1.mono hB0.size)
  have c0 := b0.below hB1 b0.lt
  clear f0 f1 f2 b0
  have f0 := c0.at 0 rfl; have f1 := c0.at 1 rfl; have f2 := c0.at 2 rfl
  go_wp2_with fail
  refine (HL.out w1 hB1).mono ?_
  rintro e w2 ⟨rfl, hB2⟩
  have x2 := x1.trans (hB2.mono x1.size)
  go_wp2
  go_ret3
  exact ⟨rfl, x2⟩
 ·have HK : Hid (memA G = (0, false, 1)) := if_pos (by rw [hr]; exact hr0)
  have hrb : (r != 0) = true := by simpa using hr0
  clear hr hr0 hin
  go_enter Tryz.func23, Tryz.ntmps23
  go_upto_region 1 with fail
  rw [← hw0]
  clear hw0
  go_wp2_with fail
  refine HCK.out.mono ?_
  rintro e w1 ⟨rfl, hB1⟩
  have x1 := hB0.trans (hB1.mono hB0.size)
  go_wp2
  go_ret3
  rw [HK.out]
  exact ⟨rfl, x1⟩
set_option maxRecDepth 100000 in
set_option maxHeartbeats 1000000 in
theorem mmAntic_any (G : Gr) (p : Option Addr) (c : Nat) (w : World) (hin : Sg 3 w edE p G.es) (hl : G.es.length ≤ 9223372036854775807) :
  Calls Tryz.prog 25 #[(.agg #[.int .i64 G.q, .int .i64 G.n, .slice p G.es.length c])] w fun e w' => e = .returned (.tuple #[.int .i64 (antA G).1, .bool (antA G).2.1, .int .i64 (antA G).2.2]) ∧ RowKit.Below w.heap.size w w' := by
 obtain ⟨w0, hw0⟩ : ∃ w0, w0 = w.alloc (.cells #[.int .i64 G.q, .int .i64 G.n, .slice p G.es.length c] 24) := ⟨_, rfl⟩
 have b0 : VRow w0 w.heap.size 24 [.int .i64 G.q, .int .i64 G.n, .slice p G.es.length c] := by subst hw0; exact VRow.new w _ _
 have hB0 : RowKit.Below w.heap.size w w0 := by subst hw0; exact (RowKit.Below.refl _ _).alloc (Nat.le_refl _) _
 obtain ⟨r, hr⟩ : ∃ r, chkG G = r := ⟨_, rfl⟩
 have HCK := hidI (gCheck_r G p c w0 r hr (hin.below hB0) hl)
 have f0 := b0.at 0 rfl; have f1 := b0.at 1 rfl; have f2 := b0.at 2 rfl
 by_cases hr0 : r = 0
 ·subst hr0
  have hv := chkG_ok.1 hr
  have hN : G.n = (G.n.toNat : Int) := by have := hv.n1; omega
  have HK : Hid (antA G = ((lstA (befF G.n.toNat G.es) (splB G.n.toNat G.es) (G.n.toNat * G.n.toNat + 1) 0 (allF2 G.n.toNat)).1, (lstA (befF G.n.toNat G.es) (splB G.n.toNat G.es) (G.n.toNat * G.n.toNat + 1) 0 (allF2 G.n.toNat)).2, 0)) := by
   unfold Hid antA; rw [if_neg (by simp [hr])]
  have HL := hidI (fun W (hW : RowKit.Below w0.heap.size w0 W) => mmLeast_any G p c G.n.toNat (G.n.toNat * G.n.toNat) (befF G.n.toNat G.es) (splB G.n.toNat G.es) 81 82 W hN (by have := hv.n2; omega) rfl
   (enters_of Tryz.func81 (by kernel_rfl) rfl) (enters_of Tryz.func82 (by kernel_rfl) rfl) (before_at hv hN rfl ((hin.below hB0).below hW)) (split_at_ hv hN rfl ((hin.below hB0).below hW)) (bef_mon hv hN))
  rw [HK.out]
  generalize lstA (befF G.n.toNat G.es) (splB G.n.toNat G.es) (G.n.toNat * G.n.toNat + 1) 0 (allF2 G.n.toNat) = R at *
  clear hin hr hv hN HK
  go_enter Tryz.func25, Tryz.ntmps25
  go_upto_region 1 with fail
  rw [← hw0]
  clear hw0
  go_wp2_with fail
  refine HCK.out.mono ?_
  rintro e w1 ⟨rfl, hB1⟩
  have x1 := hB0.trans (hB1.mono hB0.size)
  have c0 := b0.below hB1 b0.lt
  clear f0 f1 f2 b0
  have f0 := c0.at 0 rfl; have f1 := c0.at 1 rfl; have f2 := c0.at 2 rfl
  go_wp2_with fail
  refine (HL.out w1 hB1).mono ?_
  rintro e w2 ⟨rfl, hB2⟩
  have x2 := x1.trans (hB2.mono x1.size)
  go_wp2
  go_ret3
  exact ⟨rfl, x2⟩
 ·have HK : Hid (antA G = (0, false, 1)) := if_pos (by rw [hr]; exact hr0)
  have hrb : (r != 0) = true := by simpa using hr0
  clear hr hr0 hin
  go_enter Tryz.func25, Tryz.ntmps25
  go_upto_region 1 with fail
  rw [← hw0]
  clear hw0
  go_wp2_with fail
  refine HCK.out.mono ?_
  rintro e w1 ⟨rfl, hB1⟩
  have x1 := hB0.trans (hB1.mono hB0.size)
  go_wp2
  go_ret3
  rw [HK.out]
  exact ⟨rfl, x1⟩
end
section
open Go.RowKit
def KA (a : Nat) (W W' : World) : Prop := ∀ i, i ≠ a → W'.heap[i]? = W.heap[i]?
theorem KA.refl (a : Nat) (W : World) : KA a W W := fun _ _ => rfl
theorem KA.trans {a : Nat} {X Y Z : World} (h : KA a X Y) (k : KA a Y Z) : KA a X Z := fun i hi => (k i hi).trans (h i hi)
theorem KA.set (a : Nat) (W : World) (k : Nat) (v : Value) : KA a W (W.setCell ⟨a, k, none⟩ v) := fun _ hi => Below.heap_setCell _ _ _ _ hi
theorem KA.boxed {a B : Nat} {t : TypeId} {v : Value} {W W' : World} (h : KA a W W') (hne : B ≠ a) (hb : Boxed W B t v) : Boxed W' B t v := (h B hne).trans hb
theorem typed_ne {W : World} {a b : Nat} {t t' : TypeId} {c c' : Array Value} {f f' : Nat × Nat} (h : W.heap[a]? = some (.cells c t f)) (h' : W.heap[b]? = some (.cells c' t' f')) (hne : t ≠ t') : a ≠ b := by
 rintro rfl; rw [h] at h'; cases h'; exact hne rfl
def SlJ (w : World) (p : Option Addr) (l : List Int) : Prop := Sl w (Value.int .i64) p l ∧ ∀ b o z, p = some ⟨b, o, z⟩ → ∃ cur fz, w.heap[b]? = some (.cells cur 3 fz)
theorem SlJ.ka {a : Nat} {w w' : World} {p : Option Addr} {l : List Int} (h : SlJ w p l) (k : KA a w w') (ha : ∃ cur fz, w.heap[a]? = some (.cells cur 4 fz)) : SlJ w' p l := by
 obtain ⟨h1, h2⟩ := h
 obtain ⟨ca, fa, ha⟩ := ha
 have e : ∀ b o z, p = some ⟨b, o, z⟩ → w'.heap[b]? = w.heap[b]? := fun b o z hp => by
  obtain ⟨c, f, hb⟩ := h2 b o z hp
  exact k b (typed_ne hb ha (by decide))
 refine ⟨h1.imp id ?_, fun b o z hp => by obtain ⟨c, f, hb⟩ := h2 b o z hp; exact ⟨c, f, (e b o z hp).trans hb⟩⟩
 rintro ⟨b, o, rfl, hb, hc⟩
 have e' := e b o none rfl
 refine ⟨b, o, rfl, ?_, fun i hi => (World.cell?_of_block (w := w) (a := ⟨b, o + i, none⟩) e').trans (hc i hi)⟩
 rcases Nat.lt_or_ge b w'.heap.size with h' | h'
 ·exact h'
 ·rw [Array.getElem?_eq_none h', Array.getElem?_eq_getElem hb] at e'; cases e'
structure VisM (W : World) (B1 B2 B3 bs bn n : Nat) (es : List Ed) : Prop where
 b1 : Boxed W B1 90 (.slice (some ⟨bs, 0, none⟩) n n)
 b2 : Boxed W B2 47 (.slice (some ⟨bn, 0, none⟩) n n)
 b3 : Boxed W B3 237 (.func (.func 229) #[] #[.pointer (some ⟨B1, 0, none⟩), .pointer (some ⟨B2, 0, none⟩), .pointer (some ⟨B3, 0, none⟩)])
 nx : ∃ cur fz, W.heap[bn]? = some (.cells cur 30 fz)
 rows : ∀ s, s < n → ∃ q c, W.cell? ⟨bn, s, none⟩ = some (.slice q (nxs es s).length c) ∧ SlJ W q (nxs es s)
theorem VisM.ka {W W' : World} {B1 B2 B3 bs bn n : Nat} {es : List Ed} (h : VisM W B1 B2 B3 bs bn n es) (k : KA bs W W') (hs : ∃ cur fz, W.heap[bs]? = some (.cells cur 4 fz)) : VisM W' B1 B2 B3 bs bn n es := by
 have hs' := hs
 obtain ⟨ca, fa, ha⟩ := hs
 obtain ⟨cn, fn, hn⟩ := h.nx
 have hnb : bn ≠ bs := typed_ne hn ha (by decide)
 refine ⟨k.boxed (typed_ne h.b1 ha (by decide)) h.b1, k.boxed (typed_ne h.b2 ha (by decide)) h.b2, k.boxed (typed_ne h.b3 ha (by decide)) h.b3, ⟨cn, fn, (k bn hnb).trans hn⟩, fun s hs => ?_⟩
 obtain ⟨q, c, h1, h2⟩ := h.rows s hs
 exact ⟨q, c, (World.cell?_of_block (w := W) (a := ⟨bn, s, none⟩) (k bn hnb)).trans h1, h2.ka k hs'⟩
theorem vrow_typed {W : World} {b : Nat} {t : TypeId} {l : List Value} (h : VRow W b t l) : ∃ cur fz, W.heap[b]? = some (.cells cur t fz) := ⟨_, _, h⟩
def visK (es : List Ed) (f : Nat) (L : List Bool) (s k : Nat) : List Bool := ((nxs es s).take k).foldl (vis1 (visA es f)) (L.set s true)
theorem visK_succ {es : List Ed} {f : Nat} {L : List Bool} {s k : Nat} (h : k < (nxs es s).length) : visK es f L s (k + 1) = vis1 (visA es f) (visK es f L s k) (nxs es s)[k] := by
 unfold visK; rw [List.take_succ_eq_append_getElem h, List.foldl_append]; rfl
theorem visK_all (es : List Ed) (f : Nat) (L : List Bool) (s : Nat) : visK es f L s (nxs es s).length = visA es (f + 1) L s := by
 unfold visK; rw [List.take_length]; rfl
theorem visK_ok {es : List Ed} {n : Nat} (hes : ∀ x ∈ es, 0 ≤ x.t ∧ x.t < n) {f : Nat} {L : List Bool} {s : Nat} (hl : L.length = n) (hs : s < n) (ho : ¬ On L s) (hf : offs L ≤ f + 1) : ∀ k, k ≤ (nxs es s).length → (visK es f L s k).length = n ∧ offs (visK es f L s k) ≤ f
 | 0, _ => by
  have := offs_set (by omega) ho
  unfold visK; rw [List.take_zero]
  exact ⟨by rw [List.foldl_nil, List.length_set]; exact hl, by rw [List.foldl_nil]; omega⟩
 | k + 1, hk => by
  obtain ⟨h1, h2⟩ := visK_ok hes hl hs ho hf k (by omega)
  rw [visK_succ (by omega)]
  obtain ⟨x, hx, _, he⟩ := mem_nxs.1 (List.getElem_mem (show k < (nxs es s).length by omega))
  have hb := hes x hx
  rw [he] at hb
  unfold vis1
  split
  ·exact ⟨h1, h2⟩
  ·rename_i hne
   obtain ⟨v, _⟩ := visA_ok hes f _ (nxs es s)[k].toNat h1 (by omega) hne h2
   exact ⟨v.len.trans h1, Nat.le_trans (offs_mono v.len.symm v.mono) h2⟩
def VisAt (es : List Ed) (n B1 B2 B3 bs bn f : Nat) : Prop := ∀ (L : List Bool) (s : Nat) (W : World), L.length = n → s < n → ¬ On L s → offs L ≤ f → VisM W B1 B2 B3 bs bn n es → VRow W bs 4 (L.map Value.bool) →
  Calls Tryz.prog 229 #[.int .i64 s, .pointer (some ⟨B1, 0, none⟩), .pointer (some ⟨B2, 0, none⟩), .pointer (some ⟨B3, 0, none⟩)] W fun e w' => e = .returned (.tuple #[]) ∧ VRow w' bs 4 ((visA es f L s).map Value.bool) ∧ KA bs W w' ∧ RowKit.Below bs W w'
set_option maxRecDepth 100000 in
set_option maxHeartbeats 2000000 in
theorem visit_step {es : List Ed} {n B1 B2 B3 bs bn : Nat} (hes : ∀ x ∈ es, 0 ≤ x.t ∧ x.t < n) (hel : es.length ≤ 1024) (hn : n ≤ 64) (f : Nat) (hI : VisAt es n B1 B2 B3 bs bn f) : VisAt es n B1 B2 B3 bs bn (f + 1) := by
 intro L s W hl hs ho hf hM hR
 have IH := hidI hI
 clear hI
 have HOK := hidI (visK_ok hes hl hs ho hf)
 have HM := hidI hM
 have f1 := hM.b1.cell
 obtain ⟨vb, hc0⟩ : ∃ vb : Bool, W.cell? ⟨bs, s, none⟩ = some (.bool vb) := ⟨_, hR.at s (v := .bool (L[s]'(by omega))) (by simp [show s < L.length by omega])⟩
 have hf0 := hR.frozen s
 have hr1 : VRow (W.setCell ⟨bs, s, none⟩ (.bool true)) bs 4 ((visK es f L s 0).map Value.bool) := by
  have := hR.set (i := s) (.bool true)
  rw [← List.map_set] at this
  exact this
 have hk1 : KA bs W (W.setCell ⟨bs, s, none⟩ (.bool true)) := KA.set bs W s _
 have hB1 : RowKit.Below bs W (W.setCell ⟨bs, s, none⟩ (.bool true)) := (RowKit.Below.refl bs W).setCell (p := ⟨bs, s, none⟩) (Nat.le_refl _) _
 have hty := hidI (vrow_typed hR)
 obtain ⟨qn, cn, gW, g2⟩ := hM.rows s hs
 have hnb : bn ≠ bs := by
  obtain ⟨_, _, h1⟩ := hM.nx
  obtain ⟨_, _, h2⟩ := hty.out
  exact typed_ne h1 h2 (by decide)
 have g1 := (World.cell?_of_block (w := W) (a := ⟨bn, s, none⟩) (hk1 bn hnb)).trans gW
 have g0 := (hM.ka hk1 hty.out).b2.cell
 have HSl := hidI g2
 have hlen : (nxs es s).length ≤ 1024 := by unfold nxs; rw [List.length_map]; exact Nat.le_trans (List.length_filter_le _ _) hel
 have hsI : (s : Int) < (n : Int) := by omega
 clear hM hR ho hf hl g2 gW hnb
 obtain ⟨W1, hW1⟩ : ∃ W1, W1 = W.setCell ⟨bs, s, none⟩ (.bool true) := ⟨_, rfl⟩
 rw [← hW1] at hr1 hk1 hB1 g0 g1
 have HW1 := hidI hW1.symm
 clear hW1
 go_enter Tryz.func229, Tryz.ntmps229
 go_upto_region 1 with fail
 rw [HW1.out]
 clear HW1 f1 hc0 hf0
 go_wp2
 clear g0 g1
 go_loopw [6, 15] (fun tv iv wr => ∃ k : Nat, k ≤ (nxs es s).length ∧ iv = .int .i64 k ∧ VRow wr bs 4 ((visK es f L s k).map Value.bool) ∧ KA bs W wr ∧ RowKit.Below bs W wr) (fun _ iv _ => (nxs es s).length - (intOf iv).toNat)
 case atStart => exact ⟨0, by omega, rfl, hr1, hk1, hB1⟩
 case round =>
  clear hr1 hk1 hB1
  obtain ⟨k, hk, rfl, hr, hka, hB⟩ := hrel
  have hM := hidI (HM.out.ka hka hty.out)
  by_cases hlt : k < (nxs es s).length
  ·have hltI : (k : Int) < ((nxs es s).length : Int) := by omega
   obtain ⟨bq, oq, rfl, hbq, hcq⟩ := (HSl.out.ka hka hty.out).1.get k hlt
   have e1 := hcq k hlt
   obtain ⟨x, hx, _, hxe⟩ := mem_nxs.1 (List.getElem_mem hlt)
   have hbd := hes x hx
   rw [hxe] at hbd
   have HS := hidI (visK_succ (f := f) (L := L) hlt)
   obtain ⟨h1, h2⟩ := HOK.out k hk
   clear hxe hx hcq
   obtain ⟨m, hm⟩ : ∃ m : Nat, (nxs es s)[k] = m := ⟨(nxs es s)[k].toNat, by omega⟩
   rw [hm] at e1 HS hbd
   replace HS : Hid (visK es f L s (k + 1) = if (visK es f L s k).getD m false = true then visK es f L s k else visA es f (visK es f L s k) m) := by
    rw [Hid, HS.out]; rfl
   clear hm
   have hmn : m < n := by omega
   have hmI : (m : Int) < (n : Int) := by omega
   have hml : m < (visK es f L s k).length := by omega
   have hc1 := hr.at m (v := .bool ((visK es f L s k)[m]'hml)) (by simp [hml])
   have hgd : (visK es f L s k).getD m false = (visK es f L s k)[m]'hml := by simp [List.getD, hml]
   rw [hgd] at HS
   have f1 := hM.out.b1.cell
   have HRc := hidI (fun (hon : (visK es f L s k)[m]'hml = false) => IH.out (visK es f L s k) m wr h1 hmn (fun e => by unfold On at e; rw [hgd, hon] at e; cases e) h2 hM.out hr)
   have f3 := hM.out.b3.cell
   generalize hvv : (visK es f L s k)[m]'hml = v at *
   cases v
   ·have HS2 : Hid (visK es f L s (k + 1) = visA es f (visK es f L s k) m) := by rw [Hid, HS.out]; rfl
    have HR := hidI (HRc.out rfl)
    clear HRc hgd h1 h2 hml hbd HS hvv
    go_wp2_with fail
    refine HR.out.mono ?_
    rintro e w2 ⟨rfl, hr2, hk2, hB2⟩
    rw [← HS2.out] at hr2
    clear f1 f3 hc1 e1
    go_wp2
    go_roundw
    case rel => exact ⟨k + 1, by omega, by go_num, hr2, hka.trans hk2, hB.trans hB2⟩
    case measure => simp [intOf]; omega
   ·have HS2 : Hid (visK es f L s (k + 1) = visK es f L s k) := by rw [Hid, HS.out]; rfl
    rw [← HS2.out] at hr
    clear HRc hgd h1 h2 hml hbd HS hvv
    go_wp2
    go_roundw
    case rel => exact ⟨k + 1, by omega, by go_num, hr, hka, hB⟩
    case measure => simp [intOf]; omega
  ·obtain rfl : k = (nxs es s).length := by omega
   have hltI : ¬ ((nxs es s).length : Int) < ((nxs es s).length : Int) := by omega
   rw [visK_all] at hr
   go_wp2
   go_end0
   exact ⟨rfl, hr, hka, hB⟩
theorem visit_any {es : List Ed} {n B1 B2 B3 bs bn : Nat} (hes : ∀ x ∈ es, 0 ≤ x.t ∧ x.t < n) (hel : es.length ≤ 1024) (hn : n ≤ 64) : ∀ f : Nat, VisAt es n B1 B2 B3 bs bn f
 | 0 => fun L s W hl hs ho hf _ _ => by
  have := offs_set (by omega) ho; omega
 | f + 1 => visit_step hes hel hn f (visit_any hes hel hn f)
end
section
open Go.RowKit Go.Sort
theorem infoIg : (Tryz.prog.info? 3).map (fun i => (i.zero, i.size, i.bytes)) = some (some (.int .i64 0), 1, 8) := by kernel_rfl
theorem infoSg : (Tryz.prog.info? 30).map (fun i => (i.zero, i.size, i.bytes)) = some (some (.slice none 0 0), 1, 24) := by kernel_rfl
theorem infoBg : (Tryz.prog.info? 4).map (fun i => (i.zero, i.size, i.bytes)) = some (some (.bool false), 1, 1) := by kernel_rfl
theorem made_rowZ {w : World} {B e g n : Nat} {z : Value} (hz : z.cells = #[z]) (h : w.ownsRow B e 1 (.slice (some ⟨g, 0, none⟩) n n) n (madeCells z.cells (n * 1)).toList) : VRow w g e (List.replicate n z) := by
 rcases h.2 with ⟨e0, _⟩ | ⟨g', cap', cur, e0, hg, hh, hc, hm, hs, ht⟩
 ·cases e0
 ·cases e0
  have h1 : cur.toList.take (n * 1) = cur.toList := List.take_of_length_le (by simp [hs])
  rw [h1, hz, toList_madeCells_one, Nat.mul_one] at ht
  rw [← ht]
  exact hh
def NEI (v l : Value) : Prop := ∀ j, v.ownBlock = some j → l.ownBlock ≠ some j
theorem NEI.kept {v l : Value} (h : NEI v l) : l.ownBlock = none ∨ l.ownBlock ≠ v.ownBlock := by
 cases hl : l.ownBlock with
 | none => exact .inl rfl
 | some j => exact .inr (fun e => h j e.symm hl)
structure NxR (W : World) (bn n : Nat) (vs : List Value) (R : Nat → List Int) (x : Nat) : Prop where
 hd : VRow W bn 30 vs
 len : vs.length = n
 own : ∀ s (h : s < vs.length), s ≠ x → W.ownsRow bn 3 1 vs[s] (R s).length ((R s).map (Value.int .i64))
 ne : ∀ s t (hs : s < vs.length) (ht : t < vs.length), s ≠ t → NEI vs[s] vs[t]
theorem NxR.alloc {W : World} {bn n : Nat} {vs : List Value} {R : Nat → List Int} {x : Nat} (h : NxR W bn n vs R x) (o : Obj) : NxR (W.alloc o) bn n vs R x :=
 ⟨h.hd.alloc o, h.len, fun s hs hx => (h.own s hs hx).alloc o, h.ne⟩
theorem NxR.keep {W W' : World} {bn n : Nat} {vs : List Value} {R : Nat → List Int} {x : Nat} (h : NxR W bn n vs R x) (hB : RowKit.Below W.heap.size W W') : NxR W' bn n vs R x :=
 ⟨h.hd.below hB h.hd.lt, h.len, fun s hs hx => (h.own s hs hx).below hB, h.ne⟩
theorem own_not {W : World} {B b e : Nat} {v : Value} {n : Nat} {xs : List Value} {t : TypeId} {c : Array Value} {f : Nat × Nat} (h : W.ownsRow B e 1 v n xs) (hb : W.heap[b]? = some (.cells c t f)) (hne : t ≠ e) : some b ≠ v.ownBlock := by
 intro e'
 obtain ⟨c', f', h'⟩ := Lib.ownsRow_kind h b e'.symm
 rw [hb] at h'; cases h'; exact hne rfl
theorem NxR.grown {W W' : World} {bn n : Nat} {vs : List Value} {R : Nat → List Int} {x : Nat} (h : NxR W bn n vs R n) (hx : x < vs.length) (hg : W.grownBy W' vs[x].ownBlock) : NxR W' bn n vs R x where
 hd := h.hd.grown hg (own_not (h.own x hx (by have := h.len; omega)) h.hd (by decide))
 len := h.len
 own := fun s hs hsx => (h.own s hs (by have := h.len; omega)).kept hg ((h.ne x s hx hs (fun e => hsx e.symm)).kept)
 ne := h.ne
theorem NxR.set {W : World} {bn n : Nat} {vs : List Value} {R R' : Nat → List Int} {x : Nat} {v : Value} (h : NxR W bn n vs R x) (hx : x < vs.length) (hv : W.ownsRow bn 3 1 v (R' x).length ((R' x).map (Value.int .i64))) (hR : ∀ s, s ≠ x → R' s = R s)
  (h1 : ∀ s (hs : s < vs.length), s ≠ x → NEI v vs[s] ∧ NEI vs[s] v) : NxR (W.setCell ⟨bn, x, none⟩ v) bn n (vs.set x v) R' n := by
 have hb : ∀ {u : Value} {k : Nat} {xs : List Value}, W.ownsRow bn 3 1 u k xs → (W.setCell ⟨bn, x, none⟩ v).ownsRow bn 3 1 u k xs := fun hu =>
  ownsRow_setCell_other hu (a := ⟨bn, x, none⟩) (fun e => own_not hu h.hd (by decide) e.symm) _
 refine ⟨h.hd.set (i := x) v, by rw [List.length_set]; exact h.len, fun s hs _ => ?_, fun s t hs ht hst => ?_⟩
 ·rw [List.length_set] at hs
  by_cases e : s = x
  ·subst e
   rw [List.getElem_set_self]; exact hb hv
  ·rw [List.getElem_set_ne (fun e' => e e'.symm), hR s e]
   exact hb (h.own s hs e)
 ·rw [List.length_set] at hs ht
  by_cases e : s = x
  ·subst e
   rw [List.getElem_set_self, List.getElem_set_ne hst]
   exact (h1 t (by simpa using ht) (fun e' => hst e'.symm)).1
  ·by_cases e2 : t = x
   ·subst e2
    rw [List.getElem_set_self, List.getElem_set_ne (fun e' => e e'.symm)]
    exact (h1 s (by simpa using hs) e).2
   ·rw [List.getElem_set_ne (fun e' => e e'.symm), List.getElem_set_ne (fun e' => e2 e'.symm)]
    exact h.ne s t (by simpa using hs) (by simpa using ht) hst
structure NxS (w1 W0 : World) (bn B5 n : Nat) (vs : List Value) (R R' : Nat → List Int) (x : Nat) (a1 b1 c1 : Int) (d10 d11 d13 : Bool) (f31 : Option Value) (W : World) : Prop where
 b : RowKit.Below bn w1 W
 bx : Boxed W B5 47 (.slice (some ⟨bn, 0, none⟩) n n)
 ed : ∃ be, W0.heap.size = be + 1 ∧ VRow W be 44 [.int .i64 a1, .int .i64 b1, .int .i64 c1]
 sz : d10 = false → W.heap.size = W0.heap.size
 sz2 : W0.heap.size ≤ W.heap.size
 one : d10 = true → d11 = false → VRow W W0.heap.size 3 [.int .i64 c1]
 pre : d11 = false → NxR W bn n vs R n
 mid : d11 = true → d13 = false → ∃ g cap, f31 = some (.slice (some ⟨g, 0, none⟩) (R' x).length cap) ∧ NxR W bn n vs R x ∧ W.ownsRow bn 3 1 (.slice (some ⟨g, 0, none⟩) (R' x).length cap) (R' x).length ((R' x).map (Value.int .i64)) ∧ ∀ s (hs : s < vs.length), s ≠ x → NEI (.slice (some ⟨g, 0, none⟩) (R' x).length cap) vs[s] ∧ NEI vs[s] (.slice (some ⟨g, 0, none⟩) (R' x).length cap)
 fin : d13 = true → ∃ v, f31 = some v ∧ NxR W bn n (vs.set x v) R' n
section
variable {w1 W0 : World} {bn B5 n : Nat} {vs : List Value} {R R' : Nat → List Int} {x : Nat} {a b c : Int} {f31 : Option Value} {W : World}
theorem NxS.alloc (h : NxS w1 W0 bn B5 n vs R R' x a b c false false false f31 W) (hbn : bn ≤ W.heap.size) : NxS w1 W0 bn B5 n vs R R' x a b c true false false f31 (W.alloc (.cells #[.int .i64 c] 3)) := by
 obtain ⟨be, h1, h2⟩ := h.ed
 refine ⟨h.b.alloc hbn _, h.bx.alloc _, ⟨be, h1, h2.alloc _⟩, (fun e => by cases e), by rw [World.size_alloc]; have := h.sz2; omega, fun _ _ => ?_, fun e => (h.pre e).alloc _, (fun e => by cases e), (fun e => by cases e)⟩
 rw [← h.sz rfl]; exact VRow.new W _ _
theorem NxS.app {W' : World} {g cap : Nat} {d10 : Bool} (h : NxS w1 W0 bn B5 n vs R R' x a b c d10 false false f31 W) (hx : x < vs.length) (hR : (R' x) = R x ++ [c])
  (hown : W'.ownsRow bn 3 1 (.slice (some ⟨g, 0, none⟩) ((R x).length + 1) cap) ((R x).length + 1) ((R x).map (Value.int .i64) ++ [.int .i64 c])) (hg : W.grownBy W' vs[x].ownBlock) (hgw : vs[x].ownBlock = some g ∨ g = W.heap.size) (hbn : bn ≤ W.heap.size) :
  NxS w1 W0 bn B5 n vs R R' x a b c true true false (some (.slice (some ⟨g, 0, none⟩) ((R x).length + 1) cap)) W' := by
 have hP := h.pre rfl
 have hxn : x ≠ n := by have := hP.len; omega
 have ho := hP.own x hx hxn
 obtain ⟨be, h1, h2⟩ := h.ed
 have hR1 : (R' x).length = (R x).length + 1 := by rw [hR]; simp
 refine ⟨h.b.grown hg hbn (fun j e => (ho.lt j e).1), h.bx.kept hg (fun e => own_not ho h.bx (by decide) e), ⟨be, h1, h2.grown hg (own_not ho h2 (by decide))⟩, (fun e => by cases e), Nat.le_trans h.sz2 hg.size, (fun _ e => by cases e), (fun e => by cases e), fun _ _ => ?_, (fun e => by cases e)⟩
 refine ⟨g, cap, by rw [hR1], hP.grown hx hg, ?_, fun s hs hsx => ?_⟩
 ·rw [hR1, hR, List.map_append]; exact hown
 ·have hos := hP.own s hs (by have := hP.len; omega)
  rcases hgw with e | e
  ·exact ⟨fun j hj => by
    have : vs[x].ownBlock = some j := by rw [e]; simpa [Value.ownBlock] using hj
    exact hP.ne x s hx hs (fun e' => hsx e'.symm) j this, fun j hj hj2 => by
    have hj3 : g = j := by simpa [Value.ownBlock] using hj2
    exact hP.ne s x hs hx hsx j hj (by rw [e, hj3])⟩
  ·exact ⟨fun j hj hj2 => by
    have hj3 : g = j := by simpa [Value.ownBlock] using hj
    have := (hos.lt j hj2).2; omega, fun j hj hj2 => by
    have hj3 : g = j := by simpa [Value.ownBlock] using hj2
    have := (hos.lt j hj).2; omega⟩
theorem NxS.store {d10 : Bool} {g cap : Nat} (h : NxS w1 W0 bn B5 n vs R R' x a b c d10 true false (some (.slice (some ⟨g, 0, none⟩) (R' x).length cap)) W) (hx : x < vs.length) (hR : ∀ s, s ≠ x → R' s = R s) :
  NxS w1 W0 bn B5 n vs R R' x a b c d10 true true (some (.slice (some ⟨g, 0, none⟩) (R' x).length cap)) (W.setCell ⟨bn, x, none⟩ (.slice (some ⟨g, 0, none⟩) (R' x).length cap)) := by
 obtain ⟨g', cap', hu, h1, h2, h3⟩ := h.mid rfl rfl
 cases hu
 obtain ⟨be, e1, e2⟩ := h.ed
 have hne : B5 ≠ bn := typed_ne (show W.heap[B5]? = _ from h.bx) (show W.heap[bn]? = _ from h1.hd) (by decide)
 refine ⟨h.b.setCell (p := ⟨bn, x, none⟩) (Nat.le_refl _) _, (Below.heap_setCell _ _ _ _ hne).trans h.bx, ⟨be, e1, e2.other _ (typed_ne e2 h1.hd (by decide))⟩, fun e => by rw [World.size_setCell]; exact h.sz e, by rw [World.size_setCell]; exact h.sz2, (fun _ e => by cases e), (fun e => by cases e), (fun _ e => by cases e), fun _ => ⟨_, rfl, h1.set hx h2 hR h3⟩⟩
end
end
section
open Go.RowKit Go.Sort
theorem nxs_snoc {es : List Ed} {k : Nat} (h : k < es.length) (s : Nat) : nxs (es.take (k + 1)) s = nxs (es.take k) s ++ (if es[k].f = (s : Int) then [es[k].t] else []) := by
 unfold nxs
 rw [List.take_succ_eq_append_getElem h, List.filter_append, List.map_append]
 congr 1
 by_cases e : es[k].f = (s : Int)
 ·rw [if_pos e, List.filter_cons_of_pos (by simpa using e)]; rfl
 ·rw [if_neg e, List.filter_cons_of_neg (by simpa using e)]; rfl
theorem nxs_len (es : List Ed) (s k : Nat) (h : es.length ≤ 1024) : (nxs (es.take k) s).length ≤ 1024 := by
 unfold nxs
 rw [List.length_map]
 exact Nat.le_trans (List.length_filter_le _ _) (by rw [List.length_take]; omega)
set_option maxRecDepth 100000 in
set_option maxHeartbeats 4000000 in
theorem reach_any (G : Gr) (p : Option Addr) (c s : Nat) (w : World) (hin : Sg 3 w edE p G.es) (hv : Vg G) (hs : (s : Int) < G.n) :
  Calls Tryz.prog 205 #[(.agg #[.int .i64 G.q, .int .i64 G.n, .slice p G.es.length c]), .int .i64 s] w fun e w' => ∃ b, e = .returned (.slice (some ⟨b, 0, none⟩) G.n.toNat G.n.toNat) ∧ w.heap.size ≤ b ∧ VRow w' b 4 ((rchA G s).map Value.bool) ∧ RowKit.Below w.heap.size w w' := by
 obtain ⟨i0, hi0, hz0, hz1, hz3⟩ := info_parts infoSg
 obtain ⟨i1, hi1, hy0, hy1, hy3⟩ := info_parts infoIg
 obtain ⟨i2, hi2, hx0, hx1, hx3⟩ := info_parts infoBg
 obtain ⟨w0, hw0⟩ : ∃ w0, w0 = w.alloc (.cells #[.int .i64 G.q, .int .i64 G.n, .slice p G.es.length c] 24) := ⟨_, rfl⟩
 have b0 : VRow w0 w.heap.size 24 [.int .i64 G.q, .int .i64 G.n, .slice p G.es.length c] := by subst hw0; exact VRow.new w _ _
 have hB0 : RowKit.Below w.heap.size w w0 := by subst hw0; exact (RowKit.Below.refl _ _).alloc (Nat.le_refl _) _
 have HIN := hidI (hin.below hB0)
 have HV := hidI hv
 obtain ⟨N, hN⟩ : ∃ N : Nat, G.n = N := ⟨G.n.toNat, by have := hv.n1; omega⟩
 have hN64 : N ≤ 64 := by have := hv.n2; omega
 have hNT : G.n.toNat = N := by omega
 have hsN : s < N := by omega
 have hlen := hv.len
 have g1 := b0.at 1 rfl
 rw [hN] at g1
 have HN := hidI hN
 rw [hNT]
 clear hin hv hs hN hNT
 go_enter Tryz.func205, Tryz.ntmps205
 go_upto_region 1 with fail
 rw [← hw0]
 clear hw0
 go_upto_region 2 with (at_make; refine wpList_make_full _ rfl _ _ 47 rfl w0.heap.size 30 i0 (.slice none 0 0) 1 Tryz.underlying47 hi0 hz0 hz1 .i64 .i64 _ _ N rfl rfl (by omega) (by omega) (by rw [hz3]; omega) (by unfold maxLen; omega) (Nat.le_refl _) ?_; intro w1 hown hgrow)
 have hn1 := made_rowZ (z := .slice none 0 0) rfl hown
 have hB1 : RowKit.Below w0.heap.size w0 w1 := (RowKit.Below.refl _ _).grown hgrow (Nat.le_refl _) (by simp)
 have hbl := hn1.lt
 obtain ⟨w2, hw2⟩ : ∃ w2, w2 = w1.alloc (.cells #[.slice (some ⟨w0.heap.size, 0, none⟩) N N] 47) := ⟨_, rfl⟩
 have hn2 : VRow w2 w0.heap.size 30 (List.replicate N (.slice none 0 0)) := by subst hw2; exact hn1.alloc _
 have hx2 : Boxed w2 w1.heap.size 47 (.slice (some ⟨w0.heap.size, 0, none⟩) N N) := by subst hw2; exact Boxed.new w1 _ _
 have hB2 : RowKit.Below w0.heap.size w0 w2 := by subst hw2; exact hB1.alloc hB1.size _
 obtain ⟨bn, hbn⟩ : ∃ bn, bn = w0.heap.size := ⟨_, rfl⟩
 obtain ⟨B5, hB5⟩ : ∃ B5, B5 = w1.heap.size := ⟨_, rfl⟩
 have hP : NxR w2 bn N (List.replicate N (.slice none 0 0)) (fun t => nxs (G.es.take 0) t) N := by
  rw [hbn]
  refine ⟨hn2, by simp, fun t ht _ => ?_, fun t u ht hu _ => ?_⟩
  ·rw [List.getElem_replicate]; exact World.ownsRow_nil _ _ _ _
  ·rw [List.getElem_replicate]; exact fun j hj => by cases hj
 rw [← hbn] at hn2 hx2 hB2
 rw [← hB5] at hx2
 have hw2' : w2 = w1.alloc (.cells #[.slice (some ⟨bn, 0, none⟩) N N] 47) := by rw [hbn]; exact hw2
 clear hw2
 have zb : w.heap.size < bn := by rw [hbn]; exact b0.lt
 have zn : bn < w2.heap.size := hn2.lt
 have b2 := b0.below hB2 zb
 have g2 := b2.at 2 rfl
 have HE := hidI (fun W (h : RowKit.Below bn w2 W) => HIN.out.below (show RowKit.Below w0.heap.size w0 W by rw [← hbn]; exact hB2.trans h))
 have HB2 := hidI b2
 have HB20 := hidI hB2
 have HBN := hidI hbn
 rw [← hbn, ← hB5, ← hw2']
 clear hown hgrow g1 hn1 hB1 hn2 hw2' hbl
 clear hbn hB5
 go_wp2
 clear g2
 go_loopw [16] (fun iv wr => ∃ (k : Nat) (vs : List Value), k ≤ G.es.length ∧ iv = .int .i64 k ∧ NxR wr bn N vs (fun t => nxs (G.es.take k) t) N ∧ Boxed wr B5 47 (.slice (some ⟨bn, 0, none⟩) N N) ∧ RowKit.Below bn w2 wr) (fun iv _ => G.es.length - (intOf iv).toNat)
 case atStart => exact ⟨0, _, by omega, rfl, hP, hx2, RowKit.Below.refl _ _⟩
 case round =>
  clear hP hx2 b2 hB2
  obtain ⟨k, vs, hk, rfl, hP, hbx, hB⟩ := hrel
  by_cases hlt : k < G.es.length
  ·have hltI : (k : Int) < (G.es.length : Int) := by omega
   obtain ⟨b3, o3, rfl, hb3, e0, e1, e2⟩ := (HE.out wr hB).get3 k hlt rfl
   have hb := HV.out.ins _ (List.getElem_mem hlt)
   have hnl := nxs_len G.es
   have HSN := hidI (fun t => nxs_snoc hlt t)
   obtain ⟨x, hx⟩ : ∃ x, G.es[k] = x := ⟨_, rfl⟩
   rw [hx] at e0 e1 e2 hb HSN
   clear hx
   obtain ⟨f, hf⟩ : ∃ f : Nat, x.f = f := ⟨x.f.toNat, by omega⟩
   rw [HN.out] at hb
   rw [hf] at e0 hb
   have hfN : f < N := by omega
   have hfI : (f : Int) < (N : Int) := by omega
   have HSN2 : Hid (∀ t, nxs (G.es.take (k + 1)) t = if t = f then nxs (G.es.take k) f ++ [x.t] else nxs (G.es.take k) t) := fun t => by
    rw [HSN.out t, hf]
    by_cases e : t = f
    ·subst e; rw [if_pos rfl, if_pos rfl]
    ·rw [if_neg (fun e' => e (by omega)), if_neg e, List.append_nil]
   obtain ⟨be, hbe⟩ : ∃ be, be = wr.heap.size := ⟨_, rfl⟩
   obtain ⟨W0, hW0⟩ : ∃ W0, W0 = wr.alloc (.cells #[.int .i64 f, .int .i64 x.l, .int .i64 x.t] 44) := ⟨_, rfl⟩
   have hbnw := hB.size
   have hrow : VRow W0 be 44 [.int .i64 f, .int .i64 x.l, .int .i64 x.t] := by rw [hW0, hbe]; exact VRow.new wr _ _
   have hW0s : W0.heap.size = be + 1 := by rw [hW0, hbe, World.size_alloc]
   have hS0 : NxS w2 W0 bn B5 N vs (fun t => nxs (G.es.take k) t) (fun t => nxs (G.es.take (k + 1)) t) f f x.l x.t false false false none { W0 with drawn := W0.drawn + 1 } := by
    have hB' : RowKit.Below bn w2 W0 := by rw [hW0]; exact hB.alloc (by have := hB.size; omega) _
    have hx' : Boxed W0 B5 47 (.slice (some ⟨bn, 0, none⟩) N N) := by rw [hW0]; exact hbx.alloc _
    have hP' : NxR W0 bn N vs (fun t => nxs (G.es.take k) t) N := by rw [hW0]; exact hP.alloc _
    exact ⟨below_dN hB' 1, hx', ⟨be, hW0s, hrow⟩, fun _ => rfl, Nat.le_refl _, (fun e => by cases e), fun _ => ⟨hP'.hd, hP'.len, hP'.own, hP'.ne⟩, (fun e => by cases e), (fun e => by cases e)⟩
   have hfl : f < vs.length := by rw [hP.len]; exact hfN
   have hl1 := hnl f k (by omega)
   have HR1 : Hid (nxs (G.es.take (k + 1)) f = nxs (G.es.take k) f ++ [x.t]) := by rw [Hid, HSN2.out, if_pos rfl]
   have HR2 : Hid (∀ s, s ≠ f → nxs (G.es.take (k + 1)) s = nxs (G.es.take k) s) := fun s hs => by rw [HSN2.out, if_neg hs]
   have hbnW : ∀ W, RowKit.Below bn w2 W → bn ≤ W.heap.size := fun W hW => by have := hW.size; omega
   have HBW := hidI hbnW
   clear HSN hf hb hP hbx hB hrow hnl hbnW
   go_upto_region 5 with fail
   rw [← hW0, ← hbe]
   clear hW0 hbe e0 e1 e2
   refine region_detW (by kernel_rfl) 14 [(some 20, some (.slice (some ⟨bn, 0, none⟩) N N)), (some 21, some (.pointer (some ⟨be, 0, none⟩))), (some 22, some (.int .i64 f)), (some 23, some (.slice (some ⟨bn, 0, none⟩) N N)), (some 24, some (.pointer (some ⟨be, 0, none⟩))), (some 25, some (.int .i64 f)), (some 26, some (.pointer (some ⟨bn, f, none⟩))), (some 27, some (vs[f]'hfl)), (some 28, some (.pointer (some ⟨be, 2, none⟩))), (some 29, some (.int .i64 x.t)), (some 30, some (.slice (some ⟨W0.heap.size, 0, none⟩) 1 1)), (some 31, none), (some 32, some (.pointer (some ⟨bn, f, none⟩))), (none, none)]
    (fun d g W => NxS w2 W0 bn B5 N vs (fun t => nxs (G.es.take k) t) (fun t => nxs (G.es.take (k + 1)) t) f f x.l x.t (d 10) (d 11) (d 13) (g 31) W) (by kernel_rfl) (by kernel_rfl) (by kernel_rfl) (by kernel_rfl) hS0 ?_ ?_
   focus
    intro i o ho a d g W hS hdi hdn hnd hdep hout hold K hK
    have hil : i < 14 := (Array.getElem?_eq_some_iff.1 ho).1
    have hcases : i = 0 ∨ i = 1 ∨ i = 2 ∨ i = 3 ∨ i = 4 ∨ i = 5 ∨ i = 6 ∨ i = 7 ∨ i = 8 ∨ i = 9 ∨ i = 10 ∨ i = 11 ∨ i = 12 ∨ i = 13 := by omega
    clear hil
    have u5 := hout 5 (by kernel_rfl)
    have u7 := hout 7 (by kernel_rfl)
    simp at u5 u7
    clear hout
    rcases hcases with rfl | rfl | rfl | rfl | rfl | rfl | rfl | rfl | rfl | rfl | rfl | rfl | rfl | rfl
    all_goals (simp only [List.getElem?_toArray, List.getElem?_cons_succ, List.getElem?_cons_zero, Option.some.injEq] at ho; subst ho; simp [Region.binds] at hdep; (try go_split_ands))
    all_goals first
     | (go_simp; exact hK _ _ (fun u hu => Option.some.inj hu) hS)
     | (have hc0 := hS.bx.cell
        go_simp
        exact hK _ _ (fun u hu => Option.some.inj hu) hS)
     | (obtain ⟨be', hbe1, hed⟩ := hS.ed
        obtain rfl : be' = be := by omega
        have hc0 := hed.at 0 rfl
        have hc2 := hed.at 2 rfl
        go_simp
        exact hK _ _ (fun u hu => Option.some.inj hu) hS)
     | (have hP := hS.pre (hnd 11 (by kernel_rfl))
        have hc0 := hP.hd.at f (v := vs[f]'hfl) (List.getElem?_eq_getElem hfl)
        clear hP
        go_simp
        exact hK _ _ (fun u hu => Option.some.inj hu) hS)
     | (have e10 : d 10 = false := hdi
        have e11 := hnd 11 (by kernel_rfl)
        have e13 := hnd 13 (by kernel_rfl)
        have h := hS
        rw [e10, e11, e13] at h
        have hsz := h.sz rfl
        have hfin := h.alloc (HBW.out W h.b)
        clear h
        go_simp
        exact hK _ _ (fun u hu => by rw [← Option.some.inj hu, hW0s]) (by
          show NxS _ _ _ _ _ _ _ _ _ _ _ _ true (d 11) (d 13) (g 31) _
          rw [e11, e13]; exact hfin))
     | (have e11 : d 11 = false := hdi
        have e13 := hnd 13 (by kernel_rfl)
        have e10 : d 10 = true := hdn ⟨10, .data⟩ (by simp) rfl
        have h := hS
        rw [e10, e11, e13] at h
        have hP := h.pre rfl
        refine step_append_lies W rfl (.tmp 27) (.tmp 30) 30 rfl bn 3 i1 _ 1 8 Tryz.underlying30 hi1 hy0 hy1 hy3 rfl (by decide) (vs[f]'hfl) (nxs (G.es.take k) f).length ((nxs (G.es.take k) f).map (Value.int .i64)) (by simp [Act.eval, *]) (hP.own f hfl (by omega)) ⟨W0.heap.size, 0, none⟩ 1 1 [.int .i64 x.t] (by simp [Act.eval, *]) rfl (World.news_of_block (h.one rfl rfl)) (fun u hu => by obtain rfl := List.mem_singleton.1 hu; rfl) (by omega) (by simp [maxLen]; omega) (by omega) (HBW.out W h.b) _ rfl ?_
        intro g' cap w' hown' hgrow hgw _
        exact hK _ _ (fun u hu => by cases hu) (by
          show NxS _ _ _ _ _ _ _ _ _ _ _ _ (d 10) true (d 13) (some _) _
          rw [e10, e13]
          exact h.app hfl HR1.out hown' hgrow hgw (HBW.out W h.b)))
     | (have e11 : d 11 = true := hdn ⟨11, .data⟩ (by simp) rfl
        have e13 : d 13 = false := hdi
        have h := hS
        rw [e11, e13] at h
        obtain ⟨g', cap, hf31, hP, _, _⟩ := h.mid rfl rfl
        obtain ⟨v31, hv31, hat⟩ : ∃ v, g 31 = some v ∧ a.tmps[31]? = some v := by assumption
        rw [hf31] at hv31
        cases hv31
        have hc0 := hP.hd.at f (v := vs[f]'hfl) (List.getElem?_eq_getElem hfl)
        have hz0' := hP.hd.frozen f
        rw [hf31] at h
        have hfin := h.store hfl HR2.out
        have HF := hidI hf31
        clear hP hf31 h
        go_simp
        exact hK undef _ (fun u hu => by cases hu) (by
          show NxS _ _ _ _ _ _ _ _ _ _ _ _ (d 10) (d 11) true (g 31) _
          rw [e11, HF.out]; exact hfin))
     | fail
   intro d g W9 hS hall hf
   have e10 : d 10 = true := hall 10 (by decide)
   have e11 : d 11 = true := hall 11 (by decide)
   have e13 : d 13 = true := hall 13 (by decide)
   rw [e10, e11, e13] at hS
   obtain ⟨v9, _, hP⟩ := hS.fin rfl
   have hbx := hS.bx; have hB := hS.b
   simp only [putsD, List.filterMap_cons, List.filterMap_nil, Option.map_some, Option.map_none, Option.getD_some, Option.getD_none, List.foldl_cons, List.foldl_nil, Act.put, List.setIfInBounds_toArray, List.set_cons_zero, List.set_cons_succ]
   generalize (g 31).getD undef = v31
   clear hf hall hS e10 e11 e13
   go_wp2_with fail
   go_roundw
   case rel => exact ⟨k + 1, _, by omega, by go_num, hP, hbx, hB⟩
   case measure => simp [intOf]; omega
  ·obtain rfl : k = G.es.length := by omega
   have hltI : ¬ (G.es.length : Int) < (G.es.length : Int) := by omega
   rw [List.take_length] at hP
   have b3 := HB2.out.below hB zb
   have f1 := b3.at 1 rfl
   rw [HN.out] at f1
   have HP := hidI hP; have HX := hidI hbx; have HB := hidI hB
   clear hP hbx hB b3
   go_upto_region 8 with (at_make; refine wpList_make_full _ rfl _ _ 90 rfl wr.heap.size 4 i2 (.bool false) 1 Tryz.underlying90 hi2 hx0 hx1 .i64 .i64 _ _ N rfl rfl (by omega) (by omega) (by rw [hx3]; omega) (by unfold maxLen; omega) (Nat.le_refl _) ?_; intro w5 hown hgrow)
   have hr5 := made_rowZ (z := .bool false) rfl hown
   have hB5' : RowKit.Below wr.heap.size wr w5 := (RowKit.Below.refl _ _).grown hgrow (Nat.le_refl _) (by simp)
   clear hown hgrow f1
   obtain ⟨bs, hbs⟩ : ∃ bs, bs = wr.heap.size := ⟨_, rfl⟩
   rw [← hbs] at hr5
   have hbsn : bn ≤ bs := by have := HB.out.size; omega
   have hP5 := NxR.keep HP.out hB5'
   have hx5 : Boxed w5 B5 47 (.slice (some ⟨bn, 0, none⟩) N N) := (hB5'.block B5 HX.out.lt).trans HX.out
   have hB6 := HB.out.trans (hB5'.mono (show bn ≤ wr.heap.size by omega))
   obtain ⟨v7, hv7⟩ : ∃ v, v = (w5.alloc (.cells #[.slice (some ⟨bs, 0, none⟩) N N] 90)).alloc (.cells #[.nilFunc] 237) := ⟨_, rfl⟩
   have k1 : Boxed v7 w5.heap.size 90 (.slice (some ⟨bs, 0, none⟩) N N) := by subst hv7; exact (Boxed.new w5 _ _).alloc _
   have k2 : VRow v7 (w5.heap.size + 1) 237 [.nilFunc] := by subst hv7; exact VRow.new1 w5 _ _ _
   have hB7 : RowKit.Below w5.heap.size w5 v7 := by subst hv7; exact ((RowKit.Below.refl _ _).alloc (Nat.le_refl _) _).alloc (by simp) _
   have hc9 := k2.at 0 rfl
   have hz9 := k2.frozen 0
   obtain ⟨vf, hvf⟩ : ∃ vf : Value, vf = .func (.func 229) #[] #[.pointer (some ⟨w5.heap.size, 0, none⟩), .pointer (some ⟨B5, 0, none⟩), .pointer (some ⟨w5.heap.size + 1, 0, none⟩)] := ⟨_, rfl⟩
   obtain ⟨v8, hv8⟩ : ∃ v, v = v7.setCell ⟨w5.heap.size + 1, 0, none⟩ vf := ⟨_, rfl⟩
   have k3 : VRow v8 (w5.heap.size + 1) 237 [vf] := by subst hv8; exact VRow.set (i := 0) vf k2
   have hB8 : RowKit.Below w5.heap.size v7 v8 := by subst hv8; exact (RowKit.Below.refl _ _).setCell (p := ⟨w5.heap.size + 1, 0, none⟩) (by simp) _
   have hB78 := hB7.trans hB8
   have k1' : Boxed v8 w5.heap.size 90 (.slice (some ⟨bs, 0, none⟩) N N) := by
    subst hv8; exact (Below.heap_setCell _ _ _ _ (by simp)).trans k1
   have hxx : Boxed v8 B5 47 (.slice (some ⟨bn, 0, none⟩) N N) := (hB78.block B5 hx5.lt).trans hx5
   have hP8 := NxR.keep hP5 hB78
   have hr8 : VRow v8 bs 4 (List.replicate N (.bool false)) := hr5.below hB78 hr5.lt
   have hM : VisM v8 w5.heap.size B5 (w5.heap.size + 1) bs bn N G.es := by
    refine ⟨k1', hxx, by rw [← hvf]; exact k3, ⟨_, _, hP8.hd⟩, fun t ht => ?_⟩
    have htl : t < vs.length := by rw [hP8.len]; exact ht
    have ho := hP8.own t htl (by omega)
    obtain ⟨q, c', hq, hsl⟩ := own_sl ho
    refine ⟨q, c', ?_, hsl, fun b o z hp => ?_⟩
    ·rw [← hq]; exact hP8.hd.at t (List.getElem?_eq_getElem htl)
    ·exact Lib.ownsRow_kind ho b (by rw [hq, hp]; rcases ho.2 with ⟨h0, _⟩ | ⟨g', cap, cur, h0, _⟩ <;> rw [hq, hp] at h0 <;> cases h0; rfl)
   have hxB := hB6.trans (hB78.mono (show bn ≤ w5.heap.size by have := hr5.lt; omega))
   have hVI := hidI (visit_any (es := G.es) (n := N) (B1 := w5.heap.size) (B2 := B5) (B3 := w5.heap.size + 1) (bs := bs) (bn := bn) (fun y hy => by have := HV.out.ins y hy; have := HN.out; omega) hlen hN64 (N + 1) (List.replicate N false) s v8 (by simp) hsN (on_rep _ _) (by rw [offs_rep]; omega) hM (by rw [List.map_replicate]; exact hr8))
   have HR8 : Hid (visA G.es (N + 1) (List.replicate N false) s = rchA G s) := by unfold Hid rchA; rw [show G.n.toNat = N by have := HN.out; omega]
   rw [HR8.out] at hVI
   have kf := k3.at 0 rfl
   have hv7' := hidI hv7.symm
   have hv8' := hidI hv8.symm
   have hvf' := hidI hvf.symm
   clear hP5 hx5 hB6 k1 k2 hB7 hB8 hB78 k3 hxx hP8 hM hv7 hv8 hr5
   go_upto_region 9 with fail
   rw [← hbs, hv7'.out]
   clear hbs
   go_upto_region 10 with fail
   rw [hvf'.out, hv8'.out]
   clear hc9 hz9
   have HXB := hidI hxB
   have HNE : Hid (w5.heap.size ≠ bs) := typed_ne k1' hr8 (by decide)
   have HBS : Hid (w.heap.size ≤ bs) := by unfold Hid; omega
   have hk1 := hidI k1'
   have zk := k1'.lt
   have HZB := hidI zb
   clear k1' hxB hr8
   go_wp2_with fail
   refine hVI.out.mono ?_
   rintro e w9 ⟨rfl, hr9, hk9, hB9⟩
   have kx := (hk9.boxed HNE.out hk1.out).cell
   clear kf
   go_wp2
   go_ret
   refine ⟨bs, rfl, HBS.out, hr9, ?_⟩
   have h8 := HXB.out.trans (hB9.mono (show bn ≤ bs by omega))
   have h2 := HB20.out.trans h8
   exact hB0.trans (RowKit.Below.mono (show RowKit.Below w0.heap.size w0 w9 by rw [← HBN.out]; exact h2) hB0.size)
end
section
open Go Go.RowKit
section
variable {F : Fence} {n : Nat} {P : Program}
def rowsPost {α : Type} (B : Nat) (Kp : World → World → Prop) (I : List α → World → Prop) (xs : List α) (W : World) : Exit → Act → World → Prop
 | .normal, _, W' => KeepsFrom B W W' ∧ Kp W W' ∧ I xs W'
 | _, _, _ => False
def SeqRows {α : Type} (F : Fence) (n : Nat) (P : Program) (g : Nat) (lb : Array Value) (encs : α → Array Value) (Px : α → World → Prop) (Kp : World → World → Prop) (S : List α → Prop) (N : Nat) (w : World) : Prop :=
 ∀ (l : Nat) (J : List α → World → Prop) (W : World), Below w.heap.size w W → (∀ xs V V', J xs V → Below V.heap.size V V' → J xs V') →
  (∀ pre x V, J pre V → Px x V → pre.length < N → YieldAt F (n - 1) P l (encs x) V fun e V' => e = .returned (.bool true) ∧ J (pre ++ [x]) V' ∧ Kp V V') →
  J [] W → CallsIn F n P g (#[.func (.yield l) #[] #[]] ++ lb) W fun e V => (∃ v, e = .returned v) ∧ ∃ xs, S xs ∧ J xs V
theorem wpIn_rows {α : Type} {g : Operand} {ps : Array Tmp} {assign body : Code} {Q : Exit → Act → World → Prop} {a : Act} {w : World} (hro : F.round = none) (h1 : 1 ≤ n) {gf : Nat} {lb : Array Value}
  (hg : a.eval g = .func (.func gf) #[] lb) (hFg : F.fn gf) (eg : ∀ args w, (callFunc gf args).run P w = .ok (.enter gf args) w)
  {encs : α → Array Value} {Px : α → World → Prop} {Kp : World → World → Prop} {S : List α → Prop} {N : Nat} (hseq : SeqRows F (n - 1) P gf lb encs Px Kp S N w) (hps : ∀ x, (encs x).size = ps.size)
  (hKt : ∀ {A B C : World}, Kp A B → Kp B C → Kp A C) (hKb : ∀ (W : World) (l : Nat) (o o' : Obj), w.heap.size ≤ l → W.heap[l]? = some o → o.isCells = false → Kp W (W.putObj l o'))
  (I : List α → World → Prop) (hI : OwnFrom w.heap.size I) (hPx : OwnFrom w.heap.size Px) (hIb : ∀ xs V V', I xs V → Below V.heap.size V V' → I xs V') (h0 : I [] w) (a1 : α → Act)
  (hassign : ∀ (l : Nat) (x : α) (W : World) (K : Act → World → Prop), K (a1 x) W →
   assign.wpIn (F.inRound l) (n - 1 - 1) P (Exit.then K (fun _ _ _ => False)) { tmps := (ps.zip (encs x)).foldl (fun t (p, v) => t.setIfInBounds p v) a.tmps, defers := [] } W)
  (hbody : ∀ (l : Nat) (pre : List α) (x : α) (W : World), w.heap.size ≤ l → I pre W → Px x W → pre.length < N → body.wpIn (F.inRound l) (n - 1 - 1) P (rowsPost w.heap.size Kp I (pre ++ [x]) W) (a1 x) W)
  (hdone : ∀ (D : Nat) (xs : List α) (W : World), w.heap.size ≤ D → S xs → I xs W → W.heap[D]? = some (.deferred (some [])) → Q .normal { a with defers := { target := .collected D, args := #[] } :: a.defers } W) :
  (Code.rangeFunc g ps assign body).wpIn F n P Q a w := by
 refine wpIn_rangeFunc fun fn hfn => ?_
 rw [hro]
 let rec_ : LoopState → Option Code → Loop := fun st pe => { state := st, pending := pe, fn, tmps := a.tmps, params := ps, assign, body, defers := w.heap.size }
 obtain ⟨rc, hrc⟩ : ∃ rc, rc = rec_ := ⟨_, rfl⟩
 obtain ⟨V1, hV1⟩ : ∃ V1, (w.alloc (.deferred (some []))).alloc (.loop (rc .ready none)) = V1 := ⟨_, rfl⟩
 have eL : V1.heap[w.heap.size + 1]? = some (.loop (rc .ready none)) := by
  have := World.alloc_heap_new (w.alloc (.deferred (some []))) (.loop (rc .ready none))
  rw [World.size_alloc, hV1] at this; exact this
 have eD : V1.heap[w.heap.size]? = some (.deferred (some [])) := by rw [← hV1]; exact (Below.heap_alloc _ _ _ (by simp)).trans (World.alloc_heap_new w _)
 have eI : I [] V1 := by rw [← hV1]; exact hI.alloc _ (hI.alloc _ h0)
 have eB : Below w.heap.size w V1 := by rw [← hV1]; exact ((Below.refl _ w).alloc (Nat.le_refl _) _).alloc (by simp) _
 refine ⟨w.heap.size + 1, [{ target := .collected w.heap.size, args := #[] }], V1, { target := .fn (.func gf) lb, args := #[.func (.yield (w.heap.size + 1)) #[] #[]] }, V1, gf, #[.func (.yield (w.heap.size + 1)) #[] #[]] ++ lb, V1, ?_, ?_, ?_, ?_, fun _ => h1, ?_⟩
 ·rw [← hV1, hrc]; exact run_enterLoop_outer _ _ _ _ _
 ·simp only [resolve, hg]
  simp [go_sem]
 ·intro f' hf'; simp [Target.leads] at hf'; subst hf'; exact hFg
 ·simp [invoke, go_sem, eg]
 ·refine (hseq (w.heap.size + 1) (fun xs V => I xs V ∧ V.heap[w.heap.size + 1]? = some (.loop (rc .ready none)) ∧ V.heap[w.heap.size]? = some (.deferred (some []))) V1 eB
   (fun xs V V' h hB => ⟨hIb xs V V' h.1 hB, (hB.block _ (Array.getElem?_eq_some_iff.1 h.2.1).1).trans h.2.1, (hB.block _ (Array.getElem?_eq_some_iff.1 h.2.2).1).trans h.2.2⟩) ?_ ⟨eI, eL, eD⟩).mono ?_
  ·rintro pre x V ⟨hi, hl, hd⟩ hx hN
   have hlt : w.heap.size + 1 < V.heap.size := (Array.getElem?_eq_some_iff.1 hl).1
   have hy := run_yield (P := P) (args := encs x) hl (by rw [hrc]; exact hps x)
   rw [hrc] at hy
   refine ⟨fn, _, assign, body, hy, roundIn_of_wpIn hfn (hassign _ x V _ ⟨_, run_beginRound hl (by rw [hrc]), ?_⟩)⟩
   clear hy
   obtain ⟨V2, hV2⟩ : ∃ V2, V2 = V.putObj (w.heap.size + 1) (.loop { rc .ready none with state := .busy }) := ⟨_, rfl⟩
   have l2 : V2.heap[w.heap.size + 1]? = some (.loop { rc .ready none with state := .busy }) := by rw [hV2]; exact World.putObj_heap_same hlt
   have d2 : V2.heap[w.heap.size]? = some (.deferred (some [])) := by rw [hV2]; exact (World.putObj_heap_other (by omega)).trans hd
   have k2 : Kp V V2 := by rw [hV2]; exact hKb _ _ _ _ (by omega) hl rfl
   have i2 : I pre V2 := by rw [hV2]; exact hI.putObj _ hi (by omega) hl rfl
   have x2 : Px x V2 := by rw [hV2]; exact hPx.putObj _ hx (by omega) hl rfl
   rw [← hV2]
   refine wpIn_mono (hbody _ pre x V2 (by omega) i2 x2 hN) ?_
   intro e a3 V3 hp
   cases e with
   | normal =>
    obtain ⟨kf, kp, i3⟩ := hp
    have l3 := kf.same _ _ (by omega) l2 rfl
    have d3 := kf.same _ _ (Nat.le_refl _) d2 rfl
    have hr := run_endRound (P := P) none l3
    rw [hrc] at hr l3
    refine ⟨_, _, hr, rfl, ⟨hI.putObj _ i3 (by omega) l3 rfl, by rw [hrc]; exact World.putObj_heap_same (Array.getElem?_eq_some_iff.1 l3).1, (World.putObj_heap_other (by omega)).trans d3⟩, hKt (hKt k2 kp) (hKb _ _ _ _ (by omega) l3 rfl)⟩
   | ret => exact hp.elim
   | exit id => exact hp.elim
   | goto t => exact hp.elim
   | panic ch => exact hp.elim
   | outgrown => exact hp.elim
  ·rintro e V3 ⟨⟨v, rfl⟩, xs, hS, hi, hl, hd⟩
   have hr := run_endLoop (P := P) hl (by rw [hrc]; simp [rec_])
   rw [hrc] at hr
   exact ⟨none, _, hr, hdone _ xs _ (Nat.le_refl _) hS (hI.putObj _ hi (by omega) hl rfl) ((World.putObj_heap_other (by omega)).trans hd)⟩
end
end
section
open Go.RowKit
def fwB (G : Gr) (s t : Nat) : Bool := (rchA G s).getD t false
def cmpA (G : Gr) (s : Nat) : List Int := (upto G.n.toNat).filter (fun t => fwB G s t.toNat && fwB G t.toNat s)
def ledA (G : Gr) (s : Nat) : Bool := decide ((cmpA G s).head? = some (s : Int))
def compsA (G : Gr) : List (List Int) := ((List.range G.n.toNat).filter (ledA G)).map (cmpA G)
def sinkB (G : Gr) (l : List Int) : Bool := !G.es.any (fun x => decide (x.f ∈ l) && !decide (x.t ∈ l))
def sinksA (G : Gr) : List (List Int) := (compsA G).filter (sinkB G)
def cycB (G : Gr) (l : List Int) : Bool := G.es.any (fun x => decide (x.f ∈ l) && decide (x.t ∈ l))
def irrA (G : Gr) : Bool := decide ((compsA G).length = 1) && decide (0 < G.es.length)
def irrR (G : Gr) : Bool := decide ((compsA G).length = 1) && decide (((compsA G).filter (cycB G)).length = 1)
section
variable {G : Gr}
theorem fw_iff (hv : Vg G) {s t : Nat} (hs : (s : Int) < G.n) : fwB G s t = true ↔ Rch G.es s t := rchA_iff hv hs
theorem mem_cmp (hv : Vg G) {s : Nat} (hs : (s : Int) < G.n) {x : Int} : x ∈ cmpA G s ↔ (0 ≤ x ∧ x < G.n) ∧ Rch G.es s x ∧ Rch G.es x s := by
 have hn := hv.n1
 unfold cmpA
 rw [List.mem_filter, mem_upto]
 constructor
 ·rintro ⟨h1, h2⟩
  rw [Bool.and_eq_true] at h2
  have e : ((x.toNat : Nat) : Int) = x := by omega
  have k1 := (fw_iff hv hs).1 h2.1
  have k2 := (fw_iff hv (by omega)).1 h2.2
  rw [e] at k1 k2
  exact ⟨by omega, k1, k2⟩
 ·rintro ⟨h1, h2, h3⟩
  have e : ((x.toNat : Nat) : Int) = x := by omega
  refine ⟨by omega, ?_⟩
  rw [Bool.and_eq_true]
  exact ⟨(fw_iff hv hs).2 (by rw [e]; exact h2), (fw_iff hv (by omega)).2 (by rw [e]; exact h3)⟩
theorem cmp_self (hv : Vg G) {s : Nat} (hs : (s : Int) < G.n) : (s : Int) ∈ cmpA G s := (mem_cmp hv hs).2 ⟨by omega, Rch.refl _, Rch.refl _⟩
theorem cmp_srt (s : Nat) : (cmpA G s).Pairwise (· < ·) := (upto_srt _).filter _
theorem cmp_st (hv : Vg G) {s : Nat} (hs : (s : Int) < G.n) : St G.n (cmpA G s) := ⟨cmp_srt s, fun _ hx => ((mem_cmp hv hs).1 hx).1⟩
theorem led_all (hv : Vg G) {s : Nat} (hs : (s : Int) < G.n) : ledA G s = (cmpA G s).all (fun t => decide ((s : Int) ≤ t)) := by
 have h1 := cmp_self hv hs
 have h2 := cmp_srt (G := G) s
 unfold ledA
 generalize cmpA G s = l at *
 cases l with
 | nil => cases h1
 | cons y l =>
  rw [List.pairwise_cons] at h2
  rw [Bool.eq_iff_iff, decide_eq_true_eq, List.all_eq_true, List.head?_cons]
  constructor
  ·intro h x hx
   obtain rfl := Option.some.inj h
   rw [decide_eq_true_eq]
   rcases List.mem_cons.1 hx with rfl | hx
   ·omega
   ·have := h2.1 x hx; omega
  ·intro h
   have hy := h y (by simp)
   rw [decide_eq_true_eq] at hy
   rcases List.mem_cons.1 h1 with e | e
   ·rw [e]
   ·have := h2.1 _ e; omega
theorem cmp_eq (hv : Vg G) {s t : Nat} (hs : (s : Int) < G.n) (ht : (t : Int) < G.n) (h : (t : Int) ∈ cmpA G s) : cmpA G t = cmpA G s := by
 have h0 := (mem_cmp hv hs).1 h
 refine srt_unique (cmp_srt t) (cmp_srt (G := G) s) (fun x => ?_)
 rw [mem_cmp hv ht, mem_cmp hv hs]
 constructor
 ·rintro ⟨a, b, c⟩; exact ⟨a, h0.2.1.trans b, c.trans h0.2.2⟩
 ·rintro ⟨a, b, c⟩; exact ⟨a, h0.2.2.trans b, c.trans h0.2.1⟩
theorem cmp_listed (hv : Vg G) {s : Nat} (hs : (s : Int) < G.n) : cmpA G s ∈ compsA G := by
 have h1 := cmp_self hv hs
 obtain ⟨y, l, hl⟩ : ∃ y l, cmpA G s = y :: l := by
  cases h : cmpA G s with
  | nil => rw [h] at h1; cases h1
  | cons y l => exact ⟨y, l, rfl⟩
 have hy : y ∈ cmpA G s := by rw [hl]; simp
 have hb := ((mem_cmp hv hs).1 hy).1
 have e : ((y.toNat : Nat) : Int) = y := by omega
 have he := cmp_eq hv hs (t := y.toNat) (by omega) (by rw [e]; exact hy)
 unfold compsA
 refine List.mem_map.2 ⟨y.toNat, List.mem_filter.2 ⟨List.mem_range.2 (by omega), ?_⟩, he⟩
 unfold ledA
 rw [he, hl, e]; simp
theorem comps_mem (hv : Vg G) {l : List Int} (h : l ∈ compsA G) : ∃ s : Nat, (s : Int) < G.n ∧ cmpA G s = l ∧ ledA G s = true := by
 unfold compsA at h
 obtain ⟨s, hs, rfl⟩ := List.mem_map.1 h
 obtain ⟨h1, h2⟩ := List.mem_filter.1 hs
 exact ⟨s, by have := List.mem_range.1 h1; have := hv.n1; omega, rfl, h2⟩
theorem comps_one (hv : Vg G) (h : (compsA G).length = 1) : ∃ l, compsA G = [l] ∧ ∀ x : Int, 0 ≤ x → x < G.n → x ∈ l := by
 obtain ⟨l, hl⟩ := List.length_eq_one_iff.1 h
 refine ⟨l, hl, fun x h0 h1 => ?_⟩
 have e : ((x.toNat : Nat) : Int) = x := by omega
 have := cmp_listed hv (s := x.toNat) (by omega)
 rw [hl, List.mem_singleton] at this
 rw [← this]
 have := cmp_self hv (s := x.toNat) (by omega)
 rwa [e] at this
theorem irr_same (hv : Vg G) : irrR G = irrA G := by
 unfold irrR irrA
 by_cases h : (compsA G).length = 1
 ·rw [decide_eq_true h, Bool.true_and, Bool.true_and]
  obtain ⟨l, hl, hall⟩ := comps_one hv h
  rw [decide_eq_decide, hl]
  by_cases he : 0 < G.es.length
  ·have : cycB G l = true := by
    obtain ⟨x, hx⟩ := List.exists_mem_of_length_pos he
    have hb := hv.ins x hx
    unfold cycB
    rw [List.any_eq_true]
    exact ⟨x, hx, by rw [decide_eq_true (hall _ hb.1 hb.2.2.2.1), decide_eq_true (hall _ hb.2.2.1 hb.2.2.2.2.1)]; rfl⟩
   rw [List.filter_cons_of_pos this]
   simp [he]
  ·have hn : G.es = [] := by cases h : G.es with
    | nil => rfl
    | cons a b => rw [h] at he; simp at he
   have : cycB G l = false := by unfold cycB; rw [hn]; rfl
   rw [List.filter_cons_of_neg (by simp [this])]
   simp [he]
 ·rw [decide_eq_false h]; rfl
theorem sink_keep {l : List Int} (h : sinkB G l = true) {s t : Int} (hr : Rch G.es s t) (hs : s ∈ l) : t ∈ l :=
 hr.keep (P := fun u => u ∈ l) (fun x hx hf => by
  unfold sinkB at h
  rw [Bool.not_eq_true', List.any_eq_false] at h
  have := h x hx
  rw [decide_eq_true hf, Bool.true_and] at this
  simpa using this) hs
theorem sinks_ne (hv : Vg G) (hn : 0 < G.n) : ∃ l ls, sinksA G = l :: ls := by
 have hex : ∃ (m : Nat), ∃ s : Nat, (s : Int) < G.n ∧ ((upto G.n.toNat).filter (fun t => fwB G s t.toNat)).length ≤ m := ⟨_, 0, by omega, Nat.le_refl _⟩
 have least : ∀ m : Nat, (∃ s : Nat, (s : Int) < G.n ∧ ((upto G.n.toNat).filter (fun t => fwB G s t.toNat)).length ≤ m) →
   ∃ s : Nat, (s : Int) < G.n ∧ ∀ t : Nat, (t : Int) < G.n → ((upto G.n.toNat).filter (fun u => fwB G s u.toNat)).length ≤ ((upto G.n.toNat).filter (fun u => fwB G t u.toNat)).length := by
  intro m
  induction m with
  | zero => rintro ⟨s, hs, h⟩; exact ⟨s, hs, fun t _ => by omega⟩
  | succ m ih =>
   rintro ⟨s, hs, h⟩
   by_cases k : ∃ s : Nat, (s : Int) < G.n ∧ ((upto G.n.toNat).filter (fun t => fwB G s t.toNat)).length ≤ m
   ·exact ih k
   ·refine ⟨s, hs, fun t ht => ?_⟩
    have k2 : ¬ ((upto G.n.toNat).filter (fun u => fwB G t u.toNat)).length ≤ m := fun h2 => k ⟨t, ht, h2⟩
    omega
 obtain ⟨m, hm⟩ := hex
 obtain ⟨s, hs, hmin⟩ := least m hm
 have back : ∀ x : Int, 0 ≤ x → x < G.n → Rch G.es s x → Rch G.es x s := fun x h0 h1 hx => by
  have e : ((x.toNat : Nat) : Int) = x := by omega
  have hle := hmin x.toNat (by omega)
  have hsub : ∀ u ∈ (upto G.n.toNat).filter (fun u => fwB G x.toNat u.toNat), u ∈ (upto G.n.toNat).filter (fun u => fwB G s u.toNat) := fun u hu => by
   obtain ⟨k1, k2⟩ := List.mem_filter.1 hu
   have k3 := (fw_iff hv (by omega)).1 k2
   refine List.mem_filter.2 ⟨k1, (fw_iff hv hs).2 ?_⟩
   rw [e] at k3
   exact hx.trans k3
  have hsl : ((upto G.n.toNat).filter (fun u => fwB G x.toNat u.toNat)).Sublist ((upto G.n.toNat).filter (fun u => fwB G s u.toNat)) := by
   have he : (upto G.n.toNat).filter (fun u => fwB G x.toNat u.toNat) = ((upto G.n.toNat).filter (fun u => fwB G s u.toNat)).filter (fun u => fwB G x.toNat u.toNat) := by
    rw [List.filter_filter]
    refine List.filter_congr (fun u hu => ?_)
    cases hp : fwB G x.toNat u.toNat with
    | false => rfl
    | true => rw [(List.mem_filter.1 (hsub u (List.mem_filter.2 ⟨hu, hp⟩))).2]; rfl
   rw [he]
   exact List.filter_sublist
  have heq := hsl.eq_of_length_le hle
  have hself : (s : Int) ∈ (upto G.n.toNat).filter (fun u => fwB G s u.toNat) := List.mem_filter.2 ⟨mem_upto.2 (by omega), (fw_iff hv hs).2 (by rw [Int.toNat_natCast]; exact Rch.refl _)⟩
  rw [← heq] at hself
  have := (fw_iff hv (by omega)).1 (List.mem_filter.1 hself).2
  rw [e, Int.toNat_natCast] at this
  exact this
 have hsk : sinkB G (cmpA G s) = true := by
  unfold sinkB
  rw [Bool.not_eq_true', List.any_eq_false]
  intro x hx hc
  rw [Bool.and_eq_true, decide_eq_true_eq, Bool.not_eq_true', decide_eq_false_iff_not] at hc
  have hb := hv.ins x hx
  have k := ((mem_cmp hv hs).1 hc.1).2
  have hr := k.1.trans (Rch.edge hx)
  exact hc.2 ((mem_cmp hv hs).2 ⟨⟨hb.2.2.1, hb.2.2.2.2.1⟩, hr, back _ hb.2.2.1 hb.2.2.2.2.1 hr⟩)
 have hmem : cmpA G s ∈ sinksA G := List.mem_filter.2 ⟨cmp_listed hv hs, hsk⟩
 cases h : sinksA G with
 | nil => rw [h] at hmem; cases hmem
 | cons l ls => exact ⟨l, ls, rfl⟩
end
end
section
open Go.RowKit Go.Shelf
attribute [local go_sem] Oper.semAt_some
structure FrM (G : Gr) (N : Nat) (W : World) (B k : Nat) (v : Value) (bs : List Nat) : Prop where
 own : W.ownsRow B 90 1 v k (bs.map (fun b => .slice (some ⟨b, 0, none⟩) N N))
 len : bs.length = k
 rows : ∀ i (h : i < bs.length), VRow W bs[i] 4 ((rchA G i).map Value.bool)
theorem FrM.nil (G : Gr) (N : Nat) (W : World) (B : Nat) : FrM G N W B 0 (.slice none 0 0) [] := ⟨World.ownsRow_nil _ _ _ _, rfl, fun i h => by simp at h⟩
theorem FrM.below {G : Gr} {N : Nat} {W W' : World} {B k : Nat} {v : Value} {bs : List Nat} (h : FrM G N W B k v bs) (hB : RowKit.Below W.heap.size W W') : FrM G N W' B k v bs :=
 ⟨h.own.below hB, h.len, fun i hi => (h.rows i hi).below hB (h.rows i hi).lt⟩
def KpC (W W' : World) : Prop := ∀ (i : Nat) (cur : Array Value) (t : TypeId) (fz : Nat × Nat), (t = 24 ∨ t = 90 ∨ t = 4) → W.heap[i]? = some (.cells cur t fz) → W'.heap[i]? = some (.cells cur t fz)
theorem KpC.trans {X Y Z : World} (h : KpC X Y) (k : KpC Y Z) : KpC X Z := fun i c t f ht e => k i c t f ht (h i c t f ht e)
theorem KpC.below {X Y : World} (h : RowKit.Below X.heap.size X Y) : KpC X Y := fun i _ _ _ _ e => (h.block i (Array.getElem?_eq_some_iff.1 e).1).trans e
theorem KpC.put (W : World) (l : Nat) (o o' : Obj) (hl : W.heap[l]? = some o) (ho : o.isCells = false) : KpC W (W.putObj l o') := fun i c t f _ e => by
 have hne : i ≠ l := by rintro rfl; rw [hl] at e; cases e; cases ho
 exact (World.putObj_heap_other hne).trans e
theorem FrM.kp {G : Gr} {N : Nat} {W W' : World} {B k : Nat} {v : Value} {bs : List Nat} (h : FrM G N W B k v bs) (hk : KpC W W') : FrM G N W' B k v bs := by
 refine ⟨⟨h.own.1, h.own.2.imp id ?_⟩, h.len, fun i hi => hk _ _ _ _ (.inr (.inr rfl)) (h.rows i hi)⟩
 rintro ⟨g, cap, cur, e1, e2, e3, e4⟩
 exact ⟨g, cap, cur, e1, e2, hk _ _ _ _ (.inr (.inl rfl)) e3, e4⟩
abbrev LEc := List Int × (Option Addr × Nat)
def encC (x : LEc) : Array Value := #[.slice x.2.1 x.1.length x.2.2]
def PxC (n : Nat) (x : LEc) (W : World) : Prop := SlJ W x.2.1 x.1 ∧ x.1.length ≤ n
theorem cmpA_len (G : Gr) (s : Nat) : (cmpA G s).length ≤ G.n.toNat := by
 unfold cmpA
 have := List.length_filter_le (fun t : Int => fwB G s t.toNat && fwB G t.toNat s) (upto G.n.toNat)
 rwa [upto_len] at this
def cmpK (G : Gr) (s t : Nat) : List Int := (upto t).filter (fun t => fwB G s t.toNat && fwB G t.toNat s)
theorem cmpK_succ (G : Gr) (s t : Nat) : cmpK G s (t + 1) = cmpK G s t ++ (if (fwB G s t && fwB G t s) = true then [(t : Int)] else []) := by
 unfold cmpK
 rw [upto_succ, List.filter_append]
 congr 1
 by_cases h : (fwB G s t && fwB G t s) = true
 ·rw [if_pos h, List.filter_cons_of_pos (by simpa using h)]; rfl
 ·rw [if_neg h, List.filter_cons_of_neg (by simpa using h)]; rfl
theorem cmpK_len (G : Gr) (s t : Nat) : (cmpK G s t).length ≤ t := by
 unfold cmpK
 have := List.length_filter_le (fun t : Int => fwB G s t.toNat && fwB G t.toNat s) (upto t)
 rwa [upto_len] at this
def cmpsK (G : Gr) (s : Nat) : List (List Int) := ((List.range s).filter (ledA G)).map (cmpA G)
theorem cmpsK_succ (G : Gr) (s : Nat) : cmpsK G (s + 1) = cmpsK G s ++ (if ledA G s = true then [cmpA G s] else []) := by
 unfold cmpsK
 rw [List.range_succ, List.filter_append, List.map_append]
 congr 1
 by_cases h : ledA G s = true
 ·rw [if_pos h, List.filter_cons_of_pos h]; rfl
 ·rw [if_neg h, List.filter_cons_of_neg h]; rfl
theorem cmpsK_len (G : Gr) (s : Nat) : (cmpsK G s).length ≤ s := by
 unfold cmpsK
 rw [List.length_map]
 exact Nat.le_trans (List.length_filter_le _ _) (by simp)
theorem fr_get {G : Gr} {s t : Nat} (h : t < (rchA G s).length) : (rchA G s)[t] = fwB G s t := by
 unfold fwB; simp [List.getD, h]
set_option maxRecDepth 100000 in
set_option maxHeartbeats 4000000 in
theorem comps1_in (n : Nat) (hn : 1 ≤ n) (l : Nat) (G : Gr) (p : Option Addr) (c Bg : Nat) (hv : Vg G) (J : List LEc → World → Prop) (hJ : ∀ xs V V', J xs V → RowKit.Below V.heap.size V V' → J xs V')
  (hY : ∀ pre x V, J pre V → PxC 64 x V → pre.length < 64 → YieldAt Fence.wide (n - 1) Tryz.prog l (encC x) V fun e V' => e = .returned (.bool true) ∧ J (pre ++ [x]) V' ∧ KpC V V')
  (W : World) (hg : VRow W Bg 24 [.int .i64 G.q, .int .i64 G.n, .slice p G.es.length c]) (hin : Sg 3 W edE p G.es) (h0 : J [] W) :
  CallsIn Fence.wide n Tryz.prog 204 #[.func (.yield l) #[] #[], .pointer (some ⟨Bg, 0, none⟩)] W fun e V => (∃ v, e = .returned v) ∧ ∃ xs : List LEc, xs.map (·.1) = compsA G ∧ J xs V := by
 obtain ⟨i0, hi0, hz0, hz1, hz3⟩ := info_parts infoIg
 have infoFr : (Tryz.prog.info? 90).map (fun i => (i.zero, i.size, i.bytes)) = some (some (.slice none 0 0), 1, 24) := by kernel_rfl
 obtain ⟨i1, hi1, hy0, hy1, hy3⟩ := info_parts infoFr
 clear infoFr
 obtain ⟨N, hN⟩ : ∃ N : Nat, G.n = N := ⟨G.n.toNat, by have := hv.n1; omega⟩
 have hN64 : N ≤ 64 := by have := hv.n2; omega
 have hNT : G.n.toNat = N := by omega
 have HN := hidI hN; have HV := hidI hv; have HIN := hidI hin
 have HRC := hidI (fun (s : Nat) V (hs : s < N) (hB : RowKit.Below W.heap.size W V) => reach_any G p c s V (hin.below hB) hv (by omega))
 have HJ := hidI hJ; have HY := hidI hY
 have HG := hidI hg
 have f1 := hg.at 1 rfl
 rw [hN] at f1
 rw [hNT] at HRC
 clear hv hin hN hJ hY
 refine callsIn_of_wp Tryz.func204 rfl trivial ?_ rfl
 simp only [Tryz.ntmps204, List.size_toArray, List.length_cons, List.length_nil, Nat.reduceAdd, Nat.reduceSub, Array.replicate_succ, Array.replicate_zero, List.push_toArray, List.append_toArray, List.nil_append, List.cons_append]
 gi_wp2
 clear f1
 gi_loopw [3, 4, 10] (fun fv _ iv wr => ∃ (k : Nat) (bs : List Nat), k ≤ N ∧ iv = .int .i64 k ∧ FrM G N wr W.heap.size k fv bs ∧ RowKit.Below W.heap.size W wr) (fun _ _ iv _ => N - (intOf iv).toNat)
 case atStart => exact ⟨0, [], by omega, rfl, FrM.nil _ _ _ _, RowKit.Below.refl _ _⟩
 case round =>
  obtain ⟨k, bs, hk, rfl, hF, hB⟩ := hrel
  by_cases hlt : k < N
  ·have hltI : (k : Int) < (N : Int) := by omega
   have HR := hidI (HRC.out k wr hlt hB)
   have hg := HG.out.below hB HG.out.lt
   have f0 := hg.at 0 rfl; have f1 := hg.at 1 rfl; have f2 := hg.at 2 rfl
   clear hg
   gi_wp2_with (refine ⟨trivial, ?_⟩; gi_at_call 205)
   refine (callsIn_wide.2 HR.out).mono ?_
   rintro e w2 ⟨b, rfl, hbw, hr, hB2⟩
   have x2 := hB.trans (hB2.mono hB.size)
   have hF2 := hF.below hB2
   have hnew := cell_one_at w2 (.slice (some ⟨b, 0, none⟩) N N) 90 w2.heap.size rfl
   have hz2 := x2.size
   clear f0 f1 f2 hF HR
   gi_wp2_with (gi_at_builtin; refine wpListIn_append_own _ rfl _ _ 94 rfl W.heap.size 90 i1 (.slice none 0 0) 1 24 Tryz.underlying94 hi1 hy0 hy1 hy3 rfl (by decide) _ _ _ rfl (hF2.own.alloc _) ⟨w2.heap.size, 0, none⟩ 1 1 [.slice (some ⟨b, 0, none⟩) N N] rfl rfl hnew (by simp [Value.oneCell']) (by simp [maxLen]; omega) (by omega) (by simp; omega) ?_; intro v' w9 hown' hgrow _)
   have hF9 : FrM G N w9 W.heap.size (k + 1) v' (bs ++ [b]) := by
    have hty : ∀ {B : Nat} {l : List Value}, VRow w2 B 4 l → VRow w9 B 4 l := fun h =>
     VRow.grown (h.alloc (.cells #[.slice (some ⟨b, 0, none⟩) N N] 90)) hgrow (own_not (hF2.own.alloc (.cells #[.slice (some ⟨b, 0, none⟩) N N] 90)) (h.alloc (.cells #[.slice (some ⟨b, 0, none⟩) N N] 90)) (by decide))
    refine ⟨by rw [List.map_append]; exact hown', by simp [hF2.len], fun i hi => ?_⟩
    by_cases hik : i < bs.length
    ·rw [List.getElem_append_left hik]; exact hty (hF2.rows i hik)
    ·have : i = k := by have := hF2.len; simp at hi; omega
     subst this
     have hl := hF2.len
     subst hl
     simpa using hty hr
   have hB9 : RowKit.Below W.heap.size W w9 := (x2.alloc hz2 _).grown hgrow (by simp; omega) (fun j e => (hF2.own.lt j e).1)
   gi_wp2
   go_roundw
   case rel => exact ⟨k + 1, _, by omega, by go_num, hF9, hB9⟩
   case measure => simp [intOf]; omega
  ·obtain rfl : k = N := by omega
   have hltI : ¬ (k : Int) < (k : Int) := by omega
   have hg := HG.out.below hB HG.out.lt
   have f1 := hg.at 1 rfl
   rw [HN.out] at f1
   have hJ0 := HJ.out _ _ _ h0 hB
   have HF := hidI hF
   have hblt := hF.len
   have HGr := hidI hg
   clear hF hB hg
   gi_wp2
   clear f1
   gi_loopw [5, 6, 7, 22] (fun _ _ _ iv wr => ∃ (s : Nat) (pre : List LEc), s ≤ k ∧ iv = .int .i64 s ∧ Hid (pre.map (·.1) = cmpsK G s) ∧ J pre wr ∧ FrM G k wr W.heap.size k u3 bs ∧ VRow wr Bg 24 [.int .i64 G.q, .int .i64 G.n, .slice p G.es.length c]) (fun _ _ _ iv _ => k - (intOf iv).toNat)
   case atStart => exact ⟨0, [], by omega, rfl, rfl, hJ0, HF.out, HGr.out⟩
   case round =>
    clear hJ0 HF HGr
    obtain ⟨s, pre, hs, rfl, hpre, hJp, hF, hg⟩ := hrel
    by_cases hlts : s < k
    ·have hltI2 : (s : Int) < (k : Int) := by omega
     have HF := hidI hF; have HGs := hidI hg; have HJs := hidI hJp
     have f1 := hg.at 1 rfl
     rw [HN.out] at f1
     obtain ⟨g, cap, rfl⟩ : ∃ g cap, u3 = .slice (some ⟨g, 0, none⟩) k cap := (own_forms hF.own).resolve_left (fun h => by omega)
     clear hF hg hJp
     gi_wp2
     clear f1
     obtain ⟨wo, rfl⟩ : ∃ wo : World, wo = wr := ⟨_, rfl⟩
     gi_loopw [6, 7, 27] (fun lv _ iv wx => ∃ t : Nat, t ≤ k ∧ iv = .int .i64 t ∧ wx.ownsRow wo.heap.size 3 1 lv (cmpK G s t).length ((cmpK G s t).map (Value.int .i64)) ∧ RowKit.Below wo.heap.size wo wx) (fun _ _ iv _ => k - (intOf iv).toNat)
     case atStart => exact ⟨0, by omega, rfl, World.ownsRow_nil _ _ _ _, RowKit.Below.refl _ _⟩
     case round =>
      obtain ⟨t, ht, rfl, hl, hBx⟩ := hrel
      by_cases hltt : t < k
      ·have hltI3 : (t : Int) < (k : Int) := by omega
       have hFx := HF.out.below hBx
       have hsl : s < bs.length := by omega
       have htl : t < bs.length := by omega
       have hrl1 := rchA_len G HV.out (s := s) (by have := HN.out; omega)
       have hrl2 := rchA_len G HV.out (s := t) (by have := HN.out; omega)
       have c1 : wr.cell? ⟨g, s, none⟩ = some (.slice (some ⟨bs[s], 0, none⟩) k k) := (hFx.own.cellAt s (by omega)).trans (by simp [hsl])
       have c2 : wr.cell? ⟨g, t, none⟩ = some (.slice (some ⟨bs[t], 0, none⟩) k k) := (hFx.own.cellAt t (by omega)).trans (by simp [htl])
       have c3 : wr.cell? ⟨bs[s], t, none⟩ = some (.bool (fwB G s t)) := (hFx.rows s hsl).at t (by rw [List.getElem?_map, List.getElem?_eq_getElem (by omega), Option.map_some, fr_get])
       have c4 : wr.cell? ⟨bs[t], s, none⟩ = some (.bool (fwB G t s)) := (hFx.rows t htl).at s (by rw [List.getElem?_map, List.getElem?_eq_getElem (by omega), Option.map_some, fr_get])
       have HCK := hidI (cmpK_succ G s t)
       have hcl := cmpK_len G s t
       have hzx := hBx.size
       generalize bs[s] = b1 at *
       generalize bs[t] = b2 at *
       generalize fwB G s t = x at *
       generalize fwB G t s = y at *
       clear hFx hrl1 hrl2 hsl htl
       by_cases hxy : (x && y) = true
       ·obtain ⟨rfl, rfl⟩ : x = true ∧ y = true := by cases x <;> cases y <;> simp_all
        have HC2 : Hid (cmpK G s (t + 1) = cmpK G s t ++ [(t : Int)]) := HCK.out
        have hlen1 : (cmpK G s (t + 1)).length = (cmpK G s t).length + 1 := by rw [HC2.out]; simp
        clear HCK
        have hnew := cell_one_at wr (.int .i64 (t : Int)) 3 wr.heap.size rfl
        clear hxy
        gi_wp2_with (gi_at_builtin; refine wpListIn_append_own _ rfl _ _ 30 rfl wo.heap.size 3 i0 (.int .i64 0) 1 8 Tryz.underlying30 hi0 hz0 hz1 hz3 rfl (by decide) _ _ _ rfl (hl.alloc _) ⟨wr.heap.size, 0, none⟩ 1 1 [.int .i64 (t : Int)] rfl rfl hnew (by simp [Value.oneCell']) (by simp [maxLen]; omega) (by omega) (by simp; omega) ?_; intro v' w9 hown' hgrow _)
        have hB9 : RowKit.Below wo.heap.size wo w9 := (hBx.alloc hzx _).grown hgrow (by simp; omega) (fun j e => (hl.lt j e).1)
        gi_wp2
        go_roundw
        case rel => exact ⟨t + 1, by omega, by go_num, by rw [hlen1, HC2.out, List.map_append]; exact hown', hB9⟩
        case measure => simp [intOf]; omega
       ·have HC2 : Hid (cmpK G s (t + 1) = cmpK G s t) := by unfold Hid; rw [HCK.out, if_neg hxy, List.append_nil]
        clear HCK
        have hlen1 : (cmpK G s (t + 1)).length = (cmpK G s t).length := by rw [HC2.out]
        cases x
        ·gi_wp2
         go_roundw
         case rel => exact ⟨t + 1, by omega, by go_num, by rw [HC2.out]; exact hl, hBx⟩
         case measure => simp [intOf]; omega
        ·obtain rfl : y = false := by cases y <;> simp_all
         gi_wp2
         go_roundw
         case rel => exact ⟨t + 1, by omega, by go_num, by rw [HC2.out]; exact hl, hBx⟩
         case measure => simp [intOf]; omega
      ·obtain rfl : t = k := by omega
       have hltI3 : ¬ (t : Int) < (t : Int) := by omega
       have hcm : cmpK G s t = cmpA G s := by unfold cmpK cmpA; rw [hNT]
       rw [hcm] at hl
       have hsn : (s : Int) < G.n := by have := HN.out; omega
       have hself := cmp_self HV.out hsn
       have hpos := List.length_pos_of_mem hself
       have hll := cmpA_len G s
       obtain ⟨g2, cap2, rfl⟩ : ∃ g cap, u6 = .slice (some ⟨g, 0, none⟩) (cmpA G s).length cap := (own_forms hl).resolve_left (fun h => by omega)
       have HLED : Hid (ledA G s = decide ((cmpA G s)[0]'hpos = (s : Int))) := by
        unfold Hid ledA
        rw [List.head?_eq_getElem?, List.getElem?_eq_getElem hpos, decide_eq_decide]
        exact ⟨Option.some.inj, fun e => by rw [e]⟩
       have HCS := hidI (cmpsK_succ G s)
       have HF9 := hidI (HF.out.below hBx)
       have HG9 := hidI (HGs.out.below hBx HGs.out.lt)
       have HJ9 := hidI (HJ.out _ _ _ HJs.out hBx)
       have hpl : pre.length < 64 := by
        have h1 := congrArg List.length hpre.out
        rw [List.length_map] at h1
        have := cmpsK_len G s; omega
       have hPx : PxC 64 (cmpA G s, (some ⟨g2, 0, none⟩, cap2)) wr := by
        refine ⟨?_, by show (cmpA G s).length ≤ 64; omega⟩
        obtain ⟨q, d, hq, hs'⟩ := own_sl hl
        cases hq
        exact ⟨hs', fun b o z hb => Lib.ownsRow_kind hl b (by cases hb; rfl)⟩
       have HYX := hidI (HY.out pre (cmpA G s, (some ⟨g2, 0, none⟩, cap2)) wr HJ9.out hPx hpl)
       have c0 : wr.cell? ⟨g2, 0, none⟩ = some (.int .i64 ((cmpA G s)[0]'hpos)) := (hl.cellAt 0 (by omega)).trans (by simp [hpos])
       have hlenN : 0 < (cmpA G s).length := hpos
       generalize (cmpA G s)[0]'hpos = y0 at *
       by_cases hy : y0 = (s : Int)
       ·have hb : (y0 == (s : Int)) = true := by simpa using hy
        have HC2 : Hid (cmpsK G (s + 1) = cmpsK G s ++ [cmpA G s]) := by unfold Hid; rw [HCS.out, HLED.out, decide_eq_true hy, if_pos rfl]
        clear HCS HLED hy hcm
        obtain ⟨fn, tmps, assign, body, hyy, hR⟩ := HYX.out
        unfold encC at hyy
        simp only at hyy
        gi_wp2
        refine hR.mono ?_
        rintro e W3 ⟨rfl, hJ3, hk3⟩
        gi_wp2
        go_roundw
        case rel => exact ⟨s + 1, _, by omega, by go_num, by unfold Hid; rw [HC2.out, List.map_append, hpre.out]; rfl, hJ3, HF9.out.kp hk3, hk3 _ _ _ _ (.inl rfl) HG9.out⟩
        case measure => simp [intOf]; omega
       ·have hb : (y0 == (s : Int)) = false := by simpa using hy
        have HC2 : Hid (cmpsK G (s + 1) = cmpsK G s) := by unfold Hid; rw [HCS.out, HLED.out, decide_eq_false hy, if_neg (by simp), List.append_nil]
        clear HCS HLED hy hcm
        gi_wp2
        rename_i K1 hK1 x1 h1 w1 e1
        refine ⟨fun f hf => (by cases hf), hK1 _ _ ?_⟩
        clear e1
        gi_wp2
        go_roundw
        case rel => exact ⟨s + 1, pre, by omega, by go_num, by unfold Hid; rw [HC2.out, hpre.out], HJ9.out, HF9.out, HG9.out⟩
        case measure => simp [intOf]; omega
    ·obtain rfl : s = k := by omega
     have hltI2 : ¬ (s : Int) < (s : Int) := by omega
     gi_wp2
     go_end0
     exact ⟨⟨_, rfl⟩, pre, by rw [hpre.out]; unfold compsA cmpsK; rw [hNT], hJp⟩
end
section
open Go.RowKit
set_option maxHeartbeats 1000000 in
theorem leaving_in (F : Fence) (n : Nat) (hf : F.fn 101) (hro : F.round = none) (g : Value) (s : Int) (q m : Int) (p : Option Addr) (k c : Nat) (hg : g = .agg #[.int .i64 q, .int .i64 m, .slice p k c]) (w : World) :
  CallsIn F n Tryz.prog 101 #[g, .int .i64 s] w fun e w' => e = .returned (.func (.func 153) #[] #[.pointer (some ⟨w.heap.size, 0, none⟩), .pointer (some ⟨w.heap.size + 1, 0, none⟩)]) ∧
   w' = (w.alloc (.cells #[.int .i64 q, .int .i64 m, .slice p k c] 24)).alloc (.cells #[.int .i64 s] 3) := by
 subst hg
 refine callsIn_of_wp Tryz.func101 rfl hf ?_ hro
 simp only [Tryz.ntmps101, List.size_toArray, List.length_cons, List.length_nil, Nat.reduceAdd, Nat.reduceSub, Array.replicate_succ, Array.replicate_zero, List.push_toArray, List.append_toArray, List.nil_append, List.cons_append]
 gi_wp2
 go_ret
 exact ⟨rfl, rfl⟩
end
section
open Go.RowKit Go.Shelf
attribute [local go_sem] Oper.semAt_some
theorem own_shI {w : World} {B e size n : Nat} {v : Value} {xs : List Value} (h : w.ownsRow B e size v n xs) : ∃ p m c, v = .slice p m c := by
 rcases h.2 with ⟨rfl, _⟩ | ⟨g, cap, cur, rfl, _⟩
 ·exact ⟨_, _, _, rfl⟩
 ·exact ⟨_, _, _, rfl⟩
theorem own_cells {w : World} {B e size n : Nat} {v : Value} {xs : List Value} (h : w.ownsRow B e size v n xs) {j : Nat} {o : Obj} (hj : v.ownBlock = some j) (ho : w.heap[j]? = some o) : o.isCells = true := by
 rcases h.2 with ⟨rfl, _⟩ | ⟨g, cap, cur, rfl, _, hh, _⟩
 ·simp [Value.ownBlock] at hj
 ·obtain rfl : g = j := by simpa [Value.ownBlock] using hj
  rw [hh] at ho; cases ho; rfl
theorem own_baseI {W : World} {B B' e size n : Nat} {v : Value} {xs : List Value} (h : W.ownsRow B e size v n xs) (hB : B' ≤ B) : W.ownsRow B' e size v n xs :=
 ⟨h.1, h.2.imp id (fun ⟨g, cap, cur, a, b, z⟩ => ⟨g, cap, cur, a, Nat.le_trans hB b, z⟩)⟩
end
end Go.Proofs.YtocbhlohcikapaaGreatDoor
