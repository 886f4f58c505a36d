/-
  MemoryLocal: whatever comes in, the law returns true, and its arguments read as they did; the tables of the library that its row lists are tied to the program's text.
-/
import Derived.Test.YtocbhlohcikapaaGreatDoorZrk
import Derived.Test.YtocbhlohcikapaaGreatDoorZrf
import Derived.Test.YtocbhlohcikapaaGreatDoorZra
import Derived.Test.YtocbhlohcikapaaGreatDoorZrc
import Derived.Test.YtocbhlohcikapaaGreatDoorTie
import Derived.Test.YtocbhlohcikapaaGreatDoorCards
import Derived.LaidMore
import Derived.SevenTiedAt
import Derived.Carry
set_option linter.unusedVariables false
set_option linter.unusedSimpArgs false
namespace Go.Proofs.YtocbhlohcikapaaGreatDoor
open Go.RowKit Go.Sort Go.Shelf
attribute [local go_sem] Oper.semAt_some
def hitP (N : Nat) (es : List Ed) (F H : List Bool) (p : Nat × Nat) : Bool := decide (p.1 ≠ p.2) && (lkB F (pix N (eget es p.1).f (eget es p.2).f) && lkB H (pix N (eget es p.1).t (eget es p.2).t))
theorem partB_yes {N : Nat} {es : List Ed} {F H : List Bool} {p : Nat × Nat} (hp : p ∈ prs es) (h : hitP N es F H p = true) : partB N es F H = true := List.any_eq_true.2 ⟨p, hp, h⟩
theorem partB_no {N : Nat} {es : List Ed} {F H : List Bool} (h : ∀ p ∈ prs es, hitP N es F H p = false) : partB N es F H = false := List.any_eq_false.2 (fun p hp => by rw [Bool.not_eq_true]; exact h p hp)
set_option maxRecDepth 100000 in
set_option maxHeartbeats 4000000 in
theorem mmLocal_in (G : Gr) (p : Option Addr) (c : Nat) (m a N M : Nat) (hv : Vg G) (hN : G.n = N) (hM : M = N * N) (hm : m ≤ 4096) (ha : a ≤ 4096) (w : World) (hin : Sg 3 w edE p G.es) :
    CallsIn Fence.wide 9 Tryz.prog 39 #[(.agg #[.int .i64 G.q, .int .i64 G.n, .slice p G.es.length c]), .int .i64 (m : Int), .int .i64 (a : Int)] w fun e w' => e = .returned (.tuple #[.bool (!partB N G.es (timA (aftF N G.es) m (allF2 N)) (timA (befF N G.es) a (allF2 N))), .int .i64 0]) ∧ RowKit.Below w.heap.size w w' := by
  have HIN := hidI hin; have HV := hidI hv; have HNN := hidI hN; have HMM := hidI hM
  have hl := hv.len
  have hN64 : N ≤ 64 := by have := hv.n2; omega
  obtain ⟨w0, hw0⟩ : ∃ w0, w0 = ((w.alloc (.cells #[.int .i64 G.q, .int .i64 G.n, .slice p G.es.length c] 24)).alloc (.cells #[.bool false] 4)).alloc (.cells #[.int .i64 0] 27) := ⟨_, rfl⟩
  have b0 : VRow w0 w.heap.size 24 [.int .i64 G.q, .int .i64 G.n, .slice p G.es.length c] := by subst hw0; exact ((VRow.new w _ _).alloc _).alloc _
  have b1 : VRow w0 (w.heap.size + 1) 4 [.bool false] := by subst hw0; exact (VRow.new1 w _ _ _).alloc _
  have b2 : VRow w0 (w.heap.size + 1 + 1) 27 [.int .i64 0] := by subst hw0; exact VRow.new2 w _ _ _ _
  have hB0 : RowKit.Below w.heap.size w w0 := by subst hw0; exact (((RowKit.Below.refl _ _).alloc (Nat.le_refl _) _).alloc (by simp) _).alloc (by simp; omega) _
  have HCK := hidI (gCheck_r G p c w0 0 (chkG_ok.2 hv) (hin.below hB0) (by omega))
  have HT1 := hidI (fun W (hW : RowKit.Below w0.heap.size w0 W) => mmTimes_any G p c N M m (aftF N G.es) 75 W hN hN64 hM hm (enters_of Tryz.func75 (by kernel_rfl) rfl) (after_at hv hN hM ((hin.below hB0).below hW)) (by rw [hM]; exact aft_mon hv hN))
  have HT2 := hidI (fun W (hW : RowKit.Below w0.heap.size w0 W) => mmTimes_any G p c N M a (befF N G.es) 81 W hN hN64 hM ha (enters_of Tryz.func81 (by kernel_rfl) rfl) (before_at hv hN hM ((hin.below hB0).below hW)) (by rw [hM]; exact bef_mon hv hN))
  have hlF : Hid ((timA (aftF N G.es) m (allF2 N)).length = M) := by rw [Hid, timA_it, (Chn.it (aft_mon hv hN) m (Chn.all (aft_mon hv hN))).len, hM]
  have hlH : Hid ((timA (befF N G.es) a (allF2 N)).length = M) := by rw [Hid, timA_it, (Chn.it (bef_mon hv hN) a (Chn.all (bef_mon hv hN))).len, hM]
  generalize timA (aftF N G.es) m (allF2 N) = F at *
  generalize timA (befF N G.es) a (allF2 N) = H at *
  have HYES := hidI (fun q h1 h2 => @partB_yes N G.es F H q h1 h2)
  have HNO := hidI (@partB_no N G.es F H)
  generalize partB N G.es F H = R at *
  have f0 := b0.at 0 rfl; have f1 := b0.at 1 rfl; have f2 := b0.at 2 rfl
  clear hin hv hN hM
  refine callsIn_of_wp_marks Tryz.func39 rfl trivial ?_ rfl
  simp only [Tryz.ntmps39, List.size_toArray, List.length_cons, List.length_nil, Nat.reduceAdd, Nat.reduceSub, Array.replicate_succ, Array.replicate_zero, List.push_toArray, List.append_toArray, List.nil_append, List.cons_append]
  rw [wpIn_wide]
  go_upto_region 1 with fail
  rw [← hw0]
  clear hw0
  go_wp2_with fail
  refine HCK.out.mono ?_
  rintro e w1 ⟨rfl, hB1⟩
  have c0 := b0.below hB1 b0.lt; have c1 := b1.below hB1 b1.lt; have c2 := b2.below hB1 b2.lt
  have x1 := hB0.trans (hB1.mono hB0.size)
  have hz1 := c0.lt
  clear f0 f1 f2 b0 b1 b2 HCK
  have f0 := c0.at 0 rfl; have f1 := c0.at 1 rfl; have f2 := c0.at 2 rfl
  have g0 : decide ((m : Int) < 0) = false := decide_eq_false (by omega)
  have g1 : decide ((4096 : Int) < (m : Int)) = false := decide_eq_false (by omega)
  have g2 : decide ((a : Int) < 0) = false := decide_eq_false (by omega)
  have g3 : decide ((4096 : Int) < (a : Int)) = false := decide_eq_false (by omega)
  go_upto_region 5 with fail
  go_cut [8, 9] from 31 to 36 (fun s8 s9 wx => ∃ b8 bF b9 bH, s8 = .pointer (some ⟨b8, 0, none⟩) ∧ s9 = .pointer (some ⟨b9, 0, none⟩) ∧ VRow wx b8 92 [.int .i64 G.q, .int .i64 G.n, .slice p G.es.length c, (.slice (some ⟨bF, 0, none⟩) M M)] ∧ VRow wx bF 4 (F.map Value.bool) ∧ VRow wx b9 92 [.int .i64 G.q, .int .i64 G.n, .slice p G.es.length c, (.slice (some ⟨bH, 0, none⟩) M M)] ∧ VRow wx bH 4 (H.map Value.bool) ∧ RowKit.Below w1.heap.size w1 wx)
  case first =>
    refine region_detW (by kernel_rfl) 10 [(some 31, some (.agg #[.int .i64 G.q, .int .i64 G.n, .slice p G.es.length c])), (some 32, some (.int .i64 (m : Int))), (some 33, none), (some 34, some (.agg #[.int .i64 G.q, .int .i64 G.n, .slice p G.es.length c])), (some 35, some (.int .i64 (a : Int))), (some 36, none), (some 8, none), (some 9, none), (none, none), (none, none)]
      (fun d f W => Kj w1 G p c M F H (d 8) (d 9) (f 33) (f 8) (f 36) (f 9) W) (by kernel_rfl) (by kernel_rfl) (by kernel_rfl) (by kernel_rfl)
      ⟨below_dN (RowKit.Below.refl _ _) 1, ⟨(fun _ e => by cases e), (fun _ e => by cases e)⟩, ⟨(fun _ e => by cases e), (fun _ e => by cases e)⟩, (fun _ e => by cases e)⟩ ?_ ?_
    focus
      intro i o ho a' d f W hS hdi hdn hnd hdep hout hold K hK
      have hil : i < 10 := (Array.getElem?_eq_some_iff.1 ho).1
      have hcases : i = 0 ∨ i = 1 ∨ i = 2 ∨ i = 3 ∨ i = 4 ∨ i = 5 ∨ i = 6 ∨ i = 7 ∨ i = 8 ∨ i = 9 := by omega
      clear hil
      have u1 := hout 1 (by kernel_rfl)
      have u2 := hout 2 (by kernel_rfl)
      have u3 := hout 3 (by kernel_rfl)
      simp at u1 u2 u3
      clear hout
      have hc0 := (hS.b.cell hz1).trans f0
      have hc1 := (hS.b.cell (p := ⟨w.heap.size, 1, none⟩) hz1).trans f1
      have hc2 := (hS.b.cell (p := ⟨w.heap.size, 2, none⟩) hz1).trans f2
      clear f0 f1 f2 g0 g1 g2 g3
      rcases hcases with rfl | rfl | rfl | rfl | rfl | rfl | rfl | rfl | rfl | rfl
      all_goals (simp only [List.getElem?_toArray, List.getElem?_cons_succ, List.getElem?_cons_zero, Option.some.injEq] at ho; subst ho; simp [Region.binds] at hdep; (try go_split_ands))
      · go_simp; exact hK _ _ (fun u hu => Option.some.inj hu) hS
      · go_simp; exact hK _ _ (fun u hu => Option.some.inj hu) hS
      · have e8 := hnd 8 (by kernel_rfl)
        have h33 := (hold 2 (by kernel_rfl) _ rfl 33 rfl).1
        go_simp
        refine (HT1.out W (hB1.trans (hS.b.mono hB1.size))).mono ?_
        rintro e wk ⟨b, rfl, hbl, hrow, hBk⟩
        have hx := hS.x
        rw [e8, h33] at hx
        have hfin : Kj w1 G p c M F H false (d 9) (some (.agg #[.int .i64 G.q, .int .i64 G.n, .slice p G.es.length c, (.slice (some ⟨b, 0, none⟩) M M)])) (f 8) (f 36) (f 9) wk := ⟨hS.b.trans (hBk.mono hS.b.size), hx.call hBk (Nat.le_trans hS.b.size hbl) hrow, hS.y.below hBk, hS.ne⟩
        exact hK _ _ (fun u hu => by cases hu) (by
          show Kj _ _ _ _ _ _ _ (d 8) (d 9) (some _) (f 8) (f 36) (f 9) wk
          rw [e8]; exact hfin)
      · go_simp; exact hK _ _ (fun u hu => Option.some.inj hu) hS
      · go_simp; exact hK _ _ (fun u hu => Option.some.inj hu) hS
      · have e9 := hnd 9 (by kernel_rfl)
        have h36 := (hold 5 (by kernel_rfl) _ rfl 36 rfl).1
        go_simp
        refine (HT2.out W (hB1.trans (hS.b.mono hB1.size))).mono ?_
        rintro e wk ⟨b, rfl, hbl, hrow, hBk⟩
        have hy := hS.y
        rw [e9, h36] at hy
        have hfin : Kj w1 G p c M F H (d 8) false (f 33) (f 8) (some (.agg #[.int .i64 G.q, .int .i64 G.n, .slice p G.es.length c, (.slice (some ⟨b, 0, none⟩) M M)])) (f 9) wk := ⟨hS.b.trans (hBk.mono hS.b.size), hS.x.below hBk, hy.call hBk (Nat.le_trans hS.b.size hbl) hrow, hS.ne⟩
        exact hK _ _ (fun u hu => by cases hu) (by
          show Kj _ _ _ _ _ _ _ (d 8) (d 9) (f 33) (f 8) (some _) (f 9) wk
          rw [e9]; exact hfin)
      · have e8 := hnd 8 (by kernel_rfl)
        have h8 := (hold 6 (by kernel_rfl) _ rfl 8 rfl).1
        have hx := hS.x
        rw [e8, h8] at hx
        have hBa : RowKit.Below W.heap.size W (W.alloc (.cells #[.int .i64 0, .int .i64 0, .slice none 0 0, .slice none 0 0] 92)) := (RowKit.Below.refl _ _).alloc (Nat.le_refl _) _
        have hfin : Kj w1 G p c M F H false (d 9) (f 33) (some (.pointer (some ⟨W.heap.size, 0, none⟩))) (f 36) (f 9) (W.alloc (.cells #[.int .i64 0, .int .i64 0, .slice none 0 0, .slice none 0 0] 92)) :=
          ⟨hS.b.trans (hBa.mono hS.b.size), hx.new hS.b.size, hS.y.below hBa, fun B e h9 => by cases e; have := hS.y.lt h9; omega⟩
        go_simp
        exact hK _ _ (fun u hu => by cases hu) (by
          show Kj _ _ _ _ _ _ _ (d 8) (d 9) (f 33) (some _) (f 36) (f 9) _
          rw [e8]; exact hfin)
      · have e9 := hnd 9 (by kernel_rfl)
        have h9 := (hold 7 (by kernel_rfl) _ rfl 9 rfl).1
        have hy := hS.y
        rw [e9, h9] at hy
        have hBa : RowKit.Below W.heap.size W (W.alloc (.cells #[.int .i64 0, .int .i64 0, .slice none 0 0, .slice none 0 0] 92)) := (RowKit.Below.refl _ _).alloc (Nat.le_refl _) _
        have hfin : Kj w1 G p c M F H (d 8) false (f 33) (f 8) (f 36) (some (.pointer (some ⟨W.heap.size, 0, none⟩))) (W.alloc (.cells #[.int .i64 0, .int .i64 0, .slice none 0 0, .slice none 0 0] 92)) :=
          ⟨hS.b.trans (hBa.mono hS.b.size), hS.x.below hBa, hy.new hS.b.size, fun B h8 e => by cases e; have := hS.x.lt h8; omega⟩
        go_simp
        exact hK _ _ (fun u hu => by cases hu) (by
          show Kj _ _ _ _ _ _ _ (d 8) (d 9) (f 33) (f 8) (f 36) (some _) _
          rw [e9]; exact hfin)
      · obtain ⟨v, hv, hat⟩ : ∃ v, f 8 = some v ∧ a'.tmps[8]? = some v := by assumption
        obtain ⟨u, hu, hau⟩ : ∃ v, f 33 = some v ∧ a'.tmps[33]? = some v := by assumption
        have e8 : d 8 = false := hdi
        have hx := hS.x
        rw [e8, hv, hu] at hx
        obtain ⟨b, rfl, _, _⟩ := hx.k _ rfl
        obtain ⟨B, rfl, hBl, hzr, _⟩ := hx.a _ rfl
        have hzr := hzr rfl
        have k0 := hzr.at 0 rfl; have k1 := hzr.at 1 rfl; have k2 := hzr.at 2 rfl; have k3 := hzr.at 3 rfl
        have z0 := hzr.frozen 0; have z1 := hzr.frozen 1; have z2 := hzr.frozen 2; have z3 := hzr.frozen 3
        have hne9 : f 9 ≠ some (.pointer (some ⟨B, 0, none⟩)) := fun e => hS.ne B hv e
        have r1 := hzr.set (i := 0) (.int .i64 G.q); have r2 := VRow.set (i := 1) (.int .i64 G.n) r1; have r3 := VRow.set (i := 2) (.slice p G.es.length c) r2
        have hfin : Kj w1 G p c M F H true (d 9) (some (.agg #[.int .i64 G.q, .int .i64 G.n, .slice p G.es.length c, (.slice (some ⟨b, 0, none⟩) M M)])) (some (.pointer (some ⟨B, 0, none⟩))) (f 36) (f 9) ((((W.setCell ⟨B, 0, none⟩ (.int .i64 G.q)).setCell ⟨B, 1, none⟩ (.int .i64 G.n)).setCell ⟨B, 2, none⟩ (.slice p G.es.length c)).setCell ⟨B, 3, none⟩ (.slice (some ⟨b, 0, none⟩) M M)) :=
          ⟨(((hS.b.setCell hBl _).setCell hBl _).setCell hBl _).setCell hBl _, hx.store, (((hS.y.other hzr hne9).other r1 hne9).other r2 hne9).other r3 hne9, fun B' e h9 => by cases e; exact hne9 h9⟩
        have HV1 := hidI hv; have HU1 := hidI hu
        clear hzr r1 r2 r3 hx hv hu
        go_simp
        exact hK undef _ (fun u hu => by cases hu) (by
          show Kj _ _ _ _ _ _ _ true (d 9) (f 33) (f 8) (f 36) (f 9) _
          rw [HV1.out, HU1.out]; exact hfin)
      · obtain ⟨v, hv, hat⟩ : ∃ v, f 9 = some v ∧ a'.tmps[9]? = some v := by assumption
        obtain ⟨u, hu, hau⟩ : ∃ v, f 36 = some v ∧ a'.tmps[36]? = some v := by assumption
        have e9 : d 9 = false := hdi
        have hy := hS.y
        rw [e9, hv, hu] at hy
        obtain ⟨b, rfl, _, _⟩ := hy.k _ rfl
        obtain ⟨B, rfl, hBl, hzr, _⟩ := hy.a _ rfl
        have hzr := hzr rfl
        have k0 := hzr.at 0 rfl; have k1 := hzr.at 1 rfl; have k2 := hzr.at 2 rfl; have k3 := hzr.at 3 rfl
        have z0 := hzr.frozen 0; have z1 := hzr.frozen 1; have z2 := hzr.frozen 2; have z3 := hzr.frozen 3
        have hne8 : f 8 ≠ some (.pointer (some ⟨B, 0, none⟩)) := fun e => hS.ne B e hv
        have r1 := hzr.set (i := 0) (.int .i64 G.q); have r2 := VRow.set (i := 1) (.int .i64 G.n) r1; have r3 := VRow.set (i := 2) (.slice p G.es.length c) r2
        have hfin : Kj w1 G p c M F H (d 8) true (f 33) (f 8) (some (.agg #[.int .i64 G.q, .int .i64 G.n, .slice p G.es.length c, (.slice (some ⟨b, 0, none⟩) M M)])) (some (.pointer (some ⟨B, 0, none⟩))) ((((W.setCell ⟨B, 0, none⟩ (.int .i64 G.q)).setCell ⟨B, 1, none⟩ (.int .i64 G.n)).setCell ⟨B, 2, none⟩ (.slice p G.es.length c)).setCell ⟨B, 3, none⟩ (.slice (some ⟨b, 0, none⟩) M M)) :=
          ⟨(((hS.b.setCell hBl _).setCell hBl _).setCell hBl _).setCell hBl _, (((hS.x.other hzr hne8).other r1 hne8).other r2 hne8).other r3 hne8, hy.store, fun B' h8 e => by cases e; exact hne8 h8⟩
        have HV1 := hidI hv; have HU1 := hidI hu
        clear hzr r1 r2 r3 hy hv hu
        go_simp
        exact hK undef _ (fun u hu => by cases hu) (by
          show Kj _ _ _ _ _ _ _ (d 8) true (f 33) (f 8) (f 36) (f 9) _
          rw [HV1.out, HU1.out]; exact hfin)
    intro d f W9 hS hall hf
    have e8 : d 8 = true := hall 8 (by decide)
    have e9 : d 9 = true := hall 9 (by decide)
    obtain ⟨v8, hv8, -⟩ := hf (some 8, none) (by simp) 8 rfl
    obtain ⟨v9, hv9, -⟩ := hf (some 9, none) (by simp) 9 rfl
    obtain ⟨b8, rfl, hb8, _, h8⟩ := hS.x.a _ hv8
    obtain ⟨b9, rfl, hb9, _, h9⟩ := hS.y.a _ hv9
    obtain ⟨bF, h33, hr8⟩ := h8 e8
    obtain ⟨bH, h36, hr9⟩ := h9 e9
    obtain ⟨_, e', _, hrF⟩ := hS.x.k _ h33
    cases e'
    obtain ⟨_, e', _, hrH⟩ := hS.y.k _ h36
    cases e'
    have hBl := hS.b
    simp only [putsD, List.filterMap_cons, List.filterMap_nil, Option.map_some, Option.map_none, Option.getD_some, Option.getD_none, List.foldl_cons, List.foldl_nil, Act.put, List.setIfInBounds_toArray, List.set_cons_zero, List.set_cons_succ]
    rw [hv8, hv9, h33, h36]
    simp only [Option.getD_some]
    clear hf hv8 hv9 h33 h36 hS h8 h9
    go_wp2_with fail
    go_meet
    exact ⟨b8, bF, b9, bH, rfl, rfl, hr8, hrF, hr9, hrH, hBl⟩
  case rest =>
    rename_i KK hKK
    obtain ⟨b8, bF, b9, bH, rfl, rfl, r8, rF, r9, rH, hBx⟩ := hcut
    obtain ⟨w2, rfl⟩ : ∃ w2 : World, w2 = wc := ⟨_, rfl⟩
    have d0 := c0.below hBx c0.lt; have d1 := c1.below hBx c1.lt; have d2 := c2.below hBx c2.lt
    have x2 := x1.trans (hBx.mono x1.size)
    clear f0 f1 f2 c0 c1 c2 hBx HT1 HT2 hB1 g0 g1 g2 g3
    have f0 := r8.at 0 rfl; have f1 := r8.at 1 rfl; have f2 := r8.at 2 rfl; have f3 := r8.at 3 rfl
    refine hKK _ _ ((wpIn_wide (n := 9)).1 ?_)
    gi_wp2_with (refine ⟨trivial, ?_⟩; gi_at_call 93)
    refine (mmEdges_in Fence.wide 8 trivial rfl _ G.q G.n p G.es.length c (.slice (some ⟨bF, 0, none⟩) M M) rfl _).mono ?_
    rintro e w' ⟨rfl, rfl⟩
    clear f0 f1 f2 f3
    gi_wp2
    obtain ⟨W0, hW0⟩ : ∃ W0, W0 = w2.alloc (.cells #[.int .i64 G.q, .int .i64 G.n, .slice p G.es.length c, (.slice (some ⟨bF, 0, none⟩) M M)] 92) := ⟨_, rfl⟩
    have a0 : VRow W0 w.heap.size 24 [.int .i64 G.q, .int .i64 G.n, .slice p G.es.length c] := by subst hW0; exact d0.alloc _
    have a1 : VRow W0 (w.heap.size + 1) 4 [.bool false] := by subst hW0; exact d1.alloc _
    have a2 : VRow W0 (w.heap.size + 1 + 1) 27 [.int .i64 0] := by subst hW0; exact d2.alloc _
    have a8 : VRow W0 b8 92 [.int .i64 G.q, .int .i64 G.n, .slice p G.es.length c, (.slice (some ⟨bF, 0, none⟩) M M)] := by subst hW0; exact r8.alloc _
    have a9 : VRow W0 b9 92 [.int .i64 G.q, .int .i64 G.n, .slice p G.es.length c, (.slice (some ⟨bH, 0, none⟩) M M)] := by subst hW0; exact r9.alloc _
    have aF : VRow W0 bF 4 (F.map Value.bool) := by subst hW0; exact rF.alloc _
    have aH : VRow W0 bH 4 (H.map Value.bool) := by subst hW0; exact rH.alloc _
    have ae : VRow W0 w2.heap.size 92 [.int .i64 G.q, .int .i64 G.n, .slice p G.es.length c, (.slice (some ⟨bF, 0, none⟩) M M)] := by subst hW0; exact VRow.new w2 _ _
    have x0 : RowKit.Below w.heap.size w W0 := by subst hW0; exact x2.alloc x2.size _
    rw [← hW0]
    clear hW0 d0 d1 d2 r8 r9 rF rH x1 x2
    refine' wpIn_rangeFunc_ownG rfl (by omega) (gf := 149) (lb := #[.pointer (some ⟨w2.heap.size, 0, none⟩)]) rfl trivial (enters_of Tryz.func149 (by kernel_rfl) rfl)
      (pedges_stops Fence.wide 8 trivial rfl (by omega) w.heap.size w2.heap.size G p c (.slice (some ⟨bF, 0, none⟩) M M) hl W0 x0.size ae ((SgB.of HIN.out (Nat.le_refl _)).kept (fun i hi => x0.block i hi))) KPm.trans (KPm.put x0.size) (RowKit.Below.refl _ _) (fun _ => rfl)
      (fun pre W => (((((((VRow W w.heap.size 24 [.int .i64 G.q, .int .i64 G.n, .slice p G.es.length c] ∧ VRow W (w.heap.size + 1) 4 [.bool false]) ∧ VRow W (w.heap.size + 1 + 1) 27 [.int .i64 0]) ∧ VRow W b8 92 [.int .i64 G.q, .int .i64 G.n, .slice p G.es.length c, (.slice (some ⟨bF, 0, none⟩) M M)]) ∧ VRow W b9 92 [.int .i64 G.q, .int .i64 G.n, .slice p G.es.length c, (.slice (some ⟨bH, 0, none⟩) M M)]) ∧ VRow W bF 4 (F.map Value.bool)) ∧ VRow W bH 4 (H.map Value.bool)) ∧ RowKit.Below w.heap.size w W) ∧ Hid (∀ q ∈ pre.map Subtype.val, hitP N G.es F H q = false))
      (fun c' _ W => ((VRow W (w.heap.size + 1) 4 [.bool false] ∧ VRow W (w.heap.size + 1 + 1) 27 [.int .i64 0]) ∧ RowKit.Below w.heap.size w W) ∧ c' = .ret ∧ R = true)
      (OwnFrom.and (OwnFrom.and (OwnFrom.and (OwnFrom.and (OwnFrom.and (OwnFrom.and (OwnFrom.and (OwnFrom.and ((VRow.own w.heap.size 24 (fun _ : List (PrE G.es) => [.int .i64 G.q, .int .i64 G.n, .slice p G.es.length c])).from _) ((VRow.own (w.heap.size + 1) 4 (fun _ => [.bool false])).from _)) ((VRow.own (w.heap.size + 1 + 1) 27 (fun _ => [.int .i64 0])).from _)) ((VRow.own b8 92 (fun _ => [.int .i64 G.q, .int .i64 G.n, .slice p G.es.length c, (.slice (some ⟨bF, 0, none⟩) M M)])).from _)) ((VRow.own b9 92 (fun _ => [.int .i64 G.q, .int .i64 G.n, .slice p G.es.length c, (.slice (some ⟨bH, 0, none⟩) M M)])).from _)) ((VRow.own bF 4 (fun _ => F.map Value.bool)).from _)) ((VRow.own bH 4 (fun _ => H.map Value.bool)).from _)) (ownFrom_below (Nat.le_refl _) x0.size)) (fun _ _ _ _ h _ _ => h))
      (fun _ => OwnFrom.and (OwnFrom.and (OwnFrom.and ((VRow.own (w.heap.size + 1) 4 (fun _ : List (PrE G.es) => [.bool false])).from _) ((VRow.own (w.heap.size + 1 + 1) 27 (fun _ => [.int .i64 0])).from _)) (ownFrom_below (Nat.le_refl _) x0.size)) (fun _ _ _ _ h _ _ => h))
      ⟨⟨⟨⟨⟨⟨⟨⟨a0, a1⟩, a2⟩, a8⟩, a9⟩, aF⟩, aH⟩, x0⟩, fun q hq => by cases hq⟩
      _ ?assign ?body ?done ?stop
    case assign =>
      intro l x W K hK
      unfold encPr
      gi_wp2
      exact hK
    case body =>
      rintro l pre ⟨⟨i, k⟩, hik⟩ W ⟨⟨⟨⟨⟨⟨⟨⟨kg, k1⟩, k2⟩, k8⟩, k9⟩, kF⟩, kH⟩, hB⟩, hno⟩ hlen
      obtain ⟨hi, hk, -⟩ := mem_prs.1 hik
      replace hi : i < G.es.length := hi
      replace hk : k < G.es.length := hk
      have HSN : Hid (hitP N G.es F H (i, k) = false → ∀ q ∈ (pre ++ [(⟨(i, k), hik⟩ : PrE G.es)]).map Subtype.val, hitP N G.es F H q = false) := fun h q hq => by
        rw [List.map_append] at hq
        rcases List.mem_append.1 hq with hq | hq
        · exact hno.out q hq
        · obtain rfl := List.mem_singleton.1 hq; exact h
      have HYE := hidI (HYES.out (i, k) hik)
      have HHIT : Hid (hitP N G.es F H (i, k) = (decide (i ≠ k) && (lkB F (pix N (eget G.es i).f (eget G.es k).f) && lkB H (pix N (eget G.es i).t (eget G.es k).t)))) := rfl
      generalize hitP N G.es F H (i, k) = hit at *
      have vx := HV.out.ins _ (Gr.at_ hi); have vy := HV.out.ins _ (Gr.at_ hk)
      have hxe := eget_eq G.es i hi; have hye := eget_eq G.es k hk
      obtain ⟨b4, o4, rfl, hb4, e0, e1, e2⟩ := (HIN.out.below hB).get3 i hi rfl
      obtain ⟨b5, o5, e', hb5, d0, d1, d2⟩ := (HIN.out.below hB).get3 k hk rfl
      cases e'
      rw [← hxe] at e0 e1 e2
      rw [← hye] at d0 d1 d2
      generalize eget G.es i = x at *
      generalize eget G.es k = y at *
      clear hxe hye
      have hnI := HNN.out
      have hxf : 0 ≤ x.f ∧ x.f < (N : Int) ∧ 0 ≤ y.f ∧ y.f < (N : Int) := by omega
      have hxt : 0 ≤ x.t ∧ x.t < (N : Int) ∧ 0 ≤ y.t ∧ y.t < (N : Int) := by omega
      have HH1 := hidI (fun W' (h : VRow W' bF 4 (F.map Value.bool)) => mmHas_any G (some ⟨b4, o4, none⟩) c W'.heap.size (some ⟨bF, 0, none⟩) M M F N HNN.out hN64 HMM.out hlF.out x.f y.f hxf.1 hxf.2.1 hxf.2.2.1 hxf.2.2.2 W' (slb_row h))
      have HH2 := hidI (fun W' (h : VRow W' bH 4 (H.map Value.bool)) => mmHas_any G (some ⟨b4, o4, none⟩) c W'.heap.size (some ⟨bH, 0, none⟩) M M H N HNN.out hN64 HMM.out hlH.out x.t y.t hxt.1 hxt.2.1 hxt.2.2.1 hxt.2.2.2 W' (slb_row h))
      clear hnI hxf hxt vx vy hno
      generalize lkB F (pix N x.f y.f) = h1v at *
      generalize lkB H (pix N x.t y.t) = h2v at *
      have f2 := kg.at 2 rfl
      have hgl := kg.lt
      refine wpIn_block ?_
      refine wpIn_seq_k (fun KK hKK => ?_)
      refine region_inW (by kernel_rfl) (by kernel_rfl) 14 [(some 41, some (.pointer (some ⟨w.heap.size, 2, none⟩))), (some 42, some (.slice (some ⟨b4, o4, none⟩) G.es.length c)), (some 43, some (.int .i64 (i : Int))), (some 44, some (.pointer (some ⟨b4, o4 + i * 3, none⟩))), (some 45, some (.agg #[.int .i64 x.f, .int .i64 x.l, .int .i64 x.t])),
          (some 46, some (.pointer (some ⟨w.heap.size, 2, none⟩))), (some 47, some (.slice (some ⟨b4, o4, none⟩) G.es.length c)), (some 48, some (.int .i64 (k : Int))), (some 49, some (.pointer (some ⟨b4, o4 + k * 3, none⟩))), (some 50, some (.agg #[.int .i64 y.f, .int .i64 y.l, .int .i64 y.t])), (some 12, none), (some 13, none), (none, none), (none, none)]
        (fun d f W' => Kp2 W x y (d 12) (d 13) (f 12) (f 13) W') (by kernel_rfl) (by kernel_rfl) (by kernel_rfl) (by kernel_rfl) ⟨below_dN (RowKit.Below.refl _ _) 1, (fun _ e => by cases e), (fun _ e => by cases e), (fun _ _ e => by cases e)⟩ ?_ ?_
      focus
        intro i' o ho a' d f W' hS hdi hdn hnd hdep hout hold K hK
        have hil : i' < 14 := (Array.getElem?_eq_some_iff.1 ho).1
        have hcases : i' = 0 ∨ i' = 1 ∨ i' = 2 ∨ i' = 3 ∨ i' = 4 ∨ i' = 5 ∨ i' = 6 ∨ i' = 7 ∨ i' = 8 ∨ i' = 9 ∨ i' = 10 ∨ i' = 11 ∨ i' = 12 ∨ i' = 13 := by omega
        clear hil
        have u3 := hout 3 (by kernel_rfl)
        have u10 := hout 10 (by kernel_rfl)
        have u11 := hout 11 (by kernel_rfl)
        simp at u3 u10 u11
        clear hout
        have hc2 := (hS.b.cell (p := ⟨w.heap.size, 2, none⟩) hgl).trans f2
        have g0 := (hS.b.cell (p := ⟨b4, o4 + i * 3, none⟩) hb4).trans e0
        have g1 := (hS.b.cell (p := ⟨b4, o4 + i * 3 + 1, none⟩) hb4).trans e1
        have g2 := (hS.b.cell (p := ⟨b4, o4 + i * 3 + 2, none⟩) hb4).trans e2
        have h0 := (hS.b.cell (p := ⟨b4, o4 + k * 3, none⟩) hb4).trans d0
        have h1 := (hS.b.cell (p := ⟨b4, o4 + k * 3 + 1, none⟩) hb4).trans d1
        have h2 := (hS.b.cell (p := ⟨b4, o4 + k * 3 + 2, none⟩) hb4).trans d2
        have hiI : (i : Int) < (G.es.length : Int) := by omega
        have hkI : (k : Int) < (G.es.length : Int) := by omega
        clear e0 e1 e2 d0 d1 d2 f2
        rcases hcases with rfl | rfl | rfl | rfl | rfl | rfl | rfl | rfl | rfl | rfl | rfl | rfl | rfl | rfl
        all_goals (simp only [List.getElem?_toArray, List.getElem?_cons_succ, List.getElem?_cons_zero, Option.some.injEq] at ho; subst ho; simp [Region.binds] at hdep; (try go_split_ands))
        · go_simp; exact hK _ _ (fun u hu => Option.some.inj hu) hS
        · go_simp; exact hK _ _ (fun u hu => Option.some.inj hu) hS
        · go_simp; exact hK _ _ (fun u hu => Option.some.inj hu) hS
        · go_simp; exact hK _ _ (fun u hu => Option.some.inj hu) hS
        · go_simp; exact hK _ _ (fun u hu => Option.some.inj hu) hS
        · go_simp; exact hK _ _ (fun u hu => Option.some.inj hu) hS
        · go_simp; exact hK _ _ (fun u hu => Option.some.inj hu) hS
        · go_simp; exact hK _ _ (fun u hu => Option.some.inj hu) hS
        · go_simp; exact hK _ _ (fun u hu => Option.some.inj hu) hS
        · go_simp; exact hK _ _ (fun u hu => Option.some.inj hu) hS
        · have h6 := (hold 10 (by kernel_rfl) _ rfl 12 rfl).1
          have e14 := hnd 12 (by kernel_rfl)
          have h := hS
          rw [e14, h6] at h
          have hfin := h.new6
          go_simp
          exact hK _ _ (fun u hu => by cases hu) (by
            show Kp2 _ _ _ (d 12) (d 13) (some _) (f 13) _
            rw [e14]; exact hfin)
        · have h7 := (hold 11 (by kernel_rfl) _ rfl 13 rfl).1
          have e15 := hnd 13 (by kernel_rfl)
          have h := hS
          rw [e15, h7] at h
          have hfin := h.new7
          go_simp
          exact hK _ _ (fun u hu => by cases hu) (by
            show Kp2 _ _ _ (d 12) (d 13) (f 12) (some _) _
            rw [e15]; exact hfin)
        · obtain ⟨v, hv, hat⟩ : ∃ v, f 12 = some v ∧ a'.tmps[12]? = some v := by assumption
          have e14 : d 12 = false := hdi
          have h := hS
          rw [e14, hv] at h
          obtain ⟨b, rfl, hbl, hzr⟩ := h.a _ rfl
          have k0 := hzr.at 0 rfl; have k1 := hzr.at 1 rfl; have k2 := hzr.at 2 rfl
          have z0 := hzr.frozen 0; have z1 := hzr.frozen 1; have z2 := hzr.frozen 2
          have hfin := h.set6
          have HV1 := hidI hv
          clear hzr h hv
          go_simp
          exact hK undef _ (fun u hu => by cases hu) (by
            show Kp2 _ _ _ true (d 13) (f 12) (f 13) _
            rw [HV1.out]; exact hfin)
        · obtain ⟨v, hv, hat⟩ : ∃ v, f 13 = some v ∧ a'.tmps[13]? = some v := by assumption
          have e15 : d 13 = false := hdi
          have h := hS
          rw [e15, hv] at h
          obtain ⟨b, rfl, hbl, hzr⟩ := h.c _ rfl
          have k0 := hzr.at 0 rfl; have k1 := hzr.at 1 rfl; have k2 := hzr.at 2 rfl
          have z0 := hzr.frozen 0; have z1 := hzr.frozen 1; have z2 := hzr.frozen 2
          have hfin := h.set7
          have HV1 := hidI hv
          clear hzr h hv
          go_simp
          exact hK undef _ (fun u hu => by cases hu) (by
            show Kp2 _ _ _ (d 12) true (f 12) (f 13) _
            rw [HV1.out]; exact hfin)
      intro d f W2 hS hall hf
      have e14 : d 12 = true := hall 12 (by decide)
      have e15 : d 13 = true := hall 13 (by decide)
      obtain ⟨v6, hv6, -⟩ := hf (some 12, none) (by simp) 12 rfl
      obtain ⟨v7, hv7, -⟩ := hf (some 13, none) (by simp) 13 rfl
      obtain ⟨b6, rfl, hb6, r6⟩ := hS.a _ hv6
      obtain ⟨b7, rfl, hb7, r7⟩ := hS.c _ hv7
      rw [e14, if_pos rfl] at r6
      rw [e15, if_pos rfl] at r7
      have hBS := hS.b
      simp only [putsD, List.filterMap_cons, List.filterMap_nil, Option.map_some, Option.map_none, Option.getD_some, Option.getD_none, List.foldl_cons, List.foldl_nil, Act.put, List.setIfInBounds_toArray, List.set_cons_zero, List.set_cons_succ]
      rw [hv6, hv7]
      simp only [Option.getD_some]
      clear hf hv6 hv7 hS hall e14 e15 e0 e1 e2 d0 d1 d2 f2
      have m8 := k8.below hBS k8.lt; have m9 := k9.below hBS k9.lt; have mF := kF.below hBS kF.lt; have mH := kH.below hBS kH.lt
      have mg := kg.below hBS kg.lt; have m1 := k1.below hBS k1.lt; have m2 := k2.below hBS k2.lt
      have hB2 := hB.trans (hBS.mono hB.size)
      have HOUT : Hid (hit = false → ∀ W3, RowKit.Below W2.heap.size W2 W3 → KeepsFrom W0.heap.size W W3 ∧ KPm w.heap.size W W3 ∧ ((((((((VRow W3 w.heap.size 24 [.int .i64 G.q, .int .i64 G.n, .slice (some ⟨b4, o4, none⟩) G.es.length c] ∧ VRow W3 (w.heap.size + 1) 4 [.bool false]) ∧ VRow W3 (w.heap.size + 1 + 1) 27 [.int .i64 0]) ∧ VRow W3 b8 92 [.int .i64 G.q, .int .i64 G.n, .slice (some ⟨b4, o4, none⟩) G.es.length c, (.slice (some ⟨bF, 0, none⟩) M M)]) ∧ VRow W3 b9 92 [.int .i64 G.q, .int .i64 G.n, .slice (some ⟨b4, o4, none⟩) G.es.length c, (.slice (some ⟨bH, 0, none⟩) M M)]) ∧ VRow W3 bF 4 (F.map Value.bool)) ∧ VRow W3 bH 4 (H.map Value.bool)) ∧ RowKit.Below w.heap.size w W3) ∧ Hid (∀ q ∈ (pre ++ [(⟨(i, k), hik⟩ : PrE G.es)]).map Subtype.val, hitP N G.es F H q = false))) := fun h W3 h3 =>
        ⟨KeepsFrom.below (hBS.trans (h3.mono hBS.size)), KPm.below (hBS.trans (h3.mono hBS.size)) hB.size, ⟨⟨⟨⟨⟨⟨⟨⟨mg.below h3 mg.lt, m1.below h3 m1.lt⟩, m2.below h3 m2.lt⟩, m8.below h3 m8.lt⟩, m9.below h3 m9.lt⟩, mF.below h3 mF.lt⟩, mH.below h3 mH.lt⟩, hB2.trans (h3.mono hB2.size)⟩, HSN.out h⟩⟩
      have HK1 := hidI (fun W3 (h3 : RowKit.Below W2.heap.size W2 W3) => m1.below h3 m1.lt)
      have HK2 := hidI (fun W3 (h3 : RowKit.Below W2.heap.size W2 W3) => m2.below h3 m2.lt)
      have HK9 := hidI (fun W3 (h3 : RowKit.Below W2.heap.size W2 W3) => m9.below h3 m9.lt)
      have HKH := hidI (fun W3 (h3 : RowKit.Below W2.heap.size W2 W3) => mH.below h3 mH.lt)
      have HK6 := hidI (fun W3 (h3 : RowKit.Below W2.heap.size W2 W3) => r6.below h3 r6.lt)
      have HK7 := hidI (fun W3 (h3 : RowKit.Below W2.heap.size W2 W3) => r7.below h3 r7.lt)
      have p0 := m8.at 0 rfl; have p1 := m8.at 1 rfl; have p2 := m8.at 2 rfl; have p3 := m8.at 3 rfl
      have g0 := r6.at 0 rfl; have h0 := r7.at 0 rfl
      have HHF := hidI (HH1.out W2 mF)
      clear kg k1 k2 k8 k9 kF kH mg m1 m2 m8 m9 mF mH r6 r7 HH1
      refine hKK _ _ ?_
      by_cases hik2 : i = k
      · have hb : ((i : Int) != (k : Int)) = false := by simp [hik2]
        have HX : Hid (hit = false) := by rw [Hid, HHIT.out]; simp [hik2]
        have HGO := hidI (HOUT.out HX.out W2 (RowKit.Below.refl _ _))
        clear hik2 HHIT HOUT HYE HSN HX HHF HH2
        gi_wp2
        rename_i KX hKX
        refine ⟨trivial, hKX _ _ ?_⟩
        gi_wp2
        rename_i KY hKY
        refine ⟨trivial, hKY _ _ ?_⟩
        gi_wp2
        exact HGO.out
      · have hb : ((i : Int) != (k : Int)) = true := by simp; omega
        have HX : Hid (hit = (h1v && h2v)) := by rw [Hid, HHIT.out]; simp [hik2]
        clear hik2 HHIT
        gi_wp2_with fail
        refine ⟨trivial, ?_⟩
        refine ((callsIn_wide.2 HHF.out).inRound l).mono ?_
        rintro e W3 ⟨rfl, hB3⟩
        clear p0 p1 p2 p3 g0 h0 HHF
        cases h1v
        · have HGO := hidI (HOUT.out HX.out W3 hB3)
          clear HOUT HYE HSN HX HH2
          gi_wp2
          rename_i KY hKY
          refine ⟨trivial, hKY _ _ ?_⟩
          gi_wp2
          exact HGO.out
        · have n9 := HK9.out W3 hB3
          have n6 := HK6.out W3 hB3; have n7 := HK7.out W3 hB3
          have HHS := hidI (HH2.out W3 (HKH.out W3 hB3))
          have p0 := n9.at 0 rfl; have p1 := n9.at 1 rfl; have p2 := n9.at 2 rfl; have p3 := n9.at 3 rfl
          have g2 := n6.at 2 rfl; have h2 := n7.at 2 rfl
          clear n9 n6 n7 HH2 HK9 HK6 HK7 HKH
          gi_wp2_with fail
          refine ⟨trivial, ?_⟩
          refine ((callsIn_wide.2 HHS.out).inRound l).mono ?_
          rintro e W4 ⟨rfl, hB4⟩
          have hB24 := hB3.trans (hB4.mono hB3.size)
          clear p0 p1 p2 p3 g2 h2 HHS
          have k13 := HK1.out W4 hB24; have k14 := HK2.out W4 hB24
          have t0 := k13.at 0 rfl; have s0 := k13.frozen 0
          have t1 := k14.at 0 rfl; have s1 := k14.frozen 0
          have hBS4 := hBS.trans (hB24.mono hBS.size)
          have hB4w := hB2.trans (hB24.mono hB2.size)
          cases h2v
          · have HGO := hidI (HOUT.out HX.out W4 hB24)
            clear HOUT HYE HSN HX
            gi_wp2
            exact HGO.out
          · have HR := hidI (HYE.out HX.out)
            clear HOUT HYE HSN HX
            gi_wp2
            show KeepsFrom W0.heap.size W _ ∧ _
            have q1 := VRow.set (i := 0) (.bool false) k13
            have q2 := k14.other (i := 0) (.bool false) (show w.heap.size + 1 + 1 ≠ w.heap.size + 1 by omega)
            exact ⟨(KeepsFrom.below hBS4).trans (((KeepsOthers.setCell _ _ _).trans (KeepsOthers.setCell _ _ _)).from _), ⟨⟨q1.other _ (show w.heap.size + 1 ≠ w.heap.size + 1 + 1 by omega), VRow.set (i := 0) _ q2⟩, (hB4w.setCell (show w.heap.size ≤ w.heap.size + 1 by omega) _).setCell (show w.heap.size ≤ w.heap.size + 1 + 1 by omega) _⟩, rfl, HR.out⟩
    case done =>
      rintro D ys W hD' hys ⟨⟨⟨⟨⟨⟨⟨⟨kg, k1⟩, k2⟩, k8⟩, k9⟩, kF⟩, kH⟩, hB⟩, hno⟩ hK
      rw [hys] at hno
      have HR := hidI (HNO.out hno.out)
      have hneD : D ≠ w.heap.size + 1 := fun e => by
        subst e
        rw [show W.heap[w.heap.size + 1]? = _ from k1] at hK; cases hK
      have hneE : D ≠ w.heap.size + 1 + 1 := fun e => by
        subst e
        rw [show W.heap[w.heap.size + 1 + 1]? = _ from k2] at hK; cases hK
      have t0 := k1.at 0 rfl; have s0 := k1.frozen 0
      have t1 := k2.at 0 rfl; have s1 := k2.frozen 0
      have q1 := VRow.set (i := 0) (.bool true) k1
      have q2 := k2.other (i := 0) (.bool true) (show w.heap.size + 1 + 1 ≠ w.heap.size + 1 by omega)
      have r1 := q1.other (i := 0) (.int .i64 0) (show w.heap.size + 1 ≠ w.heap.size + 1 + 1 by omega)
      have r2 := VRow.set (i := 0) (.int .i64 0) q2
      have hK1 : ((W.setCell ⟨w.heap.size + 1, 0, none⟩ (.bool true)).setCell ⟨w.heap.size + 1 + 1, 0, none⟩ (.int .i64 0)).heap[D]? = some (.deferred (some [])) := (Below.heap_setCell _ _ _ _ hneE).trans ((Below.heap_setCell _ _ _ _ hneD).trans hK)
      have hB1 := (hB.setCell (show w.heap.size ≤ w.heap.size + 1 by omega) (.bool true) (p := ⟨w.heap.size + 1, 0, none⟩)).setCell (show w.heap.size ≤ w.heap.size + 1 + 1 by omega) (.int .i64 0) (p := ⟨w.heap.size + 1 + 1, 0, none⟩)
      have hDw : w.heap.size ≤ D := Nat.le_trans x0.size hD'
      gi_wp2
      clear k1 k2 kg k8 k9 kF kH hB hK t0 s0 t1 s1 q1 q2
      generalize (W.setCell ⟨w.heap.size + 1, 0, none⟩ (.bool true)).setCell ⟨w.heap.size + 1 + 1, 0, none⟩ (.int .i64 0) = Wz at *
      have ry := r1.put (.deferred none) hK1 rfl
      have rz := r2.put (.deferred none) hK1 rfl
      have y0 := ry.at 0 rfl; have y1 := rz.at 0 rfl
      refine ⟨by simp, .inl ⟨_, _, rfl, run_takeDeferred hK1, ?_⟩⟩
      refine ⟨.tuple #[.bool true, .int .i64 0], by simp [results, Tryz.results39, go_sem, y0, y1], ?_⟩
      exact ⟨by rw [HR.out]; rfl, below_put hB1 hDw hK1 _⟩
    case stop =>
      rintro D c' pre W hD' _ ⟨⟨⟨k1, k2⟩, hB⟩, rfl, hR⟩ hK
      have HR := hidI hR
      have hDw : w.heap.size ≤ D := Nat.le_trans x0.size hD'
      clear hR
      gi_wp2
      have ry := k1.put (.deferred none) hK rfl
      have rz := k2.put (.deferred none) hK rfl
      have y0 := ry.at 0 rfl; have y1 := rz.at 0 rfl
      refine ⟨by simp, .inl ⟨_, _, rfl, run_takeDeferred hK, ?_⟩⟩
      refine ⟨.tuple #[.bool false, .int .i64 0], by simp [results, Tryz.results39, go_sem, y0, y1], ?_⟩
      exact ⟨by rw [HR.out]; rfl, below_put hB hDw hK _⟩
theorem loc_bad {G : Gr} {m a : Int} (h : chkG G ≠ 0) : locA G m a = (false, 1) := if_pos h
theorem loc_out {G : Gr} {m a : Int} (h : chkG G = 0) (ho : m < 0 ∨ 4096 < m ∨ a < 0 ∨ 4096 < a) : locA G m a = (false, 2) := by unfold locA; rw [if_neg (by simpa using h), if_pos ho]
set_option maxRecDepth 100000 in
set_option maxHeartbeats 2000000 in
theorem mmLocal_any (G : Gr) (p : Option Addr) (c : Nat) (m a : Int) (w : World) (hin : Sg 3 w edE p G.es) (hl : G.es.length ≤ 9223372036854775807) :
    Calls Tryz.prog 39 #[(.agg #[.int .i64 G.q, .int .i64 G.n, .slice p G.es.length c]), .int .i64 m, .int .i64 a] w fun e w' => e = .returned (.tuple #[.bool (locA G m a).1, .int .i64 (locA G m a).2]) ∧ RowKit.Below w.heap.size w w' := by
  by_cases hgood : chkG G = 0 ∧ ¬ (m < 0 ∨ 4096 < m ∨ a < 0 ∨ 4096 < a)
  · obtain ⟨hc, hr⟩ := hgood
    have hv := chkG_ok.1 hc
    obtain ⟨m', rfl⟩ : ∃ m' : Nat, m = m' := ⟨m.toNat, by omega⟩
    obtain ⟨a', rfl⟩ : ∃ a' : Nat, a = a' := ⟨a.toNat, by omega⟩
    have h := callsIn_wide.1 (mmLocal_in G p c m' a' G.n.toNat (G.n.toNat * G.n.toNat) hv (by have := hv.n1; omega) rfl (by omega) (by omega) w hin)
    have e : locA G (m' : Int) (a' : Int) = (!partB G.n.toNat G.es (timA (aftF G.n.toNat G.es) m' (allF2 G.n.toNat)) (timA (befF G.n.toNat G.es) a' (allF2 G.n.toNat)), 0) := by
      unfold locA
      rw [if_neg (by simpa using hc), if_neg hr, Int.toNat_natCast, Int.toNat_natCast]
    rw [e]
    exact h
  · obtain ⟨w0, hw0⟩ : ∃ w0, w0 = ((w.alloc (.cells #[.int .i64 G.q, .int .i64 G.n, .slice p G.es.length c] 24)).alloc (.cells #[.bool false] 4)).alloc (.cells #[.int .i64 0] 27) := ⟨_, rfl⟩
    have b0 : VRow w0 w.heap.size 24 [.int .i64 G.q, .int .i64 G.n, .slice p G.es.length c] := by subst hw0; exact ((VRow.new w _ _).alloc _).alloc _
    have b1 : VRow w0 (w.heap.size + 1) 4 [.bool false] := by subst hw0; exact (VRow.new1 w _ _ _).alloc _
    have b2 : VRow w0 (w.heap.size + 1 + 1) 27 [.int .i64 0] := by subst hw0; exact VRow.new2 w _ _ _ _
    have hB0 : RowKit.Below w.heap.size w w0 := by subst hw0; exact (((RowKit.Below.refl _ _).alloc (Nat.le_refl _) _).alloc (by simp) _).alloc (by simp; omega) _
    obtain ⟨r, hr⟩ : ∃ r, chkG G = r := ⟨_, rfl⟩
    have HCK := hidI (gCheck_r G p c w0 r hr (hin.below hB0) hl)
    have f0 := b0.at 0 rfl; have f1 := b0.at 1 rfl; have f2 := b0.at 2 rfl
    obtain ⟨k, hk, hkr⟩ : ∃ k : Int, locA G m a = (false, k) ∧ (k = 1 ∧ r ≠ 0 ∨ k = 2 ∧ r = 0 ∧ (m < 0 ∨ 4096 < m ∨ a < 0 ∨ 4096 < a)) := by
      by_cases h : chkG G = 0
      · exact ⟨2, loc_out h (Classical.byContradiction fun e => hgood ⟨h, e⟩), .inr ⟨rfl, by rw [← hr]; exact h, Classical.byContradiction fun e => hgood ⟨h, e⟩⟩⟩
      · exact ⟨1, loc_bad h, .inl ⟨rfl, by rw [← hr]; exact h⟩⟩
    rw [hk]
    have HEND : Hid (∀ W, VRow W (w.heap.size + 1) 4 [.bool false] → VRow W (w.heap.size + 1 + 1) 27 [.int .i64 0] → RowKit.Below w.heap.size w W →
        ∃ W', W' = (W.setCell ⟨w.heap.size + 1, 0, none⟩ (.bool false)).setCell ⟨w.heap.size + 1 + 1, 0, none⟩ (.int .i64 k) ∧ W'.cell? ⟨w.heap.size + 1, 0, none⟩ = some (.bool false) ∧ W'.cell? ⟨w.heap.size + 1 + 1, 0, none⟩ = some (.int .i64 k) ∧ RowKit.Below w.heap.size w W') := fun W r1 r2 hW => by
      have q1 := VRow.set (i := 0) (.bool false) r1
      have q2 := r2.other (i := 0) (.bool false) (show w.heap.size + 1 + 1 ≠ w.heap.size + 1 by omega)
      have t1 := q1.other (i := 0) (.int .i64 k) (show w.heap.size + 1 ≠ w.heap.size + 1 + 1 by omega)
      have t2 := VRow.set (i := 0) (.int .i64 k) q2
      exact ⟨_, rfl, t1.at 0 rfl, t2.at 0 rfl, (hW.setCell (show w.heap.size ≤ w.heap.size + 1 by omega) _).setCell (show w.heap.size ≤ w.heap.size + 1 + 1 by omega) _⟩
    clear hk hr hin hgood
    go_enter Tryz.func39, Tryz.ntmps39
    go_upto_region 1 with fail
    rw [← hw0]
    clear hw0
    go_wp2_with fail
    refine HCK.out.mono ?_
    rintro e w1 ⟨rfl, hB1⟩
    have x1 := hB0.trans (hB1.mono hB0.size)
    have c1 := b1.below hB1 b1.lt; have c2 := b2.below hB1 b2.lt
    have HE := hidI (HEND.out w1 c1 c2 x1)
    have k1 := c1.at 0 rfl; have k2 := c2.at 0 rfl
    have z1 := c1.frozen 0; have z2 := c2.frozen 0
    clear f0 f1 f2 b0 b1 b2 HCK HEND c1 c2
    rcases hkr with ⟨rfl, hr0⟩ | ⟨rfl, rfl, ho⟩
    · have hrb : (r != 0) = true := by simpa using hr0
      clear hr0
      go_wp2_with fail
      obtain ⟨W', hW', y0, y1, hBW⟩ := HE.out
      rw [← hW']
      exact bodyPost_ret (v := .tuple #[.bool false, .int .i64 1]) (by simp [results, Tryz.results39, go_sem, y0, y1]) rfl ⟨rfl, hBW⟩
    · have hO := hidI ho
      clear ho
      by_cases h1 : m < 0
      · go_wp2_with fail
        obtain ⟨W', hW', y0, y1, hBW⟩ := HE.out
        rw [← hW']
        exact bodyPost_ret (v := .tuple #[.bool false, .int .i64 2]) (by simp [results, Tryz.results39, go_sem, y0, y1]) rfl ⟨rfl, hBW⟩
      · by_cases h2 : 4096 < m
        · go_wp2_with fail
          obtain ⟨W', hW', y0, y1, hBW⟩ := HE.out
          rw [← hW']
          exact bodyPost_ret (v := .tuple #[.bool false, .int .i64 2]) (by simp [results, Tryz.results39, go_sem, y0, y1]) rfl ⟨rfl, hBW⟩
        · by_cases h3 : a < 0
          · go_wp2_with fail
            obtain ⟨W', hW', y0, y1, hBW⟩ := HE.out
            rw [← hW']
            exact bodyPost_ret (v := .tuple #[.bool false, .int .i64 2]) (by simp [results, Tryz.results39, go_sem, y0, y1]) rfl ⟨rfl, hBW⟩
          · have h4 : 4096 < a := by have := hO.out; omega
            go_wp2_with fail
            obtain ⟨W', hW', y0, y1, hBW⟩ := HE.out
            rw [← hW']
            exact bodyPost_ret (v := .tuple #[.bool false, .int .i64 2]) (by simp [results, Tryz.results39, go_sem, y0, y1]) rfl ⟨rfl, hBW⟩
end Go.Proofs.YtocbhlohcikapaaGreatDoor
namespace Go.Proofs.YtocbhlohcikapaaGreatDoor
open Go.RowKit Go.Sort Go.Shelf Go.Lib
theorem mlocal_plain {G : Gr} (hc : chkG G = 0) {k n : Int} (k0 : 0 ≤ k) (k1 : k < 8) (n0 : 0 ≤ n) (n1 : n < 8) :
    ∃ X I Y J D now more later, memA G = (X, I, 0) ∧ antA G = (Y, J, 0) ∧ detA G = (D, 0) ∧ locA G k n = (now, 0) ∧ locA G (k + 1) n = (more, 0) ∧ locA G k (n + 1) = (later, 0) ∧
      (D = true → J = true ∧ Y = 0) ∧ (now = true → more = true ∧ later = true) ∧ (I = true → J = true → locA G X Y = (true, 0)) := by
  obtain ⟨m0, m1, m2, _⟩ := mem_ok3 hc
  obtain ⟨a0, a1, a2, _⟩ := ant_ok3 hc
  refine ⟨(memA G).1, (memA G).2.1, (antA G).1, (antA G).2.1, detB G.es, (locA G k n).1, (locA G (k + 1) n).1, (locA G k (n + 1)).1, by rw [← m2], by rw [← a2], detA_ok hc, ?_, ?_, ?_, fun h => ?_, fun h => ?_, fun h1 h2 => loc_both hc h1 h2⟩
  · rw [loc_ok hc k0 (by omega) n0 (by omega)]
  · rw [loc_ok hc (by omega) (by omega) n0 (by omega)]
  · rw [loc_ok hc k0 (by omega) (by omega) (by omega)]
  · rw [ant_det hc h]; exact ⟨rfl, rfl⟩
  · exact loc_more hc k0 (by omega) n0 (by omega) h
set_option maxRecDepth 100000 in
set_option maxHeartbeats 4000000 in
theorem lawMLocal_any (G : Gr) (p : Option Addr) (c : Nat) (x y : Int) (hx0 : 0 ≤ x) (hx1 : x ≤ 255) (hy0 : 0 ≤ y) (hy1 : y ≤ 255) (w : World) (hin : Sg 3 w edE p G.es) (hl : G.es.length ≤ 9223372036854775807) :
    Calls Tryz.prog 7 #[(.agg #[.int .i64 G.q, .int .i64 G.n, .slice p G.es.length c]), .int .u8 x, .int .u8 y] w fun e w' => e = .returned (.bool true) ∧ RowKit.Below w.heap.size w w' := by
  obtain ⟨w0, hw0⟩ : ∃ w0, w0 = w.alloc (.cells #[.int .i64 G.q, .int .i64 G.n, .slice p G.es.length c] 24) := ⟨_, rfl⟩
  have b0 : VRow w0 w.heap.size 24 [.int .i64 G.q, .int .i64 G.n, .slice p G.es.length c] := by subst hw0; exact VRow.new w _ _
  have hB0 : RowKit.Below w.heap.size w w0 := by subst hw0; exact (RowKit.Below.refl _ _).alloc (Nat.le_refl _) _
  have HAW := hidI awake15_any
  have HFI := hidI (fine15_any G p c w0 (hin.below hB0) hl)
  have g0 := b0.at 0 rfl; have g1 := b0.at 1 rfl; have g2 := b0.at 2 rfl
  by_cases hf : finB G = true
  · obtain ⟨hc, _, _, _⟩ := fin_iff.1 hf
    obtain ⟨k, hk⟩ : ∃ k, k = x % 8 := ⟨_, rfl⟩
    obtain ⟨n, hn⟩ : ∃ n, n = y % 8 := ⟨_, rfl⟩
    have k0 : 0 ≤ k := by omega
    have k1 : k < 8 := by omega
    have n0 : 0 ≤ n := by omega
    have n1 : n < 8 := by omega
    obtain ⟨X, I, Y, J, D, now, more, later, hM, hA, hD, hL1, hL2, hL3, hpD, hpN, hpB⟩ := mlocal_plain hc k0 k1 n0 n1
    have HM := hidI (fun W (hW : RowKit.Below w0.heap.size w0 W) => mmMemory_any G p c W ((hin.below hB0).below hW) hl)
    have HA := hidI (fun W (hW : RowKit.Below w0.heap.size w0 W) => mmAntic_any G p c W ((hin.below hB0).below hW) hl)
    have HD := hidI (fun W (hW : RowKit.Below w0.heap.size w0 W) => gDet_any G p c W ((hin.below hB0).below hW) hl)
    have HL1 := hidI (fun W (hW : RowKit.Below w0.heap.size w0 W) => mmLocal_any G p c k n W ((hin.below hB0).below hW) hl)
    have HL2 := hidI (fun W (hW : RowKit.Below w0.heap.size w0 W) => mmLocal_any G p c (k + 1) n W ((hin.below hB0).below hW) hl)
    have HL3 := hidI (fun W (hW : RowKit.Below w0.heap.size w0 W) => mmLocal_any G p c k (n + 1) W ((hin.below hB0).below hW) hl)
    have HL4 := hidI (fun W (hW : RowKit.Below w0.heap.size w0 W) => mmLocal_any G p c X Y W ((hin.below hB0).below hW) hl)
    rw [hM] at HM; rw [hA] at HA; rw [hD] at HD; rw [hL1] at HL1; rw [hL2] at HL2; rw [hL3] at HL3
    have q1 : x.tmod 8 = k := by rw [Int.tmod_eq_emod_of_nonneg hx0]; exact hk.symm
    have q2 : y.tmod 8 = n := by rw [Int.tmod_eq_emod_of_nonneg hy0]; exact hn.symm
    have q1' : x % 8 = k := hk.symm
    have q2' : y % 8 = n := hn.symm
    have q3 : IntKind.i64.wrap x = x := IntWalk.i64_in _ (by omega)
    have q4 : IntKind.i64.wrap y = y := IntWalk.i64_in _ (by omega)
    have q5 : IntKind.i64.wrap k = k := IntWalk.i64_in _ (by omega)
    have q6 : IntKind.i64.wrap n = n := IntWalk.i64_in _ (by omega)
    have q7 : IntKind.i64.wrap (k + 1) = k + 1 := IntWalk.i64_in _ (by omega)
    have q8 : IntKind.i64.wrap (n + 1) = n + 1 := IntWalk.i64_in _ (by omega)
    have hmx := run_mx6
    rw [hf] at HFI
    clear hf hc hM hA hD hL1 hL2 hL3 hin hk hn
    go_enter Tryz.func7, Tryz.ntmps7
    go_upto_region 1 with fail
    rw [← hw0]
    clear hw0
    go_wp2_with fail
    refine HFI.out.mono ?_
    rintro e w1 ⟨rfl, hB1⟩
    have x1 := hB1
    (clear g0 g1 g2; have c0 := b0.below x1 b0.lt; have g0 := c0.at 0 rfl; have g1 := c0.at 1 rfl; have g2 := c0.at 2 rfl; clear c0)
    go_wp2_with fail
    refine (HM.out w1 x1).mono ?_
    rintro e w2 ⟨rfl, hB2⟩
    have x2 := x1.trans (hB2.mono x1.size)
    (clear g0 g1 g2; have c0 := b0.below x2 b0.lt; have g0 := c0.at 0 rfl; have g1 := c0.at 1 rfl; have g2 := c0.at 2 rfl; clear c0)
    go_wp2_with fail
    refine (HA.out w2 x2).mono ?_
    rintro e w3 ⟨rfl, hB3⟩
    have x3 := x2.trans (hB3.mono x2.size)
    (clear g0 g1 g2; have c0 := b0.below x3 b0.lt; have g0 := c0.at 0 rfl; have g1 := c0.at 1 rfl; have g2 := c0.at 2 rfl; clear c0)
    go_wp2_with fail
    refine (HD.out w3 x3).mono ?_
    rintro e w4 ⟨rfl, hB4⟩
    have x4 := x3.trans (hB4.mono x3.size)
    (clear g0 g1 g2; have c0 := b0.below x4 b0.lt; have g0 := c0.at 0 rfl; have g1 := c0.at 1 rfl; have g2 := c0.at 2 rfl; clear c0)
    go_wp2_with fail
    refine (HL1.out w4 x4).mono ?_
    rintro e w5 ⟨rfl, hB5⟩
    have x5 := x4.trans (hB5.mono x4.size)
    (clear g0 g1 g2; have c0 := b0.below x5 b0.lt; have g0 := c0.at 0 rfl; have g1 := c0.at 1 rfl; have g2 := c0.at 2 rfl; clear c0)
    go_wp2_with fail
    refine (HL2.out w5 x5).mono ?_
    rintro e w6 ⟨rfl, hB6⟩
    have x6 := x5.trans (hB6.mono x5.size)
    (clear g0 g1 g2; have c0 := b0.below x6 b0.lt; have g0 := c0.at 0 rfl; have g1 := c0.at 1 rfl; have g2 := c0.at 2 rfl; clear c0)
    go_wp2_with fail
    refine (HL3.out w6 x6).mono ?_
    rintro e w7 ⟨rfl, hB7⟩
    have x7 := x6.trans (hB7.mono x6.size)
    (clear g0 g1 g2; have c0 := b0.below x7 b0.lt; have g0 := c0.at 0 rfl; have g1 := c0.at 1 rfl; have g2 := c0.at 2 rfl; clear c0)
    have HPD := hidI hpD; have HPN := hidI hpN; have HPB := hidI hpB
    clear hpD hpN hpB HM HA HD HL1 HL2 HL3 HFI hB1 hB2 hB3 hB4 hB5 hB6 hB7 x1 x2 x3 x4 x5 x6 q1 q2 q1' q2' q3 q4 q5 q6 q7 q8 k0 k1 n0 n1 hx0 hx1 hy0 hy1
    have HEND : Hid (RowKit.Below w.heap.size w w7) := hB0.trans (x7.mono hB0.size)
    have HL4 := hidI (HL4.out w7 x7)
    clear x7 hB0 b0
    cases D
    · cases now
      · cases I
        · (clear HPD HPN HPB HL4; go_wp2_with fail; refine (HAW.out w7).mono ?_; rintro e w8 ⟨rfl, hB8⟩; go_wp2; go_ret; exact ⟨rfl, HEND.out.trans (hB8.mono HEND.out.size)⟩)
        · cases J
          · (clear HPD HPN HPB HL4; go_wp2_with fail; refine (HAW.out w7).mono ?_; rintro e w8 ⟨rfl, hB8⟩; go_wp2; go_ret; exact ⟨rfl, HEND.out.trans (hB8.mono HEND.out.size)⟩)
          · rw [HPB.out rfl rfl] at HL4
            (clear HPD HPN HPB; go_wp2_with fail; refine HL4.out.mono ?_; rintro e w8 ⟨rfl, hB8⟩; have x8 := HEND.out.trans (hB8.mono HEND.out.size); clear g0 g1 g2; go_wp2_with fail; refine (HAW.out w8).mono ?_; rintro e w9 ⟨rfl, hB9⟩; go_wp2; go_ret; exact ⟨rfl, x8.trans (hB9.mono x8.size)⟩)
      · obtain ⟨e1, e2⟩ := HPN.out rfl
        subst e1; subst e2
        cases I
        · (clear HPD HPN HPB HL4; go_wp2_with fail; refine (HAW.out w7).mono ?_; rintro e w8 ⟨rfl, hB8⟩; go_wp2; go_ret; exact ⟨rfl, HEND.out.trans (hB8.mono HEND.out.size)⟩)
        · cases J
          · (clear HPD HPN HPB HL4; go_wp2_with fail; refine (HAW.out w7).mono ?_; rintro e w8 ⟨rfl, hB8⟩; go_wp2; go_ret; exact ⟨rfl, HEND.out.trans (hB8.mono HEND.out.size)⟩)
          · rw [HPB.out rfl rfl] at HL4
            (clear HPD HPN HPB; go_wp2_with fail; refine HL4.out.mono ?_; rintro e w8 ⟨rfl, hB8⟩; have x8 := HEND.out.trans (hB8.mono HEND.out.size); clear g0 g1 g2; go_wp2_with fail; refine (HAW.out w8).mono ?_; rintro e w9 ⟨rfl, hB9⟩; go_wp2; go_ret; exact ⟨rfl, x8.trans (hB9.mono x8.size)⟩)
    · obtain ⟨e1, e2⟩ := HPD.out rfl
      subst e1; subst e2
      cases now
      · cases I
        · (clear HPD HPN HPB HL4; go_wp2_with fail; refine (HAW.out w7).mono ?_; rintro e w8 ⟨rfl, hB8⟩; go_wp2; go_ret; exact ⟨rfl, HEND.out.trans (hB8.mono HEND.out.size)⟩)
        · rw [HPB.out rfl rfl] at HL4
          (clear HPD HPN HPB; go_wp2_with fail; refine HL4.out.mono ?_; rintro e w8 ⟨rfl, hB8⟩; have x8 := HEND.out.trans (hB8.mono HEND.out.size); clear g0 g1 g2; go_wp2_with fail; refine (HAW.out w8).mono ?_; rintro e w9 ⟨rfl, hB9⟩; go_wp2; go_ret; exact ⟨rfl, x8.trans (hB9.mono x8.size)⟩)
      · obtain ⟨e1, e2⟩ := HPN.out rfl
        subst e1; subst e2
        cases I
        · (clear HPD HPN HPB HL4; go_wp2_with fail; refine (HAW.out w7).mono ?_; rintro e w8 ⟨rfl, hB8⟩; go_wp2; go_ret; exact ⟨rfl, HEND.out.trans (hB8.mono HEND.out.size)⟩)
        · rw [HPB.out rfl rfl] at HL4
          (clear HPD HPN HPB; go_wp2_with fail; refine HL4.out.mono ?_; rintro e w8 ⟨rfl, hB8⟩; have x8 := HEND.out.trans (hB8.mono HEND.out.size); clear g0 g1 g2; go_wp2_with fail; refine (HAW.out w8).mono ?_; rintro e w9 ⟨rfl, hB9⟩; go_wp2; go_ret; exact ⟨rfl, x8.trans (hB9.mono x8.size)⟩)
  · have hf' : finB G = false := by simpa using hf
    rw [hf'] at HFI
    clear hf hf' hin
    go_enter Tryz.func7, Tryz.ntmps7
    go_upto_region 1 with fail
    rw [← hw0]
    clear hw0
    go_wp2_with fail
    refine HFI.out.mono ?_
    rintro e w1 ⟨rfl, hB1⟩
    have x1 := hB0.trans (hB1.mono hB0.size)
    go_wp2_with fail
    refine (HAW.out w1).mono ?_
    rintro e w2 ⟨rfl, hB2⟩
    go_wp2
    go_ret
    exact ⟨rfl, x1.trans (hB2.mono x1.size)⟩
end Go.Proofs.YtocbhlohcikapaaGreatDoor
namespace Go.Proofs.YtocbhlohcikapaaGreatDoor
open Go.Joins Go.ChangeShapes Go.WideShapes Go.ChangeAt Go.RowKit Go.Deep
set_option maxRecDepth 100000 in
theorem memoryLocal_door (os : Os) (args : Array Value) : laidMetH Tryz.prog Rows.memoryLocalRow.laid ((World.doorLaid Tryz.prog 24 os).forCall (fun _ _ => 0) ⟨#[], args, []⟩).memory :=
  laidMetH_of_parts3 (fuel := 8) (laidMet_of_run' 8 (by kernel_rfl) (by kernel_rfl)) (by kernel_rfl) (by kernel_rfl)
theorem bounds_u8M {q : Int} (h : (Lit.int .u8 q).wf = true) : 0 ≤ q ∧ q ≤ 255 := by
  have := h
  simp [Lit.wf, IntKind.min, IntKind.max, IntKind.bits, IntKind.signed] at this
  exact this
theorem readU8M : Tryz.prog.readableRec 5 = true ∧ 5 < Tryz.prog.types.size := ⟨by kernel_rfl, of_decide_eq_true (by kernel_rfl)⟩
set_option maxRecDepth 100000 in
theorem memoryLocal_lifted (os : Os) (started : os.Started) (H : Type) (enc : TypeId × Value → H) :
    ReturnsInHanded {} Tryz.checked os 7 .any (fun w args => (Rows.memoryLocalSpec.pre enc Tryz.prog Tryz.f7 [] false w args ∧ laidMetH Tryz.prog Rows.memoryLocalRow.laid w) ∧ sizedMet enc Tryz.prog Tryz.f7 (OpenSpec.ofChange Rows.memoryLocalSpec) false w args)
      (Rows.memoryLocalSpec.post enc Tryz.prog Tryz.f7 false true false false) := by
  refine returnsInHanded_of_change_and (C := Tryz.checked) (X := fun w _ => laidMetH Tryz.prog Rows.memoryLocalRow.laid w) (fun _ _ _ hh h => h.of_heap hh) own started (by kernel_rfl) Tryz.func7
    (ChangeSpec.witness_shaped (enc := enc) (C := Tryz.checked) (os := os) (X := fun w _ => laidMetH Tryz.prog Rows.memoryLocalRow.laid w) false (World.doorLaid Tryz.prog 24 os) #[.agg #[.int .i64 0, .int .i64 0, .slice none 0 0], .int .u8 0, .int .u8 0] 8 rfl (World.shaped_of_RefB (by kernel_rfl) (by kernel_rfl)) (by kernel_rfl) (by kernel_rfl) (by kernel_rfl) (memoryLocal_door os _)) ?_
  intro W base args ds gs before hval0 hW _ _ _ _
  have hval : ∀ (j : Nat) t v, Tryz.f7.params[j]? = some t → args[j]? = some v → Value.okWide Tryz.prog W .any base t v := hval0
  have hW' := hW
  obtain ⟨p, q, hA0, hV, rfl, hfz, hnd⟩ := hW
  have hA : DataW.TrodAll enc Tryz.prog W 0 (fun _ => true) true Tryz.f7.params.toList args.toList ds p := hA0
  rw [Tryz.params7] at hA hval
  obtain ⟨v0, v1, v2, d0, d1, d2, p0, p1, p2, rfl, rfl, rfl, h0, h1, h2⟩ := trodAll_three hA
  obtain ⟨rfl, rfl⟩ := trodVars_none hV
  have hlt : ∀ x ∈ p0 ++ (p1 ++ p2), x.block < W.heap.size := fun x hx => hW'.lt x (List.mem_append_left _ (by simpa using hx))
  obtain ⟨G0, q0, c0, rfl, s0, l0⟩ := graph_in (hval 0 24 v0 rfl rfl) h0 (fun x hx => hlt x (by simp only [List.mem_append]; simp [hx]))
  obtain ⟨n1, rfl, rfl, rfl, wf1⟩ := open_int Tryz.underlying5 (hval 1 5 v1 rfl rfl) h1
  obtain ⟨n2, rfl, rfl, rfl, wf2⟩ := open_int Tryz.underlying5 (hval 2 5 v2 rfl rfl) h2
  refine (lawMLocal_any G0 q0 c0 n1 n2 (bounds_u8M wf1).1 (bounds_u8M wf1).2 (bounds_u8M wf2).1 (bounds_u8M wf2).2 W s0 l0).mono fun e W' ⟨he, hB⟩ => ?_
  subst he
  refine ⟨_, rfl, law_post hW' rfl (by kernel_rfl) ?_ rfl rfl rfl hB⟩
  rw [Tryz.params7]
  intro t ht
  simp only [List.mem_cons, List.not_mem_nil, or_false] at ht
  rcases ht with rfl | rfl | rfl
  · exact readGraph
  · exact readU8M
  · exact readU8M
theorem memoryLocal_holds : Rows.MemoryLocalSaid :=
  OpenClaim.holds_of_wide 7 Tryz.f7 rfl rfl rfl rfl rfl rfl rfl ⟨rfl, rfl, rfl, rfl, rfl⟩ rfl rfl rfl rfl rfl (by kernel_rfl) Tryz.func7 (by kernel_rfl)
    (of_decide_eq_true (by kernel_rfl)) (by unfold Func.isWrapper; rw [if_neg (of_decide_eq_false (by kernel_rfl))]; exact ⟨rfl, rfl⟩)
    (fun os started H enc _ => memoryLocal_lifted os started H enc)
theorem memoryLocal_card : Rows.MemoryLocalCardSaid :=
  Claim7.holds_tied_plain_at .later [] [.data, .data, .data] true _ false
    memoryLocal_holds (fun _ h => by cases h) (by kernel_rfl) (fun _ h => by cases h) memoryLocal_row_tie rfl ⟨rfl, rfl⟩ (by kernel_rfl) rfl
    (fun f fn hf hfn => by
      obtain rfl : f = 7 := Option.some.inj ((show Tryz.prog.funcNamed "groove/groovelaw15.MemoryLocal" = some 7 by kernel_rfl).symm.trans hf) |>.symm
      obtain rfl : fn = Tryz.f7 := (Option.some.inj (Tryz.func7.symm.trans hfn)).symm
      exact ⟨by kernel_rfl, fun j t ht => by
        rw [Tryz.params7] at ht
        rcases j with _ | _ | _ | j
        · obtain rfl : t = 24 := by simpa using ht.symm
          exact (show Tryz.prog.wantsStandIn 24 = false by kernel_rfl)
        · obtain rfl : t = 5 := by simpa using ht.symm
          exact (show Tryz.prog.wantsStandIn 5 = false by kernel_rfl)
        · obtain rfl : t = 5 := by simpa using ht.symm
          exact (show Tryz.prog.wantsStandIn 5 = false by kernel_rfl)
        · simp at ht⟩)
    (by kernel_rfl)
#print axioms memoryLocal_card
end Go.Proofs.YtocbhlohcikapaaGreatDoor
