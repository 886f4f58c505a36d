/-
  Words, plain lemmas and walks, merged: Nk, Nt, Hm, Ho, Hl, Hn, Hk, Hs, Mk, Hy, Hj.
-/
import Derived.Test.YtmdjndbjfgncmaaMg13g
import Derived.Test.YtmdjndbjfgncmaaMg13c
import Derived.Test.YtmdjndbjfgncmaaMg13b
import Derived.Test.YtmdjndbjfgncmaaMg13a
import Derived.RangeFuncNested
import Derived.RangeFuncBound
import Derived.RangeFuncCalls
import Derived.RangeFuncLeaves
import Derived.Shelf.Abstract
import Derived.Shelf.RegionOpen
import Derived.OwnWalkIn
import Derived.TacticsInMore
import Derived.LoopNIn
import Derived.LoopIn
import Derived.Test.YtmdjndbjfgncmaaProg
import Derived.Test.YtmdjndbjfgncmaaMg13d
import Derived.Sort.OwnSortedInts
import Derived.Lib.SlicesCompact
set_option linter.unusedVariables false
set_option linter.unusedSimpArgs false
namespace Go.Proofs.Ytmdjndbjfgncmaa
open Go.RowKit Go.Sort Go.Shelf Go.Lib

set_option maxRecDepth 100000 in
set_option maxHeartbeats 4000000 in
theorem rmMerge_any (G : Gr) (p : Option Addr) (c : Nat) (w : World) (hin : Sg 3 w edE p G.es) (hl : G.es.length ≤ 9223372036854775807) :
    Calls Try.prog 11 #[(.agg #[.int .i64 G.q, .int .i64 G.n, .slice p G.es.length c])] w (RetMe (merA G).1 (merA G).2.1 (merA G).2.2 w) := by
  obtain ⟨i0, hi0, hz0, hz1, hz2⟩ := info_parts infoE
  obtain ⟨w0, hw0⟩ : ∃ w0, w0 = (w.alloc (.cells #[.int .i64 G.q, .int .i64 G.n, .slice p G.es.length c] 24)).alloc (.cells #[.int .i64 0, .int .i64 0, .slice none 0 0] 24) := ⟨_, rfl⟩
  have b0 : VRow w0 w.heap.size 24 [.int .i64 G.q, .int .i64 G.n, .slice p G.es.length c] := by subst hw0; exact (VRow.new w _ _).alloc _
  have b1 : VRow w0 (w.heap.size + 1) 24 [.int .i64 0, .int .i64 0, .slice none 0 0] := by subst hw0; exact VRow.new1 w _ _ _
  have hB0 : RowKit.Below w.heap.size w w0 := by subst hw0; exact ((RowKit.Below.refl _ _).alloc (Nat.le_refl _) _).alloc (by simp) _
  have HIN := hidI (hin.below hB0)
  have HCH := hidI (rmcheck_any G p c w0 HIN.out hl)
  have hs0 : w.heap.size + 2 ≤ w0.heap.size := by subst hw0; simp
  clear hin
  obtain ⟨r, hr⟩ : ∃ r, chkD G = r := ⟨_, rfl⟩
  rw [hr] at HCH
  by_cases h1 : r = 0
  · subst h1
    have HK := hidI (merA_ok hr)
    obtain ⟨hv, hd⟩ := chkD_iff.1 hr
    have HV := hidI hv
    have HP := hidI (fun W (hW : RowKit.Below w0.heap.size w0 W) => rclasses_any G p c W (HIN.out.below hW) hv)
    have HBD := hidI (@cl_bd G)
    have HCLN := hidI (cl_len G)
    have HMG : Hid (mgA G = makeA G.q (mxC (clA G)) (G.es.map (mgE (clA G)))) := rfl
    obtain ⟨N, hN⟩ : ∃ N : Nat, G.n = N := ⟨G.n.toNat, by have := hv.n1; omega⟩
    have HN := hidI hN
    have hn64 : N ≤ 64 := by have := hv.n2; omega
    have hlen := hv.len
    rw [show G.n.toNat = N by rw [hN]; rfl] at HCLN
    clear hr hv hd hN
    generalize clA G = C at *
    go_enter Try.func11, Try.ntmps11
    go_wp2_with fail
    rw [← hw0]
    clear hw0
    refine HCH.out.mono ?_
    rintro e wa ⟨rfl, hBa⟩
    have a0 := b0.below hBa b0.lt
    have a1 := b1.below hBa b1.lt
    have xa := hB0.trans (hBa.mono hB0.size)
    have f0 := a0.at 0 rfl; have f1 := a0.at 1 rfl; have f2 := a0.at 2 rfl
    have HBA := hidI hBa
    have hsa : w.heap.size + 2 ≤ wa.heap.size := Nat.le_trans hs0 hBa.size
    go_wp2_with fail
    refine (HP.out wa hBa).mono ?_
    rintro e w1 ⟨cb, rfl, hcb, hrC, hB1⟩
    have x1 := xa.trans (hB1.mono xa.size)
    have HB1 := hidI (HBA.out.trans (hB1.mono HBA.out.size))
    have c0 := a0.below hB1 a0.lt
    have c1 := a1.below hB1 a1.lt
    clear f0 f1 f2
    have f1 := c0.at 1 rfl
    rw [HN.out] at f1
    have hclN : N = C.length := HCLN.out.symm
    rw [hclN] at f1
    have hcl64 : C.length ≤ 64 := by omega
    clear hB1 b0 b1 hB0 HP hBa a0 a1 hclN
    go_wp2
    go_loop [7, 8] (fun nv iv => ∃ k : Nat, k ≤ C.length ∧ iv = .int .i64 k ∧ nv = .int .i64 (mxC (C.take k))) (fun _ iv => C.length - (intOf iv).toNat)
    case atStart => exact ⟨0, by omega, rfl, rfl⟩
    case round =>
      obtain ⟨k, hk, rfl, rfl⟩ := hrel
      by_cases hlt : k < C.length
      · have hltI : (k : Int) < (C.length : Int) := by omega
        have e1 := hrC.at k (v := .int .i64 C[k]) (by simp [hlt])
        have hb := HBD.out _ (List.getElem_mem hlt)
        have hm := mxC_gen (C.take k) 0 (fun x hx => by have := HBD.out x (List.mem_of_mem_take hx); have := HN.out; omega) (by omega) (by omega)
        have HS : Hid (mxC (C.take (k + 1)) = max (mxC (C.take k)) (C[k] + 1)) := by rw [Hid, List.take_succ_eq_append_getElem hlt, mxC_snoc]
        change 0 ≤ mxC (C.take k) ∧ mxC (C.take k) ≤ 1001 at hm
        have hx2 : 0 ≤ C[k] ∧ C[k] ≤ 64 := by have := HN.out; omega
        clear hb
        generalize mxC (C.take k) = m at *
        generalize C[k] = x at *
        go_wp2
        go_round
        case rel => exact ⟨k + 1, by omega, by go_num, by rw [HS.out]⟩
        case measure => simp [intOf]; omega
      · have hltI : ¬ (k : Int) < (C.length : Int) := by omega
        obtain rfl : k = C.length := by omega
        rw [List.take_length]
        have hm := mxC_gen C 0 (fun x hx => by have := HBD.out x hx; have := HN.out; omega) (by omega) (by omega)
        change 0 ≤ mxC C ∧ mxC C ≤ 1001 at hm
        generalize hmx : mxC C = m at *
        have hmx := hidI hmx
        go_wp2
        clear f1
        go_loopw [9, 10] (fun ov iv wr => ∃ k : Nat, k ≤ G.es.length ∧ iv = .int .i64 k ∧ wr.ownsRow w1.heap.size 47 3 ov k (cat ((G.es.take k).map (mgE C))) ∧ RowKit.Below w1.heap.size w1 wr) (fun _ iv _ => G.es.length - (intOf iv).toNat)
        case atStart => exact ⟨0, by omega, rfl, World.ownsRow_nil _ _ _ _, RowKit.Below.refl _ _⟩
        case round =>
          obtain ⟨k, hk, rfl, hown, hB⟩ := hrel
          have xr := x1.trans (hB.mono x1.size)
          have cr := c0.below hB c0.lt
          have cs := c1.below hB c1.lt
          have f0 := cr.at 0 rfl; have f1 := cr.at 1 rfl; have f2 := cr.at 2 rfl
          by_cases hlt : k < G.es.length
          · have hltI : (k : Int) < (G.es.length : Int) := by omega
            obtain ⟨b3, o3, rfl, hb3, e0, e1, e2⟩ := (HIN.out.below (show RowKit.Below w0.heap.size w0 wr from HB1.out.trans (hB.mono HB1.out.size))).get3 k hlt rfl
            have hins := HV.out.ins _ (List.getElem_mem hlt)
            have HNN := hidI (mg_snoc C G.es k hlt)
            generalize (G.es.take k).map (mgE C) = M at *
            generalize hx : G.es[k] = x at *
            obtain ⟨xf, xl, xt⟩ := x
            have hins : 0 ≤ xf ∧ 0 ≤ xl ∧ 0 ≤ xt ∧ xf < G.n ∧ xt < G.n ∧ xl < G.q := hins
            have e0 : wr.cell? ⟨b3, o3 + k * 3, none⟩ = some (.int .i64 xf) := e0
            have e1 : wr.cell? ⟨b3, o3 + k * 3 + 1, none⟩ = some (.int .i64 xl) := e1
            have e2 : wr.cell? ⟨b3, o3 + k * 3 + 2, none⟩ = some (.int .i64 xt) := e2
            obtain ⟨F, rfl⟩ : ∃ F : Nat, xf = F := ⟨xf.toNat, by omega⟩
            obtain ⟨T, rfl⟩ : ∃ T : Nat, xt = T := ⟨xt.toNat, by omega⟩
            have hF : F < C.length := by have := HCLN.out; have := HN.out; omega
            have hT : T < C.length := by have := HCLN.out; have := HN.out; omega
            have hFI : (F : Int) < (C.length : Int) := by omega
            have hTI : (T : Int) < (C.length : Int) := by omega
            have hbF := HBD.out _ (List.getElem_mem hF)
            have hbT := HBD.out _ (List.getElem_mem hT)
            have HMX : Hid (mgE C ⟨(F : Int), xl, (T : Int)⟩ = ⟨C[F], xl, C[T]⟩) := by
              rw [Hid]; unfold mgE; simp only; rw [cg_get hF, cg_get hT]
            have hrCr := hrC.below hB hrC.lt
            obtain ⟨wb, hwb⟩ : ∃ wb, wb = wr.alloc (.cells #[.int .i64 (F : Int), .int .i64 xl, .int .i64 (T : Int)] 47) := ⟨_, rfl⟩
            have bx : VRow wb wr.heap.size 47 [.int .i64 (F : Int), .int .i64 xl, .int .i64 (T : Int)] := by subst hwb; exact VRow.new wr _ _
            have hBb : RowKit.Below wr.heap.size wr wb := by subst hwb; exact (RowKit.Below.refl _ _).alloc (Nat.le_refl _) _
            have hownb : wb.ownsRow w1.heap.size 47 3 u9 k (cat M) := by subst hwb; exact hown.alloc _
            have hBw := hB.trans (hBb.mono hB.size)
            have hrCb := hrCr.below hBb hrCr.lt
            have k0 := bx.at 0 rfl; have k1 := bx.at 1 rfl; have k2 := bx.at 2 rfl
            have k3 := hrCb.at F (v := .int .i64 (C[F]'hF)) (by simp [hF])
            have k4 := hrCb.at T (v := .int .i64 (C[T]'hT)) (by simp [hT])
            have hnx : some wr.heap.size ≠ u9.ownBlock := fun h => by have := (hown.lt _ h.symm).2; omega
            have hnc : some cb ≠ u9.ownBlock := fun h => by have := (hown.lt _ h.symm).1; have := hrC.lt; omega
            obtain ⟨xb, hxb⟩ : ∃ xb, xb = wr.heap.size := ⟨_, rfl⟩
            rw [← hxb] at hnx
            rw [← hxb] at k0 k1 k2
            generalize C[F]'hF = cf at *
            generalize C[T]'hT = ct at *
            have HBG : Hid (∀ (o : Obj) (wA : World), ((wb.alloc o).drew).grownBy wA u9.ownBlock → RowKit.Below w1.heap.size w1 wA) := fun o wA hg =>
              ((hBw.alloc hBw.size o).trans ((show Dr (wb.alloc o) (wb.alloc o).drew from ⟨1, rfl⟩).below _)).grown hg (by have := hBw.size; show w1.heap.size ≤ (wb.alloc o).heap.size; rw [World.size_alloc]; omega) (fun j e => (hown.lt j e).1)
            go_upto_region 15 with fail
            rw [← hwb, ← hxb]
            clear hwb hxb bx e0 e1 e2 f0 f1 f2
            go_region_held3 (fun w' => w'.cell? ⟨xb, 0, none⟩ = some (.int .i64 (F : Int)) ∧ w'.cell? ⟨xb, 1, none⟩ = some (.int .i64 xl) ∧ w'.cell? ⟨xb, 2, none⟩ = some (.int .i64 (T : Int)) ∧ w'.cell? ⟨cb, F, none⟩ = some (.int .i64 cf) ∧ w'.cell? ⟨cb, T, none⟩ = some (.int .i64 ct))
                (first | (go_split_ands; refine ⟨?_, ?_, ?_, ?_, ?_⟩ <;> first | assumption | (go_keep; done) | exact cell_grown (n := 1) hgA k0 hnx | exact cell_grown (n := 1) hgA k1 hnx | exact cell_grown (n := 1) hgA k2 hnx | exact cell_grown (n := 1) hgA k3 hnc | exact cell_grown (n := 1) hgA k4 hnc))
                (first
                  | (go_split_ands; refine step_append_sg (by rfl) _ _ _ (by rfl) u9 (some ⟨_, 0, none⟩) 1 1 (by rfl) (by rfl) w1.heap.size 47 i0 _ Try.underlying22 hi0 hz0 hz1 hz2 rfl M k [⟨cf, xl, ct⟩] rfl (by omega) (by first | exact (hownb.dr ⟨1, rfl⟩).alloc _ | exact hownb.alloc _) (by first | exact Sg.of_row (l := [⟨cf, xl, ct⟩]) (VRow.new _ 47 (cat [⟨cf, xl, ct⟩]))) (by have := hBw.size; simp; omega) ?_; intro vA wA hoA hgA))
            all_goals
              have hBf := HBG.out _ _ hgA
              go_wp2
              go_roundw
              case rel => exact ⟨k + 1, by omega, by go_num, by rw [HNN.out, HMX.out]; exact hoA, hBf⟩
              case measure => simp [intOf]; omega
          · have hltI : ¬ (k : Int) < (G.es.length : Int) := by omega
            obtain rfl : k = G.es.length := by omega
            rw [List.take_length] at hown
            obtain ⟨pv, mv, cv, rfl⟩ := own_shape hown
            obtain ⟨hmv, hsv⟩ := sg_len (p' := none) hown
            have hlm : (G.es.map (mgE C)).length ≤ 100000 := by rw [List.length_map]; omega
            have HM : Hid (Calls Try.prog 27 #[.int .i64 G.q, .int .i64 m, .slice pv mv cv] wr (RetGr (makeA G.q m (G.es.map (mgE C))).1 (makeA G.q m (G.es.map (mgE C))).2 wr)) := by
              subst hmv; exact rMake_any G.q m (G.es.map (mgE C)) pv cv wr hsv (by rw [List.length_map]; omega)
            rw [← HMG.out] at HM
            clear hmv HMG
            generalize mgA G = R at *
            have hrCr := hrC.below hB hrC.lt
            go_wp2_with fail
            refine HM.out.mono ?_
            rintro e w3 ⟨p3, c3, rfl, hs3, hc3, hB3⟩
            have x3 := xr.trans (hB3.mono xr.size)
            have e1 := cs.below hB3 cs.lt
            have hz : w.heap.size + 1 < wr.heap.size := cs.lt
            have hr3 := hrCr.below hB3 hrCr.lt
            clear f0 f1 f2
            obtain ⟨w4, hw4⟩ : ∃ w4, w4 = w3.alloc (.cells #[.int .i64 R.1.q, .int .i64 R.1.n, .slice p3 R.1.es.length c3] 24) := ⟨_, rfl⟩
            have hB4 : RowKit.Below w3.heap.size w3 w4 := by subst hw4; exact (RowKit.Below.refl _ _).alloc (Nat.le_refl _) _
            have bn : VRow w4 w3.heap.size 24 [.int .i64 R.1.q, .int .i64 R.1.n, .slice p3 R.1.es.length c3] := by subst hw4; exact VRow.new w3 _ _
            obtain ⟨nb, hnb⟩ : ∃ nb, nb = w3.heap.size := ⟨_, rfl⟩
            rw [← hnb] at bn
            have x4 := x3.trans (hB4.mono x3.size)
            have e4 := e1.below hB4 e1.lt
            have hr4 := hr3.below hB4 hr3.lt
            have n0 := bn.at 0 rfl; have n1 := bn.at 1 rfl; have n2 := bn.at 2 rfl
            have j0 := e4.at 0 rfl; have j1 := e4.at 1 rfl; have j2 := e4.at 2 rfl
            have z0 := e4.frozen 0; have z1 := e4.frozen 1; have z2 := e4.frozen 2
            have hne : nb ≠ w.heap.size + 1 := by have := e1.lt; omega
            obtain ⟨r6, hs6, hl6, x6⟩ := box3N (w := w) (G := R.1) (p := p3) (c := c3) (q := some ⟨cb, 0, none⟩) (l := C) (n := w.heap.size + 2) e4 (hs3.below hB4) (.inr ⟨cb, rfl, by omega, hr4⟩) (by omega) x4 (by omega)
            unfold set3N at r6 hs6 hl6 x6
            go_upto_region 17 with fail
            rw [← hw4, ← hnb]
            clear hw4 hnb
            go_wp2
            have y0 := r6.at 0 rfl; have y1 := r6.at 1 rfl; have y2 := r6.at 2 rfl
            refine bodyPost_ret (v := .tuple #[.agg #[.int .i64 R.1.q, .int .i64 R.1.n, .slice p3 R.1.es.length c3], .slice (some ⟨cb, 0, none⟩) C.length C.length, .int .i64 R.2]) (by simp [results, Try.results11, go_sem, y0, y1, y2]) rfl ?_
            exact RetMe.of HK.out hs6 hc3 (hl6.mono (by omega)) x6
  · have HK := hidI (merA_bad (G := G) (by rw [hr]; exact h1))
    rw [hr] at HK
    have hrb : (r == 0) = false := by simpa using h1
    have hrc : (r != 0) = true := by simpa using h1
    clear hr h1
    go_enter Try.func11, Try.ntmps11
    go_wp2_with fail
    rw [← hw0]
    clear hw0
    refine HCH.out.mono ?_
    rintro e w1 ⟨rfl, hB1⟩
    have c1 := b1.below hB1 b1.lt
    have x1 := hB0.trans (hB1.mono hB0.size)
    have j0 := c1.at 0 rfl; have j1 := c1.at 1 rfl; have j2 := c1.at 2 rfl
    have z0 := c1.frozen 0; have z1 := c1.frozen 1; have z2 := c1.frozen 2
    obtain ⟨r6, hs6, hl6, x6⟩ := box3N (w := w) (G := ⟨0, 0, []⟩) (p := none) (c := 0) (q := none) (l := []) (n := w.heap.size + 2) c1 (Sg.nil _ _ _ _) (.inl rfl) (by omega) x1 (by omega)
    unfold set3N at r6 hs6 hl6 x6
    simp only [List.length_nil] at r6 hs6 hl6 x6
    have y0 := r6.at 0 rfl; have y1 := r6.at 1 rfl; have y2 := r6.at 2 rfl
    go_wp2
    refine bodyPost_ret (v := .tuple #[.agg #[.int .i64 0, .int .i64 0, .slice none 0 0], .slice none 0 0, .int .i64 r]) (by simp [results, Try.results11, go_sem, y0, y1, y2]) rfl ?_
    exact RetMe.of (H := ⟨0, 0, []⟩) (l := []) HK.out hs6 (by simp) (.inl rfl) x6
end Go.Proofs.Ytmdjndbjfgncmaa
namespace Go.Proofs.Ytmdjndbjfgncmaa
open Go.RowKit Go.Sort Go.Shelf Go.Lib

theorem equalI_n (l m : List Int) (p p' : Option Addr) (c c' : Nat) (w : World) (hl : Sl w (Value.int .i64) p l) (hm : Sl w (Value.int .i64) p' m) (h1 : l.length ≤ 9223372036854775807) (h2 : m.length ≤ 9223372036854775807) :
    Calls Try.prog 14 #[.slice p l.length c, .slice p' m.length c'] w fun e w' => e = .returned (.bool (decide (l = m))) ∧ Dr w w' := by
  by_cases hlen : l.length = m.length
  · rcases Nat.eq_zero_or_pos l.length with h0 | h0
    · have e1 : l = [] := List.length_eq_zero_iff.1 h0
      have e2 : m = [] := List.length_eq_zero_iff.1 (by omega)
      subst e1; subst e2
      refine (Try.slices_Equal_int_empty p p' c 0 c' w (by omega)).mono ?_
      rintro e w' ⟨rfl, rfl⟩
      exact ⟨rfl, Dr.refl _⟩
    · obtain ⟨b, off, rfl, hb, hc⟩ := hl.get 0 h0
      obtain ⟨b', off', rfl, hb', hc'⟩ := hm.get 0 (by omega)
      refine (Try.slices_Equal_int b off l.length c b' off' m.length c' l m w (Nat.le_refl _) (Nat.le_refl _) h1 h2 (fun j hj => by rw [hc j hj, List.getD_eq_getElem?_getD, List.getElem?_eq_getElem hj]; rfl) (fun j hj => by rw [hc' j hj, List.getD_eq_getElem?_getD, List.getElem?_eq_getElem hj]; rfl)).mono ?_
      rintro e w' ⟨rfl, hD⟩
      rw [List.take_length, List.take_length]
      refine ⟨?_, hD⟩
      by_cases e : l = m <;> simp [e]
  · have hne : l ≠ m := fun e => hlen (by rw [e])
    refine (Try.slices_Equal_int_lens p p' l.length c m.length c' w hlen).mono ?_
    rintro e w' ⟨rfl, rfl⟩
    exact ⟨by rw [decide_eq_false hne], Dr.refl _⟩

def gr13 (G : Gr) : Bool := greatG G || (decide (20 < G.es.length) || ((decide (6 < G.n) && decide (G.n ≤ 64)) || (decide (8 < G.q) && decide (G.q ≤ 256))))
set_option maxRecDepth 100000 in
theorem rmGreat_any (G : Gr) (p : Option Addr) (c : Nat) (w : World) (hl : G.es.length ≤ 9223372036854775807) :
    Calls Try.prog 21 #[(.agg #[.int .i64 G.q, .int .i64 G.n, .slice p G.es.length c])] w fun e w' => e = .returned (.bool (gr13 G)) ∧ RowKit.Below w.heap.size w w' := by
  have b0 : VRow (w.alloc (.cells #[.int .i64 G.q, .int .i64 G.n, .slice p G.es.length c] 24)) w.heap.size 24 [.int .i64 G.q, .int .i64 G.n, .slice p G.es.length c] := VRow.new w _ _
  have hB0 : RowKit.Below w.heap.size w (w.alloc (.cells #[.int .i64 G.q, .int .i64 G.n, .slice p G.es.length c] 24)) := (RowKit.Below.refl _ _).alloc (Nat.le_refl _) _
  have hR := hidI (rGreat_any G p c (w.alloc (.cells #[.int .i64 G.q, .int .i64 G.n, .slice p G.es.length c] 24)) hl)
  obtain ⟨b, hb⟩ : ∃ b, greatG G = b := ⟨_, rfl⟩
  rw [hb] at hR
  have HG : Hid (gr13 G = (b || (decide (20 < G.es.length) || ((decide (6 < G.n) && decide (G.n ≤ 64)) || (decide (8 < G.q) && decide (G.q ≤ 256)))))) := by rw [Hid, ← hb]; rfl
  clear hb
  go_enter Try.func21, Try.ntmps21
  go_wp2_with fail
  refine hR.out.mono ?_
  rintro e w1 ⟨rfl, hB1⟩
  have c0 := b0.below hB1 b0.lt
  have f0 := c0.at 0 rfl; have f1 := c0.at 1 rfl; have f2 := c0.at 2 rfl
  have x1 := hB0.trans (hB1.mono hB0.size)
  cases b
  · go_wp2
    all_goals go_ret
    all_goals exact ⟨ret_bool (by rw [HG.out, Bool.eq_iff_iff]; simp; omega), x1⟩
  · go_wp2
    go_ret
    exact ⟨ret_bool (by rw [HG.out]; rfl), x1⟩

/-! ### A list of graphs -/
abbrev GA := {x : Gr × Option Addr × Nat // x.1.es.length ≤ 9223372036854775807}
instance : Inhabited GA := ⟨⟨(⟨0, 0, []⟩, none, 0), by simp⟩⟩
def gE (x : GA) : List Value := [.int .i64 x.1.1.q, .int .i64 x.1.1.n, .slice x.1.2.1 x.1.1.es.length x.1.2.2]
theorem contains_any (b n c : Nat) (zs : List GA) (hz : zs.length = n) (hn : n ≤ 1000) (w : World) (hb : b < w.heap.size) (hc : ∀ j, j < zs.length → ∀ i v, (gE zs[j]!)[i]? = some v → w.cell? ⟨b, 0 + j * 3 + i, none⟩ = some v) :
    Calls Try.prog 20 #[.slice (some ⟨b, 0, none⟩) n c, .func (.func 21) #[] #[]] w fun e w' => e = .returned (.bool (zs.any (fun x => gr13 x.1.1))) ∧ RowKit.Below w.heap.size w w' := by
  have h := AnyQ.slices_ContainsFunc Try.layContainsG 3 Try.isAgg24 Try.sizeOf24 gE (fun _ => rfl) (fun x => gr13 x.1.1) 21 #[] (enters_of Try.func21 (by kernel_rfl) rfl) b 0 n c zs w
    (fun W x hW => (rmGreat_any x.1.1 x.1.2.1 x.1.2.2 W x.2).mono (fun e w' h => ⟨h.1, hW.trans (h.2.mono hW.size)⟩)) (by omega) (by omega) hb hc
  rw [List.take_of_length_le (by omega)] at h
  exact h
set_option maxRecDepth 100000 in
theorem great13_any (b n c : Nat) (zs : List GA) (hz : zs.length = n) (hn : n ≤ 1000) (w : World) (hb : b < w.heap.size) (hc : ∀ j, j < zs.length → ∀ i v, (gE zs[j]!)[i]? = some v → w.cell? ⟨b, 0 + j * 3 + i, none⟩ = some v) :
    Calls Try.prog 6 #[.slice (some ⟨b, 0, none⟩) n c] w fun e w' => e = .returned (.bool (zs.any (fun x => gr13 x.1.1))) ∧ RowKit.Below w.heap.size w w' := by
  have h := contains_any b n c zs hz hn w hb hc
  generalize zs.any (fun x => gr13 x.1.1) = r at *
  have H := hidI h
  clear h hc hz
  go_enter Try.func6, Try.ntmps6
  go_wp2_with fail
  refine H.out.mono ?_
  rintro e w1 ⟨rfl, hB1⟩
  go_wp2
  go_ret
  exact ⟨rfl, hB1⟩
theorem great13_one (G : Gr) (p : Option Addr) (c b d : Nat) (w : World) (hl : G.es.length ≤ 9223372036854775807) (r : VRow w b 24 [.int .i64 G.q, .int .i64 G.n, .slice p G.es.length c]) :
    Calls Try.prog 6 #[.slice (some ⟨b, 0, none⟩) 1 d] w fun e w' => e = .returned (.bool (gr13 G)) ∧ RowKit.Below w.heap.size w w' := by
  refine (great13_any b 1 d [⟨(G, p, c), hl⟩] rfl (by omega) w r.lt ?_).mono ?_
  · intro j hj i v hv
    have : j = 0 := by simpa using hj
    subst this
    rw [show 0 + 0 * 3 + i = i by omega, r.cell]
    exact hv
  · rintro e w' ⟨rfl, h⟩
    exact ⟨by simp, h⟩

/-! ### The example of the chapter -/
def aw0 : Gr := ⟨2, 3, [⟨0, 0, 0⟩, ⟨0, 1, 1⟩, ⟨1, 0, 2⟩, ⟨2, 0, 2⟩, ⟨2, 1, 1⟩]⟩
def aw1 : Gr := ⟨2, 2, [⟨0, 0, 0⟩, ⟨0, 1, 1⟩, ⟨1, 0, 0⟩]⟩
theorem aw_mer : merA aw0 = (aw1, [0, 1, 0], 0) := by kernel_rfl
theorem aw_sep : sepA aw0 0 1 = ([1], true, 0) := by kernel_rfl
set_option maxRecDepth 100000 in
set_option maxHeartbeats 2000000 in
theorem awake13_any (w : World) : Calls Try.prog 7 #[] w fun e w' => e = .returned (.bool true) ∧ RowKit.Below w.heap.size w w' := by
  obtain ⟨w4, hw4⟩ : ∃ w4, w4 = (((w.alloc (.cells #[.int .i64 0, .int .i64 0, .int .i64 0, .int .i64 0, .int .i64 1, .int .i64 1, .int .i64 1, .int .i64 0, .int .i64 2, .int .i64 2, .int .i64 0, .int .i64 2, .int .i64 2, .int .i64 1, .int .i64 1] 47)).alloc (.cells #[.int .i64 2, .int .i64 3, .slice (some ⟨w.heap.size, 0, none⟩) 5 5] 24)).alloc (.cells #[.int .i64 0, .int .i64 0, .int .i64 0, .int .i64 0, .int .i64 1, .int .i64 1, .int .i64 1, .int .i64 0, .int .i64 0] 47)).alloc (.cells #[.int .i64 2, .int .i64 2, .slice (some ⟨w.heap.size + 1 + 1, 0, none⟩) 3 3] 24) := ⟨_, rfl⟩
  have r0 : VRow w4 w.heap.size 47 (cat aw0.es) := by subst hw4; exact (((VRow.new w _ _).alloc _).alloc _).alloc _
  have b0 : VRow w4 (w.heap.size + 1) 24 [.int .i64 2, .int .i64 3, .slice (some ⟨w.heap.size, 0, none⟩) 5 5] := by subst hw4; exact ((VRow.new1 w _ _ _).alloc _).alloc _
  have r1 : VRow w4 (w.heap.size + 1 + 1) 47 (cat aw1.es) := by subst hw4; exact (VRow.new2 w _ _ _ _).alloc _
  have b1 : VRow w4 (w.heap.size + 1 + 1 + 1) 24 [.int .i64 2, .int .i64 2, .slice (some ⟨w.heap.size + 1 + 1, 0, none⟩) 3 3] := by
    subst hw4
    have h := VRow.new (((w.alloc (.cells #[.int .i64 0, .int .i64 0, .int .i64 0, .int .i64 0, .int .i64 1, .int .i64 1, .int .i64 1, .int .i64 0, .int .i64 2, .int .i64 2, .int .i64 0, .int .i64 2, .int .i64 2, .int .i64 1, .int .i64 1] 47)).alloc (.cells #[.int .i64 2, .int .i64 3, .slice (some ⟨w.heap.size, 0, none⟩) 5 5] 24)).alloc (.cells #[.int .i64 0, .int .i64 0, .int .i64 0, .int .i64 0, .int .i64 1, .int .i64 1, .int .i64 1, .int .i64 0, .int .i64 0] 47)) 24 [.int .i64 2, .int .i64 2, .slice (some ⟨w.heap.size + 1 + 1, 0, none⟩) 3 3]
    simp only [World.size_alloc] at h
    exact h
  have x4 : RowKit.Below w.heap.size w w4 := by subst hw4; exact ((((RowKit.Below.refl _ _).alloc (Nat.le_refl _) _).alloc (by simp) _).alloc (by simp; omega) _).alloc (by simp; omega) _
  have s0 := Sg.of_row r0
  have s1 := Sg.of_row r1
  have HM : Hid (Calls Try.prog 10 #[.agg #[.int .i64 2, .int .i64 3, .slice (some ⟨w.heap.size, 0, none⟩) 5 5]] w4 (RetMe aw1 [0, 1, 0] 0 w4)) := by
    have h := mMerge_any aw0 (some ⟨w.heap.size, 0, none⟩) 5 w4 s0 (by decide)
    rw [aw_mer] at h; exact h
  have HS : Hid (∀ W, RowKit.Below w4.heap.size w4 W → Calls Try.prog 12 #[.agg #[.int .i64 2, .int .i64 3, .slice (some ⟨w.heap.size, 0, none⟩) 5 5], .int .i64 0, .int .i64 1] W (RetSp [1] true 0 W)) := fun W hW => by
    have h := mSeparate_any aw0 (some ⟨w.heap.size, 0, none⟩) 5 0 1 W (s0.below hW) (by decide)
    rw [aw_sep] at h; exact h
  have HQ : Hid (∀ W p c, RowKit.Below w4.heap.size w4 W → Sg 3 W edE p aw1.es → Calls Try.prog 15 #[(.agg #[.int .i64 aw1.q, .int .i64 aw1.n, .slice p aw1.es.length c]), .agg #[.int .i64 2, .int .i64 2, .slice (some ⟨w.heap.size + 1 + 1, 0, none⟩) 3 3]] W fun e w' => e = .returned (.bool true) ∧ RowKit.Below W.heap.size W w') := fun W p c hW hs => by
    have h := rSame_any aw1 aw1 p (some ⟨w.heap.size + 1 + 1, 0, none⟩) c 3 W hs (s1.below hW) (by decide) (by decide)
    rw [sameG_refl] at h; exact h
  obtain ⟨x, hx⟩ : ∃ x, x = w.heap.size + 1 := ⟨_, rfl⟩
  have x4s := x4.size
  clear r0 r1 s0 s1
  go_enter Try.func7, Try.ntmps7
  go_wp2_with fail
  rw [← hw4]
  clear hw4
  refine HM.out.mono ?_
  rintro e w5 ⟨p3, c3, q3, d3, rfl, hs3, hc3, hl3, hB3⟩
  obtain ⟨H, hH⟩ : ∃ H, H = aw1 := ⟨_, rfl⟩
  rw [← hH] at hs3 HQ ⊢
  have hHl : Hid (H.es.length = 3) := by rw [hH]; rfl
  clear hH hc3 HM
  have HZ := hidI (hl3.sl)
  obtain ⟨wA, hwA⟩ : ∃ wA, wA = w5.alloc (.cells #[.int .i64 H.q, .int .i64 H.n, .slice p3 H.es.length c3] 24) := ⟨_, rfl⟩
  have hBA : RowKit.Below w5.heap.size w5 wA := by subst hwA; exact (RowKit.Below.refl _ _).alloc (Nat.le_refl _) _
  have m0 : VRow wA w5.heap.size 24 [.int .i64 H.q, .int .i64 H.n, .slice p3 H.es.length c3] := by subst hwA; exact VRow.new w5 _ _
  have hBA4 := hB3.trans (hBA.mono hB3.size)
  have xA := x4.trans (hBA4.mono x4.size)
  have b0 := b0.below hBA4 b0.lt
  have b1 := b1.below hBA4 b1.lt
  have hsA := hidI (hs3.below hBA)
  have HZA := hidI (HZ.out.below hBA)
  have f0 := b0.at 0 rfl; have f1 := b0.at 1 rfl; have f2 := b0.at 2 rfl
  have HSA := hidI (HS.out wA hBA4)
  obtain ⟨mb, hmb⟩ : ∃ mb, mb = w5.heap.size := ⟨_, rfl⟩
  rw [← hmb] at m0
  clear hs3 hl3 hB3 HS hBA HZ
  go_upto_region 4 with fail
  rw [← hwA, ← hmb]
  clear hwA hmb
  go_wp2_with fail
  refine HSA.out.mono ?_
  rintro e w6 ⟨q6, d6, rfl, hs6, hB6⟩
  have hB64 := hBA4.trans (hB6.mono hBA4.size)
  have x6 := xA.trans (hB6.mono xA.size)
  have m6 := m0.below hB6 m0.lt
  have b6 := b1.below hB6 b1.lt
  have hsm := hidI (hsA.out.below hB6)
  have HZ6 := hidI (HZA.out.below hB6)
  have hs6 := hidI hs6
  clear f0 f1 f2 b0 b1 m0 hsA HZA hBA4 xA hB6
  have f0 := m6.at 0 rfl; have f1 := m6.at 1 rfl; have f2 := m6.at 2 rfl
  have k0 := b6.at 0 rfl; have k1 := b6.at 1 rfl; have k2 := b6.at 2 rfl
  have HQ6 := hidI (HQ.out w6 p3 c3 hB64 hsm.out)
  go_wp2_with fail
  refine HQ6.out.mono ?_
  rintro e w7 ⟨rfl, hB7⟩
  have x7 := x6.trans (hB7.mono x6.size)
  have HZ7 := hidI (HZ6.out.below hB7)
  have hs7 := hidI (hs6.out.below hB7)
  clear f0 f1 f2 k0 k1 k2 HQ6 hsm m6 b6 HZ6 hs6 hB7 x6
  have hr8 : VRow (w7.alloc (.cells #[.int .i64 0, .int .i64 1, .int .i64 0] 3)) w7.heap.size 3 (([0, 1, 0] : List Int).map (Value.int .i64)) := VRow.new w7 _ _
  have hB8 : RowKit.Below w7.heap.size w7 (w7.alloc (.cells #[.int .i64 0, .int .i64 1, .int .i64 0] 3)) := (RowKit.Below.refl _ _).alloc (Nat.le_refl _) _
  have HE1 : Hid (Calls Try.prog 14 #[.slice q3 3 d3, .slice (some ⟨w7.heap.size, 0, none⟩) 3 3] (w7.alloc (.cells #[.int .i64 0, .int .i64 1, .int .i64 0] 3)) fun e w' => e = .returned (.bool true) ∧ RowKit.Below w7.heap.size w7 w') := by
    have h := equalI_n [0, 1, 0] [0, 1, 0] q3 (some ⟨w7.heap.size, 0, none⟩) d3 3 _ (HZ7.out.below hB8) (Sl.of_vrow hr8) (by decide) (by decide)
    rw [decide_eq_true rfl] at h
    exact h.mono (fun e w' h => ⟨h.1, hB8.trans ((h.2.below _).mono hB8.size)⟩)
  clear hr8
  go_wp2_with fail
  refine HE1.out.mono ?_
  rintro e w8 ⟨rfl, hB9⟩
  have x8 := x7.trans (hB9.mono x7.size)
  have hs8 := hidI (hs7.out.below hB9)
  clear HE1 HZ7 hs7 hB9 hB8 x7
  have hr9 : VRow (w8.alloc (.cells #[.int .i64 1] 3)) w8.heap.size 3 (([1] : List Int).map (Value.int .i64)) := VRow.new w8 _ _
  have hB9 : RowKit.Below w8.heap.size w8 (w8.alloc (.cells #[.int .i64 1] 3)) := (RowKit.Below.refl _ _).alloc (Nat.le_refl _) _
  have HE2 : Hid (Calls Try.prog 14 #[.slice q6 1 d6, .slice (some ⟨w8.heap.size, 0, none⟩) 1 1] (w8.alloc (.cells #[.int .i64 1] 3)) fun e w' => e = .returned (.bool true) ∧ RowKit.Below w8.heap.size w8 w') := by
    have h := equalI_n [1] [1] q6 (some ⟨w8.heap.size, 0, none⟩) d6 1 _ (hs8.out.below hB9) (Sl.of_vrow hr9) (by decide) (by decide)
    rw [decide_eq_true rfl] at h
    exact h.mono (fun e w' h => ⟨h.1, hB9.trans ((h.2.below _).mono hB9.size)⟩)
  clear hr9
  go_wp2_with fail
  refine HE2.out.mono ?_
  rintro e w9 ⟨rfl, hB10⟩
  have x9 := x8.trans (hB10.mono x8.size)
  go_wp2
  go_ret
  exact ⟨rfl, x9⟩
end Go.Proofs.Ytmdjndbjfgncmaa
namespace Go.Proofs.Ytmdjndbjfgncmaa
open Go.RowKit Go.Shelf
attribute [local go_sem] Oper.semAt_some

/-- What the sequence yields among the first k edges. -/
def lvL (es : List Ed) (s : Int) (k : Nat) : List (Nat × Ed) := ((List.range k).filter (fun i => decide ((eget es i).f = s))).map (fun i => (i, eget es i))
theorem lvL_zero (es : List Ed) (s : Int) : lvL es s 0 = [] := rfl
theorem lvL_succ {es : List Ed} {s : Int} {k : Nat} (h : k < es.length) : lvL es s (k + 1) = lvL es s k ++ (if es[k].f = s then [(k, es[k])] else []) := by
  unfold lvL
  rw [List.range_succ, List.filter_append, List.map_append]
  congr 1
  by_cases hs : es[k].f = s <;> simp [eget_eq es k h, hs]
theorem lvL_len (es : List Ed) (s : Int) (k : Nat) : (lvL es s k).length ≤ k := by
  unfold lvL
  rw [List.length_map]
  exact Nat.le_trans (List.length_filter_le _ _) (by simp)
/-- All blocks below b, but a, are as they were. -/
def KX (a b : Nat) (W W' : World) : Prop := ∀ i, i < b → i ≠ a → W'.heap[i]? = W.heap[i]?
theorem KX.refl (a b : Nat) (W : World) : KX a b W W := fun _ _ _ => rfl
theorem KX.trans {a b : Nat} {X Y Z : World} (h : KX a b X Y) (k : KX a b Y Z) : KX a b X Z := fun i h1 h2 => (k i h1 h2).trans (h i h1 h2)
theorem KX_b {a b n : Nat} (hn : b ≤ n) (W : World) (l : Nat) (o o' : Obj) (hl : n ≤ l) (_ : W.heap[l]? = some o) (_ : o.isCells = false) (_ : o.isWalk = false) : KX a b W (W.putObj l o') :=
  fun i h1 _ => World.putObj_heap_other (by omega)
theorem KX.boxed {a b B : Nat} {t : TypeId} {v : Value} {W W' : World} (h : KX a b W W') (h1 : B < b) (h2 : B ≠ a) (hb : Boxed W B t v) : Boxed W' B t v := (h B h1 h2).trans hb
/-- Edges in memory, in a block below n. -/
def SgB (n : Nat) (w : World) (p : Option Addr) (l : List Ed) : Prop :=
  l = [] ∨ ∃ b off, p = some ⟨b, off, none⟩ ∧ b < n ∧ b < w.heap.size ∧ ∀ i (h : i < l.length) j, j < 3 → w.cell? ⟨b, off + i * 3 + j, none⟩ = (edE l[i])[j]?
theorem SgB.of {n : Nat} {w : World} {p : Option Addr} {l : List Ed} (h : Sg 3 w edE p l) (hn : w.heap.size ≤ n) : SgB n w p l := by
  rcases h with h | ⟨b, off, h1, h2, h3⟩
  · exact .inl h
  · exact .inr ⟨b, off, h1, by omega, h2, h3⟩
theorem SgB.sg {n : Nat} {w : World} {p : Option Addr} {l : List Ed} (h : SgB n w p l) : Sg 3 w edE p l := by
  rcases h with h | ⟨b, off, h1, _, h2, h3⟩
  · exact .inl h
  · exact .inr ⟨b, off, h1, h2, h3⟩
theorem SgB.kept {n : Nat} {w w' : World} {p : Option Addr} {l : List Ed} (h : SgB n w p l) (hk : ∀ i, i < n → w'.heap[i]? = w.heap[i]?) : SgB n w' p l := by
  rcases h with h | ⟨b, off, h1, h2, h3, h4⟩
  · exact .inl h
  · have e := hk b h2
    have hlt : b < w'.heap.size := by
      rcases Nat.lt_or_ge b w'.heap.size with h' | h'
      · exact h'
      · rw [Array.getElem?_eq_none h', Array.getElem?_eq_getElem h3] at e; cases e
    exact .inr ⟨b, off, h1, h2, hlt, fun i hi j hj => (World.cell?_of_block (w := w) (a := ⟨b, off + i * 3 + j, none⟩) e).trans (h4 i hi j hj)⟩
theorem SgB.kx {n a b : Nat} {w w' : World} {p : Option Addr} {l : List Ed} (h : SgB n w p l) (hk : KX a b w w') (h1 : n ≤ b) (h2 : n ≤ a) : SgB n w' p l :=
  h.kept (fun i hi => hk i (by omega) (by omega))
theorem SgB.alloc {n : Nat} {w : World} {p : Option Addr} {l : List Ed} (h : SgB n w p l) (hn : n ≤ w.heap.size) (o : Obj) : SgB n (w.alloc o) p l :=
  h.kept (fun i hi => Below.heap_alloc w o i (by omega))
def encL (x : Nat × Ed) : Array Value := #[.int .i64 (x.1 : Int), .agg #[.int .i64 x.2.f, .int .i64 x.2.l, .int .i64 x.2.t]]

set_option maxRecDepth 100000 in
set_option maxHeartbeats 1000000 in
theorem leaving1_in (F : Fence) (n : Nat) (hf : F.fn 62) (hro : F.round = none) (hn : 1 ≤ n) (l a b m Bg Bs : Nat) (G : Gr) (s : Int) (p : Option Addr) (c : Nat) (hlen : G.es.length ≤ 1024) (J Jx : List (Nat × Ed) → World → Prop)
    (hA : ∀ pre W o, J pre W → J pre (W.alloc o))
    (hY : ∀ pre x W, J pre W → pre.length < G.es.length → YieldAt F (n - 1) Try.prog l (encL x) W fun e W' =>
      (e = .returned (.bool true) ∧ J (pre ++ [x]) W' ∧ KX a b W W') ∨ (e = .returned (.bool false) ∧ Jx (pre ++ [x]) W'))
    (W : World) (hma : m ≤ a) (hmb : m ≤ Bs) (hBs : Bs < b) (hBa : Bs ≠ a) (hg : VRow W Bg 24 [.int .i64 G.q, .int .i64 G.n, .slice p G.es.length c]) (hs : Boxed W Bs 3 (.int .i64 s)) (hin : SgB m W p G.es) (h0 : J [] W) :
    CallsIn F n Try.prog 62 #[.func (.yield l) #[] #[], .pointer (some ⟨Bg, 0, none⟩), .pointer (some ⟨Bs, 0, none⟩)] W fun e W' => (∃ v, e = .returned v) ∧
      ((∃ ys : List (Nat × Ed), ys = lvL G.es s G.es.length ∧ J ys W') ∨ (∃ pre : List (Nat × Ed), True ∧ Jx pre W')) := by
  refine callsIn_of_wp Try.func62 rfl hf ?_ hro
  simp only [Try.ntmps62, List.size_toArray, List.length_cons, List.length_nil, Nat.reduceAdd, Nat.reduceSub, Array.replicate_succ, Array.replicate_zero, List.push_toArray, List.append_toArray, List.nil_append, List.cons_append]
  have f2 := hg.at 2 rfl
  gi_wp2
  clear f2
  gi_loopw [9] (fun i wr => ∃ (k : Nat) (pre : List (Nat × Ed)), k ≤ G.es.length ∧ i = .int .i64 k ∧ Hid (pre = lvL G.es s k) ∧ J pre wr ∧ Boxed wr Bs 3 (.int .i64 s) ∧ SgB m wr p G.es) (fun i _ => G.es.length - (intOf i).toNat)
  case atStart => exact ⟨0, [], Nat.zero_le _, rfl, rfl, h0, hs, hin⟩
  case round =>
    obtain ⟨k, pre, hk, rfl, hp, hJs, hnx, hsg⟩ := hrel
    by_cases hlt : k < G.es.length
    · have hpl : pre.length < G.es.length := by rw [hp.out]; have := lvL_len G.es s k; omega
      obtain ⟨b3, o3, rfl, hb3, e0, e1, e2⟩ := hsg.sg.get3 k hlt rfl
      have HN := hidI (lvL_succ (s := s) hlt)
      have hnA := hnx.alloc (.cells #[.int .i64 G.es[k].f, .int .i64 G.es[k].l, .int .i64 G.es[k].t] 47)
      have hgA := hsg.alloc (by have := hnx.lt; omega) (.cells #[.int .i64 G.es[k].f, .int .i64 G.es[k].l, .int .i64 G.es[k].t] 47)
      have hJA := hA pre wr (.cells #[.int .i64 G.es[k].f, .int .i64 G.es[k].l, .int .i64 G.es[k].t] 47) hJs
      have HY := hidI (hY pre (k, G.es[k]) (wr.alloc (.cells #[.int .i64 G.es[k].f, .int .i64 G.es[k].l, .int .i64 G.es[k].t] 47)) hJA hpl)
      have hbs := hnA.cell
      generalize hx : G.es[k] = x at *
      by_cases he : x.f = s
      · have hb : (x.f == s) = true := by simpa using he
        have HN : Hid (lvL G.es s (k + 1) = lvL G.es s k ++ [(k, x)]) := by rw [Hid, HN.out, if_pos he]
        obtain ⟨fn, tmps, assign, body, hy, hR⟩ := HY.out
        unfold encL at hy
        simp only at hy
        clear he
        gi_wp2
        refine hR.mono ?_
        rintro e W3 (⟨rfl, hJ3, hk3⟩ | ⟨rfl, hJx3⟩)
        · gi_wp2
          go_roundw
          case rel => exact ⟨k + 1, _, by omega, by go_num, by unfold Hid; rw [HN.out, ← hp.out], hJ3, hk3.boxed hBs hBa hnA, hgA.kx hk3 (by omega) hma⟩
          case measure => simp [intOf]; omega
        · gi_wp2
          refine bodyPost_ret (results_none rfl _ _ _) rfl ?_
          exact ⟨⟨_, rfl⟩, .inr ⟨_, trivial, hJx3⟩⟩
      · have hb : (x.f == s) = false := by simpa using he
        have HN : Hid (lvL G.es s (k + 1) = lvL G.es s k) := by rw [Hid, HN.out, if_neg he, List.append_nil]
        clear he
        gi_wp2
        rename_i K1 hK1 x1 h1 w1 e1
        refine ⟨fun f hf => (by cases hf), hK1 _ _ ?_⟩
        clear e1
        gi_wp2
        go_roundw
        case rel => exact ⟨k + 1, _, by omega, by go_num, by unfold Hid; rw [HN.out, ← hp.out], hJA, hnA, hgA⟩
        case measure => simp [intOf]; omega
    · obtain rfl : k = G.es.length := by omega
      gi_wp2
      go_end0
      exact ⟨⟨_, rfl⟩, .inl ⟨_, hp.out, hJs⟩⟩

/-- The sequence, as the law of the loop takes it. -/
theorem leaving_stops (F : Fence) (n : Nat) (hf : F.fn 62) (hro : F.round = none) (hn : 1 ≤ n) (a b m Bg Bs : Nat) (G : Gr) (s : Int) (p : Option Addr) (c : Nat) (hlen : G.es.length ≤ 1024) (w : World)
    (hma : m ≤ a) (hmb : m ≤ Bs) (hBs : Bs < b) (hBa : Bs ≠ a) (hg : VRow w Bg 24 [.int .i64 G.q, .int .i64 G.n, .slice p G.es.length c]) (hs : Boxed w Bs 3 (.int .i64 s)) (hin : SgB m w p G.es) :
    SeqStopsK F n Try.prog 62 #[.pointer (some ⟨Bg, 0, none⟩), .pointer (some ⟨Bs, 0, none⟩)] encL (KX a b) (fun ys => ys = lvL G.es s G.es.length) (fun _ => True) G.es.length w := fun l J Jx W hW hJ _ hY h0 =>
  leaving1_in F n hf hro hn l a b m Bg Bs G s p c hlen J Jx (fun pre W o h => hJ pre W _ none h (World.grownBy_alloc W o none) (fun r e => by cases e)) hY W hma hmb hBs hBa (hg.below hW hg.lt) ((KH.of_below hW hs.lt).boxed hs) (hin.kept (fun i hi => hW.block i (by have := hs.lt; omega))) h0
end Go.Proofs.Ytmdjndbjfgncmaa
namespace Go.Proofs.Ytmdjndbjfgncmaa
open Go.RowKit Go.Shelf
attribute [local go_sem] Oper.semAt_some

/-- All blocks below m, and block B, are as they were. -/
def KS (m B : Nat) (W W' : World) : Prop := ∀ i, (i < m ∨ i = B) → W'.heap[i]? = W.heap[i]?
theorem KS.refl (m B : Nat) (W : World) : KS m B W W := fun _ _ => rfl
theorem KS.trans {m B : Nat} {X Y Z : World} (h : KS m B X Y) (k : KS m B Y Z) : KS m B X Z := fun i h1 => (k i h1).trans (h i h1)
theorem KS_b {m B n : Nat} (hm : m ≤ n) (hB : B < n) (W : World) (l : Nat) (o o' : Obj) (hl : n ≤ l) (_ : W.heap[l]? = some o) (_ : o.isCells = false) (_ : o.isWalk = false) : KS m B W (W.putObj l o') :=
  fun i h1 => World.putObj_heap_other (by omega)
theorem KS.boxed {m B : Nat} {t : TypeId} {v : Value} {W W' : World} (h : KS m B W W') (hb : Boxed W B t v) : Boxed W' B t v := (h B (.inr rfl)).trans hb
theorem KS.low {m B : Nat} {W W' : World} (h : KS m B W W') : ∀ i, i < m → W'.heap[i]? = W.heap[i]? := fun i hi => h i (.inl hi)

set_option maxRecDepth 100000 in
set_option maxHeartbeats 1000000 in
theorem leavingS_in (F : Fence) (n : Nat) (hf : F.fn 62) (hro : F.round = none) (hn : 1 ≤ n) (l m Bg Bs : Nat) (G : Gr) (s : Int) (p : Option Addr) (c : Nat) (hlen : G.es.length ≤ 1024) (J Jx : List (Nat × Ed) → World → Prop)
    (hA : ∀ pre W o, J pre W → J pre (W.alloc o))
    (hY : ∀ pre x W, J pre W → pre.length < G.es.length → YieldAt F (n - 1) Try.prog l (encL x) W fun e W' =>
      (e = .returned (.bool true) ∧ J (pre ++ [x]) W' ∧ KS m Bs W W') ∨ (e = .returned (.bool false) ∧ Jx (pre ++ [x]) W'))
    (W : World) (hmb : m ≤ Bs) (hg : VRow W Bg 24 [.int .i64 G.q, .int .i64 G.n, .slice p G.es.length c]) (hs : Boxed W Bs 3 (.int .i64 s)) (hin : SgB m W p G.es) (h0 : J [] W) :
    CallsIn F n Try.prog 62 #[.func (.yield l) #[] #[], .pointer (some ⟨Bg, 0, none⟩), .pointer (some ⟨Bs, 0, none⟩)] W fun e W' => (∃ v, e = .returned v) ∧
      ((∃ ys : List (Nat × Ed), ys = lvL G.es s G.es.length ∧ J ys W') ∨ (∃ pre : List (Nat × Ed), True ∧ Jx pre W')) := by
  refine callsIn_of_wp Try.func62 rfl hf ?_ hro
  simp only [Try.ntmps62, List.size_toArray, List.length_cons, List.length_nil, Nat.reduceAdd, Nat.reduceSub, Array.replicate_succ, Array.replicate_zero, List.push_toArray, List.append_toArray, List.nil_append, List.cons_append]
  have f2 := hg.at 2 rfl
  gi_wp2
  clear f2
  gi_loopw [9] (fun i wr => ∃ (k : Nat) (pre : List (Nat × Ed)), k ≤ G.es.length ∧ i = .int .i64 k ∧ Hid (pre = lvL G.es s k) ∧ J pre wr ∧ Boxed wr Bs 3 (.int .i64 s) ∧ SgB m wr p G.es) (fun i _ => G.es.length - (intOf i).toNat)
  case atStart => exact ⟨0, [], Nat.zero_le _, rfl, rfl, h0, hs, hin⟩
  case round =>
    obtain ⟨k, pre, hk, rfl, hp, hJs, hnx, hsg⟩ := hrel
    by_cases hlt : k < G.es.length
    · have hpl : pre.length < G.es.length := by rw [hp.out]; have := lvL_len G.es s k; omega
      obtain ⟨b3, o3, rfl, hb3, e0, e1, e2⟩ := hsg.sg.get3 k hlt rfl
      have HN := hidI (lvL_succ (s := s) hlt)
      have hnA := hnx.alloc (.cells #[.int .i64 G.es[k].f, .int .i64 G.es[k].l, .int .i64 G.es[k].t] 47)
      have hgA := hsg.alloc (by have := hnx.lt; omega) (.cells #[.int .i64 G.es[k].f, .int .i64 G.es[k].l, .int .i64 G.es[k].t] 47)
      have hJA := hA pre wr (.cells #[.int .i64 G.es[k].f, .int .i64 G.es[k].l, .int .i64 G.es[k].t] 47) hJs
      have HY := hidI (hY pre (k, G.es[k]) (wr.alloc (.cells #[.int .i64 G.es[k].f, .int .i64 G.es[k].l, .int .i64 G.es[k].t] 47)) hJA hpl)
      have hbs := hnA.cell
      generalize hx : G.es[k] = x at *
      by_cases he : x.f = s
      · have hb : (x.f == s) = true := by simpa using he
        have HN : Hid (lvL G.es s (k + 1) = lvL G.es s k ++ [(k, x)]) := by rw [Hid, HN.out, if_pos he]
        obtain ⟨fn, tmps, assign, body, hy, hR⟩ := HY.out
        unfold encL at hy
        simp only at hy
        clear he
        gi_wp2
        refine hR.mono ?_
        rintro e W3 (⟨rfl, hJ3, hk3⟩ | ⟨rfl, hJx3⟩)
        · gi_wp2
          go_roundw
          case rel => exact ⟨k + 1, _, by omega, by go_num, by unfold Hid; rw [HN.out, ← hp.out], hJ3, hk3.boxed hnA, hgA.kept hk3.low⟩
          case measure => simp [intOf]; omega
        · gi_wp2
          refine bodyPost_ret (results_none rfl _ _ _) rfl ?_
          exact ⟨⟨_, rfl⟩, .inr ⟨_, trivial, hJx3⟩⟩
      · have hb : (x.f == s) = false := by simpa using he
        have HN : Hid (lvL G.es s (k + 1) = lvL G.es s k) := by rw [Hid, HN.out, if_neg he, List.append_nil]
        clear he
        gi_wp2
        rename_i K1 hK1 x1 h1 w1 e1
        refine ⟨fun f hf => (by cases hf), hK1 _ _ ?_⟩
        clear e1
        gi_wp2
        go_roundw
        case rel => exact ⟨k + 1, _, by omega, by go_num, by unfold Hid; rw [HN.out, ← hp.out], hJA, hnA, hgA⟩
        case measure => simp [intOf]; omega
    · obtain rfl : k = G.es.length := by omega
      gi_wp2
      go_end0
      exact ⟨⟨_, rfl⟩, .inl ⟨_, hp.out, hJs⟩⟩

/-- The sequence, as the law of the loop takes it. -/
theorem leavingS_stops (F : Fence) (n : Nat) (hf : F.fn 62) (hro : F.round = none) (hn : 1 ≤ n) (m Bg Bs : Nat) (G : Gr) (s : Int) (p : Option Addr) (c : Nat) (hlen : G.es.length ≤ 1024) (w : World)
    (hmb : m ≤ Bs) (hg : VRow w Bg 24 [.int .i64 G.q, .int .i64 G.n, .slice p G.es.length c]) (hs : Boxed w Bs 3 (.int .i64 s)) (hin : SgB m w p G.es) :
    SeqStopsK F n Try.prog 62 #[.pointer (some ⟨Bg, 0, none⟩), .pointer (some ⟨Bs, 0, none⟩)] encL (KS m Bs) (fun ys => ys = lvL G.es s G.es.length) (fun _ => True) G.es.length w := fun l J Jx W hW hJ _ hY h0 =>
  leavingS_in F n hf hro hn l m Bg Bs G s p c hlen J Jx (fun pre W o h => hJ pre W _ none h (World.grownBy_alloc W o none) (fun r e => by cases e)) hY W hmb (hg.below hW hg.lt) ((KH.of_below hW hs.lt).boxed hs) (hin.kept (fun i hi => hW.block i (by have := hs.lt; omega))) h0
end Go.Proofs.Ytmdjndbjfgncmaa
namespace Go.Proofs.Ytmdjndbjfgncmaa
open Go.RowKit

set_option maxHeartbeats 1000000 in
theorem leaving_in (F : Fence) (n : Nat) (hf : F.fn 52) (hro : F.round = none) (g : Value) (s : Int) (q m : Int) (p : Option Addr) (k c : Nat) (hg : g = .agg #[.int .i64 q, .int .i64 m, .slice p k c]) (w : World) :
    CallsIn F n Try.prog 52 #[g, .int .i64 s] w fun e w' => e = .returned (.func (.func 62) #[] #[.pointer (some ⟨w.heap.size, 0, none⟩), .pointer (some ⟨w.heap.size + 1, 0, none⟩)]) ∧
      w' = (w.alloc (.cells #[.int .i64 q, .int .i64 m, .slice p k c] 24)).alloc (.cells #[.int .i64 s] 3) := by
  subst hg
  refine callsIn_of_wp Try.func52 rfl hf ?_ hro
  simp only [Try.ntmps52, List.size_toArray, List.length_cons, List.length_nil, Nat.reduceAdd, Nat.reduceSub, Array.replicate_succ, Array.replicate_zero, List.push_toArray, List.append_toArray, List.nil_append, List.cons_append]
  gi_wp2
  go_ret
  exact ⟨rfl, rfl⟩
end Go.Proofs.Ytmdjndbjfgncmaa
namespace Go.Proofs.Ytmdjndbjfgncmaa
open Go.RowKit Go.Shelf
attribute [local go_sem] Oper.semAt_some

theorem lvL_out (es : List Ed) (s : Int) : ∀ k, k ≤ es.length → (lvL es s k).map (fun x => ((x.1 : Nat) : Int)) = outI es s k
  | 0, _ => rfl
  | k + 1, h => by
    rw [lvL_succ (by omega), outI_succ (by omega), List.map_append, lvL_out es s k (by omega)]
    split <;> rfl
theorem own_shI {w : World} {B e size n : Nat} {v : Value} {xs : List Value} (h : w.ownsRow B e size v n xs) : ∃ p m c, v = .slice p m c := by
  rcases h.2 with ⟨rfl, _⟩ | ⟨g, cap, cur, rfl, _⟩
  · exact ⟨_, _, _, rfl⟩
  · exact ⟨_, _, _, rfl⟩
theorem own_cells {w : World} {B e size n : Nat} {v : Value} {xs : List Value} (h : w.ownsRow B e size v n xs) {j : Nat} {o : Obj} (hj : v.ownBlock = some j) (ho : w.heap[j]? = some o) : o.isCells = true := by
  rcases h.2 with ⟨rfl, _⟩ | ⟨g, cap, cur, rfl, _, hh, _⟩
  · simp [Value.ownBlock] at hj
  · obtain rfl : g = j := by simpa [Value.ownBlock] using hj
    rw [hh] at ho; cases ho; rfl
theorem own_put {W : World} {B e size n D : Nat} {v : Value} {xs : List Value} {o : Obj} {ds : Option (List Deferred)} (hK : W.heap[D]? = some (.deferred ds)) (h : W.ownsRow B e size v n xs) : (W.putObj D o).ownsRow B e size v n xs := by
  refine h.kept (grownBy_putObj' W D o) ?_
  rcases h.2 with ⟨rfl, _⟩ | ⟨g, cap, cur, rfl, _, hh, _⟩
  · exact .inl rfl
  · refine .inr (fun e => ?_)
    obtain rfl : g = D := by simpa [Value.ownBlock] using e
    rw [hh] at hK; cases hK
theorem own_baseI {W : World} {B B' e size n : Nat} {v : Value} {xs : List Value} (h : W.ownsRow B e size v n xs) (hB : B' ≤ B) : W.ownsRow B' e size v n xs :=
  ⟨h.1, h.2.imp id (fun ⟨g, cap, cur, a, b, z⟩ => ⟨g, cap, cur, a, Nat.le_trans hB b, z⟩)⟩
/-- A row of numbers of the call's own, behind a variable's cell. -/
def OutI (B b : Nat) (l : List Int) (W : World) : Prop := ∃ v, VRow W b 27 [v] ∧ W.ownsRow B 3 1 v l.length (l.map (Value.int .i64)) ∧ v.ownBlock ≠ some b
theorem OutI.own {β : Type} (B b : Nat) (f : β → List Int) : Own (fun s W => OutI B b (f s) W) := by
  rintro s X Y row ⟨v, h1, h2, h3⟩ hg hrow
  refine ⟨v, VRow.own b 27 (fun _ : Unit => [v]) () X Y row h1 hg hrow, ?_, h3⟩
  refine h2.kept hg ?_
  rcases h2.2 with ⟨rfl, _⟩ | ⟨g, cap, cur, rfl, _, hh, _⟩
  · exact .inl rfl
  · refine .inr (fun e => ?_)
    obtain ⟨o, ho, hc⟩ := hrow g (by rw [← e]; rfl)
    rw [hh] at ho; cases ho; cases hc

end Go.Proofs.Ytmdjndbjfgncmaa
namespace Go.Proofs.Ytmdjndbjfgncmaa
open Go.RowKit Go.Sort Go.Shelf Go.Lib

theorem sortI_any (l : List Int) (B n : Nat) (v : Value) (w : World) (h : w.ownsRow B 3 1 v n (l.map (Value.int .i64))) (hn : n ≤ 100000) :
    Calls Try.prog 53 #[v] w fun e w' => e = .returned (.tuple #[]) ∧ w'.ownsRow B 3 1 v n ((l.mergeSort fun x y => decide (x ≤ y)).map (Value.int .i64)) ∧ w.grownBy w' v.ownBlock := by
  have hl : l.length = n := by have := h.1; simpa using this
  subst hl
  rcases h.2 with ⟨rfl, h0⟩ | ⟨g, cap, cur, rfl, hg, hh, hc, hm, hs, ht⟩
  · have : l = [] := List.length_eq_zero_iff.1 h0
    subst this
    refine (Try.slices_Sort_int_none none 0 w).mono ?_
    rintro e w' ⟨rfl, rfl⟩
    exact ⟨rfl, by simpa using h, rfl, rfl, rfl, Nat.le_refl _, fun _ _ _ => rfl⟩
  · refine (Try.slices_Sort_int g 0 cap l w (holds_of_blockI hh (by simpa using ht)) (Array.getElem?_eq_some_iff.1 hh).1 (by omega)).mono ?_
    rintro e w' ⟨rfl, q, os, rfl⟩
    exact ⟨rfl, ownsRow_sortedI (List.length_mergeSort _) hg hh hc hm hs, grownBy_sortedI _⟩
theorem compactI_any (l : List Int) (B n : Nat) (v : Value) (w : World) (h : w.ownsRow B 3 1 v n (l.map (Value.int .i64))) (hn : n ≤ 100000) (hk : (Lib.compact l).length ≤ l.length) :
    Calls Try.prog 54 #[v] w fun e w' => ∃ v', e = .returned v' ∧ w'.ownsRow B 3 1 v' (Lib.compact l).length ((Lib.compact l).map (Value.int .i64)) ∧ w.grownBy w' v.ownBlock := by
  have hl : l.length = n := by have := h.1; simpa using this
  subst hl
  rcases h.2 with ⟨rfl, h0⟩ | ⟨g, cap, cur, rfl, hg, hh, hc, hm, hs, ht⟩
  · have : l = [] := List.length_eq_zero_iff.1 h0
    subst this
    refine (Try.slices_Compact_int_empty none 0 w).mono ?_
    rintro e w' ⟨rfl, rfl⟩
    have e : Lib.compact ([] : List Int) = [] := rfl
    rw [e]
    exact ⟨_, rfl, by simpa using h, rfl, rfl, rfl, Nat.le_refl _, fun _ _ _ => rfl⟩
  · refine (Try.slices_Compact_int g 0 cap l w (holds_of_blockI hh (by simpa using ht)) (by omega) hc).mono ?_
    rintro e w' ⟨rfl, q, rfl⟩
    have hb := grownBy_sortedI (w := w) (g := g) (n := q) (os := #[]) (Lib.compact l ++ List.replicate (l.length - (Lib.compact l).length) 0).toArray
    have hp := heap_sortedI (g := g) (n := q) (os := #[]) (Lib.compact l ++ List.replicate (l.length - (Lib.compact l).length) 0).toArray hh
    rw [grow_empty] at hb hp
    refine ⟨_, rfl, ⟨by simp, .inr ⟨g, cap, _, rfl, hg, hp, by omega, hm, by simp [putCells, hs], ?_⟩⟩, hb⟩
    have h1 := take_putCellsI cur (Lib.compact l ++ List.replicate (l.length - (Lib.compact l).length) 0) (by simp; omega)
    have h2 := congrArg (List.take (Lib.compact l).length) h1
    rw [List.take_take, List.map_append, List.take_append_of_le_length (by simp), Nat.min_eq_left (by simp)] at h2
    rw [Nat.mul_one, h2, ← List.length_map (Value.int .i64), List.take_length]
end Go.Proofs.Ytmdjndbjfgncmaa
namespace Go.Proofs.Ytmdjndbjfgncmaa
open Go.RowKit

theorem cmpt_inv (d : Array Int) (hs : ∀ i j, i ≤ j → j < d.size → d[i]! ≤ d[j]!) : ∀ m, m ≤ d.size → (Lib.compactUpTo d m).Pairwise (· < ·) ∧ ∀ x, x ∈ Lib.compactUpTo d m ↔ ∃ i, i < m ∧ d[i]! = x
  | 0, _ => ⟨by simp [Lib.compactUpTo], by simp [Lib.compactUpTo]⟩
  | m + 1, hm => by
    obtain ⟨h1, h2⟩ := cmpt_inv d hs m (by omega)
    rw [Lib.compactUpTo_succ]
    by_cases hk : Lib.keeps d m = true
    · rw [if_pos hk]
      refine ⟨List.pairwise_append.2 ⟨h1, by simp, fun a ha b hb => ?_⟩, fun x => ?_⟩
      · rw [List.mem_singleton] at hb
        subst hb
        obtain ⟨i, hi, rfl⟩ := (h2 a).1 ha
        have hne : m = 0 ∨ d[m]! ≠ d[m - 1]! := by simpa [Lib.keeps] using hk
        have hne : d[m]! ≠ d[m - 1]! := hne.resolve_left (by omega)
        have a1 := hs i (m - 1) (by omega) (by omega)
        have a2 := hs (m - 1) m (by omega) (by omega)
        omega
      · rw [List.mem_append, h2, List.mem_singleton]
        constructor
        · rintro (⟨i, hi, e⟩ | e)
          · exact ⟨i, by omega, e⟩
          · exact ⟨m, by omega, e.symm⟩
        · rintro ⟨i, hi, e⟩
          by_cases him : i = m
          · subst him; exact .inr e.symm
          · exact .inl ⟨i, by omega, e⟩
    · rw [if_neg hk, List.append_nil]
      have hne : ¬ (m = 0 ∨ d[m]! ≠ d[m - 1]!) := by simpa [Lib.keeps] using hk
      have h0 : m ≠ 0 := fun e => hne (.inl e)
      have he : d[m]! = d[m - 1]! := Classical.byContradiction (fun e => hne (.inr e))
      refine ⟨h1, fun x => ?_⟩
      rw [h2]
      constructor
      · rintro ⟨i, hi, e⟩; exact ⟨i, by omega, e⟩
      · rintro ⟨i, hi, e⟩
        by_cases him : i = m
        · subst him; exact ⟨i - 1, by omega, by rw [← he]; exact e⟩
        · exact ⟨i, by omega, e⟩
theorem sort_compact (l : List Int) : (Lib.compact (l.mergeSort fun x y => decide (x ≤ y))).Pairwise (· < ·) ∧ ∀ x, x ∈ Lib.compact (l.mergeSort fun x y => decide (x ≤ y)) ↔ x ∈ l := by
  have hsrt : (l.mergeSort fun x y => decide (x ≤ y)).Pairwise (fun x y => x ≤ y) := by
    have := List.pairwise_mergeSort (le := fun (x y : Int) => decide (x ≤ y)) (fun a b c h1 h2 => by simp at *; omega) (fun a b => by simp; omega) l
    exact this.imp (fun h => by simpa using h)
  have hmem : ∀ x, x ∈ (l.mergeSort fun x y => decide (x ≤ y)) ↔ x ∈ l := fun x => List.mem_mergeSort
  generalize (l.mergeSort fun x y => decide (x ≤ y)) = z at *
  have hs : ∀ i j, i ≤ j → j < z.toArray.size → z.toArray[i]! ≤ z.toArray[j]! := by
    intro i j hij hj
    have hj' : j < z.length := by simpa using hj
    rw [getElem!_pos z.toArray i (by simp; omega), getElem!_pos z.toArray j hj]
    by_cases e : i = j
    · subst e; exact Int.le_refl _
    · have := List.pairwise_iff_getElem.1 hsrt i j (by omega) hj' (by omega)
      simpa using this
  obtain ⟨h1, h2⟩ := cmpt_inv z.toArray hs z.length (by simp)
  refine ⟨h1, fun x => ?_⟩
  rw [← hmem x]
  show x ∈ Lib.compactUpTo z.toArray z.length ↔ _
  rw [h2]
  constructor
  · rintro ⟨i, hi, rfl⟩
    rw [getElem!_pos z.toArray i (by simpa using hi)]
    simp
  · intro hx
    obtain ⟨i, hi, e⟩ := List.mem_iff_getElem.1 hx
    exact ⟨i, hi, by rw [getElem!_pos z.toArray i (by simpa using hi)]; simpa using e⟩
/-- What the program's step returns is what the reference finds. -/
theorem step_sorted {G : Gr} {st : List Int} {b : Int} (hv : Vg G) : Lib.compact ((stepL G.es st b).mergeSort fun x y => decide (x ≤ y)) = nextA G st b :=
  step_law hv (sort_compact _).1 (sort_compact _).2
end Go.Proofs.Ytmdjndbjfgncmaa
namespace Go.Proofs.Ytmdjndbjfgncmaa
open Go.RowKit

/-! ### Marks among the deferred calls -/
/-- Cells are as they were; nothing below B has turned. -/
structure KC (B : Nat) (W W' : World) : Prop where
  below : Below B W W'
  cells : ∀ (k : Nat) (o : Obj), W.heap[k]? = some o → o.isCells = true → W'.heap[k]? = some o
theorem KC.refl (B : Nat) (W : World) : KC B W W := ⟨Below.refl _ _, fun _ _ h _ => h⟩
theorem KC.trans {B : Nat} {X Y Z : World} (h : KC B X Y) (k : KC B Y Z) : KC B X Z := ⟨h.below.trans k.below, fun i o hi ho => k.cells i o (h.cells i o hi ho) ho⟩
theorem KC.sl {α : Type} {B : Nat} {W W' : World} {enc : α → Value} {p : Option Addr} {l : List α} (h : KC B W W') (hs : Sl W enc p l) : Sl W' enc p l := by
  rcases hs with hs | ⟨b, off, hp, hb, hc⟩
  · exact .inl hs
  · by_cases hl : l = []
    · exact .inl hl
    · refine .inr ⟨b, off, hp, Nat.lt_of_lt_of_le hb h.below.size, fun i hi => ?_⟩
      obtain ⟨o, ho, hk⟩ := cells_of_cell (hc i hi)
      exact (World.cell?_of_block (w := W) (a := ⟨b, off + i, none⟩) ((h.cells b o ho hk).trans ho.symm)).trans (hc i hi)
def Marks (B : Nat) (W : World) : List Deferred → Prop
  | [] => True
  | d :: ds => (∃ D, d = { target := .collected D, args := #[] } ∧ B ≤ D ∧ W.heap[D]? = some (.deferred (some [])) ∧ ∀ d' ∈ ds, d'.target ≠ .collected D) ∧ Marks B W ds
theorem Marks.lt {B : Nat} {W : World} : ∀ {ds : List Deferred}, Marks B W ds → ∀ d ∈ ds, ∃ D, d.target = .collected D ∧ D < W.heap.size
  | [], _, _, h => by cases h
  | _ :: _, ⟨⟨D, hd, _, hk, _⟩, hr⟩, d', h => by
    rcases List.mem_cons.1 h with h | h
    · subst h; subst hd; exact ⟨D, rfl, (Array.getElem?_eq_some_iff.1 hk).1⟩
    · exact Marks.lt hr d' h
theorem Marks.keep {B : Nat} {W W' : World} : ∀ {ds : List Deferred}, Marks B W ds → (∀ D, B ≤ D → W.heap[D]? = some (.deferred (some [])) → (∃ d ∈ ds, d.target = .collected D) → W'.heap[D]? = some (.deferred (some []))) → Marks B W' ds
  | [], _, _ => trivial
  | _ :: _, ⟨⟨D, hd, hB, hk, hn⟩, hr⟩, h =>
    ⟨⟨D, hd, hB, h D hB hk ⟨_, List.mem_cons_self, by rw [hd]⟩, hn⟩, hr.keep (fun D' h1 h2 ⟨d, hd', ht⟩ => h D' h1 h2 ⟨d, List.mem_cons_of_mem _ hd', ht⟩)⟩
theorem Marks.others {B : Nat} {W W' : World} {ds : List Deferred} (h : Marks B W ds) (k : KeepsOthers W W') : Marks B W' ds := h.keep (fun D _ hk _ => k.same D _ hk rfl)
theorem Marks.cons {B D : Nat} {W : World} {ds : List Deferred} (h : Marks B W ds) (hB : B ≤ D) (hk : W.heap[D]? = some (.deferred (some []))) (hn : ∀ d ∈ ds, ∃ D', d.target = .collected D' ∧ D' < D) :
    Marks B W ({ target := .collected D, args := #[] } :: ds) :=
  ⟨⟨D, rfl, hB, hk, fun d hd e => by
    obtain ⟨D', h1, h2⟩ := hn d hd
    rw [h1] at e; cases e; omega⟩, h⟩
theorem leaves_marks {F : Fence} {n : Nat} {P : Program} {fn : Func} {tmps : Array Value} {R : Ending → World → Prop} {B : Nat} :
    ∀ (ds : List Deferred) (W : World), Marks B W ds → (∀ W', KC B W W' → LeavesInM F n P fn tmps R [] .returning W') → LeavesInM F n P fn tmps R ds .returning W
  | [], W, _, h => h W (KC.refl _ _)
  | d :: ds, W, ⟨⟨D, hd, hB, hk, hn⟩, hr⟩, h => by
    subst hd
    have hp : KC B W (W.putObj D (.deferred none)) := by
      refine ⟨⟨rfl, rfl, rfl, by simp, fun i hi => World.putObj_heap_other (by omega)⟩, fun i o hi ho => ?_⟩
      rw [World.putObj_heap_other (by rintro rfl; rw [hk] at hi; cases hi; cases ho)]
      exact hi
    refine ⟨by simp, .inl ⟨D, _, rfl, run_takeDeferred hk, ?_⟩⟩
    refine leaves_marks ds _ (hr.keep (fun D' _ hk' hm => ?_)) (fun W' hW' => h W' (hp.trans hW'))
    obtain ⟨d', hd', ht⟩ := hm
    rw [World.putObj_heap_other (by rintro rfl; exact hn d' hd' ht)]
    exact hk'
theorem grownBy_trans {A B C : World} {r : Option Nat} (h : A.grownBy B r) (k : B.grownBy C r) : A.grownBy C r :=
  ⟨k.os.trans h.os, k.tape.trans h.tape, k.output.trans h.output, Nat.le_trans h.size k.size, fun i hi hr => (k.block i (Nat.lt_of_lt_of_le hi h.size) hr).trans (h.block i hi hr)⟩
theorem grownBy_own {β : Type} (W0 : World) (c : Nat) : OwnFrom W0.heap.size (fun (_ : β) W => W0.grownBy W (some c)) := fun _ X Y row hs hg hr =>
  ⟨hg.os.trans hs.os, hg.tape.trans hs.tape, hg.output.trans hs.output, Nat.le_trans hs.size hg.size, fun i hi hc =>
    (hg.block i (Nat.lt_of_lt_of_le hi hs.size) (fun e => by have := (hr i e.symm).1; omega)).trans (hs.block i hi hc)⟩
theorem grownBy_refl (W : World) (r : Option Nat) : W.grownBy W r := ⟨rfl, rfl, rfl, Nat.le_refl _, fun _ _ _ => rfl⟩
theorem Marks.grown {B c : Nat} {W W' : World} {ds : List Deferred} {o : Obj} (h : Marks B W ds) (hg : W.grownBy W' (some c)) (hc : W.heap[c]? = some o) (ho : o.isCells = true) : Marks B W' ds :=
  h.keep (fun D _ hk _ => by
    rw [hg.block D (Array.getElem?_eq_some_iff.1 hk).1 (by rintro ⟨rfl⟩; rw [hk] at hc; cases hc; cases ho)]; exact hk)

theorem Marks.appended {B base e n size : Nat} {V w1 : World} {ds : List Deferred} {ov : Value} {xs : List Value} {o : Obj} (h : Marks B V ds) (hown : V.ownsRow base e size ov n xs) (hg : (V.alloc o).grownBy w1 ov.ownBlock) : Marks B w1 ds :=
  h.keep (fun D _ hk _ => by
    have hD := (Array.getElem?_eq_some_iff.1 hk).1
    rw [hg.block D (by simp; omega) ?_, Below.heap_alloc V o D hD]; exact hk
    intro e
    rcases hown.2 with ⟨rfl, _⟩ | ⟨g, cap, cur, rfl, _, hgb, _⟩
    · simp [Value.ownBlock] at e
    · obtain rfl : D = g := by simpa [Value.ownBlock] using e
      rw [hk] at hgb; cases hgb)
end Go.Proofs.Ytmdjndbjfgncmaa
namespace Go.Proofs.Ytmdjndbjfgncmaa
open Go.RowKit Go.Shelf
attribute [local go_sem] Oper.semAt_some

theorem cmp_len (l : List Int) : (Lib.compact l).length ≤ l.length := by
  have key : ∀ m, (Lib.compactUpTo l.toArray m).length ≤ m := by
    intro m
    induction m with
    | zero => simp [Lib.compactUpTo]
    | succ m ih => rw [Lib.compactUpTo_succ, List.length_append]; split <;> simp <;> omega
  exact key l.length
theorem KC.own {B B' e n size : Nat} {W W' : World} {v : Value} {xs : List Value} (h : KC B W W') (ho : W.ownsRow B' e size v n xs) : W'.ownsRow B' e size v n xs :=
  ⟨ho.1, ho.2.imp id (fun ⟨g, cap, cur, a, b, hh, z⟩ => ⟨g, cap, cur, a, b, h.cells g _ hh rfl, z⟩)⟩
/-- The ends of those edges that bear the label. -/
def labL (b : Int) (l : List (Nat × Ed)) : List Int := (l.filter (fun x => decide (x.2.l = b))).map (fun x => x.2.t)
theorem labL_hit {b : Int} {l : List (Nat × Ed)} {i : Nat} {x : Ed} (h : x.l = b) : labL b (l ++ [(i, x)]) = labL b l ++ [x.t] := by simp [labL, h]
theorem labL_miss {b : Int} {l : List (Nat × Ed)} {i : Nat} {x : Ed} (h : ¬ x.l = b) : labL b (l ++ [(i, x)]) = labL b l := by simp [labL, h]
theorem labL_le (b : Int) (l : List (Nat × Ed)) : (labL b l).length ≤ l.length := by unfold labL; rw [List.length_map]; exact List.length_filter_le _ _
theorem labL_lv (es : List Ed) (s b : Int) : ∀ k, k ≤ es.length → labL b (lvL es s k) = (((es.take k).filter (fun x => decide (x.f = s) && decide (x.l = b))).map Ed.t)
  | 0, _ => rfl
  | k + 1, h => by
    rw [lvL_succ (by omega), List.take_succ_eq_append_getElem (by omega : k < es.length), List.filter_append, List.map_append, ← labL_lv es s b k (by omega)]
    by_cases h1 : es[k].f = s
    · rw [if_pos h1]
      by_cases h2 : es[k].l = b
      · rw [labL_hit h2]; simp [h1, h2]
      · rw [labL_miss h2]; simp [h2]
    · rw [if_neg h1, List.append_nil]; simp [h1]
theorem stepL_succ (es : List Ed) (st : List Int) (b : Int) (k : Nat) (h : k < st.length) : stepL es (st.take (k + 1)) b = stepL es (st.take k) b ++ labL b (lvL es st[k] es.length) := by
  rw [labL_lv _ _ _ _ (Nat.le_refl _), List.take_length]
  unfold stepL
  rw [List.take_succ_eq_append_getElem h, List.flatMap_append, List.flatMap_cons, List.flatMap_nil, List.append_nil]
theorem stepL_len (es : List Ed) (st : List Int) (b : Int) : (stepL es st b).length ≤ st.length * es.length := by
  unfold stepL
  induction st with
  | nil => simp
  | cons s st ih =>
    rw [List.flatMap_cons, List.length_append, List.length_map, List.length_cons, Nat.add_mul, Nat.one_mul]
    have := List.length_filter_le (fun x => decide (x.f = s) && decide (x.l = b)) es
    omega
/-- A row of numbers that is no block of the sequence's. -/
def OutS (B b : Nat) (l : List Int) (W : World) : Prop := ∃ v, VRow W b 27 [v] ∧ W.ownsRow B 3 1 v l.length (l.map (Value.int .i64)) ∧ v.ownBlock ≠ some b ∧ (l = [] → v = .slice none 0 0)
/-- Where the rounds of Step stand. -/
def SInv (G : Gr) (p : Option Addr) (c : Nat) (st : List Int) (q : Option Addr) (d : Nat) (b : Int) (w : World) (bx k : Nat) (a : Act) (W : World) : Prop :=
  ∃ (ds : List Deferred) (u4 u8 u10 u11 u12 u13 u14 u15 u16 u17 u18 u19 u20 u21 u22 u23 u24 u25 u26 u27 u28 u29 u30 u34 u35 u36 u37 u38 u39 u40 u41 u42 u43 u44 u45 u46 u47 u48 u49 u50 u51 u52 u53 u54 u55 : Value), a = { tmps := #[(.agg #[.int .i64 G.q, .int .i64 G.n, .slice p G.es.length c]), (.slice q st.length d), (.int .i64 b), (.pointer (some ⟨w.heap.size, 0, none⟩)), u4, (.pointer (some ⟨w.heap.size + 1, 0, none⟩)), (.slice none 0 0), (.int .i64 0), u8, (.pointer (some ⟨bx, 0, none⟩)), u10, u11, u12, u13, u14, u15, u16, u17, u18, u19, u20, u21, u22, u23, u24, u25, u26, u27, u28, u29, u30, (.slice q st.length d), (.int .i64 st.length), (.int .i64 k), u34, u35, u36, u37, u38, u39, u40, u41, u42, u43, u44, u45, u46, u47, u48, u49, u50, u51, u52, u53, u54, u55], defers := ds } ∧
    k ≤ st.length ∧ OutS (bx + 1) bx (stepL G.es (st.take k) b) W ∧ Marks (bx + 1) W ds ∧ VRow W w.heap.size 24 [.int .i64 G.q, .int .i64 G.n, .slice p G.es.length c] ∧ VRow W (w.heap.size + 1) 3 [.int .i64 b] ∧ RowKit.Below w.heap.size w W ∧ bx + 1 ≤ W.heap.size
def smu (st : List Int) (a : Act) : Nat := st.length - (intOf (a.tmps.getD 33 undef)).toNat
/-- All blocks below n are as they were. -/
def KL (n : Nat) (W W' : World) : Prop := n ≤ W'.heap.size ∧ ∀ i, i < n → W'.heap[i]? = W.heap[i]?
theorem ownFrom_kl {β : Type} {n B : Nat} (W0 : World) (h : n ≤ B) : OwnFrom B (fun (_ : β) W => KL n W0 W) := fun _ X Y row hs hg hr =>
  ⟨Nat.le_trans hs.1 hg.size, fun i hi => (hg.block i (by have := hs.1; omega) (fun e => by have := (hr i e.symm).1; omega)).trans (hs.2 i hi)⟩
theorem ownFrom_keepsO {β : Type} (W0 : World) : OwnFrom W0.heap.size (fun (_ : β) W => KeepsOthers W0 W) := fun _ X Y row hs hg hr =>
  ⟨Nat.le_trans hs.size hg.size, fun i o hi ho => by
    have hlt := (Array.getElem?_eq_some_iff.1 hi).1
    exact (hg.block i (Nat.lt_of_lt_of_le hlt hs.size) (fun e => by have := (hr i e.symm).1; omega)).trans (hs.same i o hi ho)⟩
/-- The same, and no block of the sequence's that is at hand. -/
def OutT (B b Bs : Nat) (l : List Int) (W : World) : Prop := ∃ v, VRow W b 27 [v] ∧ W.ownsRow B 3 1 v l.length (l.map (Value.int .i64)) ∧ v.ownBlock ≠ some b ∧ (l = [] → v = .slice none 0 0) ∧ v.ownBlock ≠ some Bs
theorem OutT.own {β : Type} (B b Bs : Nat) (f : β → List Int) : Own (fun s W => OutT B b Bs (f s) W) := by
  rintro s X Y row ⟨v, h1, h2, h3, h4⟩ hg hrow
  refine ⟨v, VRow.own b 27 (fun _ : Unit => [v]) () X Y row h1 hg hrow, ?_, h3, h4⟩
  refine h2.kept hg ?_
  rcases h2.2 with ⟨rfl, _⟩ | ⟨g, cap, cur, rfl, _, hh, _⟩
  · exact .inl rfl
  · refine .inr (fun e => ?_)
    obtain ⟨o, ho, hc⟩ := hrow g (by rw [← e]; rfl)
    rw [hh] at ho; cases ho; cases hc
theorem sgB_mono {n m : Nat} {w : World} {p : Option Addr} {l : List Ed} (h : SgB n w p l) (hm : n ≤ m) : SgB m w p l := by
  rcases h with h | ⟨b, off, h1, h2, h3, h4⟩
  · exact .inl h
  · exact .inr ⟨b, off, h1, by omega, h3, h4⟩
/-- Where a row begins: behind all that lies, if it is nil. -/
theorem own_start {W : World} {B n : Nat} {v : Value} {xs : List Value} (h : W.ownsRow B 3 1 v n xs) (hB : B ≤ W.heap.size) (hn : n = 0 → v = .slice none 0 0) :
    ∃ B', B ≤ B' ∧ B' ≤ W.heap.size ∧ W.ownsRow B' 3 1 v n xs ∧ (n = 0 → B' = W.heap.size) := by
  by_cases h0 : n = 0
  · have hv := hn h0
    subst h0; subst hv
    exact ⟨W.heap.size, hB, Nat.le_refl _, ⟨h.1, .inl ⟨rfl, rfl⟩⟩, fun _ => rfl⟩
  · exact ⟨B, Nat.le_refl _, hB, h, fun e => absurd e h0⟩
/-- Behind an append a row is no cell that another row's was not. -/
theorem own_apart {W : World} {B' n : Nat} {v v' : Value} {x : Value} {xs : List Value} {W' : World} {Bs : Nat} (hs : VRow W Bs 3 [x]) (hg : W.grownBy W' v.ownBlock) (hne : v.ownBlock ≠ some Bs) (h : W'.ownsRow B' 3 1 v' (n + 1) xs)
    (hB : n = 0 → Bs < B') : v'.ownBlock ≠ some Bs := by
  intro e
  rcases h.2 with ⟨rfl, _⟩ | ⟨g, cap, cur, rfl, hgB, hh, hc, _, hsz, _⟩
  · simp [Value.ownBlock] at e
  · obtain rfl : g = Bs := by simpa [Value.ownBlock] using e
    by_cases h0 : n = 0
    · have := hB h0; omega
    · rw [hg.block g hs.lt (fun e => hne e.symm), show W.heap[g]? = _ from hs] at hh
      cases hh
      simp at hsz
      omega

set_option maxRecDepth 100000 in
set_option maxHeartbeats 4000000 in
theorem gStep_in (G : Gr) (p : Option Addr) (c : Nat) (st : List Int) (q : Option Addr) (d : Nat) (b : Int) (w : World) (hin : Sg 3 w edE p G.es) (hst : Sl w (Value.int .i64) q st) (hv : Vg G) (hs : st.length ≤ 64) (hc : chkS G.n none st = 0) (h0 : 0 ≤ b) (h1 : b < G.q) :
    CallsIn Fence.wide 9 Try.prog 34 #[(.agg #[.int .i64 G.q, .int .i64 G.n, .slice p G.es.length c]), .slice q st.length d, .int .i64 b] w (RetLi (nextA G st b) 0 w) := by
  have HIN := hidI hin; have HST := hidI hst; have HV := hidI hv; have HC := hidI hc
  have hl := hv.len
  clear hin hst hv hc
  obtain ⟨i0, hi0, hz0, hz1, hz3⟩ := info_parts infoIn
  obtain ⟨w0, hw0⟩ : ∃ w0, w0 = (w.alloc (.cells #[.int .i64 G.q, .int .i64 G.n, .slice p G.es.length c] 24)).alloc (.cells #[.int .i64 b] 3) := ⟨_, rfl⟩
  have b0 : VRow w0 w.heap.size 24 [.int .i64 G.q, .int .i64 G.n, .slice p G.es.length c] := by subst hw0; exact (VRow.new w _ _).alloc _
  have b1 : VRow w0 (w.heap.size + 1) 3 [.int .i64 b] := by subst hw0; exact VRow.new1 w _ _ _
  have hB0 : RowKit.Below w.heap.size w w0 := by subst hw0; exact ((RowKit.Below.refl _ _).alloc (Nat.le_refl _) _).alloc (by simp) _
  refine callsIn_of_wp_marks Try.func34 rfl trivial ?_ rfl
  simp only [Try.ntmps34, List.size_toArray, List.length_cons, List.length_nil, Nat.reduceAdd, Nat.reduceSub, Array.replicate_succ, Array.replicate_zero, List.push_toArray, List.append_toArray, List.nil_append, List.cons_append]
  gi_wp2_with (refine ⟨trivial, ?_⟩; gi_at_call 50)
  rw [← hw0]
  clear hw0
  refine (callsIn_wide.2 (gCheck_r G p c _ 0 (chkG_ok.2 HV.out) (HIN.out.below hB0) (by omega))).mono ?_
  rintro e w1 ⟨rfl, hB1⟩
  have x1 := hB0.trans (hB1.mono hB0.size)
  have c0 := b0.below hB1 b0.lt
  have c1 := b1.below hB1 b1.lt
  clear hB1 b0 b1 hB0
  have f0 := c0.at 0 rfl; have f1 := c0.at 1 rfl; have f2 := c0.at 2 rfl
  gi_wp2_with (refine ⟨trivial, ?_⟩; gi_at_call 51)
  refine (callsIn_wide.2 (gCheckSet_any G p c st q d _ (HST.out.below x1) (by omega))).mono ?_
  rw [HC.out]
  rintro e w2 ⟨rfl, hB2⟩
  have x2 := x1.trans (hB2.mono x1.size)
  have d0 := c0.below hB2 c0.lt
  have d1 := c1.below hB2 c1.lt
  clear f0 f1 f2 hB2 c0 c1 x1
  have f0 := d0.at 0 rfl; have g0 := d1.at 0 rfl
  have hz : w.heap.size + 1 < w2.heap.size := d1.lt
  gi_wp2
  have e0 := d0.alloc (.cells #[.slice none 0 0] 27)
  have e1 := d1.alloc (.cells #[.slice none 0 0] 27)
  have e9 : VRow (w2.alloc (.cells #[.slice none 0 0] 27)) w2.heap.size 27 [.slice none 0 0] := VRow.new w2 _ _
  have x3 := x2.alloc x2.size (.cells #[.slice none 0 0] 27)
  clear d0 d1 f0 g0
  refine wpIn_loop (fun a W => ∃ k, SInv G p c st q d b w w2.heap.size k a W) (fun a _ => smu st a) ⟨0, _, _, _, _, _, _, _, _, _, _, _, _, _, _, _, _, _, _, _, _, _, _, _, _, _, _, _, _, _, _, _, _, _, _, _, _, _, _, _, _, _, _, _, _, _, _, rfl, by omega, ⟨_, e9, World.ownsRow_nil _ _ _ _, by simp [Value.ownBlock], fun _ => rfl⟩, trivial, e0, e1, x3, by simp⟩ ?_
  clear e0 e1 e9 x3
  rintro a W ⟨k, ds, u4, u8, u10, u11, u12, u13, u14, u15, u16, u17, u18, u19, u20, u21, u22, u23, u24, u25, u26, u27, u28, u29, u30, u34, u35, u36, u37, u38, u39, u40, u41, u42, u43, u44, u45, u46, u47, u48, u49, u50, u51, u52, u53, u54, u55, rfl, hk, ⟨v, c9, hown, hn9, hnil⟩, hM, c0, c1, hB, hge⟩
  have HBM : Hid (RowKit.Below w.heap.size w W) := hB
  have hmu : smu st { tmps := #[(.agg #[.int .i64 G.q, .int .i64 G.n, .slice p G.es.length c]), (.slice q st.length d), (.int .i64 b), (.pointer (some ⟨w.heap.size, 0, none⟩)), u4, (.pointer (some ⟨w.heap.size + 1, 0, none⟩)), (.slice none 0 0), (.int .i64 0), u8, (.pointer (some ⟨w2.heap.size, 0, none⟩)), u10, u11, u12, u13, u14, u15, u16, u17, u18, u19, u20, u21, u22, u23, u24, u25, u26, u27, u28, u29, u30, (.slice q st.length d), (.int .i64 st.length), (.int .i64 k), u34, u35, u36, u37, u38, u39, u40, u41, u42, u43, u44, u45, u46, u47, u48, u49, u50, u51, u52, u53, u54, u55], defers := ds } = st.length - (intOf (.int .i64 (k : Int))).toNat := rfl
  have HMU := hidI hmu
  clear hmu
  have hbz := hB.size
  have hbx := c9.lt
  by_cases hlt : k < st.length
  · obtain ⟨bs1, os1, rfl, hbs1, hcs1⟩ := (HST.out.below hB).get k hlt
    have e1 := hcs1 k hlt
    clear hcs1
    have HSN := hidI (stepL_succ G.es st b k hlt)
    have HSL : Hid ((stepL G.es (st.take k) b).length ≤ 64 * 1024) := by
      unfold Hid
      have h1 := stepL_len G.es (st.take k) b
      have h2 : (st.take k).length * G.es.length ≤ 64 * 1024 := Nat.mul_le_mul (by rw [List.length_take]; omega) hl
      omega
    generalize st[k] = s at *
    generalize stepL G.es (st.take k) b = L at *
    have f0 := c0.at 0 rfl; have f1 := c0.at 1 rfl; have f2 := c0.at 2 rfl
    gi_wp2_with (refine ⟨trivial, ?_⟩; gi_at_call 52)
    refine (leaving_in Fence.wide 8 trivial rfl _ s G.q G.n p G.es.length c rfl _).mono ?_
    rintro e w' ⟨rfl, rfl⟩
    gi_wp2
    obtain ⟨V0, hV0⟩ : ∃ V0, V0 = (W.alloc (.cells #[.int .i64 G.q, .int .i64 G.n, .slice p G.es.length c] 24)).alloc (.cells #[.int .i64 s] 3) := ⟨_, rfl⟩
    have y1 : VRow V0 W.heap.size 24 [.int .i64 G.q, .int .i64 G.n, .slice p G.es.length c] := by subst hV0; exact (VRow.new W _ _).alloc _
    have y2 : VRow V0 (W.heap.size + 1) 3 [.int .i64 s] := by subst hV0; exact VRow.new1 W _ _ _
    have y9 : VRow V0 w2.heap.size 27 [v] := by subst hV0; exact (c9.alloc _).alloc _
    have yown : V0.ownsRow (w2.heap.size + 1) 3 1 v L.length (L.map (Value.int .i64)) := by subst hV0; exact (hown.alloc _).alloc _
    have z0 : VRow V0 w.heap.size 24 [.int .i64 G.q, .int .i64 G.n, .slice p G.es.length c] := by subst hV0; exact (c0.alloc _).alloc _
    have z1 : VRow V0 (w.heap.size + 1) 3 [.int .i64 b] := by subst hV0; exact (c1.alloc _).alloc _
    have hBV : RowKit.Below w.heap.size w V0 := by subst hV0; exact (hB.alloc hbz _).alloc (by simp; omega) _
    have hsz : V0.heap.size = W.heap.size + 2 := by subst hV0; simp
    have hKV : KeepsOthers W V0 := by subst hV0; exact (KeepsOthers.alloc _ _).trans (KeepsOthers.alloc _ _)
    have hvb : ∀ j, v.ownBlock = some j → w2.heap.size + 1 ≤ j ∧ j < W.heap.size := fun j e => hown.lt j e
    have hsg : SgB w2.heap.size V0 p G.es := sgB_mono ((SgB.of HIN.out (Nat.le_refl _)).kept (fun i hi => hBV.block i hi)) (by omega)
    rw [← hV0]
    clear hV0 hown c9 c0 c1 f0 f1 f2 e1 hB
    refine' wpIn_rangeFunc_ownH rfl (by omega) (gf := 62) (lb := #[.pointer (some ⟨W.heap.size, 0, none⟩), .pointer (some ⟨W.heap.size + 1, 0, none⟩)]) rfl trivial (enters_of Try.func62 (by kernel_rfl) rfl)
      (leavingS_stops Fence.wide 8 trivial rfl (by omega) w2.heap.size W.heap.size (W.heap.size + 1) G s p c hl V0 (by omega) y1 y2 hsg) KS.trans (KS_b (by omega) (by omega)) (RowKit.Below.refl _ _) (fun _ => rfl)
      (fun pre V => (((OutT (w2.heap.size + 1) w2.heap.size (W.heap.size + 1) (L ++ labL b pre) V ∧ RowKit.Below w.heap.size w V) ∧ KeepsOthers V0 V) ∧ KL w2.heap.size V0 V) ∧ VRow V (W.heap.size + 1) 3 [.int .i64 s])
      (fun _ _ _ => False)
      (OwnFrom.and (OwnFrom.and (OwnFrom.and (OwnFrom.and ((OutT.own _ _ _ (fun pre => L ++ labL b pre)).from _) (ownFrom_below (Nat.le_refl _) (by omega))) (ownFrom_keepsO _)) (ownFrom_kl _ (by omega))) ((VRow.own _ _ (fun _ => [.int .i64 s])).from _))
      (fun _ _ _ _ _ hs _ _ => hs)
      ⟨⟨⟨⟨⟨v, y9, by simpa [labL] using yown, hn9, fun h => hnil (by simpa [labL] using h), fun e => by have := (hvb _ e).2; omega⟩, hBV⟩, KeepsOthers.refl _⟩, by omega, fun _ _ => rfl⟩, y2⟩
      (fun x a' V => ∃ Bx, V0.heap.size ≤ Bx ∧ VRow V Bx 47 [.int .i64 x.2.f, .int .i64 x.2.l, .int .i64 x.2.t] ∧ a' = { tmps := #[(.agg #[.int .i64 G.q, .int .i64 G.n, .slice p G.es.length c]), (.slice (some ⟨bs1, os1, none⟩) st.length d), (.int .i64 b), (.pointer (some ⟨w.heap.size, 0, none⟩)), u4, (.pointer (some ⟨w.heap.size + 1, 0, none⟩)), (.slice none 0 0), (.int .i64 0), u8, (.pointer (some ⟨w2.heap.size, 0, none⟩)), u10, (.int .i64 s), u12, (.pointer (some ⟨Bx, 0, none⟩)), u14, u15, u16, u17, u18, u19, u20, u21, u22, u23, u24, u25, u26, u27, u28, u29, u30, (.slice (some ⟨bs1, os1, none⟩) st.length d), (.int .i64 st.length), (.int .i64 k), (.bool true), (.pointer (some ⟨bs1, os1 + k, none⟩)), (.int .i64 s), (.agg #[.int .i64 G.q, .int .i64 G.n, .slice p G.es.length c]), (.int .i64 s), (.func (.func 62) #[] #[.pointer (some ⟨W.heap.size, 0, none⟩), .pointer (some ⟨W.heap.size + 1, 0, none⟩)]), (.int .i64 (x.1 : Int)), (.agg #[.int .i64 x.2.f, .int .i64 x.2.l, .int .i64 x.2.t]), u42, u43, u44, u45, u46, u47, u48, u49, u50, u51, u52, u53, u54, u55], defers := [] })
      (fun x a' _ X Y row hs hg hr => by
        obtain ⟨Bx, h1, h2, h3⟩ := hs
        exact ⟨Bx, h1, VRow.own Bx 47 (fun _ : Unit => [.int .i64 x.2.f, .int .i64 x.2.l, .int .i64 x.2.t]) () X Y row h2 hg (fun r e => (hr r e).2), h3⟩)
      ?assign ?body ?done ?stop
    case assign =>
      rintro l pre x V K ⟨⟨⟨⟨hT, hB1⟩, hK1⟩, hL1⟩, ly⟩ hK
      have hsV := hK1.size
      unfold encL
      gi_wp2
      obtain ⟨v', t1, t2, t3, t4, t5⟩ := hT
      exact hK _ _ ((KeepsOthers.alloc _ _).from _) (fun i hi => Below.heap_alloc _ _ i (by omega)) ⟨⟨⟨⟨⟨v', t1.alloc _, t2.alloc _, t3, t4, t5⟩, hB1.alloc hB1.size _⟩, hK1.trans (KeepsOthers.alloc _ _)⟩, Nat.le_trans hL1.1 (by simp), fun i hi => (Below.heap_alloc _ _ i (by have := hL1.1; omega)).trans (hL1.2 i hi)⟩, ly.alloc _⟩
        ⟨V.heap.size, hsV, VRow.new V 47 [.int .i64 x.2.f, .int .i64 x.2.l, .int .i64 x.2.t], rfl⟩
    case body =>
      rintro l pre ⟨i, x⟩ a' V hl' ⟨r, hr⟩ ⟨⟨⟨⟨⟨v', t1, t2, t3, t4, t5⟩, hB1⟩, hK1⟩, hL1⟩, ly⟩ ⟨Bx, hBx, hx, rfl⟩ hlen
      have hsV := hK1.size
      have hlb : (L ++ labL b pre).length ≤ 70000 := by rw [List.length_append]; have := labL_le b pre; have := HSL.out; omega
      have lb : VRow V (w.heap.size + 1) 3 [.int .i64 b] := (hL1.2 _ hz).trans z1
      have k1 := hx.at 1 rfl; have k2 := hx.at 2 rfl
      have k0 := lb.at 0 rfl
      by_cases he : x.l = b
      · have hb : (x.l == b) = true := by simpa using he
        have HS : Hid (L ++ labL b (pre ++ [(i, x)]) = L ++ labL b pre ++ [x.t]) := by rw [Hid, labL_hit he, List.append_assoc]
        clear he
        generalize L ++ labL b pre = M at *
        have d6 := t1.at 0 rfl; have z6 := t1.frozen 0
        have hnew := cell_one_at V (.int .i64 x.t) 3 V.heap.size rfl
        have hV1 : V.heap.size + 1 = (V.alloc (.cells #[.int .i64 x.t] 3)).heap.size := (World.size_alloc _ _).symm
        obtain ⟨B', hb1, hb2, hownB, hb3⟩ := own_start (t2.alloc (.cells #[.int .i64 x.t] 3)) (by omega) (fun e => t4 (List.length_eq_zero_iff.1 e))
        have hcl : ∀ (j : Nat) (o : Obj), v'.ownBlock = some j → (V.alloc (.cells #[.int .i64 x.t] 3)).heap[j]? = some o → o.isCells = true := fun j o e h => own_cells hownB e h
        have hvb' : ∀ j, v'.ownBlock = some j → w2.heap.size + 1 ≤ j := fun j e => (t2.lt j e).1
        have lyA := ly.alloc (.cells #[.int .i64 x.t] 3)
        gi_wp2_with (gi_at_builtin; refine wpListIn_append_own _ rfl _ _ 27 rfl B' 3 i0 (.int .i64 0) 1 8 Try.underlying27 hi0 hz0 hz1 hz3 rfl (by decide) _ _ _ rfl hownB ⟨V.heap.size, 0, none⟩ 1 1 [.int .i64 x.t] rfl rfl hnew (by simp [Value.oneCell']) (by simp [maxLen]; omega) (by omega) (by omega) ?_; intro v2 W2 hown' hgrow0 _; have hgrow : (V.alloc (.cells #[.int .i64 x.t] 3)).grownBy W2 v'.ownBlock := hgrow0; have hap := own_apart lyA hgrow t5 hown' (fun e => by have := hb3 e; omega); obtain ⟨pv, mv, cv, rfl⟩ := own_shI hown'; have r6 := (t1.alloc (.cells #[.int .i64 x.t] 3)).grown hgrow (fun e => t3 e.symm); have s6 := r6.at 0 rfl; have t6 := r6.frozen 0)
        have hn2 : (Value.slice pv mv cv).ownBlock ≠ some w2.heap.size := fun e => by have := (hown'.lt _ e).1; omega
        have hgz := hgrow.size
        have hks : KS w2.heap.size (W.heap.size + 1) V (W2.setCell ⟨w2.heap.size, 0, none⟩ (.slice pv mv cv)) := fun j h1 => by
          rw [Below.heap_setCell _ _ _ _ (show j ≠ w2.heap.size by omega), hgrow.block j (by omega) (fun e => by
            rcases h1 with h1 | h1
            · have := hvb' _ e.symm; omega
            · exact t5 (by rw [← e, h1])), Below.heap_alloc V _ j (by omega)]
        have hko : KeepsOthers V (W2.setCell ⟨w2.heap.size, 0, none⟩ (.slice pv mv cv)) := ((KeepsOthers.alloc V _).trans (KeepsOthers.of_grownBy hgrow hcl)).trans (KeepsOthers.setCell _ _ _)
        refine ⟨hko.from _, hks, ⟨⟨⟨⟨_, VRow.set (i := 0) _ r6, ?_, hn2, fun e => ?_, hap⟩, ?_⟩, hK1.trans hko⟩, ?_, fun j hj => (hks j (.inl hj)).trans (hL1.2 j hj)⟩, (hks _ (.inr rfl)).trans ly⟩
        · rw [HS.out, List.length_append, List.map_append]
          exact ownsRow_setCell_below (a := ⟨w2.heap.size, 0, none⟩) (own_baseI hown' hb1) (show w2.heap.size < w2.heap.size + 1 by omega) _
        · rw [HS.out] at e; simp at e
        · exact ((hB1.alloc hB1.size _).grown hgrow (Nat.le_trans hB1.size (by simp)) (fun j e => by have := hvb' _ e; omega)).setCell (show w.heap.size ≤ w2.heap.size by omega) _
        · rw [World.size_setCell]; have := hL1.1; omega
      · have hb : (x.l == b) = false := by simpa using he
        have HS : Hid (L ++ labL b (pre ++ [(i, x)]) = L ++ labL b pre) := by rw [Hid, labL_miss he]
        clear he
        gi_wp2
        exact ⟨(KeepsOthers.refl _).from _, KS.refl _ _ _, ⟨⟨⟨⟨v', t1, by rw [HS.out]; exact t2, t3, by rw [HS.out]; exact t4, t5⟩, hB1⟩, hK1⟩, hL1⟩, ly⟩
    case done =>
      rintro D ys V hD' hys ⟨⟨⟨⟨⟨v', t1, t2, t3, t4, t5⟩, hB1⟩, hK1⟩, hL1⟩, ly⟩ hK
      subst hys
      rw [← HSN.out] at t2 t4
      have hMV : Marks (w2.heap.size + 1) V ({ target := .collected D, args := #[] } :: ds) :=
        (hM.others (hKV.trans hK1)).cons (by omega) hK (fun d hd => by obtain ⟨D', h1, h2⟩ := hM.lt d hd; exact ⟨D', h1, by omega⟩)
      have l0 : VRow V w.heap.size 24 [.int .i64 G.q, .int .i64 G.n, .slice p G.es.length c] := (hL1.2 _ (by omega)).trans z0
      have l1 : VRow V (w.heap.size + 1) 3 [.int .i64 b] := (hL1.2 _ hz).trans z1
      have hV2 := hK1.size
      gi_wp2
      refine ⟨⟨k + 1, _, _, _, _, _, _, _, _, _, _, _, _, _, _, _, _, _, _, _, _, _, _, _, _, _, _, _, _, _, _, _, _, _, _, _, _, _, _, _, _, _, _, _, _, _, _, rfl, by omega, ⟨v', t1, t2, t3, t4⟩, hMV, l0, l1, hB1, by omega⟩, ?_⟩
      rw [HMU.out]
      refine Nat.lt_of_le_of_lt (Nat.le_of_eq (show smu _ _ = st.length - (intOf (.int .i64 ((k : Int) + 1))).toNat from rfl)) ?_
      simp [intOf]; omega
    case stop =>
      rintro D c pre W _ _ h _
      exact h.elim
  · obtain rfl : k = st.length := by omega
    rw [List.take_length] at hown hnil
    have HSR : Hid (Lib.compact ((stepL G.es st b).mergeSort fun x y => decide (x ≤ y)) = nextA G st b) := step_sorted HV.out
    have hLl : (stepL G.es st b).length ≤ 64 * 1024 := Nat.le_trans (stepL_len G.es st b) (Nat.mul_le_mul hs hl)
    generalize stepL G.es st b = L at *
    have d9 := c9.at 0 rfl
    have hn9' : some w2.heap.size ≠ v.ownBlock := fun e => hn9 e.symm
    have hcW : ∀ (j : Nat) (o : Obj), v.ownBlock = some j → W.heap[j]? = some o → o.isCells = true := fun j o e h => own_cells hown e h
    have hvb : ∀ j, v.ownBlock = some j → w2.heap.size + 1 ≤ j := fun j e => (hown.lt j e).1
    gi_wp2_with (refine ⟨trivial, ?_⟩; gi_at_call 53)
    refine (callsIn_wide.2 (sortI_any L (w2.heap.size + 1) L.length v W hown (by omega))).mono ?_
    rintro e w3 ⟨rfl, hown3, G3⟩
    have c9' := c9.grown G3 hn9'
    have d9' := c9'.at 0 rfl
    have hM3 := hM.others (KeepsOthers.of_grownBy G3 hcW)
    have hB3 := hB.grown G3 hB.size (fun j e => by have := hvb _ e; omega)
    have hcl := cmp_len (L.mergeSort fun x y => decide (x ≤ y))
    have hml : (L.mergeSort fun x y => decide (x ≤ y)).length = L.length := List.length_mergeSort _
    have hc3 : ∀ (j : Nat) (o : Obj), v.ownBlock = some j → w3.heap[j]? = some o → o.isCells = true := fun j o e h => own_cells hown3 e h
    clear d9 c9 hown c0 c1
    gi_wp2_with (refine ⟨trivial, ?_⟩; gi_at_call 54)
    refine (callsIn_wide.2 (compactI_any (L.mergeSort fun x y => decide (x ≤ y)) (w2.heap.size + 1) L.length v w3 hown3 (by omega) hcl)).mono ?_
    rw [HSR.out]
    rintro e w4 ⟨v4, rfl, hown4, G4⟩
    have hM4 := hM3.others (KeepsOthers.of_grownBy G4 hc3)
    have hB4 := hB3.grown G4 hB3.size (fun j e => by have := hvb _ e; omega)
    gi_wp2
    refine leaves_marks ds w4 hM4 (fun W' hW' => ?_)
    refine ⟨_, results_tmp2 (t := 6) (u := 7) rfl _ _ _, ?_⟩
    obtain ⟨pv, mv, cv, rfl⟩ := own_shI hown4
    exact ⟨pv, mv, cv, rfl, own_baseI (hW'.own hown4) (by omega), hB4.trans (hW'.below.mono (by omega))⟩
end Go.Proofs.Ytmdjndbjfgncmaa
namespace Go.Proofs.Ytmdjndbjfgncmaa
open Go.RowKit Go.Sort Go.Shelf Go.Lib

set_option maxRecDepth 100000 in
set_option maxHeartbeats 2000000 in
theorem gStep_any (G : Gr) (p : Option Addr) (c : Nat) (st : List Int) (q : Option Addr) (d : Nat) (b : Int) (w : World) (hin : Sg 3 w edE p G.es) (hst : Sl w (Value.int .i64) q st) (hl : G.es.length ≤ 10000) (hs : st.length ≤ 100000) :
    Calls Try.prog 34 #[(.agg #[.int .i64 G.q, .int .i64 G.n, .slice p G.es.length c]), .slice q st.length d, .int .i64 b] w (RetLi (stepA G st b).1 (stepA G st b).2 w) := by
  have HIN := hidI hin; have HST := hidI hst
  clear hin hst
  obtain ⟨w0, hw0⟩ : ∃ w0, w0 = (w.alloc (.cells #[.int .i64 G.q, .int .i64 G.n, .slice p G.es.length c] 24)).alloc (.cells #[.int .i64 b] 3) := ⟨_, rfl⟩
  have b0 : VRow w0 w.heap.size 24 [.int .i64 G.q, .int .i64 G.n, .slice p G.es.length c] := by subst hw0; exact (VRow.new w _ _).alloc _
  have b1 : VRow w0 (w.heap.size + 1) 3 [.int .i64 b] := by subst hw0; exact VRow.new1 w _ _ _
  have hB0 : RowKit.Below w.heap.size w w0 := by subst hw0; exact ((RowKit.Below.refl _ _).alloc (Nat.le_refl _) _).alloc (by simp) _
  obtain ⟨r, hr⟩ : ∃ r, chkG G = r := ⟨_, rfl⟩
  by_cases hr0 : r = 0
  · subst hr0
    obtain ⟨r2, hr2⟩ : ∃ r2, chkS G.n none st = r2 := ⟨_, rfl⟩
    by_cases hok : r2 = 0 ∧ 0 ≤ b ∧ b < G.q
    · obtain ⟨rfl, h0, h1⟩ := hok
      have hv := chkG_ok.1 hr
      have : stepA G st b = (nextA G st b, 0) := by unfold stepA; rw [if_pos hr, if_pos hr2, if_neg (by omega)]
      rw [this]
      have hso := chkS_ok hr2
      have hlen := (St.mk hso.1 hso.2.1 : St G.n st).len hv.n1
      exact callsIn_wide.1 (gStep_in G p c st q d b w HIN.out HST.out hv (by have := hv.n2; omega) hr2 h0 h1)
    · have HR := hidI hr; have HR2 := hidI hr2
      clear hr
      go_enter Try.func34, Try.ntmps34
      go_wp2_with fail
      rw [← hw0]
      clear hw0
      refine (gCheck_r G p c _ 0 HR.out (HIN.out.below hB0) (by omega)).mono ?_
      rintro e w1 ⟨rfl, hB1⟩
      have x1 := hB0.trans (hB1.mono hB0.size)
      have c0 := b0.below hB1 b0.lt
      have c1 := b1.below hB1 b1.lt
      clear hB1 hB0 b0 b1
      have f0 := c0.at 0 rfl; have f1 := c0.at 1 rfl; have f2 := c0.at 2 rfl
      go_wp2_with fail
      refine (gCheckSet_any G p c st q d _ (HST.out.below x1) (by omega)).mono ?_
      rw [hr2]
      rintro e w2 ⟨rfl, hB2⟩
      have x2 := x1.trans (hB2.mono x1.size)
      have d0 := c0.below hB2 c0.lt
      have d1 := c1.below hB2 c1.lt
      clear f0 f1 f2 hB2 c0 c1
      have f0 := d0.at 0 rfl; have g0 := d1.at 0 rfl
      by_cases h2 : r2 = 0
      · subst h2
        clear hr2
        by_cases h0 : b < 0
        · have HK : Hid (stepA G st b = ([], 2)) := by unfold Hid stepA; rw [if_pos HR.out, if_pos HR2.out, if_pos (.inl h0)]
          go_wp2
          go_ret2
          exact RetLi.nil HK.out x2
        · have h1 : G.q ≤ b := by omega
          have HK : Hid (stepA G st b = ([], 2)) := by unfold Hid stepA; rw [if_pos HR.out, if_pos HR2.out, if_pos (.inr h1)]
          go_wp2
          go_ret2
          exact RetLi.nil HK.out x2
      · have HK : Hid (stepA G st b = ([], r2)) := by unfold Hid stepA; rw [if_pos HR.out, HR2.out, if_neg h2]
        have hrb : (r2 == 0) = false := by simpa using h2
        clear hr2 hok
        go_wp2
        go_ret2
        exact RetLi.nil HK.out x2
  · have HK : Hid (stepA G st b = ([], 1)) := by unfold Hid stepA; rw [if_neg (by rw [hr]; exact hr0)]
    have hrb : (r == 0) = false := by simpa using hr0
    have HR := hidI hr
    clear hr
    go_enter Try.func34, Try.ntmps34
    go_wp2_with fail
    rw [← hw0]
    clear hw0
    refine (gCheck_r G p c _ r HR.out (HIN.out.below hB0) (by omega)).mono ?_
    rintro e w1 ⟨rfl, hB1⟩
    have x1 := hB0.trans (hB1.mono hB0.size)
    go_wp2
    go_ret2
    exact RetLi.nil HK.out x1
end Go.Proofs.Ytmdjndbjfgncmaa
