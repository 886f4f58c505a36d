/-
  Words, plain lemmas and walks, merged: Vd, Ve, Sp, Cj, Sq.
-/
import Derived.Test.YtjponanfpdmeoaaGreatDoorZkk
import Derived.Deep.RegionHeld3
import Derived.Deep.AppendLies
import Derived.Test.YtjponanfpdmeoaaGreatDoorZkj
import Derived.Test.YtjponanfpdmeoaaGreatDoorZkf
set_option linter.unusedVariables false
set_option linter.unusedSimpArgs false
namespace Go.Proofs.YtjponanfpdmeoaaGreatDoor
open Go.RowKit Go.Sort Go.Shelf Go.Lib

theorem PR.nil (w : World) (B g : Nat) (h : w.ownsRow B 88 2 (.slice (some ⟨g, 0, none⟩) 0 0) 0 []) : PR w B (.slice (some ⟨g, 0, none⟩) 0 0) [] := ⟨[], rfl, h, fun _ h => by cases h⟩
theorem PR.push {w w' : World} {B : Nat} {v' : Value} {q : List Pl} {x : Pl} {p : Option Addr} {d : Nat} {es : List QE} (h1 : es.map (·.1) = q) (h3 : ∀ e ∈ es, SlT w e.2.1 e.1.2) (hk : KX0 3 w w') (hs : SlT w' p x.2)
    (ho : w'.ownsRow B 88 2 v' (q.length + 1) (catQ es ++ catQ [(x, (p, d))])) : PR w' B v' (q ++ [x]) := by
  refine ⟨es ++ [(x, (p, d))], by rw [List.map_append, h1]; rfl, ?_, fun e he => ?_⟩
  · rw [List.length_append, catQ_app]; exact ho
  · rcases List.mem_append.1 he with he | he
    · exact (h3 e he).keep hk
    · rw [List.mem_singleton.1 he]; exact hs
theorem PR.mono {w : World} {B B' : Nat} {v : Value} {q : List Pl} (h : PR w B v q) (hB : B' ≤ B) : PR w B' v q := by
  obtain ⟨es, h1, h2, h3⟩ := h
  exact ⟨es, h1, ⟨h2.1, h2.2.imp id (fun ⟨g, cap, cur, a, b, z⟩ => ⟨g, cap, cur, a, Nat.le_trans hB b, z⟩)⟩, h3⟩
theorem info32 : (Tryz.prog.info? 88).map (fun i => (i.zero, i.size, i.bytes)) = some (some (.agg #[.int .i64 0, .slice none 0 0]), 2, 32) := by kernel_rfl
theorem cell_al' {w : World} {b i : Nat} {v : Value} (o : Obj) (h : w.cell? ⟨b, i, none⟩ = some v) : (w.alloc o).cell? ⟨b, i, none⟩ = some v :=
  (((RowKit.Below.refl _ _).alloc (Nat.le_refl _) o).cell (p := ⟨b, i, none⟩) (World.block_lt_of_cell? w _ h)).trans h
theorem size_al (w : World) (o : Obj) : w.heap.size ≤ (w.alloc o).heap.size := by rw [World.size_alloc]; omega
def RetPR (q : List Pl) (w : World) (e : Ending) (w' : World) : Prop := ∃ v, e = .returned v ∧ PR w' w.heap.size v q ∧ RowKit.Below w.heap.size w w'

/-- What the rows of followers need of table, graph and pair. -/
structure FX (T : Tb) (G : Gr) (p1 p2 : Option Addr) (c1 c2 : Nat) (p : Option Addr) (c : Nat) (x : Pl) (q : Option Addr) (d : Nat) (w : World) (b : Nat) (W : World) : Prop where
  tl : VRow W b 25 [.int .i64 T.q, .int .i64 T.n, .slice p1 T.base.length c1, .slice p2 T.swaps.length c2]
  gl : VRow W (b + 1) 28 [.int .i64 G.q, .int .i64 G.n, .slice p G.es.length c]
  xl : VRow W (b + 2) 88 [.int .i64 x.1, .slice q x.2.length d]
  bel : RowKit.Below w.heap.size w W
  hx : SlT W q x.2
theorem FX.below {T : Tb} {G : Gr} {p1 p2 : Option Addr} {c1 c2 : Nat} {p : Option Addr} {c : Nat} {x : Pl} {q : Option Addr} {d : Nat} {w : World} {b : Nat} {W W' : World} (h : FX T G p1 p2 c1 c2 p c x q d w b W) (hB : RowKit.Below W.heap.size W W') : FX T G p1 p2 c1 c2 p c x q d w b W' :=
  ⟨h.tl.below hB h.tl.lt, h.gl.below hB h.gl.lt, h.xl.below hB h.xl.lt, h.bel.trans (hB.mono h.bel.size), h.hx.below hB⟩

set_option maxRecDepth 100000 in
set_option maxHeartbeats 8000000 in
theorem rlkFollowers_any (T : Tb) (p1 p2 : Option Addr) (c1 c2 : Nat) (G : Gr) (p : Option Addr) (c : Nat) (x : Pl) (q : Option Addr) (d : Nat) (w : World) (hT : TbIn w T p1 p2 c1 c2) (hG : Sg 3 w edE p G.es) (hx : SlT w q x.2) (hf : fmd T = true) (hv : Vg G) (hq : G.q = T.q) (hS : St G.n x.2) :
    Calls Tryz.prog 48 #[(.agg #[.int .i64 T.q, .int .i64 T.n, .slice p1 T.base.length c1, .slice p2 T.swaps.length c2]), (.agg #[.int .i64 G.q, .int .i64 G.n, .slice p G.es.length c]), .agg #[.int .i64 x.1, .slice q x.2.length d]] w (RetPR (folP T G x) w) := by
  obtain ⟨i0, hi0, hz0, hz1, hz3⟩ := info_parts info32
  obtain ⟨w1, hw1⟩ : ∃ w1, w1 = (((w.alloc (.cells #[.int .i64 T.q, .int .i64 T.n, .slice p1 T.base.length c1, .slice p2 T.swaps.length c2] 25)).alloc (.cells #[.int .i64 G.q, .int .i64 G.n, .slice p G.es.length c] 28)).alloc (.cells #[.int .i64 x.1, .slice q x.2.length d] 88)).alloc (.cells #[] 88) := ⟨_, rfl⟩
  have hB1 : RowKit.Below w.heap.size w w1 := by subst hw1; exact ((((RowKit.Below.refl _ _).alloc (Nat.le_refl _) _).alloc (by simp) _).alloc (by simp; omega) _).alloc (by simp; omega) _
  have hF : FX T G p1 p2 c1 c2 p c x q d w w.heap.size w1 := by
    refine ⟨?_, ?_, ?_, hB1, hx.below hB1⟩
    · subst hw1; exact (((VRow.new w _ _).alloc _).alloc _).alloc _
    · subst hw1; exact ((VRow.new1 w _ _ _).alloc _).alloc _
    · subst hw1; exact (VRow.new2 w _ _ _ _).alloc _
  have o1 : w1.ownsRow (w.heap.size + 3) 88 1 (.slice (some ⟨w.heap.size + 3, 0, none⟩) 0 0) 0 [] := by
    subst hw1
    have := own_new (((w.alloc (.cells #[.int .i64 T.q, .int .i64 T.n, .slice p1 T.base.length c1, .slice p2 T.swaps.length c2] 25)).alloc (.cells #[.int .i64 G.q, .int .i64 G.n, .slice p G.es.length c] 28)).alloc (.cells #[.int .i64 x.1, .slice q x.2.length d] 88)) (w.heap.size + 3) [] 88 (by simp) (by simp [maxLen])
    simp only [World.size_alloc] at this
    exact this
  have o2 : w1.ownsRow (w.heap.size + 3) 88 2 (.slice (some ⟨w.heap.size + 3, 0, none⟩) 0 0) 0 [] := by
    refine ⟨by simp, o1.2.imp id (fun ⟨g, cap, cur, a, b, hh, hc, hm, hs, ht⟩ => ?_)⟩
    simp only [Value.slice.injEq, Option.some.injEq, Addr.mk.injEq] at a
    obtain ⟨⟨rfl, _, _⟩, _, rfl⟩ := a
    exact ⟨w.heap.size + 3, 0, cur, rfl, b, hh, Nat.le_refl _, by simp [maxLen], by simpa using hs, by simp⟩
  have hP := PR.nil w1 _ _ o2
  have hN := pre_all (fmd_split hf).1
  have hN16 : T.base.length ≤ 16 := by omega
  have hM64 : T.swaps.length ≤ 64 := by omega
  have hb16 : 2 ≤ G.q ∧ G.q ≤ 16 := by omega
  have HBW := hidI (fun (k : Nat) (hk : k < T.base.length) => (show Chg.okw G.q (bget T.base k).data.toList = true by rw [hq]; exact (base_okw hf k hk).1))
  have HBZ := hidI (fun (k : Nat) (hk : k < T.base.length) => base_sz hf k hk)
  have HSW := hidI (fun (k : Nat) (hk : k < T.swaps.length) => (show Chg.okw G.q T.swaps[k].wd.data.toList = true by rw [hq]; exact (swap_okw hf k hk).1))
  have HSZ := hidI (fun (k : Nat) (hk : k < T.swaps.length) => swap_size hf k hk)
  have hn8 : T.n ≤ 8 := by omega
  have HFS := hidI (fun j : Int => frW_start hf j)
  have HSS := hidI (fun (i j : Int) (h : frW T i j = false) => swS_some hf h)
  have HSN := hidI (fun (i j : Int) (h : frW T i j = true) => swS_none h)
  have HBG := hidI (fun (k : Nat) (hk : k < T.base.length) => bget_eq T.base k hk)
  have HST := hidI (fun (s : ByteArray) (W : World) (hF : FX T G p1 p2 c1 c2 p c x q d w w.heap.size W) (hw : Chg.okw G.q s.data.toList = true) (hs : s.size ≤ 65536) => rlkStep_any G p c x.2 q d s W (hG.below hF.bel) hF.hx hv hS hb16.1 hb16.2 hw hs)
  have HSP := hidI (fun (i j : Int) (W : World) (h : RowKit.Below w.heap.size w W) => rlkSwap_any T i j p1 p2 c1 c2 W (hT.swaps.below h) hT.l2)
  have HBS := hidI (fun (W : World) (h : RowKit.Below w.heap.size w W) => hT.base.below h)
  have HWS := hidI (fun (W : World) (h : RowKit.Below w.heap.size w W) => hT.swaps.below h)
  have HBL := hidI (fun k => folB_len T G x k)
  have HSL := hidI (fun k h => folS_len T G x k h)
  have hsz1 : w.heap.size + 3 < w1.heap.size := (o2.lt (w.heap.size + 3) rfl).2
  have HF := hidI hF; have HP := hidI hP
  have HFP : Hid (folP T G x = folB T G x T.base.length ++ folS T G x T.swaps.length) := rfl
  clear hT hG hx hf hv hq hS hN hF hP o1 o2 hB1
  obtain ⟨x1, x2⟩ := x
  generalize folP T G (x1, x2) = R at *
  go_enter Tryz.func48, Tryz.ntmps48
  go_upto_region 2 with fail
  rw [← hw1]
  clear hw1
  go_wp2_with fail
  go_loopw [7, 8] (fun v7 iv W => ∃ k : Nat, k ≤ T.base.length ∧ iv = .int .i64 k ∧ PR W (w.heap.size + 3) v7 (folB T G (x1, x2) k) ∧ FX T G p1 p2 c1 c2 p c (x1, x2) q d w w.heap.size W ∧ w.heap.size + 3 < W.heap.size) (fun _ iv _ => T.base.length - (intOf iv).toNat)
  case atStart => exact ⟨0, by omega, rfl, HP.out, HF.out, hsz1⟩
  case round =>
    obtain ⟨k, hk, rfl, hp, hF, hzr⟩ := hrel
    have t0 := hF.tl.at 0 rfl; have t1 := hF.tl.at 1 rfl; have t2 := hF.tl.at 2 rfl; have t3 := hF.tl.at 3 rfl
    have y0 := hF.xl.at 0 rfl
    obtain ⟨pv, cv, rfl⟩ := hp.val
    by_cases hlt : k < T.base.length
    · have hltI : (k : Int) < (T.base.length : Int) := by omega
      have HFB := hidI (folB_succ T G (x1, x2) k)
      have hle := HBL.out k
      have HF1 := hidI hF; have HP1 := hidI hp
      generalize folB T G (x1, x2) k = L at *
      clear hF hp
      go_upto_region 5 with fail
      go_cut [28] (fun v W => v = .bool (frW T x1 (k : Int)) ∧ RowKit.Below wr.heap.size wr W)
      case first =>
        by_cases h1 : x1 = -1
        · have h1b : (x1 == -1) = true := by simpa using h1
          have HX := hidI (HFS.out (k : Int))
          rw [← h1] at HX
          clear h1
          go_wp2_with fail
          go_meet
          exact ⟨by rw [HX.out], RowKit.Below.refl _ _⟩
        · have h1b : (x1 == -1) = false := by simpa using h1
          have HC := hidI (HSP.out x1 (k : Int) wr HF1.out.bel)
          cases hfr : frW T x1 (k : Int)
          · have hne := ne_empty (HSS.out _ _ hfr)
            have HX := hidI hfr
            generalize swS T.swaps x1 (k : Int) = sw at *
            clear hfr
            go_wp2_with fail
            refine HC.out.mono ?_
            rintro e w2 ⟨rfl, hB2⟩
            go_wp2_with fail
            go_meet
            exact ⟨by rw [HX.out], hB2⟩
          · rw [HSN.out _ _ hfr] at HC
            have HX := hidI hfr
            clear hfr
            go_wp2_with fail
            refine HC.out.mono ?_
            rintro e w2 ⟨rfl, hB2⟩
            go_wp2_with fail
            go_meet
            exact ⟨by rw [HX.out], hB2⟩
      case rest =>
        obtain ⟨rfl, hBc⟩ := hcut
        have hFc := HF1.out.below hBc
        have hpc := HP1.out.below hBc
        have hzc : w.heap.size + 3 < wc.heap.size := Nat.lt_of_lt_of_le hzr hBc.size
        clear t0 t1 t2 t3 y0 HF1 HP1 hBc hzr
        cases hfr : frW T x1 (k : Int)
        · have HQ : Hid (folB T G (x1, x2) (k + 1) = L) := by rw [Hid, HFB.out]; simp [hfr]
          clear hfr
          go_wp2_with fail
          go_roundw
          case rel => exact ⟨k + 1, by omega, by go_num, by rw [HQ.out]; exact hpc, hFc, hzc⟩
          case measure => simp [intOf]; omega
        · have HQ : Hid (folB T G (x1, x2) (k + 1) = L ++ [((k : Int), endA G x2 (ltr (bget T.base k)))]) := by rw [Hid, HFB.out]; simp [hfr]
          clear hfr
          obtain ⟨es, he1, ho, hes⟩ := hpc
          have hbl := hFc.bel
          obtain ⟨bb, oo, rfl, hbb, hc⟩ := (HBS.out w (RowKit.Below.refl _ _)).get k hlt
          have e0 := (hbl.cell (p := (⟨bb, oo + k, none⟩ : Addr)) hbb).trans (hc k hlt)
          have hbbc : bb < wc.heap.size := Nat.lt_of_lt_of_le hbb hbl.size
          rw [← HBG.out k hlt] at e0
          have hs8 := HBZ.out k hlt
          have t2 := hFc.tl.at 2 rfl
          have u0 := hFc.gl.at 0 rfl; have u1 := hFc.gl.at 1 rfl; have u2 := hFc.gl.at 2 rfl
          have y1 := hFc.xl.at 1 rfl
          have z0 := hFc.tl.lt; have z1 := hFc.gl.lt; have z2 := hFc.xl.lt
          have hsx := hFc.hx
          have HSTk := hidI (fun W (h : RowKit.Below (w.heap.size + 3) wc W) (hs : SlT W q x2) => HST.out (bget T.base k) W ⟨hFc.tl.below h (by omega), hFc.gl.below h (by omega), hFc.xl.below h (by omega), hFc.bel.trans (h.mono (by omega)), hs⟩ (HBW.out k hlt) (by omega))
          have HFc := hidI hFc; have HES := hidI hes; have HE1 := hidI he1
          have holt := ho.lt
          have hod : wc.drew.ownsRow (w.heap.size + 3) 88 2 (.slice pv L.length cv) L.length (catQ es) := ho
          clear hc hs8 hFc hes he1
          generalize bget T.base k = ba at *
          generalize endA G x2 (ltr ba) = E at *
          go_wp2_with fail
          go_region_held3 (fun w' => w'.cell? ⟨w.heap.size, 2, none⟩ = some (.slice (some ⟨bb, oo, none⟩) T.base.length c1) ∧ w'.cell? ⟨w.heap.size + 1, 0, none⟩ = some (.int .i64 G.q) ∧ w'.cell? ⟨w.heap.size + 1, 1, none⟩ = some (.int .i64 G.n) ∧ w'.cell? ⟨w.heap.size + 1, 2, none⟩ = some (.slice p G.es.length c) ∧ w'.cell? ⟨w.heap.size + 2, 1, none⟩ = some (.slice q x2.length d) ∧ w'.cell? ⟨bb, oo + k, none⟩ = some (.string ba) ∧ RowKit.Below (w.heap.size + 3) wc w' ∧ SlT w' q x2 ∧ wc.heap.size ≤ w'.heap.size)
            (first | (go_split_ands; exact ⟨(by first | assumption | exact (hgrow.cell_far _ (Nat.lt_of_lt_of_le z0 (by assumption)) (fun e => by have h9 := (holt _ e.symm).1; dsimp only at h9; omega)).trans (by assumption) | exact cell_al' _ (by assumption) | exact (hBa.cell (Nat.lt_of_lt_of_le z0 (by assumption))).trans (by assumption)), (by first | assumption | exact (hgrow.cell_far _ (Nat.lt_of_lt_of_le z1 (by assumption)) (fun e => by have h9 := (holt _ e.symm).1; dsimp only at h9; omega)).trans (by assumption) | exact cell_al' _ (by assumption) | exact (hBa.cell (Nat.lt_of_lt_of_le z1 (by assumption))).trans (by assumption)), (by first | assumption | exact (hgrow.cell_far _ (Nat.lt_of_lt_of_le z1 (by assumption)) (fun e => by have h9 := (holt _ e.symm).1; dsimp only at h9; omega)).trans (by assumption) | exact cell_al' _ (by assumption) | exact (hBa.cell (Nat.lt_of_lt_of_le z1 (by assumption))).trans (by assumption)), (by first | assumption | exact (hgrow.cell_far _ (Nat.lt_of_lt_of_le z1 (by assumption)) (fun e => by have h9 := (holt _ e.symm).1; dsimp only at h9; omega)).trans (by assumption) | exact cell_al' _ (by assumption) | exact (hBa.cell (Nat.lt_of_lt_of_le z1 (by assumption))).trans (by assumption)), (by first | assumption | exact (hgrow.cell_far _ (Nat.lt_of_lt_of_le z2 (by assumption)) (fun e => by have h9 := (holt _ e.symm).1; dsimp only at h9; omega)).trans (by assumption) | exact cell_al' _ (by assumption) | exact (hBa.cell (Nat.lt_of_lt_of_le z2 (by assumption))).trans (by assumption)), (by first | assumption | exact (hgrow.cell_far _ (Nat.lt_of_lt_of_le hbbc (by assumption)) (fun e => by have h9 := (holt _ e.symm).1; dsimp only at h9; omega)).trans (by assumption) | exact cell_al' _ (by assumption) | exact (hBa.cell (Nat.lt_of_lt_of_le hbbc (by assumption))).trans (by assumption)), (by first | assumption | exact RowKit.Below.grown (by assumption) hgrow (Nat.le_trans (Nat.le_of_lt hzc) (by assumption)) (fun j e => (holt _ e).1) | exact RowKit.Below.alloc (by assumption) (Nat.le_trans (Nat.le_of_lt hzc) (by assumption)) _ | exact RowKit.Below.trans (by assumption) (hBa.mono (Nat.le_trans (Nat.le_of_lt hzc) (by assumption))) | exact below_drewN (RowKit.Below.refl _ _) 1), (by first | assumption | exact SlT.keep (by assumption) (KX0.grown hgrow (own_typed ((World.ownsRow.below hod hBa).alloc _)) (by decide)) | exact SlT.below (by assumption) ((RowKit.Below.refl _ _).alloc (Nat.le_refl _) _) | exact SlT.below (by assumption) hBa), (by first | assumption | exact Nat.le_refl _ | exact Nat.le_trans (by assumption) hgrow.size | exact Nat.le_trans (by assumption) hBa.size | exact Nat.le_trans (by assumption) (size_al _ _))⟩) | (go_split_ands; refine ⟨?_, ?_, ?_, ?_, ?_, ?_, ?_, ⟨?_, ?_⟩, ?_⟩ <;> first | assumption | (go_keep; done)) | fail)
            (first
              | (go_at_call 71; go_split_ands; (with_reducible refine (HSTk.out _ (by assumption) (by assumption)).mono ?_); rintro e wA ⟨qa, da, rfl, hsa, hBa⟩)
              | (go_split_ands; refine step_append_lies _ (by rfl) _ _ _ (by rfl) (w.heap.size + 3) 88 i0 _ 2 32 Tryz.underlying89 hi0 hz0 hz1 hz3 rfl (by omega) (.slice pv L.length cv) L.length (catQ es) (by rfl) ((World.ownsRow.below hod hBa).alloc _) ⟨wA.heap.size, 0, none⟩ 1 1 [.int .i64 k, .slice qa E.length da] (by rfl) (by rfl) (World.news_of_block (cs := #[.int .i64 k, .slice qa E.length da]) (t := 88) (fr := (0, 0)) (heap_alloc_new wA _)) (by simp [Value.oneCell']) (by omega) (by unfold maxLen; omega) (by omega) (Nat.le_trans (Nat.le_of_lt hzc) (by assumption)) (wA.heap.size + 1) (World.size_alloc _ _) ?_; intro gg cap w5 hown' hgrow hat hlt5)
              | fail)
          go_split_ands
          have hB5 : RowKit.Below (w.heap.size + 3) wc w5 := by assumption
          have hx5 : SlT w5 q x2 := by first | assumption | exact ⟨by assumption, by assumption⟩
          have hz5 : w.heap.size + 3 < w5.heap.size := Nat.lt_of_lt_of_le hzc hB5.size
          have hk5 : KX0 3 (wA.alloc (.cells #[.int .i64 k, .slice qa E.length da] 88)) w5 := KX0.grown hgrow (own_typed ((World.ownsRow.below hod hBa).alloc _)) (by decide)
          have hkA : KX0 3 wA w5 := (KX0.below ((RowKit.Below.refl _ _).alloc (Nat.le_refl _) _)).trans hk5
          have hkc : KX0 3 wc w5 := (show KX0 3 wc.drew wA from KX0.below hBa).trans hkA
          have hp5 := PR.push (x := ((k : Int), E)) HE1.out HES.out hkc (hsa.keep hkA) hown'
          have hF5 : FX T G (some ⟨bb, oo, none⟩) p2 c1 c2 p c (x1, x2) q d w w.heap.size w5 := ⟨HFc.out.tl.below hB5 (by omega), HFc.out.gl.below hB5 (by omega), HFc.out.xl.below hB5 (by omega), HFc.out.bel.trans (hB5.mono (by omega)), hx5⟩
          clear hk5 hkA hkc hgrow hat hown' hB5 hx5
          go_wp2_with fail
          go_roundw
          case rel => exact ⟨k + 1, by omega, by go_num, by rw [HQ.out]; exact hp5, hF5, hz5⟩
          case measure => simp [intOf]; omega
    · obtain rfl : k = T.base.length := by omega
      have hltI : ¬ (T.base.length : Int) < (T.base.length : Int) := by omega
      have hL0 := HBL.out T.base.length
      generalize folB T G (x1, x2) T.base.length = L0 at *
      have HP1 := hidI hp; have HF1 := hidI hF
      clear hp hF
      go_wp2_with fail
      clear t0 t1 t2 t3 y0 hltI
      go_loopw [7, 9] (fun v7 iv W => ∃ m : Nat, m ≤ T.swaps.length ∧ iv = .int .i64 m ∧ PR W (w.heap.size + 3) v7 (L0 ++ folS T G (x1, x2) m) ∧ FX T G p1 p2 c1 c2 p c (x1, x2) q d w w.heap.size W ∧ w.heap.size + 3 < W.heap.size) (fun _ iv _ => T.swaps.length - (intOf iv).toNat)
      case atStart => exact ⟨0, by omega, rfl, by rw [show folS T G (x1, x2) 0 = [] from rfl, List.append_nil]; exact HP1.out, HF1.out, hzr⟩
      case round =>
        clear HP1 HF1 hzr
        obtain ⟨m, hm, rfl, hp, hF, hzr⟩ := hrel
        have t0 := hF.tl.at 0 rfl; have t1 := hF.tl.at 1 rfl; have t2 := hF.tl.at 2 rfl; have t3 := hF.tl.at 3 rfl
        have y0 := hF.xl.at 0 rfl
        have HSLm := HSL.out m hm
        obtain ⟨pv, cv, rfl⟩ := hp.val
        by_cases hlt2 : m < T.swaps.length
        · have hltM : (m : Int) < (T.swaps.length : Int) := by omega
          have HFB := hidI (folS_succ T G (x1, x2) m hlt2)
          have hle : (L0 ++ folS T G (x1, x2) m).length ≤ 80 := by rw [List.length_append]; omega
          have HF1 := hidI hF; have HP1 := hidI hp
          obtain ⟨b3, o3, rfl, hb3, g0, g1, g2⟩ := (HWS.out wr hF.bel).get3 m hlt2 rfl
          have HQA : Hid (L0 ++ folS T G (x1, x2) (m + 1) = (L0 ++ folS T G (x1, x2) m) ++ (if frW T x1 T.swaps[m].i = true then [((-1 : Int), endA G x2 (ltr T.swaps[m].wd))] else [])) := by rw [Hid, HFB.out, List.append_assoc]
          generalize L0 ++ folS T G (x1, x2) m = L at *
          clear hF hp HFB
          go_upto_region 10 with fail
          go_cut [65] (fun v W => v = .bool (frW T x1 T.swaps[m].i) ∧ RowKit.Below wr.heap.size wr W)
          case first =>
            by_cases h1 : x1 = -1
            · have h1b : (x1 == -1) = true := by simpa using h1
              have HX := hidI (HFS.out T.swaps[m].i)
              rw [← h1] at HX
              clear h1
              go_wp2_with fail
              (refine wp_region_quiet_lit (by kernel_rfl) (by kernel_rfl) ?_; (repeat (first | go_big_quiet_step (fail) | quiet_step (fail))); refine wpQuiet_nil ?_; intro _ hwq; obtain ⟨nq, hwq2⟩ := hwq; subst hwq2)
              go_wp2_with fail
              go_meet
              exact ⟨by rw [HX.out], below_drewN (RowKit.Below.refl _ _) nq⟩
            · have h1b : (x1 == -1) = false := by simpa using h1
              have HC := hidI (fun W (h : RowKit.Below wr.heap.size wr W) => HSP.out x1 T.swaps[m].i W (HF1.out.bel.trans (h.mono HF1.out.bel.size)))
              have hne := fun (h : frW T x1 T.swaps[m].i = false) => ne_empty (HSS.out x1 T.swaps[m].i h)
              have hem := fun (h : frW T x1 T.swaps[m].i = true) => HSN.out x1 T.swaps[m].i h
              obtain ⟨fr, hfr⟩ : ∃ fr, frW T x1 T.swaps[m].i = fr := ⟨_, rfl⟩
              rw [hfr] at hne hem
              have HX := hidI hfr
              clear hfr
              generalize T.swaps[m] = sx at *
              go_wp2_with fail
              refine region_tail 13 (by kernel_rfl) (by kernel_rfl) fun W hD => ?_
              have d0 := (hD.cell _).trans t0; have d1 := (hD.cell _).trans t1; have d2 := (hD.cell _).trans t2; have d3 := (hD.cell _).trans t3
              have q0 := (hD.cell _).trans g0; have q1 := (hD.cell _).trans y0
              have hBW : RowKit.Below wr.heap.size wr W := hD.below _
              clear t0 t1 t2 t3 g0 g1 g2 y0
              simp only [List.take_succ_cons, List.take_zero, List.drop_succ_cons, List.drop_zero]
              iterate 13 still_step
              refine wpStill_nil ?_
              go_wp2_with fail
              refine (HC.out W hBW).mono ?_
              rintro e w2 ⟨rfl, hB2⟩
              have hB9 := hBW.trans (hB2.mono hBW.size)
              clear hB2 HC hBW hD
              cases fr
              · have hnn := hne rfl
                clear hne hem
                generalize swS T.swaps x1 sx.i = sw at *
                go_wp2_with fail
                go_meet
                exact ⟨by rw [HX.out], hB9⟩
              · rw [hem rfl]
                clear hne hem
                go_wp2_with fail
                go_meet
                exact ⟨by rw [HX.out], hB9⟩
          case rest =>
            obtain ⟨rfl, hBc⟩ := hcut
            have hFc := HF1.out.below hBc
            have hpc := HP1.out.below hBc
            have hzc : w.heap.size + 3 < wc.heap.size := Nat.lt_of_lt_of_le hzr hBc.size
            clear t0 t1 t2 t3 y0 g0 g1 g2 HF1 HP1 hBc hzr
            cases hfr : frW T x1 T.swaps[m].i
            · have HQ : Hid (L0 ++ folS T G (x1, x2) (m + 1) = L) := by rw [Hid, HQA.out]; simp [hfr]
              clear hfr
              go_wp2_with fail
              go_roundw
              case rel => exact ⟨m + 1, by omega, by go_num, by rw [HQ.out]; exact hpc, hFc, hzc⟩
              case measure => simp [intOf]; omega
            · have HQ : Hid (L0 ++ folS T G (x1, x2) (m + 1) = L ++ [((-1 : Int), endA G x2 (ltr T.swaps[m].wd))]) := by rw [Hid, HQA.out]; simp [hfr]
              clear hfr HQA
              obtain ⟨es, he1, ho, hes⟩ := hpc
              have hbl := hFc.bel
              obtain ⟨bb, oo, hpp, hbb, _, _, hc2⟩ := (HWS.out w (RowKit.Below.refl _ _)).get3 m hlt2 rfl
              cases hpp
              have e0 := (hbl.cell (p := (⟨b3, o3 + m * 3 + 2, none⟩ : Addr)) hbb).trans hc2
              have hbbc : b3 < wc.heap.size := Nat.lt_of_lt_of_le hbb hbl.size
              have hs8 := HSZ.out m hlt2
              have t3 := hFc.tl.at 3 rfl
              have u0 := hFc.gl.at 0 rfl; have u1 := hFc.gl.at 1 rfl; have u2 := hFc.gl.at 2 rfl
              have y1 := hFc.xl.at 1 rfl
              have z0 := hFc.tl.lt; have z1 := hFc.gl.lt; have z2 := hFc.xl.lt
              have hsx := hFc.hx
              have HSTk := hidI (fun W (h : RowKit.Below (w.heap.size + 3) wc W) (hs : SlT W q x2) => HST.out T.swaps[m].wd W ⟨hFc.tl.below h (by omega), hFc.gl.below h (by omega), hFc.xl.below h (by omega), hFc.bel.trans (h.mono (by omega)), hs⟩ (HSW.out m hlt2) (by omega))
              have HFc := hidI hFc; have HES := hidI hes; have HE1 := hidI he1
              have holt := ho.lt
              have hod : wc.drew.ownsRow (w.heap.size + 3) 88 2 (.slice pv L.length cv) L.length (catQ es) := ho
              clear hc2 hs8 hFc hes he1
              generalize T.swaps[m] = sx at *
              obtain ⟨sxi, sxj, ba⟩ := sx
              generalize endA G x2 (ltr ba) = E at *
              go_wp2_with fail
              go_region_held3 (fun w' => w'.cell? ⟨w.heap.size, 3, none⟩ = some (.slice (some ⟨b3, o3, none⟩) T.swaps.length c2) ∧ w'.cell? ⟨w.heap.size + 1, 0, none⟩ = some (.int .i64 G.q) ∧ w'.cell? ⟨w.heap.size + 1, 1, none⟩ = some (.int .i64 G.n) ∧ w'.cell? ⟨w.heap.size + 1, 2, none⟩ = some (.slice p G.es.length c) ∧ w'.cell? ⟨w.heap.size + 2, 1, none⟩ = some (.slice q x2.length d) ∧ w'.cell? ⟨b3, o3 + m * 3 + 2, none⟩ = some (.string ba) ∧ RowKit.Below (w.heap.size + 3) wc w' ∧ SlT w' q x2 ∧ wc.heap.size ≤ w'.heap.size)
                (first | (go_split_ands; exact ⟨(by first | assumption | exact (hgrow.cell_far _ (Nat.lt_of_lt_of_le z0 (by assumption)) (fun e => by have h9 := (holt _ e.symm).1; dsimp only at h9; omega)).trans (by assumption) | exact cell_al' _ (by assumption) | exact (hBa.cell (Nat.lt_of_lt_of_le z0 (by assumption))).trans (by assumption)), (by first | assumption | exact (hgrow.cell_far _ (Nat.lt_of_lt_of_le z1 (by assumption)) (fun e => by have h9 := (holt _ e.symm).1; dsimp only at h9; omega)).trans (by assumption) | exact cell_al' _ (by assumption) | exact (hBa.cell (Nat.lt_of_lt_of_le z1 (by assumption))).trans (by assumption)), (by first | assumption | exact (hgrow.cell_far _ (Nat.lt_of_lt_of_le z1 (by assumption)) (fun e => by have h9 := (holt _ e.symm).1; dsimp only at h9; omega)).trans (by assumption) | exact cell_al' _ (by assumption) | exact (hBa.cell (Nat.lt_of_lt_of_le z1 (by assumption))).trans (by assumption)), (by first | assumption | exact (hgrow.cell_far _ (Nat.lt_of_lt_of_le z1 (by assumption)) (fun e => by have h9 := (holt _ e.symm).1; dsimp only at h9; omega)).trans (by assumption) | exact cell_al' _ (by assumption) | exact (hBa.cell (Nat.lt_of_lt_of_le z1 (by assumption))).trans (by assumption)), (by first | assumption | exact (hgrow.cell_far _ (Nat.lt_of_lt_of_le z2 (by assumption)) (fun e => by have h9 := (holt _ e.symm).1; dsimp only at h9; omega)).trans (by assumption) | exact cell_al' _ (by assumption) | exact (hBa.cell (Nat.lt_of_lt_of_le z2 (by assumption))).trans (by assumption)), (by first | assumption | exact (hgrow.cell_far _ (Nat.lt_of_lt_of_le hbbc (by assumption)) (fun e => by have h9 := (holt _ e.symm).1; dsimp only at h9; omega)).trans (by assumption) | exact cell_al' _ (by assumption) | exact (hBa.cell (Nat.lt_of_lt_of_le hbbc (by assumption))).trans (by assumption)), (by first | assumption | exact RowKit.Below.grown (by assumption) hgrow (Nat.le_trans (Nat.le_of_lt hzc) (by assumption)) (fun j e => (holt _ e).1) | exact RowKit.Below.alloc (by assumption) (Nat.le_trans (Nat.le_of_lt hzc) (by assumption)) _ | exact RowKit.Below.trans (by assumption) (hBa.mono (Nat.le_trans (Nat.le_of_lt hzc) (by assumption))) | exact below_drewN (RowKit.Below.refl _ _) 1), (by first | assumption | exact SlT.keep (by assumption) (KX0.grown hgrow (own_typed ((World.ownsRow.below hod hBa).alloc _)) (by decide)) | exact SlT.below (by assumption) ((RowKit.Below.refl _ _).alloc (Nat.le_refl _) _) | exact SlT.below (by assumption) hBa), (by first | assumption | exact Nat.le_refl _ | exact Nat.le_trans (by assumption) hgrow.size | exact Nat.le_trans (by assumption) hBa.size | exact Nat.le_trans (by assumption) (size_al _ _))⟩) | (go_split_ands; refine ⟨?_, ?_, ?_, ?_, ?_, ?_, ?_, ⟨?_, ?_⟩, ?_⟩ <;> first | assumption | (go_keep; done)) | fail)
                (first
                  | (go_at_call 71; go_split_ands; (with_reducible refine (HSTk.out _ (by assumption) (by assumption)).mono ?_); rintro e wA ⟨qa, da, rfl, hsa, hBa⟩)
                  | (go_split_ands; refine step_append_lies _ (by rfl) _ _ _ (by rfl) (w.heap.size + 3) 88 i0 _ 2 32 Tryz.underlying89 hi0 hz0 hz1 hz3 rfl (by omega) (.slice pv L.length cv) L.length (catQ es) (by rfl) ((World.ownsRow.below hod hBa).alloc _) ⟨wA.heap.size, 0, none⟩ 1 1 [(.int .i64 (-1)), .slice qa E.length da] (by rfl) (by rfl) (World.news_of_block (cs := #[(.int .i64 (-1)), .slice qa E.length da]) (t := 88) (fr := (0, 0)) (heap_alloc_new wA _)) (by simp [Value.oneCell']) (by omega) (by unfold maxLen; omega) (by omega) (Nat.le_trans (Nat.le_of_lt hzc) (by assumption)) (wA.heap.size + 1) (World.size_alloc _ _) ?_; intro gg cap w5 hown' hgrow hat hlt5)
                  | fail)
              go_split_ands
              have hB5 : RowKit.Below (w.heap.size + 3) wc w5 := by assumption
              have hx5 : SlT w5 q x2 := by first | assumption | exact ⟨by assumption, by assumption⟩
              have hz5 : w.heap.size + 3 < w5.heap.size := Nat.lt_of_lt_of_le hzc hB5.size
              have hk5 : KX0 3 (wA.alloc (.cells #[.int .i64 (-1), .slice qa E.length da] 88)) w5 := KX0.grown hgrow (own_typed ((World.ownsRow.below hod hBa).alloc _)) (by decide)
              have hkA : KX0 3 wA w5 := (KX0.below ((RowKit.Below.refl _ _).alloc (Nat.le_refl _) _)).trans hk5
              have hkc : KX0 3 wc w5 := (show KX0 3 wc.drew wA from KX0.below hBa).trans hkA
              have hp5 := PR.push (x := ((-1 : Int), E)) HE1.out HES.out hkc (hsa.keep hkA) hown'
              have hF5 : FX T G p1 (some ⟨b3, o3, none⟩) c1 c2 p c (x1, x2) q d w w.heap.size w5 := ⟨HFc.out.tl.below hB5 (by omega), HFc.out.gl.below hB5 (by omega), HFc.out.xl.below hB5 (by omega), HFc.out.bel.trans (hB5.mono (by omega)), hx5⟩
              clear hk5 hkA hkc hgrow hat hown' hB5 hx5
              go_wp2_with fail
              go_roundw
              case rel => exact ⟨m + 1, by omega, by go_num, by rw [HQ.out]; exact hp5, hF5, hz5⟩
              case measure => simp [intOf]; omega
        · obtain rfl : m = T.swaps.length := by omega
          have hltM : ¬ (T.swaps.length : Int) < (T.swaps.length : Int) := by omega
          have HR := hidI hp
          rw [← HFP.out] at HR
          have HL : Hid ((L0 ++ folS T G (x1, x2) T.swaps.length).length = R.length) := by rw [Hid, HFP.out]
          go_wp2_with fail
          go_ret
          exact ⟨.slice pv R.length cv, by show Ending.returned (.slice pv (L0.length + (folS T G (x1, x2) T.swaps.length).length) cv) = _; rw [← List.length_append, HL.out], PR.mono (B := w.heap.size + 3) HR.out (by omega), hF.bel⟩
end Go.Proofs.YtjponanfpdmeoaaGreatDoor
namespace Go.Proofs.YtjponanfpdmeoaaGreatDoor
open Go.RowKit Go.Sort Go.Shelf Go.Lib

theorem PR.kept {w w' : World} {B : Nat} {v : Value} {q : List Pl} {row : Option Nat} (h : PR w B v q) (hg : w.grownBy w' row) (hne : v.ownBlock ≠ row) (hk : KX0 3 w w') : PR w' B v q := by
  obtain ⟨es, h1, h2, h3⟩ := h
  exact ⟨es, h1, h2.kept hg (.inr hne), fun e he => (h3 e he).keep hk⟩
def StQ (G : Gr) (q : List Pl) : Prop := ∀ y ∈ q, St G.n y.2
theorem folB_st {T : Tb} {G : Gr} {p : Pl} (hS : St G.n p.2) (k : Nat) : StQ G (folB T G p k) := by
  intro y hy
  obtain ⟨j, _, hj⟩ := List.mem_flatMap.1 hy
  split at hj
  · rw [List.mem_singleton.1 hj]; exact endA_st G _ hS _
  · cases hj
theorem folS_st {T : Tb} {G : Gr} {p : Pl} (hS : St G.n p.2) (k : Nat) : StQ G (folS T G p k) := by
  intro y hy
  obtain ⟨j, _, hj⟩ := List.mem_flatMap.1 hy
  split at hj
  · rw [List.mem_singleton.1 hj]; exact endA_st G _ hS _
  · cases hj
theorem folP_st {T : Tb} {G : Gr} {p : Pl} (hS : St G.n p.2) : StQ G (folP T G p) := by
  intro y hy
  rcases List.mem_append.1 hy with h | h
  · exact folB_st hS _ y h
  · exact folS_st hS _ y h
theorem folP_len (T : Tb) (G : Gr) (p : Pl) : (folP T G p).length ≤ T.base.length + T.swaps.length := by
  have h1 := folB_len T G p T.base.length
  have h2 := folS_len T G p T.swaps.length (Nat.le_refl _)
  unfold folP; rw [List.length_append]; omega
theorem nt_empty {q : List Pl} {y : Pl} (h : y.2 = []) : ntP (q, 0) y = (q, 13) := by unfold ntP; rw [if_neg (by simp), if_pos h]
theorem nt_old {q : List Pl} {y : Pl} (h : y.2 ≠ []) (hm : y ∈ q) : ntP (q, 0) y = (q, 0) := by unfold ntP; rw [if_neg (by simp), if_neg h, if_pos hm]
theorem nt_full {q : List Pl} {y : Pl} (h : y.2 ≠ []) (hm : y ∉ q) (hl : q.length = 1024) : ntP (q, 0) y = (q, 4) := by unfold ntP; rw [if_neg (by simp), if_neg h, if_neg hm, if_pos hl]
theorem nt_new {q : List Pl} {y : Pl} (h : y.2 ≠ []) (hm : y ∉ q) (hl : q.length ≠ 1024) : ntP (q, 0) y = (q ++ [y], 0) := by unfold ntP; rw [if_neg (by simp), if_neg h, if_neg hm, if_neg hl]
/-- The boxes of table and graph. -/
structure KE (T : Tb) (G : Gr) (p1 p2 : Option Addr) (c1 c2 : Nat) (p : Option Addr) (c : Nat) (w : World) (b : Nat) (W : World) : Prop where
  tl : VRow W b 25 [.int .i64 T.q, .int .i64 T.n, .slice p1 T.base.length c1, .slice p2 T.swaps.length c2]
  gl : VRow W (b + 1) 28 [.int .i64 G.q, .int .i64 G.n, .slice p G.es.length c]
  bel : RowKit.Below w.heap.size w W
theorem KE.below {T : Tb} {G : Gr} {p1 p2 : Option Addr} {c1 c2 : Nat} {p : Option Addr} {c : Nat} {w : World} {b B : Nat} {W W' : World} (h : KE T G p1 p2 c1 c2 p c w b W) (hB : RowKit.Below B W W') (hb : b + 1 < B) (hw : w.heap.size ≤ B) : KE T G p1 p2 c1 c2 p c w b W' :=
  ⟨h.tl.below hB (by omega), h.gl.below hB hb, h.bel.trans (hB.mono hw)⟩

set_option maxRecDepth 100000 in
set_option maxHeartbeats 8000000 in
theorem rlkKeeps_any (T : Tb) (p1 p2 : Option Addr) (c1 c2 : Nat) (G : Gr) (p : Option Addr) (c : Nat) (w : World) (hT : TbIn w T p1 p2 c1 c2) (hG : Sg 3 w edE p G.es) (hf : fmd T = true) (hv : Vg G) (hq : G.q = T.q) :
    Calls Tryz.prog 29 #[(.agg #[.int .i64 T.q, .int .i64 T.n, .slice p1 T.base.length c1, .slice p2 T.swaps.length c2]), (.agg #[.int .i64 G.q, .int .i64 G.n, .slice p G.es.length c])] w fun e w' => e = .returned (.int .i64 (kpA T G)) ∧ RowKit.Below w.heap.size w w' := by
  obtain ⟨i0, hi0, hz0, hz1, hz3⟩ := info_parts info32
  obtain ⟨j0, hj0, hy0, hy1, hy3⟩ := info_parts infoIn
  obtain ⟨w1, hw1⟩ : ∃ w1, w1 = ((w.alloc (.cells #[.int .i64 T.q, .int .i64 T.n, .slice p1 T.base.length c1, .slice p2 T.swaps.length c2] 25)).alloc (.cells #[.int .i64 G.q, .int .i64 G.n, .slice p G.es.length c] 28)).alloc (.cells #[] 3) := ⟨_, rfl⟩
  have hB1 : RowKit.Below w.heap.size w w1 := by subst hw1; exact (((RowKit.Below.refl _ _).alloc (Nat.le_refl _) _).alloc (by simp) _).alloc (by simp; omega) _
  have hE : KE T G p1 p2 c1 c2 p c w w.heap.size w1 := by
    refine ⟨?_, ?_, hB1⟩
    · subst hw1; exact ((VRow.new w _ _).alloc _).alloc _
    · subst hw1; exact (VRow.new1 w _ _ _).alloc _
  have o1 : w1.ownsRow (w.heap.size + 2) 3 1 (.slice (some ⟨w.heap.size + 2, 0, none⟩) 0 0) 0 [] := by
    subst hw1
    have := own_new ((w.alloc (.cells #[.int .i64 T.q, .int .i64 T.n, .slice p1 T.base.length c1, .slice p2 T.swaps.length c2] 25)).alloc (.cells #[.int .i64 G.q, .int .i64 G.n, .slice p G.es.length c] 28)) (w.heap.size + 2) [] 3 (by simp) (by simp [maxLen])
    simp only [World.size_alloc] at this
    exact this
  have hsz1 : w.heap.size + 2 < w1.heap.size := (o1.lt (w.heap.size + 2) rfl).2
  have hN := pre_all (fmd_split hf).1
  have hN16 : T.base.length ≤ 16 := by omega
  have hM64 : T.swaps.length ≤ 64 := by omega
  obtain ⟨n, hn⟩ : ∃ n : Nat, G.n = n := ⟨G.n.toNat, by have := hv.n1; omega⟩
  have hn64 : n ≤ 64 := by have := hv.n2; omega
  have HN0 : Hid (upto G.n.toNat = upto n) := by rw [Hid, hn]; rfl
  have HZ : Hid (n = 0 → kpA T G = 13) := fun h => kpA_none hf (by rw [hn, h]; rfl)
  have HK0 : Hid (kpN T G 1025 0 [((-1 : Int), upto n)] = kpA T G) := by rw [Hid, ← HN0.out]; rfl
  have HSU : Hid (St G.n (upto n)) := by rw [Hid, ← HN0.out]; exact St.upto hv.n1
  have HLE : Hid (∀ l, St G.n l → l.length ≤ 64) := fun l h => by have := h.len hv.n1; omega
  have HFO := hidI (fun (x : Pl) (q : Option Addr) (d : Nat) (W : World) (h : RowKit.Below w.heap.size w W) (hx : SlT W q x.2) (hS : St G.n x.2) => rlkFollowers_any T p1 p2 c1 c2 G p c x q d W (hT.below h) (hG.below h) hx hf hv hq hS)
  have HE := hidI hE; have HO := hidI o1; have HNN := hidI hn
  clear hT hG hf hv hq hN hE o1 hB1 hn
  generalize kpA T G = R at *
  go_enter Tryz.func29, Tryz.ntmps29
  go_upto_region 2 with fail
  rw [← hw1]
  clear hw1
  go_wp2_with fail
  go_loopw [5, 6] (fun v5 iv W => ∃ k : Nat, k ≤ n ∧ iv = .int .i64 k ∧ W.ownsRow (w.heap.size + 2) 3 1 v5 k ((upto k).map (Value.int .i64)) ∧ KE T G p1 p2 c1 c2 p c w w.heap.size W ∧ w.heap.size + 2 < W.heap.size) (fun _ iv _ => n - (intOf iv).toNat)
  case atStart => exact ⟨0, by omega, rfl, HO.out, HE.out, hsz1⟩
  case round =>
    obtain ⟨k, hk, rfl, hown, hE, hszr⟩ := hrel
    have f1 := hE.gl.at 1 rfl
    rw [HNN.out] at f1
    by_cases hlt : k < n
    · have hltI : (k : Int) < (n : Int) := by omega
      have hnew := cell_one_at wr (.int .i64 (k : Int)) 3 wr.heap.size rfl
      have HU : Hid ((upto k).map (Value.int .i64) ++ [.int .i64 (k : Int)] = (upto (k + 1)).map (Value.int .i64)) := by rw [Hid, upto_succ, List.map_append]; rfl
      have hlw := hown.lt
      have hE2 := hE.below (RowKit.Below.alloc (RowKit.Below.refl wr.heap.size wr) (Nat.le_refl _) (.cells #[.int .i64 (k : Int)] 3)) (by omega) hE.bel.size
      clear hE
      go_wp2_with (at_builtin; refine wpList_append_own _ rfl _ _ 43 rfl (w.heap.size + 2) 3 j0 (.int .i64 0) 1 8 Tryz.underlying43 hj0 hy0 hy1 hy3 rfl (by decide) _ _ _ rfl (hown.alloc _) ⟨wr.heap.size, 0, none⟩ 1 1 [.int .i64 (k : Int)] rfl rfl hnew (by simp [Value.oneCell']) (by simp [maxLen]; omega) (by omega) (by rw [World.size_alloc]; omega) ?_; intro v' w2 hown' hgrow _)
      have hg2 := hgrow.size
      rw [World.size_alloc] at hg2
      have hB2 : RowKit.Below (w.heap.size + 2) (wr.alloc (.cells #[.int .i64 (k : Int)] 3)) w2 := (RowKit.Below.refl _ _).grown hgrow (by rw [World.size_alloc]; omega) (fun j e => (hlw j e).1)
      have hE3 := hE2.below hB2 (by omega) (by omega)
      go_roundw
      case rel => exact ⟨k + 1, by omega, by go_num, by rw [← HU.out]; exact hown', hE3, by omega⟩
      case measure => simp [intOf]; omega
    · obtain rfl : k = n := by omega
      have hltI : ¬ (k : Int) < (k : Int) := by omega
      obtain ⟨pk, ck, rfl, hsl⟩ := own_slT hown
      rw [upto_len]
      by_cases h0 : k = 0
      · have HR := hidI (HZ.out h0)
        have hz : ((k : Int) == 0) = true := by rw [h0]; rfl
        clear HZ
        go_wp2_with fail
        go_ret
        exact ⟨ret_int HR.out.symm, hE.bel⟩
      · have hz : ((k : Int) == 0) = false := by simpa using h0
        obtain ⟨w2, hw2⟩ : ∃ w2, w2 = wr.alloc (.cells #[.int .i64 (-1), .slice pk k ck] 88) := ⟨_, rfl⟩
        have n2 : VRow w2 wr.heap.size 88 [.int .i64 (-1), .slice pk k ck] := by subst hw2; exact VRow.new wr _ _
        have hB2 : RowKit.Below wr.heap.size wr w2 := by subst hw2; exact (RowKit.Below.refl _ _).alloc (Nat.le_refl _) _
        have hP2 : PR w2 wr.heap.size (.slice (some ⟨wr.heap.size, 0, none⟩) 1 1) [((-1 : Int), upto k)] := by
          refine ⟨[(((-1 : Int), upto k), (pk, ck))], rfl, ?_, fun e he => by rw [List.mem_singleton.1 he]; exact hsl.below hB2⟩
          have e : catQ [(((-1 : Int), upto k), (pk, ck))] = [.int .i64 (-1), .slice pk k ck] := by
            show [Value.int .i64 (-1), .slice pk (upto k).length ck] = _
            rw [upto_len]
          rw [e]
          exact row_own n2 (Nat.le_refl _)
        have hE2 := hE.below hB2 (by omega) hE.bel.size
        have hb2 : w.heap.size + 1 < wr.heap.size := by omega
        have hs2 := hB2.size
        have HP2 := hidI hP2; have HE2 := hidI hE2
        generalize hbw : wr.heap.size = bw at *
        clear hsl hown hP2 hE2 hB2 n2 HZ HE HO
        go_upto_region 9 with fail
        rw [← hw2]
        clear hw2 hbw
        clear f1
        go_wp2_with fail
        go_loopw [7, 8] (fun v7 iv W => ∃ (i : Nat) (q : List Pl), iv = .int .i64 i ∧ i ≤ q.length ∧ 1 ≤ q.length ∧ q.length ≤ 1024 ∧ StQ G q ∧ PR W bw v7 q ∧ KE T G p1 p2 c1 c2 p c w w.heap.size W ∧ Hid (kpN T G (1025 - i) i q = R) ∧ bw ≤ W.heap.size) (fun _ iv _ => 1025 - (intOf iv).toNat)
        case atStart => exact ⟨0, [((-1 : Int), upto k)], rfl, by simp, by simp, by simp, fun y hy => by rw [List.mem_singleton.1 hy]; exact HSU.out, HP2.out, HE2.out, HK0, hs2⟩
        case round =>
          obtain ⟨i, q, rfl, hi1, hq1, hq2, hst, hp, hE, hkp, hbz⟩ := hrel
          by_cases hlt : i < q.length
          · have hltI : (i : Int) < (q.length : Int) := by omega
            obtain ⟨g, cap, pp, d, rfl, e0, e1, hsl⟩ := hp.get i hlt
            have hS := hst _ (List.getElem_mem hlt)
            have HKE : Hid ((rndP T G q[i] q).2 ≠ 0 → R = (rndP T G q[i] q).2) := fun he => by
              rw [← hkp.out, show 1025 - i = (1024 - i) + 1 by omega, kpN_err hlt he]
            have HKG : Hid ((rndP T G q[i] q).2 = 0 → kpN T G (1025 - (i + 1)) (i + 1) (rndP T G q[i] q).1 = R) := fun he => by
              rw [← hkp.out, show 1025 - i = (1025 - (i + 1)) + 1 by omega, kpN_go hlt he]
            have HGR := hidI (rnd_grw T G q[i] q)
            have HRF := hidI (rnd_fol T G q[i] q)
            have hfl := folP_len T G q[i]
            have HFS := hidI (folP_st (T := T) hS)
            have HC := hidI (fun W (h : RowKit.Below w.heap.size w W) (hx : SlT W pp q[i].2) => HFO.out q[i] pp d W h hx hS)
            generalize folP T G q[i] = F at *
            have t0 := hE.tl.at 0 rfl; have t1 := hE.tl.at 1 rfl; have t2 := hE.tl.at 2 rfl; have t3 := hE.tl.at 3 rfl
            have u0 := hE.gl.at 0 rfl; have u1 := hE.gl.at 1 rfl; have u2 := hE.gl.at 2 rfl
            clear hkp hS
            go_wp2_with fail
            refine region_tail 6 (by kernel_rfl) (by kernel_rfl) fun W hD => ?_
            have d0 := (hD.cell _).trans t0; have d1 := (hD.cell _).trans t1; have d2 := (hD.cell _).trans t2; have d3 := (hD.cell _).trans t3
            have v0 := (hD.cell _).trans u0; have v1 := (hD.cell _).trans u1; have v2 := (hD.cell _).trans u2
            have q0 := (hD.cell _).trans e0; have q1 := (hD.cell _).trans e1
            have hBW : RowKit.Below wr.heap.size wr W := hD.below _
            have hszW := hD.size
            clear t0 t1 t2 t3 u0 u1 u2 e0 e1
            simp only [List.take_succ_cons, List.take_zero, List.drop_succ_cons, List.drop_zero]
            iterate 6 still_step
            refine wpStill_nil ?_
            go_wp2_with fail
            refine (HC.out W (hE.bel.trans (hBW.mono hE.bel.size)) (hsl.below hBW)).mono ?_
            rintro e w3 ⟨vN, rfl, hpN, hB3⟩
            obtain ⟨pN, cN, rfl⟩ := hpN.val
            have hBB : RowKit.Below wr.heap.size wr w3 := hBW.trans (hB3.mono hBW.size)
            have hp3 := hp.below hBB
            have hE3 := hE.below hBB (by omega) hE.bel.size
            have hne : (Value.slice (some ⟨g, 0, none⟩) q.length cap).ownBlock ≠ (Value.slice pN F.length cN).ownBlock := fun e => by
              have h1 := (hp.lt g rfl).2
              have h2 := (hpN.lt g e.symm).1
              omega
            have hz3' := hBB.size
            have HST : Hid (∀ (j : Nat) (r : List Pl) (m : Int), (F.take j).foldl ntP (q, 0) = (r, m) → m ≠ 0 → R = m) := fun j r m h hm => by
              have h2 := fold_stop (l := F) (k := j) (x := (q, 0)) (by rw [h]; exact hm)
              have h3 : rndP T G q[i] q = (r, m) := by rw [HRF.out, h2, h]
              have h4 := HKE.out (by rw [h3]; exact hm)
              rw [h4, h3]
            have HEN : Hid (∀ r : List Pl, F.foldl ntP (q, 0) = (r, 0) → kpN T G (1025 - (i + 1)) (i + 1) r = R ∧ q.length ≤ r.length) := fun r h => by
              have h3 : rndP T G q[i] q = (r, 0) := by rw [HRF.out, h]
              have h4 := HKG.out (by rw [h3])
              rw [h3] at h4
              have h5 := HGR.out.pre.length_le
              rw [h3] at h5
              exact ⟨h4, h5⟩
            clear hBB hBW hB3 hD d0 d1 d2 d3 v0 v1 v2 q0 q1 HC hsl hp hE HKE HKG HGR HRF
            generalize q[i] = pl at *
            generalize W.heap.size = bN at *
            go_wp2_with fail
            go_loopw [7, 10] (fun v7 jv W' => ∃ (j : Nat) (q' : List Pl), j ≤ F.length ∧ jv = .int .i64 j ∧ Hid ((F.take j).foldl ntP (q, 0) = (q', 0)) ∧ 1 ≤ q'.length ∧ q'.length ≤ 1024 ∧ StQ G q' ∧ PR W' bw v7 q' ∧ PR W' bN (.slice pN F.length cN) F ∧ v7.ownBlock ≠ (Value.slice pN F.length cN).ownBlock ∧ KE T G p1 p2 c1 c2 p c w w.heap.size W' ∧ bw ≤ W'.heap.size) (fun _ jv _ => F.length - (intOf jv).toNat)
            case atStart => exact ⟨0, q, by omega, rfl, rfl, hq1, hq2, hst, hp3, hpN, hne, hE3, by omega⟩
            case round =>
              clear hp3 hpN hne hE3 hz3'
              obtain ⟨j, q', hj, rfl, hfd, hq1', hq2', hst', hp, hpN, hne, hE, hbz'⟩ := hrel
              obtain ⟨p7, c7, rfl⟩ := hp.val
              by_cases hlt2 : j < F.length
              · have hltJ : (j : Int) < (F.length : Int) := by omega
                obtain ⟨gN, capN, ppy, dy, he, e0, e1, hsy⟩ := hpN.get j hlt2
                simp only [Value.slice.injEq] at he
                obtain ⟨rfl, _, rfl⟩ := he
                have HTK := hidI (fold_take (l := F) (x := (q, 0)) hlt2)
                have hSy := HFS.out _ (List.getElem_mem hlt2)
                have hly := HLE.out _ hSy
                rw [hfd.out] at HTK
                generalize F[j] = y at *
                by_cases h0 : y.2.length = 0
                · have hzb : ((y.2.length : Int) == 0) = true := by rw [h0]; rfl
                  have HR : Hid (R = 13) := HST.out (j + 1) q' 13 (by rw [HTK.out, nt_empty (List.length_eq_zero_iff.1 h0)]) (by decide)
                  clear h0 HTK
                  go_wp2_with fail
                  go_ret
                  exact ⟨ret_int HR.out.symm, hE.bel⟩
                · have hzb : ((y.2.length : Int) == 0) = false := by simpa using h0
                  have hyn : y.2 ≠ [] := fun e => h0 (by rw [e]; rfl)
                  have HC := hidI (rlkFound_any q' bw (.slice p7 q'.length c7) y ppy dy wr hp hsy (by omega) (fun z hz => by have := HLE.out _ (hst' z hz); omega) (by omega))
                  have HYN := hidI hyn
                  obtain ⟨r, hr⟩ : ∃ r, decide (y ∈ q') = r := ⟨_, rfl⟩
                  rw [hr] at HC
                  have HRR := hidI hr
                  clear h0 hr hyn
                  go_wp2_with fail
                  refine HC.out.mono ?_
                  rintro e w4 ⟨rfl, hB4⟩
                  have hp4 := hp.below hB4
                  have hpN4 := hpN.below hB4
                  have hE4 := hE.below hB4 (by omega) hE.bel.size
                  have hsy4 := hsy.below hB4
                  have hs4 := hB4.size
                  have hgN : gN < wr.heap.size := (hpN.lt gN rfl).2
                  have k0 := (hB4.cell (p := (⟨gN, j * 2, none⟩ : Addr)) hgN).trans e0
                  have k1 := (hB4.cell (p := (⟨gN, j * 2 + 1, none⟩ : Addr)) hgN).trans e1
                  clear HC hp hpN hE hsy hB4 e0 e1
                  cases r
                  · have hym : y ∉ q' := of_decide_eq_false HRR.out
                    obtain ⟨es, h1, ho, h3⟩ := hp4
                    have HES := hidI h3; have HE1 := hidI h1
                    have hlw := ho.lt
                    have hgN4 := hpN4.lt gN rfl
                    have hnew : ∀ (jj : Nat) (u : Value), ([.int .i64 y.1, .slice ppy y.2.length dy] : List Value)[jj]? = some u → (w4.alloc (.cells #[.int .i64 y.1, .slice ppy y.2.length dy] 88)).cell? ((⟨w4.heap.size, 0, none⟩ : Addr).add jj) = some u :=
                      World.news_of_block (cs := #[.int .i64 y.1, .slice ppy y.2.length dy]) (t := 88) (fr := (0, 0)) (heap_alloc_new w4 _)
                    have hownA := ho.alloc (.cells #[.int .i64 y.1, .slice ppy y.2.length dy] 88)
                    have HYM := hidI hym
                    have HPN4 := hidI hpN4; have HE4 := hidI hE4; have HSY4 := hidI hsy4
                    clear h1 h3 hym hpN4 hE4 hsy4
                    have hbz4 : bw ≤ w4.heap.size := by omega
                    by_cases hfull : q'.length = 1024
                    · have HR : Hid (R = 4) := HST.out (j + 1) q' 4 (by rw [HTK.out, nt_full HYN.out HYM.out hfull]) (by decide)
                      have hl1 : decide ((1024 : Int) < (q'.length : Int) + 1) = true := decide_eq_true (by omega)
                      have hl2 : decide (1024 < q'.length + 1) = true := decide_eq_true (by omega)
                      clear HTK hfull
                      go_wp2_with (at_builtin; refine wpList_append_lies _ rfl _ _ 89 rfl bw 88 i0 _ 2 32 Tryz.underlying89 hi0 hz0 hz1 hz3 rfl (by decide) _ _ _ rfl hownA ⟨w4.heap.size, 0, none⟩ 1 1 [.int .i64 y.1, .slice ppy y.2.length dy] rfl rfl hnew (by simp [Value.oneCell']) (by decide) (by unfold maxLen; omega) (by omega) (by rw [World.size_alloc]; omega) (w4.heap.size + 1) (World.size_alloc _ _) ?_; intro gg cap5 w5 hown' hgrow hat hlt5)
                      have hk5 : KX0 3 w4 w5 := (KX0.below ((RowKit.Below.refl _ _).alloc (Nat.le_refl _) _)).trans (KX0.grown hgrow (own_typed hownA) (by decide))
                      have hB5 : RowKit.Below bw w4 w5 := (((RowKit.Below.refl w4.heap.size w4).alloc (Nat.le_refl _) (.cells #[.int .i64 y.1, .slice ppy y.2.length dy] 88)).mono hbz4).grown hgrow (by rw [World.size_alloc]; omega) (fun j e => (hlw j e).1)
                      have hE5 := HE4.out.below hB5 hb2 (by omega)
                      have hs5 := hB5.size
                      go_ret
                      exact ⟨ret_int HR.out.symm, hE5.bel⟩
                    · have HQ : Hid ((F.take (j + 1)).foldl ntP (q, 0) = (q' ++ [y], 0)) := by rw [Hid, HTK.out, nt_new HYN.out HYM.out hfull]
                      have hl1 : decide ((1024 : Int) < (q'.length : Int) + 1) = false := decide_eq_false (by omega)
                      have hl2 : decide (1024 < q'.length + 1) = false := decide_eq_false (by omega)
                      clear HTK
                      go_wp2_with (at_builtin; refine wpList_append_lies _ rfl _ _ 89 rfl bw 88 i0 _ 2 32 Tryz.underlying89 hi0 hz0 hz1 hz3 rfl (by decide) _ _ _ rfl hownA ⟨w4.heap.size, 0, none⟩ 1 1 [.int .i64 y.1, .slice ppy y.2.length dy] rfl rfl hnew (by simp [Value.oneCell']) (by decide) (by unfold maxLen; omega) (by omega) (by rw [World.size_alloc]; omega) (w4.heap.size + 1) (World.size_alloc _ _) ?_; intro gg cap5 w5 hown' hgrow hat hlt5)
                      have hk5 : KX0 3 w4 w5 := (KX0.below ((RowKit.Below.refl _ _).alloc (Nat.le_refl _) _)).trans (KX0.grown hgrow (own_typed hownA) (by decide))
                      have hB5 : RowKit.Below bw w4 w5 := (((RowKit.Below.refl w4.heap.size w4).alloc (Nat.le_refl _) (.cells #[.int .i64 y.1, .slice ppy y.2.length dy] 88)).mono hbz4).grown hgrow (by rw [World.size_alloc]; omega) (fun j e => (hlw j e).1)
                      have hE5 := HE4.out.below hB5 hb2 (by omega)
                      have hs5 := hB5.size
                      have hp5 := PR.push (x := y) HE1.out HES.out hk5 (HSY4.out.keep hk5) hown'
                      have hpN5 : PR w5 bN (.slice (some ⟨gN, 0, none⟩) F.length cN) F := (HPN4.out.below ((RowKit.Below.refl w4.heap.size w4).alloc (Nat.le_refl _) (.cells #[.int .i64 y.1, .slice ppy y.2.length dy] 88))).kept hgrow (fun e => hne e.symm) (KX0.grown hgrow (own_typed hownA) (by decide))
                      have hne5 : (Value.slice (some ⟨gg, 0, none⟩) (q'.length + 1) cap5).ownBlock ≠ (Value.slice (some ⟨gN, 0, none⟩) F.length cN).ownBlock := fun e => by
                        have e1 : gg = gN := by simpa [Value.ownBlock] using e
                        rcases hat with h | h
                        · exact hne (h.trans (by rw [e1]; rfl))
                        · omega
                      have hst5 : StQ G (q' ++ [y]) := fun z hz => by
                        rcases List.mem_append.1 hz with h | h
                        · exact hst' z h
                        · rw [List.mem_singleton.1 h]; exact hSy
                      have hlen5 : (q' ++ [y]).length ≤ 1024 := by rw [List.length_append, List.length_singleton]; omega
                      go_roundw
                      case rel => exact ⟨j + 1, q' ++ [y], by omega, by go_num, HQ, by rw [List.length_append, List.length_singleton]; omega, hlen5, hst5, hp5, hpN5, hne5, hE5, by omega⟩
                      case measure => simp [intOf]; omega
                  · have HQ : Hid ((F.take (j + 1)).foldl ntP (q, 0) = (q', 0)) := by rw [Hid, HTK.out, nt_old HYN.out (of_decide_eq_true HRR.out)]
                    have hl1 : decide ((1024 : Int) < (q'.length : Int)) = false := decide_eq_false (by omega)
                    have hl2 : decide (1024 < q'.length) = false := decide_eq_false (by omega)
                    clear HTK k0 k1
                    go_wp2_with fail
                    go_roundw
                    case rel => exact ⟨j + 1, q', by omega, by go_num, HQ, hq1', hq2', hst', hp4, hpN4, hne, hE4, by omega⟩
                    case measure => simp [intOf]; omega
              · obtain rfl : j = F.length := by omega
                have hltJ : ¬ (F.length : Int) < (F.length : Int) := by omega
                rw [List.take_length] at hfd
                obtain ⟨hk, hql⟩ := HEN.out _ hfd.out
                have HK := hidI hk
                clear hk
                go_wp2_with fail
                go_roundw
                case rel => exact ⟨i + 1, q', by go_num, by omega, hq1', hq2', hst', hp, hE, HK, hbz'⟩
                case measure => simp [intOf]; omega
          · have HR : Hid (R = 0) := by rw [Hid, ← hkp.out, kpN_end hlt]
            obtain ⟨g, cap, rfl⟩ := hp.val
            have hltI : ¬ (i : Int) < (q.length : Int) := by omega
            go_wp2_with fail
            go_ret
            exact ⟨ret_int HR.out.symm, hE.bel⟩

set_option maxRecDepth 100000 in
set_option maxHeartbeats 2000000 in
theorem rlkCheck_any (T : Tb) (p1 p2 : Option Addr) (c1 c2 : Nat) (G : Gr) (p : Option Addr) (c : Nat) (w : World) (hT : TbIn w T p1 p2 c1 c2) (hG : Sg 3 w edE p G.es) (hl : G.es.length ≤ 9223372036854775807) :
    Calls Tryz.prog 10 #[(.agg #[.int .i64 T.q, .int .i64 T.n, .slice p1 T.base.length c1, .slice p2 T.swaps.length c2]), (.agg #[.int .i64 G.q, .int .i64 G.n, .slice p G.es.length c])] w fun e w' => e = .returned (.int .i64 (chkL T G)) ∧ RowKit.Below w.heap.size w w' := by
  obtain ⟨w0, hw0⟩ : ∃ w0, w0 = (w.alloc (.cells #[.int .i64 T.q, .int .i64 T.n, .slice p1 T.base.length c1, .slice p2 T.swaps.length c2] 25)).alloc (.cells #[.int .i64 G.q, .int .i64 G.n, .slice p G.es.length c] 28) := ⟨_, rfl⟩
  have b0 : VRow w0 w.heap.size 25 [.int .i64 T.q, .int .i64 T.n, .slice p1 T.base.length c1, .slice p2 T.swaps.length c2] := by subst hw0; exact (VRow.new w _ _).alloc _
  have b1 : VRow w0 (w.heap.size + 1) 28 [.int .i64 G.q, .int .i64 G.n, .slice p G.es.length c] := by subst hw0; exact VRow.new1 w _ _ _
  have hB0 : RowKit.Below w.heap.size w w0 := by subst hw0; exact ((RowKit.Below.refl _ _).alloc (Nat.le_refl _) _).alloc (by simp) _
  have HC := hidI (rlkFits_any T p1 p2 c1 c2 G p c w0 (hT.below hB0) (hG.below hB0) hl)
  have HX := hidI (chkL_fit T G)
  have HFZ := hidI (@fit_zero T G)
  have HRD := hidI (fun (W : World) (h : RowKit.Below w.heap.size w W) (hf : fmd T = true) => rlkReadable_any T p1 p2 c1 c2 W (hT.below h) hf)
  have HKP := hidI (fun (W : World) (h : RowKit.Below w.heap.size w W) (hf : fmd T = true) (hv : Vg G) (hq : G.q = T.q) => rlkKeeps_any T p1 p2 c1 c2 G p c W (hT.below h) (hG.below h) hf hv hq)
  have a0 := b0.at 0 rfl; have a1 := b0.at 1 rfl; have a2 := b0.at 2 rfl; have a3 := b0.at 3 rfl
  have d0 := b1.at 0 rfl; have d1 := b1.at 1 rfl; have d2 := b1.at 2 rfl
  clear hT hG hl
  generalize fitA T G = k at *
  go_enter Tryz.func10, Tryz.ntmps10
  go_upto_region 1 with fail
  rw [← hw0]
  clear hw0
  go_wp2_with fail
  refine HC.out.mono ?_
  rintro e w1 ⟨rfl, hB1⟩
  have x1 := hB0.trans (hB1.mono hB0.size)
  have t1 := b0.below hB1 b0.lt
  have g1 := b1.below hB1 b1.lt
  clear HC a0 a1 a2 a3 d0 d1 d2 b0 b1 hB0 hB1
  by_cases hk : k = 0
  rotate_left
  · have HY : Hid (chkL T G = k) := by rw [Hid, HX.out, if_pos hk]
    have hkb : (k != 0) = true := by simpa using hk
    clear hk t1 g1
    go_wp2
    go_ret
    exact ⟨ret_int HY.out.symm, x1⟩
  obtain ⟨hf, hv, hqq⟩ := HFZ.out hk
  have HX2 : Hid (chkL T G = if rdbl T = false then 14 else kpA T G) := by rw [Hid, HX.out, hk]; rfl
  have HR := hidI (HRD.out w1 x1 hf)
  have HK2 := hidI (fun (W : World) (h : RowKit.Below w.heap.size w W) => HKP.out W h hf hv hqq)
  subst hk
  have a0 := t1.at 0 rfl; have a1 := t1.at 1 rfl; have a2 := t1.at 2 rfl; have a3 := t1.at 3 rfl
  clear HX HFZ hf hv hqq HRD HKP
  generalize rdbl T = r at *
  go_wp2_with fail
  refine HR.out.mono ?_
  rintro e w2 ⟨rfl, hB2⟩
  have x2 := x1.trans (hB2.mono x1.size)
  have t2 := t1.below hB2 t1.lt
  have g2 := g1.below hB2 g1.lt
  clear a0 a1 a2 a3 t1 g1 x1 hB2 HR
  cases r
  · have HY : Hid (chkL T G = 14) := by rw [Hid, HX2.out]; rfl
    go_wp2
    go_ret
    exact ⟨ret_int HY.out.symm, x2⟩
  have HY : Hid (chkL T G = kpA T G) := by rw [Hid, HX2.out]; rfl
  have a0 := t2.at 0 rfl; have a1 := t2.at 1 rfl; have a2 := t2.at 2 rfl; have a3 := t2.at 3 rfl
  have d0 := g2.at 0 rfl; have d1 := g2.at 1 rfl; have d2 := g2.at 2 rfl
  clear HX2
  go_wp2_with fail
  refine (HK2.out w2 x2).mono ?_
  rintro e w3 ⟨rfl, hB3⟩
  go_wp2
  go_ret
  exact ⟨ret_int HY.out.symm, x2.trans (hB3.mono x2.size)⟩
#print axioms rlkCheck_any
end Go.Proofs.YtjponanfpdmeoaaGreatDoor
namespace Go.Proofs.YtjponanfpdmeoaaGreatDoor
open Go.RowKit Go.Sort

/-- The bad pairs of one input, up to a second one. -/
def badR (T : Tb) (G : Gr) (i k : Nat) : List (List Int) := (List.range k).flatMap (fun j => if accA G (bget T.base i ++ bget T.base j) = true then [] else [[(i : Int), (j : Int)]])
/-- The bad pairs of the first inputs. -/
def badN (T : Tb) (G : Gr) (k : Nat) : List (List Int) := (List.range k).flatMap (fun i => badR T G i T.base.length)
def badL (T : Tb) (G : Gr) : List (List Int) := badN T G T.base.length
theorem badR_zero (T : Tb) (G : Gr) (i : Nat) : badR T G i 0 = [] := rfl
theorem badN_zero (T : Tb) (G : Gr) : badN T G 0 = [] := rfl
theorem badR_acc {T : Tb} {G : Gr} {i k : Nat} (h : accA G (bget T.base i ++ bget T.base k) = true) : badR T G i (k + 1) = badR T G i k := by
  unfold badR; rw [List.range_succ, List.flatMap_append]; simp [h]
theorem badR_bad {T : Tb} {G : Gr} {i k : Nat} (h : accA G (bget T.base i ++ bget T.base k) = false) : badR T G i (k + 1) = badR T G i k ++ [[(i : Int), (k : Int)]] := by
  unfold badR; rw [List.range_succ, List.flatMap_append]; simp [h]
theorem badN_succ (T : Tb) (G : Gr) (k : Nat) : badN T G (k + 1) = badN T G k ++ badR T G k T.base.length := by
  unfold badN; rw [List.range_succ, List.flatMap_append]; simp
theorem badR_len (T : Tb) (G : Gr) (i : Nat) : ∀ k, (badR T G i k).length ≤ k
  | 0 => by simp [badR]
  | k + 1 => by
    have := badR_len T G i k
    cases h : accA G (bget T.base i ++ bget T.base k)
    · rw [badR_bad h, List.length_append]; simp; omega
    · rw [badR_acc h]; omega
theorem badN_len (T : Tb) (G : Gr) : ∀ k, (badN T G k).length ≤ k * T.base.length
  | 0 => by simp [badN]
  | k + 1 => by
    have := badN_len T G k
    have h2 := badR_len T G k T.base.length
    rw [badN_succ, List.length_append, Nat.succ_mul]; omega
theorem badN_two {T : Tb} {G : Gr} {k : Nat} : ∀ x ∈ badN T G k, x.length = 2 := by
  intro x hx
  obtain ⟨i, _, hi⟩ := List.mem_flatMap.1 hx
  obtain ⟨j, _, hj⟩ := List.mem_flatMap.1 hi
  split at hj
  · cases hj
  · rw [List.mem_singleton.1 hj]; rfl
theorem badL_nil {T : Tb} {G : Gr} (h : chkL T G = 0) (h0 : T.swaps = []) : badL T G = [] := by
  unfold badL badN
  rw [List.flatMap_eq_nil_iff]
  intro i hi
  unfold badR
  rw [List.flatMap_eq_nil_iff]
  intro j hj
  rw [if_pos (pair_law h h0 (by simpa using hi) (by simpa using hj))]

/-! ### Lists of lists -/
abbrev LE := List Int × (Option Addr × Nat)
def lleE (x : LE) : Value := .slice x.2.1 x.1.length x.2.2
/-- A list of lists whose head row is the call's own. -/
structure LLo (w : World) (B : Nat) (v : Value) (L : List (List Int)) (X : List LE) : Prop where
  own : w.ownsRow B 43 1 v L.length (X.map lleE)
  els : X.map (·.1) = L
  rows : ∀ x ∈ X, SlT w x.2.1 x.1
/-- A list of lists that is read. -/
structure LLr (w : World) (p : Option Addr) (L : List (List Int)) (X : List LE) : Prop where
  hd : Sl w lleE p X
  els : X.map (·.1) = L
  rows : ∀ x ∈ X, SlT w x.2.1 x.1
theorem LLo.len {w : World} {B : Nat} {v : Value} {L : List (List Int)} {X : List LE} (h : LLo w B v L X) : X.length = L.length := by rw [← h.els, List.length_map]
theorem LLr.len {w : World} {p : Option Addr} {L : List (List Int)} {X : List LE} (h : LLr w p L X) : X.length = L.length := by rw [← h.els, List.length_map]
theorem LLo.read {w : World} {B : Nat} {v : Value} {L : List (List Int)} {X : List LE} (h : LLo w B v L X) : ∃ p c, v = .slice p L.length c ∧ LLr w p L X := by
  obtain ⟨p, c, rfl, hs⟩ := own_sl h.own
  exact ⟨p, c, by rw [h.len], hs, h.els, h.rows⟩
theorem LLr.below {w w' : World} {p : Option Addr} {L : List (List Int)} {X : List LE} (h : LLr w p L X) (hB : RowKit.Below w.heap.size w w') : LLr w' p L X :=
  ⟨h.hd.below hB, h.els, fun x hx => (h.rows x hx).below hB⟩
theorem LLo.below {w w' : World} {B : Nat} {v : Value} {L : List (List Int)} {X : List LE} (h : LLo w B v L X) (hB : RowKit.Below w.heap.size w w') : LLo w' B v L X :=
  ⟨h.own.below hB, h.els, fun x hx => (h.rows x hx).below hB⟩
theorem LLo.nil (w : World) (B : Nat) : LLo w B (.slice none 0 0) [] [] := ⟨World.ownsRow_nil w B 43 1, rfl, fun _ h => by cases h⟩
theorem LLr.nil (w : World) (p : Option Addr) : LLr w p [] [] := ⟨Sl.nil _ _ _, rfl, fun _ h => by cases h⟩
theorem LLr.get {w : World} {p : Option Addr} {L : List (List Int)} {X : List LE} (h : LLr w p L X) (k : Nat) (hk : k < L.length) :
    ∃ b o q d, p = some ⟨b, o, none⟩ ∧ b < w.heap.size ∧ w.cell? ⟨b, o + k, none⟩ = some (.slice q L[k].length d) ∧ SlT w q L[k] := by
  have hX : k < X.length := by rw [h.len]; exact hk
  obtain ⟨b, o, rfl, hb, hc⟩ := h.hd.get k hX
  have e : L[k] = X[k].1 := by have := h.els; subst this; rw [List.getElem_map]
  refine ⟨b, o, X[k].2.1, X[k].2.2, rfl, hb, ?_, ?_⟩
  · rw [hc k hX, e]; rfl
  · rw [e]; exact h.rows _ (List.getElem_mem hX)
/-- Behind an append of one more list. -/
theorem LLo.snoc {w w' : World} {B B' : Nat} {v v' : Value} {L : List (List Int)} {X : List LE} {l : List Int} {q : Option Addr} {d : Nat} (h : LLo w B v L X) (ho : w'.ownsRow B' 43 1 v' (L.length + 1) (X.map lleE ++ [.slice q l.length d])) (hk : KX0 3 w w') (hl : SlT w' q l) :
    LLo w' B' v' (L ++ [l]) (X ++ [(l, (q, d))]) :=
  ⟨by rw [List.length_append, List.map_append]; exact ho, by rw [List.map_append, h.els]; rfl, fun x hx => by
    rcases List.mem_append.1 hx with hx | hx
    · exact (h.rows x hx).keep hk
    · rw [List.mem_singleton.1 hx]; exact hl⟩
end Go.Proofs.YtjponanfpdmeoaaGreatDoor
namespace Go.Proofs.YtjponanfpdmeoaaGreatDoor
open Go.RowKit Go.Sort Go.Shelf Go.Lib

theorem endA_stop {G : Gr} {st l : List Int} {k : Nat} (h : endA G st (l.take k) = []) : endA G st l = [] := by
  have e : endA G st l = endA G (endA G st (l.take k)) (l.drop k) := by
    unfold endA
    rw [← List.foldl_append, List.take_append_drop]
  rw [e, h, endA_nil]

set_option maxRecDepth 100000 in
set_option maxHeartbeats 2000000 in
theorem lEnds_any (G : Gr) (p : Option Addr) (c : Nat) (st : List Int) (q : Option Addr) (d : Nat) (s : ByteArray) (w : World) (hin : Sg 3 w edE p G.es) (hst : Sl w (Value.int .i64) q st) (hv : Vg G) (hS : St G.n st) (hw : Chg.okw G.q s.data.toList = true) (hs : s.size ≤ 65536) :
    Calls Tryz.prog 79 #[(.agg #[.int .i64 G.q, .int .i64 G.n, .slice p G.es.length c]), .slice q st.length d, .string s] w (LsOut (endA G st (ltr s)) w) := by
  have HIN := hidI hin; have HV := hidI hv; have HS := hidI hS; have HW := hidI hw
  have HST := hidI hst
  clear hin hst hv hS hw
  obtain ⟨w0, hw0⟩ : ∃ w0, w0 = w.alloc (.cells #[.int .i64 G.q, .int .i64 G.n, .slice p G.es.length c] 28) := ⟨_, rfl⟩
  have b0 : VRow w0 w.heap.size 28 [.int .i64 G.q, .int .i64 G.n, .slice p G.es.length c] := by subst hw0; exact VRow.new w _ _
  have hB0 : RowKit.Below w.heap.size w w0 := by subst hw0; exact (RowKit.Below.refl _ _).alloc (Nat.le_refl _) _
  have hE0 : endA G st ((ltr s).take 0) = st := rfl
  go_enter Tryz.func79, Tryz.ntmps79
  go_wp2
  rw [← hw0]
  clear hw0
  go_loopw [1, 7] (fun sv iv wr => ∃ (k : Nat) (qk : Option Addr) (dk : Nat), k ≤ s.size ∧ sv = .slice qk (endA G st ((ltr s).take k)).length dk ∧ iv = .int .i64 k ∧ Sl wr (Value.int .i64) qk (endA G st ((ltr s).take k)) ∧ RowKit.Below w0.heap.size w0 wr) (fun _ iv _ => s.size - (intOf iv).toNat)
  case atStart => exact ⟨0, q, d, by omega, by rw [hE0], rfl, by rw [hE0]; exact HST.out.below hB0, RowKit.Below.refl _ _⟩
  case round =>
    obtain ⟨k, qk, dk, hk, rfl, rfl, hsl, hB⟩ := hrel
    have HSK := hidI (endA_st G st HS.out ((ltr s).take k))
    have HSTOP := hidI (@endA_stop G st (ltr s) k)
    have xr := hB0.trans (hB.mono hB0.size)
    by_cases hlt : k < s.size
    · have HN : Hid (endA G st ((ltr s).take (k + 1)) = nextA G (endA G st ((ltr s).take k)) (Chg.dig (s[k].toNat : Int))) := by rw [Hid, ltr_take s k hlt, endA_snoc]
      generalize endA G st ((ltr s).take k) = L at *
      have hltN : (k : Int) < (s.size : Int) := by omega
      by_cases hL : 0 < L.length
      · have hLi : (0 : Int) < (L.length : Int) := by omega
        have hd := okw_at HW.out k hlt
        have r0 := b0.below hB b0.lt
        go_upto_region 4 with fail
        refine region_tail 5 (by kernel_rfl) (by kernel_rfl) fun W hD => ?_
        have g0 := (r0.dr hD).at 0 rfl; have g1 := (r0.dr hD).at 1 rfl; have g2 := (r0.dr hD).at 2 rfl
        have hBW := hB.trans (hD.below _)
        have xw := xr.trans (hD.below _)
        have hslW := hsl.dr hD
        clear r0
        simp only [List.take_succ_cons, List.take_zero, List.drop_succ_cons, List.drop_zero]
        iterate 5 still_step
        refine wpStill_nil ?_
        go_wp2_with fail
        refine (lStep_any G p c L qk dk s[k] W (HIN.out.below xw) hslW HV.out HSK.out hd.1 hd.2).mono ?_
        rintro e w2 ⟨p', m', c', rfl, hown, hB2⟩
        obtain ⟨q2, d2, he, hs2⟩ := own_sl hown
        cases he
        go_wp2
        go_roundw
        case rel => exact ⟨k + 1, p', c', by omega, by rw [HN.out], by go_num, by rw [HN.out]; exact hs2, hBW.trans (hB2.mono hBW.size)⟩
        case measure => simp [intOf]; omega
      · have hLi : ¬ (0 : Int) < (L.length : Int) := by omega
        have HE : Hid (endA G st (ltr s) = L) := by
          have h0 : L = [] := List.eq_nil_of_length_eq_zero (by omega)
          rw [Hid, h0]; exact HSTOP.out h0
        clear hL
        go_wp2
        go_ret
        exact ⟨qk, dk, by rw [HE.out]; rfl, by rw [HE.out]; exact hsl, xr⟩
    · obtain rfl : k = s.size := by omega
      have hkk : ¬ ((s.size : Int)) < (s.size : Int) := by omega
      have HE : Hid (endA G st (ltr s) = endA G st ((ltr s).take s.size)) := by rw [Hid, ltr_all]
      generalize endA G st ((ltr s).take s.size) = L at *
      go_wp2
      go_ret
      exact ⟨qk, dk, by rw [HE.out]; rfl, by rw [HE.out]; exact hsl, xr⟩

set_option maxRecDepth 100000 in
set_option maxHeartbeats 1000000 in
theorem lAccepts_any (G : Gr) (p : Option Addr) (c : Nat) (s : ByteArray) (w : World) (hin : Sg 3 w edE p G.es) (hv : Vg G) (hq : G.q ≤ 16) (hs : s.size ≤ maxLen) (hc : Chg.wchk G.q s.data.toList = 0) (hl : s.size ≤ 65536) :
    Calls Tryz.prog 57 #[(.agg #[.int .i64 G.q, .int .i64 G.n, .slice p G.es.length c]), .string s] w fun e w' => e = .returned (.tuple #[.bool (accA G s), .int .i64 0]) ∧ RowKit.Below w.heap.size w w' := by
  have HIN := hidI hin; have HV := hidI hv; have HC := hidI hc
  clear hin hv hc
  obtain ⟨w0, hw0⟩ : ∃ w0, w0 = w.alloc (.cells #[.int .i64 G.q, .int .i64 G.n, .slice p G.es.length c] 28) := ⟨_, rfl⟩
  have b0 : VRow w0 w.heap.size 28 [.int .i64 G.q, .int .i64 G.n, .slice p G.es.length c] := by subst hw0; exact VRow.new w _ _
  have hB0 : RowKit.Below w.heap.size w w0 := by subst hw0; exact (RowKit.Below.refl _ _).alloc (Nat.le_refl _) _
  go_enter Tryz.func57, Tryz.ntmps57
  go_wp2_with fail
  rw [← hw0]
  clear hw0
  refine (lSpells_any G p c s w0 (HIN.out.below hB0) HV.out hq hs).mono ?_
  rw [HC.out]
  rintro e w1 ⟨rfl, hB1⟩
  have x1 := hB0.trans (hB1.mono hB0.size)
  have b1 := b0.below hB1 b0.lt
  go_upto_region 4 with fail
  have g0 := b1.at 0 rfl; have g1 := b1.at 1 rfl; have g2 := b1.at 2 rfl
  have zb : w.heap.size < w1.heap.size := b1.lt
  have HIX : Hid (∀ W, RowKit.Below w1.heap.size w1 W → Sg 3 W edE p G.es) := fun W h => HIN.out.below (x1.trans (h.mono x1.size))
  have HA : Hid (accA G s = decide (0 < (endA G (upto G.n.toNat) (ltr s)).length)) := rfl
  have HUP := hidI (St.upto HV.out.n1)
  have HOK := hidI (wchk_okw HC.out)
  clear b0 hB0 hB1 b1
  generalize hL : endA G (upto G.n.toNat) (ltr s) = L at *
  have HL := hidI hL
  clear hL
  go_cut [4, 5] (fun s4 s5 wx => s4 = .bool (decide (0 < L.length)) ∧ s5 = .int .i64 0 ∧ RowKit.Below w1.heap.size w1 wx)
  case first =>
    go_region_held3 (fun w' => w'.cell? ⟨w.heap.size, 0, none⟩ = some (.int .i64 G.q) ∧ w'.cell? ⟨w.heap.size, 1, none⟩ = some (.int .i64 G.n) ∧ w'.cell? ⟨w.heap.size, 2, none⟩ = some (.slice p G.es.length c) ∧ RowKit.Below w1.heap.size w1 w')
      (first | (go_split_ands; refine ⟨?_, ?_, ?_, ?_⟩ <;> first | assumption | (go_keep; done) | exact below_drewN (RowKit.Below.refl _ _) 1 | exact (hBa.cell (Nat.lt_of_lt_of_le zb (RowKit.Below.size (by assumption)))).trans (by assumption) | exact (hBb.cell (Nat.lt_of_lt_of_le zb (RowKit.Below.size (by assumption)))).trans (by assumption) | exact RowKit.Below.trans (by assumption) (hBa.mono (RowKit.Below.size (by assumption))) | exact RowKit.Below.trans (by assumption) (hBb.mono (RowKit.Below.size (by assumption)))))
      (first
        | (go_at_call 80; go_split_ands; refine (lStates_any G p c _ HV.out).mono ?_; rintro e wA ⟨q, d, rfl, hsl, hBa⟩)
        | (go_at_call 79; go_split_ands; refine (lEnds_any G p c (upto G.n.toNat) q d s _ (HIX.out _ (by assumption)) hsl HV.out HUP.out HOK.out hl).mono ?_; rw [HL.out]; rintro e wB ⟨q3, d3, rfl, _, hBb⟩))
    all_goals
      go_wp2_with fail
      go_meet
      exact ⟨rfl, rfl, RowKit.Below.trans (by assumption) (hBb.mono (RowKit.Below.size (by assumption)))⟩
  case rest =>
    obtain ⟨rfl, rfl, hB2⟩ := hcut
    go_wp2
    go_ret2
    refine ⟨?_, x1.trans (hB2.mono x1.size)⟩
    rw [HA.out]; rfl
end Go.Proofs.YtjponanfpdmeoaaGreatDoor
namespace Go.Proofs.YtjponanfpdmeoaaGreatDoor
open Go.RowKit Go.Sort Go.Shelf Go.Lib

set_option maxRecDepth 100000 in
set_option maxHeartbeats 1000000 in
theorem lkAccepts_any (G : Gr) (p : Option Addr) (c : Nat) (s : ByteArray) (w : World) (hin : Sg 3 w edE p G.es) (hv : Vg G) (hq : G.q ≤ 16) (hs : s.size ≤ maxLen) (hc : Chg.wchk G.q s.data.toList = 0) (hl : s.size ≤ 65536) :
    Calls Tryz.prog 38 #[(.agg #[.int .i64 G.q, .int .i64 G.n, .slice p G.es.length c]), .string s] w fun e w' => e = .returned (.bool (accA G s)) ∧ RowKit.Below w.heap.size w w' := by
  obtain ⟨w0, hw0⟩ : ∃ w0, w0 = w.alloc (.cells #[.int .i64 G.q, .int .i64 G.n, .slice p G.es.length c] 28) := ⟨_, rfl⟩
  have b0 : VRow w0 w.heap.size 28 [.int .i64 G.q, .int .i64 G.n, .slice p G.es.length c] := by subst hw0; exact VRow.new w _ _
  have hB0 : RowKit.Below w.heap.size w w0 := by subst hw0; exact (RowKit.Below.refl _ _).alloc (Nat.le_refl _) _
  have HA := hidI (lAccepts_any G p c s w0 (hin.below hB0) hv hq hs hc hl)
  have g0 := b0.at 0 rfl; have g1 := b0.at 1 rfl; have g2 := b0.at 2 rfl
  clear hin hv hc
  generalize accA G s = r at *
  go_enter Tryz.func38, Tryz.ntmps38
  go_upto_region 1 with fail
  rw [← hw0]
  clear hw0
  go_wp2_with fail
  refine HA.out.mono ?_
  rintro e w1 ⟨rfl, hB1⟩
  go_wp2
  go_ret
  exact ⟨rfl, hB0.trans (hB1.mono hB0.size)⟩

/-- What a table's two words together are. -/
structure WdP (T : Tb) (G : Gr) (a b : ByteArray) : Prop where
  s1 : a.size ≤ 8
  s2 : b.size ≤ 8
  chk : Chg.wchk G.q (a ++ b).data.toList = 0
theorem wdP {T : Tb} {G : Gr} (hf : fmd T = true) (hq : G.q = T.q) {i j : Nat} (hi : i < T.base.length) (hj : j < T.base.length) : WdP T G (bget T.base i) (bget T.base j) := by
  have hN := pre_all (fmd_split hf).1
  have h1 := base_sz hf i hi
  have h2 := base_sz hf j hj
  have e1 : baseW T (i : Int) = bget T.base i := by simp [baseW]
  have e2 : baseW T (j : Int) = bget T.base j := by simp [baseW]
  have o1 := baseW_okw hf (x := (i : Int)) (by omega) (by omega)
  have o2 := baseW_okw hf (x := (j : Int)) (by omega) (by omega)
  rw [e1] at o1
  rw [e2] at o2
  refine ⟨by omega, by omega, ?_⟩
  rw [hq]
  have ho : Chg.okw T.q (bget T.base i ++ bget T.base j).data.toList = true := by rw [toL_app]; exact okw_app o1 o2
  refine Chg.wchk_ok _ _ (by omega) (by omega) ?_ ho
  rw [toL_app, List.length_append, toL_len, toL_len]; omega
theorem app_le {a b : ByteArray} (h1 : a.size ≤ 8) (h2 : b.size ≤ 8) : (a ++ b).size ≤ 16 := by rw [ByteArray.size_append]; omega

def RetLL (L : List (List Int)) (w : World) (e : Ending) (w' : World) : Prop := ∃ q d X, e = .returned (.slice q L.length d) ∧ LLr w' q L X ∧ RowKit.Below w.heap.size w w'
def RetLLI (L : List (List Int)) (k : Int) (w : World) (e : Ending) (w' : World) : Prop := ∃ q d X, e = .returned (.tuple #[.slice q L.length d, .int .i64 k]) ∧ LLr w' q L X ∧ RowKit.Below w.heap.size w w'
theorem infoSI : (Tryz.prog.info? 43).map (fun i => (i.zero, i.size, i.bytes)) = some (some (.slice none 0 0), 1, 24) := by kernel_rfl
theorem slT_row {w : World} {b : Nat} {l : List Int} (h : VRow w b 3 (l.map (Value.int .i64))) : SlT w (some ⟨b, 0, none⟩) l :=
  ⟨Sl.of_vrow h, fun b' o z e => by cases e; exact ⟨_, _, h⟩⟩
theorem LLo.lt {w : World} {B : Nat} {v : Value} {L : List (List Int)} {X : List LE} (h : LLo w B v L X) : ∀ j, v.ownBlock = some j → B ≤ j ∧ j < w.heap.size := h.own.lt

set_option maxRecDepth 100000 in
set_option maxHeartbeats 4000000 in
theorem lkbad_any (T : Tb) (p1 p2 : Option Addr) (c1 c2 : Nat) (G : Gr) (p : Option Addr) (c : Nat) (w : World) (hin : TbIn w T p1 p2 c1 c2) (hG : Sg 3 w edE p G.es) (hf : fmd T = true) (hv : Vg G) (hq : G.q = T.q) :
    Calls Tryz.prog 19 #[(.agg #[.int .i64 T.q, .int .i64 T.n, .slice p1 T.base.length c1, .slice p2 T.swaps.length c2]), (.agg #[.int .i64 G.q, .int .i64 G.n, .slice p G.es.length c])] w (RetLL (badL T G) w) := by
  obtain ⟨i0, hi0, hz0, hz1, hz3⟩ := info_parts infoSI
  obtain ⟨w0, hw0⟩ : ∃ w0, w0 = (w.alloc (.cells #[.int .i64 T.q, .int .i64 T.n, .slice p1 T.base.length c1, .slice p2 T.swaps.length c2] 25)).alloc (.cells #[.int .i64 G.q, .int .i64 G.n, .slice p G.es.length c] 28) := ⟨_, rfl⟩
  have b0 : VRow w0 w.heap.size 25 [.int .i64 T.q, .int .i64 T.n, .slice p1 T.base.length c1, .slice p2 T.swaps.length c2] := by subst hw0; exact (VRow.new w _ _).alloc _
  have d0 : VRow w0 (w.heap.size + 1) 28 [.int .i64 G.q, .int .i64 G.n, .slice p G.es.length c] := by subst hw0; exact VRow.new1 w _ _ _
  have hB0 : RowKit.Below w.heap.size w w0 := by subst hw0; exact ((RowKit.Below.refl _ _).alloc (Nat.le_refl _) _).alloc (by simp) _
  have hN := pre_all (fmd_split hf).1
  have hN16 : T.base.length ≤ 16 := by omega
  have hq16 : G.q ≤ 16 := by rw [hq]; omega
  have HBS := hidI (hin.below hB0).base
  have HWD := hidI (fun (i j : Nat) (hi : i < T.base.length) (hj : j < T.base.length) => wdP (G := G) hf hq hi hj)
  have HAC := hidI (fun (s : ByteArray) (W : World) (hB : RowKit.Below w.heap.size w W) (h1 : Chg.wchk G.q s.data.toList = 0) (h2 : s.size ≤ 16) => lkAccepts_any G p c s W (hG.below hB) hv hq16 (by unfold maxLen; omega) h1 (by omega))
  have HBG := hidI (fun (k : Nat) (hk : k < T.base.length) => bget_eq T.base k hk)
  have HLN : Hid (badL T G = badN T G T.base.length) := rfl
  have HO := hidI (LLo.nil w0 w0.heap.size)
  have HB0 := hidI hB0; have HB := hidI b0; have HD := hidI d0
  have f2 := b0.at 2 rfl
  clear hin hG hf hv hq hN hB0 b0 d0
  generalize badL T G = R at *
  go_enter Tryz.func19, Tryz.ntmps19
  go_upto_region 1 with fail
  rw [← hw0]
  clear hw0
  go_wp2_with fail
  clear f2
  go_loopw [5, 13] (fun v5 iv W => ∃ (k : Nat) (X : List LE), k ≤ T.base.length ∧ iv = .int .i64 k ∧ LLo W w0.heap.size v5 (badN T G k) X ∧ RowKit.Below w0.heap.size w0 W) (fun _ iv _ => T.base.length - (intOf iv).toNat)
  case atStart => exact ⟨0, [], by omega, rfl, HO.out, RowKit.Below.refl _ _⟩
  case round =>
    obtain ⟨k, X, hk, rfl, ho, hB⟩ := hrel
    by_cases hlt : k < T.base.length
    · have hltI : (k : Int) < (T.base.length : Int) := by omega
      have f2 := (HB.out.below hB HB.out.lt).at 2 rfl
      obtain ⟨bb, oo, rfl, hb1, hc1⟩ := (HBS.out.below hB).get k hlt
      have e0 := hc1 k hlt
      have hle := badN_len T G k
      have HNS := hidI (badN_succ T G k)
      have HRZ := hidI (badR_zero T G k)
      rw [← HBG.out k hlt] at e0
      have hkn : k * T.base.length ≤ 16 * 16 := Nat.mul_le_mul (by omega) hN16
      generalize badN T G k = L at *
      clear hc1
      obtain ⟨wo, hwo⟩ : ∃ wo : World, wo = wr := ⟨_, rfl⟩
      go_wp2_with fail
      clear f2 e0
      go_loopw [5, 21] (fun v5 iv W => ∃ (j : Nat) (Y : List LE), j ≤ T.base.length ∧ iv = .int .i64 j ∧ LLo W w0.heap.size v5 (L ++ badR T G k j) Y ∧ RowKit.Below w0.heap.size w0 W) (fun _ iv _ => T.base.length - (intOf iv).toNat)
      case atStart => exact ⟨0, X, by omega, rfl, by rw [HRZ.out, List.append_nil]; exact ho, hB⟩
      case round =>
        clear ho hB hwo
        obtain ⟨j, Y, hj, rfl, ho, hB⟩ := hrel
        have hrl := badR_len T G k j
        by_cases hlt2 : j < T.base.length
        · have hltJ : (j : Int) < (T.base.length : Int) := by omega
          have hD := HD.out.below hB HD.out.lt
          have g0 := hD.at 0 rfl; have g1 := hD.at 1 rfl; have g2 := hD.at 2 rfl
          obtain ⟨bb', oo', hp', hb2, hc2⟩ := (HBS.out.below hB).get j hlt2
          cases hp'
          have e1 := hc2 j hlt2
          rw [← HBG.out j hlt2] at e1
          have hwd := HWD.out k j hlt hlt2
          have HRA := hidI (fun h => @badR_acc T G k j h)
          have HRB := hidI (fun h => @badR_bad T G k j h)
          have hs1 := hwd.s1; have hs2 := hwd.s2
          have hml : (bget T.base k).size + (bget T.base j).size ≤ maxLen := by unfold maxLen; omega
          have HC := hidI (HAC.out (bget T.base k ++ bget T.base j) wr (HB0.out.trans (hB.mono HB0.out.size)) hwd.chk (app_le hs1 hs2))
          generalize accA G (bget T.base k ++ bget T.base j) = r at *
          generalize bget T.base k = ba at *
          generalize bget T.base j = bj at *
          clear hc2 hwd
          go_wp2_with fail
          refine HC.out.mono ?_
          rintro e w2 ⟨rfl, hB2⟩
          have ho2 := ho.below hB2
          have hB3 := hB.trans (hB2.mono hB.size)
          clear hD g0 g1 g2 e1 hb2 HC ho hB hB2
          cases r
          · have HQ := hidI (HRB.out rfl)
            have hz2 := hB3.size
            have hlw := ho2.lt
            clear HRA HRB HNS
            have hMl : (L ++ badR T G k j).length ≤ 272 := by rw [List.length_append]; omega
            have HQ : Hid (L ++ badR T G k (j + 1) = L ++ badR T G k j ++ [[(k : Int), (j : Int)]]) := by rw [Hid, HQ.out, List.append_assoc]
            generalize L ++ badR T G k j = M at *
            have hnew := cell_one_at (w2.alloc (.cells #[.int .i64 k, .int .i64 j] 3)) (.slice (some ⟨w2.heap.size, 0, none⟩) 2 2) 43 (w2.heap.size + 1) (by simp)
            have hownA := (ho2.own.alloc (.cells #[.int .i64 k, .int .i64 j] 3)).alloc (.cells #[.slice (some ⟨w2.heap.size, 0, none⟩) 2 2] 43)
            have n3 : VRow ((w2.alloc (.cells #[.int .i64 k, .int .i64 j] 3)).alloc (.cells #[.slice (some ⟨w2.heap.size, 0, none⟩) 2 2] 43)) w2.heap.size 3 ([(k : Int), (j : Int)].map (Value.int .i64)) := (VRow.new w2 _ _).alloc _
            have hBa : RowKit.Below w2.heap.size w2 ((w2.alloc (.cells #[.int .i64 k, .int .i64 j] 3)).alloc (.cells #[.slice (some ⟨w2.heap.size, 0, none⟩) 2 2] 43)) := ((RowKit.Below.refl _ _).alloc (Nat.le_refl _) _).alloc (by simp) _
            go_wp2_with (at_builtin; refine wpList_append_own _ rfl _ _ 32 rfl w0.heap.size 43 i0 (.slice none 0 0) 1 24 Tryz.underlying32 hi0 hz0 hz1 hz3 rfl (by decide) _ _ _ rfl hownA ⟨w2.heap.size + 1, 0, none⟩ 1 1 [.slice (some ⟨w2.heap.size, 0, none⟩) 2 2] rfl rfl hnew (by simp [Value.oneCell']) (by simp [maxLen]; omega) (by omega) (by simp only [World.size_alloc]; omega) ?_; intro v' w4 hown' hgrow _)
            have hlw2 := hownA.lt
            have hk4 : KX0 3 w2 w4 := (KX0.below hBa).trans (KX0.grown hgrow (own_typed hownA) (by decide))
            have hl4 : SlT w4 (some ⟨w2.heap.size, 0, none⟩) [(k : Int), (j : Int)] := (slT_row n3).keep (KX0.grown hgrow (own_typed hownA) (by decide))
            have ho4 := ho2.snoc hown' hk4 hl4
            have hB4 : RowKit.Below w0.heap.size w0 w4 := (hB3.trans (hBa.mono hz2)).grown hgrow (by simp; omega) (fun j e => by have := (hlw2 j e).1; omega)
            go_roundw
            case rel => exact ⟨j + 1, _, by omega, by go_num, by rw [HQ.out]; exact ho4, hB4⟩
            case measure => simp [intOf]; omega
          · have HQ := hidI (HRA.out rfl)
            clear HRA HRB
            go_wp2_with fail
            go_roundw
            case rel => exact ⟨j + 1, Y, by omega, by go_num, by rw [HQ.out]; exact ho2, hB3⟩
            case measure => simp [intOf]; omega
        · obtain rfl : j = T.base.length := by omega
          have hltJ : ¬ (T.base.length : Int) < (T.base.length : Int) := by omega
          go_wp2_with fail
          go_roundw
          case rel => exact ⟨k + 1, Y, by omega, by go_num, by rw [HNS.out]; exact ho, hB⟩
          case measure => simp [intOf]; omega
    · obtain rfl : k = T.base.length := by omega
      have hltI : ¬ (T.base.length : Int) < (T.base.length : Int) := by omega
      obtain ⟨q, d, rfl, hr⟩ := ho.read
      rw [← HLN.out] at hr
      have HR := hidI hr
      have HL2 : Hid ((badN T G T.base.length).length = R.length) := by rw [Hid, HLN.out]
      go_wp2_with fail
      go_ret
      exact ⟨q, d, X, by show Ending.returned (.slice q (badN T G T.base.length).length d) = _; rw [HL2.out], HR.out, HB0.out.trans (hB.mono HB0.out.size)⟩
end Go.Proofs.YtjponanfpdmeoaaGreatDoor
