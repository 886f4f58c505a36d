/-
  Words, plain lemmas and walks, merged: Tg, Io, Ip, Iq, Ir, Is, It.
-/
import Derived.Test.YtocbhlohcikapaaGreatDoorZqn
import Derived.Test.YtocbhlohcikapaaGreatDoorZqk
import Derived.Test.YtocbhlohcikapaaGreatDoorZql
set_option linter.unusedVariables false
set_option linter.unusedSimpArgs false
namespace Go.Proofs.YtocbhlohcikapaaGreatDoor
open Go.RowKit Go.Sort Go.Shelf Go.Lib

theorem upT_row (N k : Nat) (h : k < N) : ((upto k ++ List.replicate (N - k) 0).map (Value.int .i64))[k]? = some (.int .i64 0) := by
  rw [List.getElem?_map, List.getElem?_append_right (by rw [upto_len]; omega), upto_len, List.getElem?_replicate, if_pos (by omega)]
  rfl
theorem upT_set (N k : Nat) (h : k < N) : ((upto k ++ List.replicate (N - k) 0).map (Value.int .i64)).set k (.int .i64 k) = (upto (k + 1) ++ List.replicate (N - (k + 1)) 0).map (Value.int .i64) := by
  obtain ⟨m, hm⟩ : ∃ m, N - k = m + 1 := ⟨N - k - 1, by omega⟩
  rw [hm, show N - (k + 1) = m by omega, upto_succ, List.replicate_succ, List.map_append, List.set_append_right _ _ (by rw [List.length_map, upto_len]; omega), List.length_map, upto_len, Nat.sub_self]
  simp

set_option maxRecDepth 100000 in
set_option maxHeartbeats 4000000 in
theorem sBuild_any (G : Gr) (p : Option Addr) (c : Nat) (w : World) (hin : Sg 3 w edE p G.es) (hl : G.es.length ≤ 9223372036854775807) :
    Calls Tryz.prog 51 #[(.agg #[.int .i64 G.q, .int .i64 G.n, .slice p G.es.length c])] w (RetSb (sbA G) w) := by
  obtain ⟨i0, hi0, hz0, hz1, hz3⟩ := info_parts infoJ
  obtain ⟨w0, hw0⟩ : ∃ w0, w0 = (w.alloc (.cells #[.int .i64 G.q, .int .i64 G.n, .slice p G.es.length c] 24)).alloc (.cells #[.int .i64 0, .int .i64 0, .slice none 0 0] 24) := ⟨_, rfl⟩
  have b0 : VRow w0 w.heap.size 24 [.int .i64 G.q, .int .i64 G.n, .slice p G.es.length c] := by subst hw0; exact (VRow.new w _ _).alloc _
  have b1 : VRow w0 (w.heap.size + 1) 24 [.int .i64 0, .int .i64 0, .slice none 0 0] := by subst hw0; exact VRow.new1 w _ _ _
  have hB0 : RowKit.Below w.heap.size w w0 := by subst hw0; exact ((RowKit.Below.refl _ _).alloc (Nat.le_refl _) _).alloc (by simp) _
  have HIN := hidI (hin.below hB0)
  have g0 := b0.at 0 rfl; have g1 := b0.at 1 rfl; have g2 := b0.at 2 rfl
  obtain ⟨r, hr⟩ : ∃ r, chkG G = r := ⟨_, rfl⟩
  have HC := hidI (gCheck_r G p c w0 r hr HIN.out hl)
  clear hin
  by_cases hr0 : r = 0
  · subst hr0
    have hv := chkG_ok.1 hr
    obtain ⟨N, hN⟩ : ∃ N : Nat, G.n = N := ⟨G.n.toNat, by have := hv.n1; omega⟩
    have hN64 : N ≤ 64 := by have := hv.n2; omega
    have HV := hidI hv; have HR := hidI hr
    have HN := hidI hN
    clear hr hv hN
    go_enter Tryz.func51, Tryz.ntmps51
    go_wp2_with fail
    rw [← hw0]
    clear hw0
    refine HC.out.mono ?_
    rintro e w1 ⟨rfl, hB1⟩
    have c0 := b0.below hB1 b0.lt
    have c1 := b1.below hB1 b1.lt
    have hBW := hB0.trans (hB1.mono hB0.size)
    clear g0 g1 g2
    have g0 := c0.at 0 rfl; have g1 := c0.at 1 rfl; have g2 := c0.at 2 rfl
    have j0 := c1.at 0 rfl; have j1 := c1.at 1 rfl; have j2 := c1.at 2 rfl
    have z0 := c1.frozen 0; have z1 := c1.frozen 1; have z2 := c1.frozen 2
    by_cases hn : N = 0
    · have HK : Hid (sbA G = (⟨G.q, 0, []⟩, [], 0)) := by unfold Hid sbA; rw [if_pos HR.out, if_pos (by rw [HN.out, hn]; rfl)]
      have hn0 : (G.n == 0) = true := by rw [HN.out, hn]; rfl
      go_wp2
      (have r6 := VRow.set (i := 2) (.slice none 0 0) (VRow.set (i := 1) (.int .i64 0) (VRow.set (i := 0) (.int .i64 G.q) c1)); have y0 := r6.at 0 rfl; have y1 := r6.at 1 rfl; have y2 := r6.at 2 rfl; have x6 : RowKit.Below w.heap.size w (((w1.setCell (⟨w.heap.size + 1, 0, none⟩ : Addr) (.int .i64 G.q)).setCell (⟨w.heap.size + 1, 1, none⟩ : Addr) (.int .i64 0)).setCell (⟨w.heap.size + 1, 2, none⟩ : Addr) (.slice none 0 0)) := ((hBW.setCell (show w.heap.size ≤ w.heap.size + 1 by omega) _).setCell (show w.heap.size ≤ w.heap.size + 1 by omega) _).setCell (show w.heap.size ≤ w.heap.size + 1 by omega) _; refine bodyPost_ret (v := .tuple #[.agg #[.int .i64 G.q, .int .i64 0, (.slice none 0 0)], (.slice none 0 0), .int .i64 0]) (by simp [results, Tryz.results51, go_sem, y0, y1, y2]) rfl ?_)
      rw [HK.out]
      exact RetSb.of (G := ⟨G.q, 0, []⟩) (S := []) rfl rfl (World.ownsRow_nil _ _ _ _) x6
    · have hnI := HN.out
      have HK : Hid (sbA G = sbR G (sbGo G 66 0 ([upto G.n.toNat], []))) := sbA_ok1 HR.out (by rw [hnI]; omega)
      have HUC : Hid (chkS G.n none (upto N) = 0) := chkS_of (upto_srt _) (fun x hx => by have := mem_upto.1 hx; have := HN.out; omega) (fun q h => by cases h)
      have HUN : Hid (upto N ≠ []) := fun e => by have := congrArg List.length e; rw [upto_len] at this; exact hn (by simpa using this)
      have HTN : Hid (G.n.toNat = N) := by rw [Hid, HN.out]; rfl
      have g1N : w1.cell? ⟨w.heap.size, 1, none⟩ = some (.int .i64 N) := by rw [← HN.out]; exact g1
      have hn0N : ((N : Int) == 0) = false := by simpa using hn
      have HB := hidI (fun W q d (hW : RowKit.Below w1.heap.size w1 W) (hs : Sl W (Value.int .i64) q (upto N)) => sbuild_any G p c (upto N) q d W (HIN.out.below (hB1.trans (hW.mono hB1.size))) hs HV.out HUC.out HUN.out)
      clear g1 hnI j0 j1 j2 z0 z1 z2
      go_upto_region 6 with (at_make; refine wpList_make_full _ rfl _ _ 30 rfl w1.heap.size 3 i0 (.int .i64 0) 1 Tryz.underlying30 hi0 hz0 hz1 .i64 .i64 _ _ N rfl rfl (by omega) (by omega) (by rw [hz3]; omega) (by unfold maxLen; omega) (Nat.le_refl _) ?_; intro w2 hown hgrow)
      have hv2 : VRow w2 w1.heap.size 3 ((upto 0 ++ List.replicate (N - 0) 0).map (Value.int .i64)) := by
        have := made_rowJ hown
        simpa [Go.Proofs.YtocbhlohcikapaaGreatDoor.upto] using this
      have hB2 : RowKit.Below w1.heap.size w1 w2 := (RowKit.Below.refl _ _).grown hgrow (Nat.le_refl _) (by simp)
      have HBD : Hid (∀ W (q : Option Addr) (d : Nat), RowKit.Below w1.heap.size w1 W → Sl W (Value.int .i64) q (upto N) → Calls Tryz.prog 113 #[(.agg #[.int .i64 G.q, .int .i64 G.n, .slice p G.es.length c]), .slice q N d] W (RetSb (sbA G) W)) := fun W q d hW hs => by
        have := HB.out W q d hW hs
        rw [upto_len] at this
        rw [HK.out, HTN.out]; exact this
      obtain ⟨sb, hsb⟩ : ∃ sb, sb = sbA G := ⟨_, rfl⟩
      rw [← hsb] at HBD
      have HSB := hidI hsb
      clear hown hgrow HB HK hsb g1N hn0N
      go_wp2
      go_loopw [22] (fun iv wr => ∃ k : Nat, k ≤ N ∧ iv = .int .i64 k ∧ VRow wr w1.heap.size 3 ((upto k ++ List.replicate (N - k) 0).map (Value.int .i64)) ∧ RowKit.Below w1.heap.size w1 wr) (fun iv _ => N - (RowKit.intOf iv).toNat)
      case atStart => exact ⟨0, by omega, rfl, hv2, hB2⟩
      case round =>
        clear hv2 hB2
        obtain ⟨k, hk, rfl, hv, hB⟩ := hrel
        by_cases hlt : k < N
        · have hltN : (k : Int) < (N : Int) := by omega
          have hc := hv.at k (upT_row N k hlt)
          have hf := hv.frozen k
          have HS := hidI (upT_set N k hlt)
          go_wp2
          go_roundw
          case rel => exact ⟨k + 1, by omega, by go_num, by rw [← HS.out]; exact VRow.set (i := k) _ hv, hB.setCell (p := ⟨w1.heap.size, k, none⟩) (Nat.le_refl _) _⟩
          case measure => simp [RowKit.intOf]; omega
        · obtain rfl : k = N := by omega
          have hkk : ¬ (k : Int) < (k : Int) := by omega
          rw [Nat.sub_self, List.replicate_zero, List.append_nil] at hv
          have cr := c0.below hB c0.lt
          have cs := c1.below hB c1.lt
          clear g0 g2
          have g0 := cr.at 0 rfl; have g1 := cr.at 1 rfl; have g2 := cr.at 2 rfl
          have HX := hidI (HBD.out wr _ k hB (Sl.of_vrow hv))
          go_wp2_with fail
          refine HX.out.mono ?_
          rintro e w5 ⟨p5, c5, ps5, ms5, cs5, rfl, ho5, hB5⟩
          have d1 := cs.below hB5 cs.lt
          have hBr := hBW.trans (hB.mono hBW.size)
          have hBW := hBr.trans (hB5.mono hBr.size)
          have hz : w.heap.size + 1 < wr.heap.size := cs.lt
          clear c1 cs cr g0 g1 g2 HX HBD hv hB5
          have c1 := d1
          have j0 := c1.at 0 rfl; have j1 := c1.at 1 rfl; have j2 := c1.at 2 rfl
          have z0 := c1.frozen 0; have z1 := c1.frozen 1; have z2 := c1.frozen 2
          obtain ⟨⟨qq, nn, ee⟩, S, kk⟩ := sb
          change w5.ownsRow wr.heap.size 44 3 (.slice p5 ee.length c5) ee.length (cat ee) at ho5
          have o6 := ownsRow_setCell_below (a := (⟨w.heap.size + 1, 2, none⟩ : Addr)) (ownsRow_setCell_below (a := (⟨w.heap.size + 1, 1, none⟩ : Addr)) (ownsRow_setCell_below (a := (⟨w.heap.size + 1, 0, none⟩ : Addr)) ho5 hz (.int .i64 qq)) hz (.int .i64 nn)) hz (.slice p5 ee.length c5)
          simp only
          go_wp2
          (have r6 := VRow.set (i := 2) (.slice p5 ee.length c5) (VRow.set (i := 1) (.int .i64 nn) (VRow.set (i := 0) (.int .i64 qq) c1)); have y0 := r6.at 0 rfl; have y1 := r6.at 1 rfl; have y2 := r6.at 2 rfl; have x6 : RowKit.Below w.heap.size w (((w5.setCell (⟨w.heap.size + 1, 0, none⟩ : Addr) (.int .i64 qq)).setCell (⟨w.heap.size + 1, 1, none⟩ : Addr) (.int .i64 nn)).setCell (⟨w.heap.size + 1, 2, none⟩ : Addr) (.slice p5 ee.length c5)) := ((hBW.setCell (show w.heap.size ≤ w.heap.size + 1 by omega) _).setCell (show w.heap.size ≤ w.heap.size + 1 by omega) _).setCell (show w.heap.size ≤ w.heap.size + 1 by omega) _; refine bodyPost_ret (v := .tuple #[.agg #[.int .i64 qq, .int .i64 nn, (.slice p5 ee.length c5)], (.slice ps5 ms5 cs5), .int .i64 kk]) (by simp [results, Tryz.results51, go_sem, y0, y1, y2]) rfl ?_)
          exact RetSb.of (G := ⟨qq, nn, ee⟩) (S := S) HSB.out.symm rfl (own_downN o6 hBr.size) x6
  · have HK : Hid (sbA G = (⟨0, 0, []⟩, [], 1)) := by unfold Hid sbA; rw [if_neg (by rw [hr]; exact hr0)]
    have hrb : (r == 0) = false := by simpa using hr0
    have hrc : (r != 0) = true := by simpa using hr0
    clear hr hr0
    go_enter Tryz.func51, Tryz.ntmps51
    go_wp2_with fail
    rw [← hw0]
    clear hw0
    refine HC.out.mono ?_
    rintro e w1 ⟨rfl, hB1⟩
    have c1 := b1.below hB1 b1.lt
    have hBW := hB0.trans (hB1.mono hB0.size)
    clear g0 g1 g2
    have j0 := c1.at 0 rfl; have j1 := c1.at 1 rfl; have j2 := c1.at 2 rfl
    have z0 := c1.frozen 0; have z1 := c1.frozen 1; have z2 := c1.frozen 2
    go_wp2
    (have r6 := VRow.set (i := 2) (.slice none 0 0) (VRow.set (i := 1) (.int .i64 0) (VRow.set (i := 0) (.int .i64 0) c1)); have y0 := r6.at 0 rfl; have y1 := r6.at 1 rfl; have y2 := r6.at 2 rfl; have x6 : RowKit.Below w.heap.size w (((w1.setCell (⟨w.heap.size + 1, 0, none⟩ : Addr) (.int .i64 0)).setCell (⟨w.heap.size + 1, 1, none⟩ : Addr) (.int .i64 0)).setCell (⟨w.heap.size + 1, 2, none⟩ : Addr) (.slice none 0 0)) := ((hBW.setCell (show w.heap.size ≤ w.heap.size + 1 by omega) _).setCell (show w.heap.size ≤ w.heap.size + 1 by omega) _).setCell (show w.heap.size ≤ w.heap.size + 1 by omega) _; refine bodyPost_ret (v := .tuple #[.agg #[.int .i64 0, .int .i64 0, (.slice none 0 0)], (.slice none 0 0), .int .i64 1]) (by simp [results, Tryz.results51, go_sem, y0, y1, y2]) rfl ?_)
    rw [HK.out]
    exact RetSb.of (G := ⟨0, 0, []⟩) (S := []) rfl rfl (World.ownsRow_nil _ _ _ _) x6
end Go.Proofs.YtocbhlohcikapaaGreatDoor
namespace Go.Proofs.YtocbhlohcikapaaGreatDoor
open Go.RowKit Go.Shelf

theorem KpC.grown {X Y : World} {B e n : Nat} {v : Value} {xs : List Value} (hg : X.grownBy Y v.ownBlock) (ho : X.ownsRow B e 1 v n xs) (h1 : 24 ≠ e) (h2 : 90 ≠ e) (h3 : 4 ≠ e) : KpC X Y := fun i cur t fz ht hc =>
  (hg.block i (Array.getElem?_eq_some_iff.1 hc).1 (own_not ho hc (by rcases ht with rfl | rfl | rfl <;> assumption))).trans hc
theorem SlJ.grown {X Y : World} {B e n : Nat} {v : Value} {xs : List Value} {p : Option Addr} {l : List Int} (h : SlJ X p l) (hg : X.grownBy Y v.ownBlock) (ho : X.ownsRow B e 1 v n xs) (hne : 3 ≠ e) : SlJ Y p l :=
  slj_ty (fun i _ _ hc => (hg.block i (Array.getElem?_eq_some_iff.1 hc).1 (own_not ho hc hne)).trans hc) h
/-- The components, as they are found: slices in a row of the call's own. -/
structure OutC (G : Gr) (B s : Nat) (xs : List LEc) (v : Value) (W : World) : Prop where
  own : W.ownsRow B 30 1 v xs.length (xs.map lcV)
  eq : xs.map (·.1) = cmpsK G s
  sl : ∀ x ∈ xs, SlJ W x.2.1 x.1
theorem OutC.below {G : Gr} {B s : Nat} {xs : List LEc} {v : Value} {W W' : World} (h : OutC G B s xs v W) (hB : RowKit.Below W.heap.size W W') : OutC G B s xs v W' :=
  ⟨h.own.below hB, h.eq, fun x hx => (KCs.below hB).slj (h.sl x hx)⟩
theorem OutC.len {G : Gr} {B s : Nat} {xs : List LEc} {v : Value} {W : World} (h : OutC G B s xs v W) : xs.length ≤ s := by
  have h1 := congrArg List.length h.eq
  rw [List.length_map] at h1
  have := cmpsK_len G s; omega
theorem OutC.ll {G : Gr} {B s : Nat} {xs : List LEc} {v : Value} {W : World} (h : OutC G B s xs v W) : ∃ q d, v = .slice q (cmpsK G s).length d ∧ LLj W q (cmpsK G s) := by
  obtain ⟨q, d, e, hs⟩ := own_sl h.own
  exact ⟨q, d, by rw [e, ← h.eq, List.length_map], xs, h.eq, hs, h.sl⟩

set_option maxRecDepth 100000 in
set_option maxHeartbeats 4000000 in
theorem r10Of_any (G : Gr) (p : Option Addr) (c : Nat) (w : World) (hin : Sg 3 w edE p G.es) (hl : G.es.length ≤ 9223372036854775807) :
    Calls Tryz.prog 127 #[(.agg #[.int .i64 G.q, .int .i64 G.n, .slice p G.es.length c])] w (RetLL (ofA G).1 (ofA G).2 w) := by
  obtain ⟨i0, hi0, hz0, hz1, hz3⟩ := info_parts infoIg
  have infoFr : (Tryz.prog.info? 90).map (fun i => (i.zero, i.size, i.bytes)) = some (some (.slice none 0 0), 1, 24) := by kernel_rfl
  obtain ⟨i1, hi1, hy0, hy1, hy3⟩ := info_parts infoFr
  clear infoFr
  obtain ⟨i2, hi2, hx0, hx1, hx3⟩ := info_parts infoSg
  obtain ⟨w0, hw0⟩ : ∃ w0, w0 = w.alloc (.cells #[.int .i64 G.q, .int .i64 G.n, .slice p G.es.length c] 24) := ⟨_, rfl⟩
  have b0 : VRow w0 w.heap.size 24 [.int .i64 G.q, .int .i64 G.n, .slice p G.es.length c] := by subst hw0; exact VRow.new w _ _
  have hB0 : RowKit.Below w.heap.size w w0 := by subst hw0; exact (RowKit.Below.refl _ _).alloc (Nat.le_refl _) _
  have HB0 := hidI hB0
  have HIN := hidI (hin.below hB0)
  have HCK := hidI (rCheck_any G p c w0 HIN.out hl)
  have f0 := b0.at 0 rfl; have f1 := b0.at 1 rfl; have f2 := b0.at 2 rfl
  by_cases hc : chkG G = 0
  case neg =>
    have HK : Hid (ofA G = ([], 1)) := by unfold Hid ofA; rw [if_neg hc]
    rw [HK.out]
    have hcb : (chkG G != 0) = true := by simpa using hc
    generalize chkG G = r at *
    clear hc hin HK
    go_enter Tryz.func127, Tryz.ntmps127
    go_upto_region 1 with fail
    rw [← hw0]
    clear hw0
    go_wp2_with fail
    refine HCK.out.mono ?_
    rintro e w1 ⟨rfl, hB1⟩
    clear f0 f1 f2
    go_wp2
    refine bodyPost_ret (v := .tuple #[.slice (some ⟨w1.heap.size, 0, none⟩) 0 0, .int .i64 1]) (by simp [results, Tryz.results127, go_sem]) rfl ?_
    exact ⟨some ⟨w1.heap.size, 0, none⟩, 0, rfl, ⟨[], rfl, .inl rfl, fun x hx => by cases hx⟩, (HB0.out.trans (hB1.mono HB0.out.size)).alloc (by have := hB1.size; have := HB0.out.size; omega) _⟩
  case pos =>
    have hv := chkG_ok.1 hc
    have HK : Hid (ofA G = (compsA G, 0)) := by unfold Hid ofA; rw [if_pos hc]
    rw [HK.out]
    rw [hc] at HCK
    obtain ⟨N, hN⟩ : ∃ N : Nat, G.n = N := ⟨G.n.toNat, by have := hv.n1; omega⟩
    have hN64 : N ≤ 64 := by have := hv.n2; omega
    have hNT : G.n.toNat = N := by omega
    have HN := hidI hN; have HV := hidI hv
    have HCN : Hid (cmpsK G N = compsA G) := by unfold Hid cmpsK compsA; rw [hNT]
    have HNT := hidI hNT
    clear hc hv hin HK hNT hN
    go_enter Tryz.func127, Tryz.ntmps127
    go_upto_region 1 with fail
    rw [← hw0]
    clear hw0
    go_wp2_with fail
    refine HCK.out.mono ?_
    rintro e w1 ⟨rfl, hB1⟩
    clear f0 f1 f2 HCK
    go_wp2_with fail
    obtain ⟨w2, hw2⟩ : ∃ w2, w2 = w1.alloc (.cells #[] 90) := ⟨_, rfl⟩
    obtain ⟨z, hz⟩ : ∃ z, z = w0.heap.size := ⟨_, rfl⟩
    have hzw : z ≤ w1.heap.size := by rw [hz]; exact hB1.size
    have hF0 : FrM G N w2 z 0 (.slice (some ⟨w1.heap.size, 0, none⟩) 0 0) [] := ⟨by subst hw2; exact own_new w1 z [] 90 hzw (by simp [maxLen]), rfl, fun i h => by simp at h⟩
    have hB2 : RowKit.Below z w0 w2 := by subst hw2; rw [hz]; exact hB1.alloc hB1.size _
    have hbz : w.heap.size < z := by rw [hz]; exact b0.lt
    have HRC := hidI (fun (s : Nat) V (hs : s < N) (hB : RowKit.Below z w0 V) => r10reached_any G p c s V (HIN.out.below (by rw [← hz]; exact hB)) HV.out (by have := HN.out; omega))
    rw [HNT.out] at HRC
    have HB0z : Hid (∀ V, RowKit.Below z w0 V → RowKit.Below w.heap.size w V) := fun V hV => HB0.out.trans (hV.mono (by omega))
    have hzw0 : z ≤ w0.heap.size := by omega
    rw [← hw2]
    clear hw2 hz hB1 hzw
    go_loopw [4, 5] (fun fv iv wr => ∃ (k : Nat) (bs : List Nat), k ≤ N ∧ iv = .int .i64 k ∧ FrM G N wr z k fv bs ∧ RowKit.Below z w0 wr) (fun _ iv _ => N - (intOf iv).toNat)
    case atStart => exact ⟨0, [], by omega, rfl, hF0, hB2⟩
    case round =>
      clear hF0 hB2
      obtain ⟨k, bs, hk, rfl, hF, hB⟩ := hrel
      have hg := b0.below hB hbz
      have f0 := hg.at 0 rfl; have f1 := hg.at 1 rfl; have f2 := hg.at 2 rfl
      rw [HN.out] at f1
      have hzr : z ≤ wr.heap.size := by have := hB.size; omega
      by_cases hlt : k < N
      · have hltI : (k : Int) < (N : Int) := by omega
        have HR := hidI (HRC.out k wr hlt hB)
        rw [HN.out, rch_same HV.out (by have := HN.out; omega)] at HR
        clear hg
        go_wp2_with fail
        refine HR.out.mono ?_
        rintro e w2 ⟨b, rfl, hbw, hr, hB2⟩
        have x2 := hB.trans (hB2.mono hzr)
        have hF2 := hF.below hB2
        have hnew := cell_one_at w2 (.slice (some ⟨b, 0, none⟩) N N) 90 w2.heap.size rfl
        have hz2 : z ≤ w2.heap.size := by have := x2.size; omega
        clear f0 f1 f2 hF HR
        go_wp2_with (at_builtin; refine wpList_append_own _ rfl _ _ 94 rfl z 90 i1 (.slice none 0 0) 1 24 Tryz.underlying94 hi1 hy0 hy1 hy3 rfl (by decide) _ _ _ rfl (hF2.own.alloc _) ⟨w2.heap.size, 0, none⟩ 1 1 [.slice (some ⟨b, 0, none⟩) N N] rfl rfl hnew (by simp [Value.oneCell']) (by simp [maxLen]; omega) (by omega) (by simp; omega) ?_; intro v' w9 hown' hgrow _)
        have hF9 : FrM G N w9 z (k + 1) v' (bs ++ [b]) := by
          have hty : ∀ {B : Nat} {l : List Value}, VRow w2 B 4 l → VRow w9 B 4 l := fun h =>
            VRow.grown (h.alloc (.cells #[.slice (some ⟨b, 0, none⟩) N N] 90)) hgrow (own_not (hF2.own.alloc (.cells #[.slice (some ⟨b, 0, none⟩) N N] 90)) (h.alloc (.cells #[.slice (some ⟨b, 0, none⟩) N N] 90)) (by decide))
          refine ⟨by rw [List.map_append]; exact hown', by simp [hF2.len], fun i hi => ?_⟩
          by_cases hik : i < bs.length
          · rw [List.getElem_append_left hik]; exact hty (hF2.rows i hik)
          · have : i = k := by have := hF2.len; simp at hi; omega
            subst this
            have hl := hF2.len
            subst hl
            simpa using hty hr
        have hB9 : RowKit.Below z w0 w9 := (x2.alloc hz2 _).grown hgrow (by simp; omega) (fun j e => (hF2.own.lt j e).1)
        go_wp2
        go_roundw
        case rel => exact ⟨k + 1, _, by omega, by go_num, hF9, hB9⟩
        case measure => simp [intOf]; omega
      · obtain rfl : k = N := by omega
        have hltI : ¬ (k : Int) < (k : Int) := by omega
        rename World => wq
        have hO0 : OutC G z 0 [] (.slice (some ⟨wq.heap.size, 0, none⟩) 0 0) (wq.alloc (.cells #[] 30)) := ⟨own_new wq z [] 30 hzr (by simp [maxLen]), rfl, fun x hx => by cases hx⟩
        have hBa := hB.alloc hzr (.cells #[] 30)
        have hFa : FrM G k (wq.alloc (.cells #[] 30)) z k u4 bs := hF.below ((RowKit.Below.refl _ _).alloc (Nat.le_refl _) _)
        have hblt := hF.len
        clear hF hB hg hzr
        go_wp2_with fail
        clear f0 f1 f2
        go_loopw [6, 7] (fun ov iv wr => ∃ (s : Nat) (xs : List LEc), s ≤ k ∧ iv = .int .i64 s ∧ OutC G z s xs ov wr ∧ FrM G k wr z k u4 bs ∧ RowKit.Below z w0 wr) (fun _ iv _ => k - (intOf iv).toNat)
        case atStart => exact ⟨0, [], by omega, rfl, hO0, hFa, hBa⟩
        case round =>
          clear hO0 hFa hBa
          obtain ⟨s, xs, hs, rfl, hO, hF, hB⟩ := hrel
          have hg := b0.below hB hbz
          have f1 := hg.at 1 rfl
          rw [HN.out] at f1
          have hzr : z ≤ wr.heap.size := by have := hB.size; omega
          by_cases hlts : s < k
          · have hltI2 : (s : Int) < (k : Int) := by omega
            rename World => wo
            have HF := hidI hF; have HO := hidI hO
            obtain ⟨g, cap, rfl⟩ : ∃ g cap, u4 = .slice (some ⟨g, 0, none⟩) k cap := (own_forms hF.own).resolve_left (fun h => by omega)
            have hl0 := own_new wo wo.heap.size [] 3 (Nat.le_refl _) (by simp [maxLen])
            have hBl : RowKit.Below wo.heap.size wo (wo.alloc (.cells #[] 3)) := (RowKit.Below.refl _ _).alloc (Nat.le_refl _) _
            obtain ⟨wl, hwl⟩ : ∃ wl, wl = wo.alloc (.cells #[] 3) := ⟨_, rfl⟩
            rw [show (#[] : Array Value) = ([] : List Value).toArray from rfl] at hwl
            rw [← hwl] at hl0
            have hBl : RowKit.Below wo.heap.size wo wl := by rw [hwl]; exact (RowKit.Below.refl _ _).alloc (Nat.le_refl _) _
            clear hF hO hg
            go_upto_region 13 with fail
            rw [← hwl]
            clear hwl
            have hgl := hB.trans (hBl.mono hzr)
            have hg := b0.below hgl hbz
            go_wp2_with fail
            clear f1 hg
            go_loopw [8, 9, 10] (fun lv fv iv wx => ∃ t : Nat, t ≤ k ∧ iv = .int .i64 t ∧ fv = .bool ((cmpK G s t).all (fun x => decide ((s : Int) ≤ x))) ∧ wx.ownsRow wo.heap.size 3 1 lv (cmpK G s t).length ((cmpK G s t).map (Value.int .i64)) ∧ RowKit.Below wo.heap.size wo wx) (fun _ _ iv _ => k - (intOf iv).toNat)
            case atStart => exact ⟨0, by omega, rfl, rfl, hl0, hBl⟩
            case round =>
              clear hl0 hBl hgl
              obtain ⟨t, ht, rfl, rfl, hl, hBx⟩ := hrel
              have hgx := b0.below (hB.trans (hBx.mono hzr)) hbz
              have f1 := hgx.at 1 rfl
              rw [HN.out] at f1
              have hFx := HF.out.below hBx
              by_cases hltt : t < k
              · have hltI3 : (t : Int) < (k : Int) := by omega
                have hsl : s < bs.length := by omega
                have htl : t < bs.length := by omega
                have hnt := HNT.out
                have hrl1 := rchA_len G HV.out (s := s) (by have := HN.out; omega)
                have hrl2 := rchA_len G HV.out (s := t) (by have := HN.out; omega)
                have c1 : wr.cell? ⟨g, s, none⟩ = some (.slice (some ⟨bs[s], 0, none⟩) k k) := (hFx.own.cellAt s (by omega)).trans (by simp [hsl])
                have c2 : wr.cell? ⟨g, t, none⟩ = some (.slice (some ⟨bs[t], 0, none⟩) k k) := (hFx.own.cellAt t (by omega)).trans (by simp [htl])
                have c3 : wr.cell? ⟨bs[s], t, none⟩ = some (.bool (fwB G s t)) := (hFx.rows s hsl).at t (by rw [List.getElem?_map, List.getElem?_eq_getElem (by omega), Option.map_some, fr_get])
                have c4 : wr.cell? ⟨bs[t], s, none⟩ = some (.bool (fwB G t s)) := (hFx.rows t htl).at s (by rw [List.getElem?_map, List.getElem?_eq_getElem (by omega), Option.map_some, fr_get])
                have HCK := hidI (cmpK_succ G s t)
                have hcl := cmpK_len G s t
                have hzx := hBx.size
                generalize bs[s] = b1 at *
                generalize bs[t] = b2 at *
                generalize fwB G s t = x at *
                generalize fwB G t s = y at *
                clear hFx hrl1 hrl2 hsl htl hnt
                by_cases hxy : (x && y) = true
                · obtain ⟨rfl, rfl⟩ : x = true ∧ y = true := by cases x <;> cases y <;> simp_all
                  have HC2 : Hid (cmpK G s (t + 1) = cmpK G s t ++ [(t : Int)]) := HCK.out
                  have hlen1 : (cmpK G s (t + 1)).length = (cmpK G s t).length + 1 := by rw [HC2.out]; simp
                  have HALL : Hid ((cmpK G s (t + 1)).all (fun x => decide ((s : Int) ≤ x)) = ((cmpK G s t).all (fun x => decide ((s : Int) ≤ x)) && decide ((s : Int) ≤ t))) := by rw [Hid, HC2.out, List.all_append]; simp
                  clear HCK
                  have hnew := cell_one_at wr (.int .i64 (t : Int)) 3 wr.heap.size rfl
                  clear hxy
                  obtain ⟨fb, hfb⟩ : ∃ fb, (cmpK G s t).all (fun x => decide ((s : Int) ≤ x)) = fb := ⟨_, rfl⟩
                  rw [hfb] at HALL ⊢
                  clear hfb
                  cases fb
                  · go_wp2_with (at_builtin; refine wpList_append_own _ rfl _ _ 30 rfl wo.heap.size 3 i0 (.int .i64 0) 1 8 Tryz.underlying30 hi0 hz0 hz1 hz3 rfl (by decide) _ _ _ rfl (hl.alloc _) ⟨wr.heap.size, 0, none⟩ 1 1 [.int .i64 (t : Int)] rfl rfl hnew (by simp [Value.oneCell']) (by simp [maxLen]; omega) (by omega) (by simp; omega) ?_; intro v' w9 hown' hgrow _)
                    have hB9 : RowKit.Below wo.heap.size wo w9 := (hBx.alloc hzx _).grown hgrow (by simp; omega) (fun j e => (hl.lt j e).1)
                    go_roundw
                    case rel => exact ⟨t + 1, by omega, by go_num, by rw [HALL.out]; rfl, by rw [hlen1, HC2.out, List.map_append]; exact hown', hB9⟩
                    case measure => simp [intOf]; omega
                  · go_wp2_with (at_builtin; refine wpList_append_own _ rfl _ _ 30 rfl wo.heap.size 3 i0 (.int .i64 0) 1 8 Tryz.underlying30 hi0 hz0 hz1 hz3 rfl (by decide) _ _ _ rfl (hl.alloc _) ⟨wr.heap.size, 0, none⟩ 1 1 [.int .i64 (t : Int)] rfl rfl hnew (by simp [Value.oneCell']) (by simp [maxLen]; omega) (by omega) (by simp; omega) ?_; intro v' w9 hown' hgrow _)
                    have hB9 : RowKit.Below wo.heap.size wo w9 := (hBx.alloc hzx _).grown hgrow (by simp; omega) (fun j e => (hl.lt j e).1)
                    go_roundw
                    case rel => exact ⟨t + 1, by omega, by go_num, by rw [HALL.out]; simp, by rw [hlen1, HC2.out, List.map_append]; exact hown', hB9⟩
                    case measure => simp [intOf]; omega
                · have HC2 : Hid (cmpK G s (t + 1) = cmpK G s t) := by unfold Hid; rw [HCK.out, if_neg hxy, List.append_nil]
                  clear HCK
                  have hlen1 : (cmpK G s (t + 1)).length = (cmpK G s t).length := by rw [HC2.out]
                  cases x
                  · go_wp2
                    go_roundw
                    case rel => exact ⟨t + 1, by omega, by go_num, by rw [HC2.out], by rw [HC2.out]; exact hl, hBx⟩
                    case measure => simp [intOf]; omega
                  · obtain rfl : y = false := by cases y <;> simp_all
                    go_wp2
                    go_roundw
                    case rel => exact ⟨t + 1, by omega, by go_num, by rw [HC2.out], by rw [HC2.out]; exact hl, hBx⟩
                    case measure => simp [intOf]; omega
              · obtain rfl : t = k := by omega
                have hltI3 : ¬ (t : Int) < (t : Int) := by omega
                have hnt := HNT.out
                have hcm : cmpK G s t = cmpA G s := by unfold cmpK cmpA; rw [hnt]
                rw [hcm] at hl ⊢
                have hsn : (s : Int) < G.n := by have := HN.out; omega
                have hself := cmp_self HV.out hsn
                have hpos := List.length_pos_of_mem hself
                have hll := cmpA_len G s
                obtain ⟨g2, cap2, rfl⟩ : ∃ g cap, u8 = .slice (some ⟨g, 0, none⟩) (cmpA G s).length cap := (own_forms hl).resolve_left (fun h => by omega)
                rw [← led_all HV.out hsn]
                have HCS := hidI (cmpsK_succ G s)
                have hsl : SlJ wr (some ⟨g2, 0, none⟩) (cmpA G s) := by
                  obtain ⟨q, d, hq, hs'⟩ := own_sl hl
                  cases hq
                  exact ⟨hs', fun b o z hb => Lib.ownsRow_kind hl b (by cases hb; rfl)⟩
                have hOx := HO.out.below hBx
                have hBz := hB.trans (hBx.mono hzr)
                have hzx : z ≤ wr.heap.size := by have := hBx.size; omega
                clear hcm hself hl hpos hsn hnt
                cases hld : ledA G s
                · have hO2 : OutC G z (s + 1) xs u6 wr := ⟨hOx.own, by rw [hOx.eq, HCS.out, hld]; simp, hOx.sl⟩
                  clear hld hOx HO HF
                  go_wp2
                  go_roundw
                  case rel => exact ⟨s + 1, xs, by omega, by go_num, hO2, hFx, hBz⟩
                  case measure => simp [intOf]; omega
                · have hnew := cell_one_at wr (.slice (some ⟨g2, 0, none⟩) (cmpA G s).length cap2) 30 wr.heap.size rfl
                  have hxl := hOx.len
                  have HLD : Hid (ledA G s = true) := hld
                  clear hld HO HF
                  go_wp2_with (at_builtin; refine wpList_append_own _ rfl _ _ 47 rfl z 30 i2 (.slice none 0 0) 1 24 Tryz.underlying47 hi2 hx0 hx1 hx3 rfl (by decide) _ _ _ rfl (hOx.own.alloc _) ⟨wr.heap.size, 0, none⟩ 1 1 [.slice (some ⟨g2, 0, none⟩) (cmpA G s).length cap2] rfl rfl hnew (by simp [Value.oneCell']) (by simp [maxLen]; omega) (by omega) (by simp; omega) ?_; intro v' w9 hown' hgrow _)
                  have hOa := hOx.own.alloc (.cells #[.slice (some ⟨g2, 0, none⟩) (cmpA G s).length cap2] 30)
                  have hAl : RowKit.Below wr.heap.size wr (wr.alloc (.cells #[.slice (some ⟨g2, 0, none⟩) (cmpA G s).length cap2] 30)) := (RowKit.Below.refl _ _).alloc (Nat.le_refl _) _
                  have hO9 : OutC G z (s + 1) (xs ++ [(cmpA G s, (some ⟨g2, 0, none⟩, cap2))]) v' w9 := by
                    refine ⟨by rw [List.length_append, List.map_append]; exact hown', by rw [List.map_append, hOx.eq, HCS.out, HLD.out]; rfl, fun x hx => ?_⟩
                    have hkeep : ∀ {q : Option Addr} {l : List Int}, SlJ wr q l → SlJ w9 q l := fun h => ((KCs.below hAl).slj h).grown hgrow hOa (by decide)
                    rcases List.mem_append.1 hx with h | h
                    · exact hkeep (hOx.sl x h)
                    · obtain rfl := List.mem_singleton.1 h
                      exact hkeep hsl
                  have hF9 : FrM G t w9 z t (.slice (some ⟨g, 0, none⟩) t cap) bs := (hFx.below hAl).kp (KpC.grown hgrow hOa (by decide) (by decide) (by decide))
                  have hB9 : RowKit.Below z w0 w9 := (hBz.alloc hzx _).grown hgrow (by simp; omega) (fun j e => (hOx.own.lt j e).1)
                  go_roundw
                  case rel => exact ⟨s + 1, _, by omega, by go_num, hO9, hF9, hB9⟩
                  case measure => simp [intOf]; omega
          · obtain rfl : s = k := by omega
            have hltI2 : ¬ (s : Int) < (s : Int) := by omega
            obtain ⟨q, d, rfl, hll⟩ := hO.ll
            have hBr := HB0z.out _ hB
            rw [HCN.out] at hll
            have HLL := hidI hll
            rw [HCN.out]
            clear hO hF hB hll
            go_wp2
            refine bodyPost_ret (v := .tuple #[.slice q (compsA G).length d, .int .i64 0]) (by simp [results, Tryz.results127, go_sem]) rfl ?_
            exact ⟨q, d, rfl, HLL.out, hBr⟩
end Go.Proofs.YtocbhlohcikapaaGreatDoor
namespace Go.Proofs.YtocbhlohcikapaaGreatDoor
open Go.RowKit Go.Sort Go.Shelf Go.Lib

set_option maxHeartbeats 400000 in
theorem r10has_q (l : List Int) (p : Option Addr) (c : Nat) (n : Int) (r : Bool) (w : World) (hp : Sl w (Value.int .i64) p l) (hl : l.length ≤ 9223372036854775807) (hr : decide (n ∈ l) = r) :
    Calls Tryz.prog 134 #[.slice p l.length c, .int .i64 n] w fun e w' => e = .returned (.bool r) ∧ w' = w := by
  subst hr
  go_enter Tryz.func134, Tryz.ntmps134
  go_wp2
  go_loop [5] (fun i => ∃ k : Nat, k ≤ l.length ∧ i = .int .i64 k ∧ Hid (∀ j (hj : j < l.length), j < k → l[j] ≠ n)) (fun i => l.length - (intOf i).toNat)
  case atStart => exact ⟨0, by omega, rfl, fun _ _ h => by omega⟩
  case round =>
    obtain ⟨k, hk, rfl, hj⟩ := hrel
    by_cases hlt : k < l.length
    · obtain ⟨b1, o1, rfl, hb1, hc1⟩ := hp.get k hlt
      have e1 := hc1 k hlt
      clear hc1
      by_cases he : l[k] = n
      · have HI : Hid (decide (n ∈ l) = true) := decide_eq_true (he ▸ List.getElem_mem hlt)
        have hb : (l[k] == n) = true := by simpa using he
        clear he
        go_wp2
        go_ret
        exact ⟨ret_bool HI.out.symm, rfl⟩
      · have hb : (l[k] == n) = false := by simpa using he
        have HE := hidI he
        clear he
        go_wp2
        go_round
        case rel => exact ⟨k + 1, by omega, by go_num, fun j h1 h2 => by
          rcases Nat.lt_succ_iff_lt_or_eq.1 h2 with h3 | h3
          · exact hj.out j h1 h3
          · subst h3; exact HE.out⟩
        case measure => simp [intOf]; omega
    · have HM : Hid (decide (n ∈ l) = false) := decide_eq_false (fun hm => by
        obtain ⟨i, hi, e⟩ := List.mem_iff_getElem.1 hm
        exact hj.out i hi (by omega) e)
      go_wp2
      go_ret
      exact ⟨ret_bool HM.out.symm, rfl⟩

/-- Lists that were chosen: slices in a row of the call's own. -/
structure OutD (L : List (List Int)) (B : Nat) (xs : List LEc) (v : Value) (W : World) : Prop where
  own : W.ownsRow B 30 1 v xs.length (xs.map lcV)
  eq : xs.map (·.1) = L
  sl : ∀ x ∈ xs, SlJ W x.2.1 x.1
theorem OutD.below {L : List (List Int)} {B : Nat} {xs : List LEc} {v : Value} {W W' : World} (h : OutD L B xs v W) (hB : RowKit.Below W.heap.size W W') : OutD L B xs v W' :=
  ⟨h.own.below hB, h.eq, fun x hx => (KCs.below hB).slj (h.sl x hx)⟩
theorem OutD.len {L : List (List Int)} {B : Nat} {xs : List LEc} {v : Value} {W : World} (h : OutD L B xs v W) : xs.length = L.length := by
  rw [← h.eq, List.length_map]
theorem OutD.ll {L : List (List Int)} {B : Nat} {xs : List LEc} {v : Value} {W : World} (h : OutD L B xs v W) : ∃ q d, v = .slice q L.length d ∧ LLj W q L := by
  obtain ⟨q, d, e, hs⟩ := own_sl h.own
  exact ⟨q, d, by rw [e, h.len], xs, h.eq, hs, h.sl⟩
theorem ofA_len (G : Gr) : (ofA G).1.length ≤ 64 ∧ ∀ x ∈ (ofA G).1, x.length ≤ 64 := by
  unfold ofA
  by_cases h : chkG G = 0
  · rw [if_pos h]
    have hv := chkG_ok.1 h
    have hn : G.n.toNat ≤ 64 := by have := hv.n2; omega
    refine ⟨Nat.le_trans (cmpsK_len G G.n.toNat) hn, fun x hx => ?_⟩
    obtain ⟨s, _, rfl⟩ := List.mem_map.1 hx
    exact Nat.le_trans (cmpA_len G s) hn
  · rw [if_neg h]; exact ⟨by simp, fun x hx => by cases hx⟩
theorem filt_snoc (hp : List Int → Bool) (L : List (List Int)) (k : Nat) (h : k < L.length) : (L.take (k + 1)).filter hp = (L.take k).filter hp ++ (if hp L[k] = true then [L[k]] else []) := by
  rw [List.take_succ_eq_append_getElem h, List.filter_append]
  congr 1
  by_cases e : hp L[k] = true
  · rw [if_pos e, List.filter_cons_of_pos e]; rfl
  · rw [if_neg e, List.filter_cons_of_neg e]; rfl
theorem any_snocX (pr : Ed → Bool) (es : List Ed) (j : Nat) (h : j < es.length) : (es.take (j + 1)).any pr = ((es.take j).any pr || pr es[j]) := by
  rw [List.take_succ_eq_append_getElem h, List.any_append]; simp

set_option maxRecDepth 100000 in
set_option maxHeartbeats 4000000 in
theorem r10Cyclic_any (G : Gr) (p : Option Addr) (c : Nat) (w : World) (hin : Sg 3 w edE p G.es) (hl : G.es.length ≤ 9223372036854775807) :
    Calls Tryz.prog 128 #[(.agg #[.int .i64 G.q, .int .i64 G.n, .slice p G.es.length c])] w (RetLL ((ofA G).1.filter (cycB G)) (ofA G).2 w) := by
  obtain ⟨i2, hi2, hx0, hx1, hx3⟩ := info_parts infoSg
  obtain ⟨w0, hw0⟩ : ∃ w0, w0 = w.alloc (.cells #[.int .i64 G.q, .int .i64 G.n, .slice p G.es.length c] 24) := ⟨_, rfl⟩
  have b0 : VRow w0 w.heap.size 24 [.int .i64 G.q, .int .i64 G.n, .slice p G.es.length c] := by subst hw0; exact VRow.new w _ _
  have hB0 : RowKit.Below w.heap.size w w0 := by subst hw0; exact (RowKit.Below.refl _ _).alloc (Nat.le_refl _) _
  have HB0 := hidI hB0
  have HIN := hidI (hin.below hB0)
  have HO := hidI (r10Of_any G p c w0 HIN.out hl)
  have f0 := b0.at 0 rfl; have f1 := b0.at 1 rfl; have f2 := b0.at 2 rfl
  obtain ⟨hL1, hL2⟩ := ofA_len G
  have HL2 := hidI hL2
  generalize (ofA G).1 = L at *
  generalize (ofA G).2 = ek at *
  clear hin hL2 hB0
  go_enter Tryz.func128, Tryz.ntmps128
  go_upto_region 1 with fail
  rw [← hw0]
  clear hw0
  go_wp2_with fail
  refine HO.out.mono ?_
  rintro e w1 ⟨q, d, rfl, hll, hB1⟩
  clear f0 f1 f2
  have b1 := b0.below hB1 b0.lt
  have HE : Hid (∀ V, RowKit.Below w1.heap.size w1 V → Sg 3 V edE p G.es) := fun V hV => (HIN.out.below hB1).below hV
  have HZ : Hid (∀ V, RowKit.Below w1.heap.size w1 V → RowKit.Below w.heap.size w V) := fun V hV => (HB0.out.trans (hB1.mono HB0.out.size)).trans (hV.mono (by have := hB1.size; have := HB0.out.size; omega))
  have HLL := hidI hll
  have hO0 : OutD ((L.take 0).filter (cycB G)) w1.heap.size [] (.slice (some ⟨w1.heap.size, 0, none⟩) 0 0) (w1.alloc (.cells #[] 30)) := ⟨own_new w1 w1.heap.size [] 30 (Nat.le_refl _) (by simp [maxLen]), by simp, fun x hx => by cases hx⟩
  have hBa : RowKit.Below w1.heap.size w1 (w1.alloc (.cells #[] 30)) := (RowKit.Below.refl _ _).alloc (Nat.le_refl _) _
  clear hll HO HIN
  go_wp2_with fail
  go_loopw [6, 7] (fun ov iv wr => ∃ (k : Nat) (xs : List LEc), k ≤ L.length ∧ iv = .int .i64 k ∧ OutD ((L.take k).filter (cycB G)) w1.heap.size xs ov wr ∧ RowKit.Below w1.heap.size w1 wr) (fun _ iv _ => L.length - (intOf iv).toNat)
  case atStart => exact ⟨0, [], by omega, rfl, hO0, hBa⟩
  case round =>
    clear hO0 hBa
    obtain ⟨k, xs, hk, rfl, hO, hB⟩ := hrel
    by_cases hlt : k < L.length
    · have hltI : (k : Int) < (L.length : Int) := by omega
      rename World => wo
      have HLK : Hid (L[k].length ≤ 64) := HL2.out _ (List.getElem_mem hlt)
      have HFS := hidI (filt_snoc (cycB G) L k hlt)
      obtain ⟨b4, o4, q4, d4, rfl, hb4, e4, hs4⟩ := HLL.out.get k hlt
      have HE4 := hidI e4; have HS4 := hidI hs4
      have HOO := hidI hO
      generalize L[k] = l at *
      clear hO e4 hs4
      go_wp2_with fail
      go_loopw [8, 9] (fun fv jv wx => ∃ j : Nat, j ≤ G.es.length ∧ jv = .int .i64 j ∧ fv = .bool ((G.es.take j).any (fun x => decide (x.f ∈ l) && decide (x.t ∈ l))) ∧ RowKit.Below wo.heap.size wo wx) (fun _ jv _ => G.es.length - (intOf jv).toNat)
      case atStart => exact ⟨0, by omega, rfl, rfl, RowKit.Below.refl _ _⟩
      case round =>
        obtain ⟨j, hj, rfl, rfl, hBx⟩ := hrel
        have hBz := hB.trans (hBx.mono hB.size)
        have hg := b1.below hBz b1.lt
        have f2 := hg.at 2 rfl
        have e4 := (hBz.cell (p := (⟨b4, o4 + k, none⟩ : Addr)) hb4).trans HE4.out
        have hsl4 := (HS4.out.1.below hBz)
        by_cases hjl : j < G.es.length
        · obtain ⟨b3, o3, rfl, hb3, q0, q1, q2⟩ := (HE.out _ hBz).get3 j hjl rfl
          have hjI : (j : Int) < (G.es.length : Int) := by omega
          have HA := hidI (any_snocX (fun x => decide (x.f ∈ l) && decide (x.t ∈ l)) G.es j hjl)
          have HLK' := HLK.out
          generalize (G.es.take j).any (fun x => decide (x.f ∈ l) && decide (x.t ∈ l)) = a1 at *
          generalize G.es[j] = x at *
          obtain ⟨r1, hr1⟩ : ∃ r, decide (x.f ∈ l) = r := ⟨_, rfl⟩
          obtain ⟨r2, hr2⟩ : ∃ r, decide (x.t ∈ l) = r := ⟨_, rfl⟩
          have q0 : wr.cell? ⟨b3, o3 + j * 3, none⟩ = some (.int .i64 x.f) := q0
          have q2 : wr.cell? ⟨b3, o3 + j * 3 + 2, none⟩ = some (.int .i64 x.t) := q2
          have HX : Hid ((G.es.take (j + 1)).any (fun x => decide (x.f ∈ l) && decide (x.t ∈ l)) = (a1 || (r1 && r2))) := by rw [Hid, HA.out, ← hr1, ← hr2]
          have HC1 := fun (n : Nat) => Calls.quiet_of_same (r10has_q l q4 d4 x.f r1 (wr.drewN n) hsl4 (by omega) hr1)
          have HC2 := fun (n : Nat) => Calls.quiet_of_same (r10has_q l q4 d4 x.t r2 (wr.drewN n) hsl4 (by omega) hr2)
          clear HA hr1 hr2 hg HLK'
          cases a1
          · cases r1
            · go_wp2_with fail
              (refine wp_region_quiet_lit (by kernel_rfl) (by kernel_rfl) ?_; (repeat (first | go_big_quiet_step ((first | (go_at_call 134; with_reducible exact HC1 _) | (go_at_call 134; with_reducible exact HC2 _))) | quiet_step ((first | (go_at_call 134; with_reducible exact HC1 _) | (go_at_call 134; with_reducible exact HC2 _))))); refine wpQuiet_nil ?_; intro _ hwq; obtain ⟨nq, hwq2⟩ := hwq; subst hwq2)
              go_wp2_with fail
              go_roundw
              case rel => exact ⟨j + 1, by omega, by go_num, by rw [HX.out]; rfl, below_dN hBx nq⟩
              case measure => simp [intOf]; omega
            · go_wp2_with fail
              (refine wp_region_quiet_lit (by kernel_rfl) (by kernel_rfl) ?_; (repeat (first | go_big_quiet_step ((first | (go_at_call 134; with_reducible exact HC1 _) | (go_at_call 134; with_reducible exact HC2 _))) | quiet_step ((first | (go_at_call 134; with_reducible exact HC1 _) | (go_at_call 134; with_reducible exact HC2 _))))); refine wpQuiet_nil ?_; intro _ hwq; obtain ⟨nq, hwq2⟩ := hwq; subst hwq2)
              go_wp2_with fail
              go_roundw
              case rel => exact ⟨j + 1, by omega, by go_num, by rw [HX.out]; simp, below_dN hBx nq⟩
              case measure => simp [intOf]; omega
          · go_wp2_with fail
            (refine wp_region_quiet_lit (by kernel_rfl) (by kernel_rfl) ?_; (repeat (first | go_big_quiet_step ((first | (go_at_call 134; with_reducible exact HC1 _) | (go_at_call 134; with_reducible exact HC2 _))) | quiet_step ((first | (go_at_call 134; with_reducible exact HC1 _) | (go_at_call 134; with_reducible exact HC2 _))))); refine wpQuiet_nil ?_; intro _ hwq; obtain ⟨nq, hwq2⟩ := hwq; subst hwq2)
            go_wp2_with fail
            go_roundw
            case rel => exact ⟨j + 1, by omega, by go_num, by rw [HX.out]; rfl, below_dN hBx nq⟩
            case measure => simp [intOf]; omega
        · obtain rfl : j = G.es.length := by omega
          have hjI : ¬ (G.es.length : Int) < (G.es.length : Int) := by omega
          rw [List.take_length]
          have HP : Hid (cycB G l = (G.es.any (fun x => decide (x.f ∈ l) && decide (x.t ∈ l)))) := rfl
          generalize G.es.any (fun x => decide (x.f ∈ l) && decide (x.t ∈ l)) = a1 at *
          have hOx := HOO.out.below hBx
          have hzx := hBz.size
          have hsj := (KCs.below hBz).slj HS4.out
          have hxl : xs.length ≤ 64 := by have h1 := hOx.len; have h2 := List.length_filter_le (cycB G) (L.take k); rw [List.length_take] at h2; omega
          cases a1
          · have hO2 : OutD ((L.take (k + 1)).filter (cycB G)) w1.heap.size xs u6 wr := ⟨hOx.own, by rw [hOx.eq, HFS.out, HP.out]; simp, hOx.sl⟩
            clear hOx HOO
            go_wp2_with fail
            go_roundw
            case rel => exact ⟨k + 1, xs, by omega, by go_num, hO2, hBz⟩
            case measure => simp [intOf]; omega
          · have hnew := cell_one_at wr (.slice q4 l.length d4) 30 wr.heap.size rfl
            clear HOO
            go_wp2_with (at_builtin; refine wpList_append_own _ rfl _ _ 47 rfl w1.heap.size 30 i2 (.slice none 0 0) 1 24 Tryz.underlying47 hi2 hx0 hx1 hx3 rfl (by decide) _ _ _ rfl (hOx.own.alloc _) ⟨wr.heap.size, 0, none⟩ 1 1 [.slice q4 l.length d4] rfl rfl hnew (by simp [Value.oneCell']) (by simp [maxLen]; omega) (by omega) (by simp; omega) ?_; intro v' w9 hown' hgrow _)
            have hOa := hOx.own.alloc (.cells #[.slice q4 l.length d4] 30)
            have hAl : RowKit.Below wr.heap.size wr (wr.alloc (.cells #[.slice q4 l.length d4] 30)) := (RowKit.Below.refl _ _).alloc (Nat.le_refl _) _
            have hO9 : OutD ((L.take (k + 1)).filter (cycB G)) w1.heap.size (xs ++ [(l, (q4, d4))]) v' w9 := by
              refine ⟨by rw [List.length_append, List.map_append]; exact hown', by rw [List.map_append, hOx.eq, HFS.out, HP.out]; simp, fun x hx => ?_⟩
              have hkeep : ∀ {q : Option Addr} {l : List Int}, SlJ wr q l → SlJ w9 q l := fun h => ((KCs.below hAl).slj h).grown hgrow hOa (by decide)
              rcases List.mem_append.1 hx with h | h
              · exact hkeep (hOx.sl x h)
              · obtain rfl := List.mem_singleton.1 h
                exact hkeep hsj
            have hB9 : RowKit.Below w1.heap.size w1 w9 := (hBz.alloc hzx _).grown hgrow (by simp; omega) (fun j e => (hOx.own.lt j e).1)
            go_roundw
            case rel => exact ⟨k + 1, _, by omega, by go_num, hO9, hB9⟩
            case measure => simp [intOf]; omega
    · obtain rfl : k = L.length := by omega
      have hltI : ¬ (L.length : Int) < (L.length : Int) := by omega
      rw [List.take_length] at hO
      obtain ⟨q', d', rfl, hll'⟩ := hO.ll
      have hBr := HZ.out _ hB
      have HLL2 := hidI hll'
      generalize List.filter (cycB G) L = R at *
      clear hO hB hll'
      go_wp2
      go_ret2
      exact ⟨q', d', rfl, HLL2.out, hBr⟩

set_option maxRecDepth 100000 in
set_option maxHeartbeats 4000000 in
theorem r10Sinks_any (G : Gr) (p : Option Addr) (c : Nat) (w : World) (hin : Sg 3 w edE p G.es) (hl : G.es.length ≤ 9223372036854775807) :
    Calls Tryz.prog 63 #[(.agg #[.int .i64 G.q, .int .i64 G.n, .slice p G.es.length c])] w (RetLL ((ofA G).1.filter (sinkB G)) (ofA G).2 w) := by
  obtain ⟨i2, hi2, hx0, hx1, hx3⟩ := info_parts infoSg
  obtain ⟨w0, hw0⟩ : ∃ w0, w0 = w.alloc (.cells #[.int .i64 G.q, .int .i64 G.n, .slice p G.es.length c] 24) := ⟨_, rfl⟩
  have b0 : VRow w0 w.heap.size 24 [.int .i64 G.q, .int .i64 G.n, .slice p G.es.length c] := by subst hw0; exact VRow.new w _ _
  have hB0 : RowKit.Below w.heap.size w w0 := by subst hw0; exact (RowKit.Below.refl _ _).alloc (Nat.le_refl _) _
  have HB0 := hidI hB0
  have HIN := hidI (hin.below hB0)
  have HO := hidI (r10Of_any G p c w0 HIN.out hl)
  have f0 := b0.at 0 rfl; have f1 := b0.at 1 rfl; have f2 := b0.at 2 rfl
  obtain ⟨hL1, hL2⟩ := ofA_len G
  have HL2 := hidI hL2
  generalize (ofA G).1 = L at *
  generalize (ofA G).2 = ek at *
  clear hin hL2 hB0
  go_enter Tryz.func63, Tryz.ntmps63
  go_upto_region 1 with fail
  rw [← hw0]
  clear hw0
  go_wp2_with fail
  refine HO.out.mono ?_
  rintro e w1 ⟨q, d, rfl, hll, hB1⟩
  clear f0 f1 f2
  have b1 := b0.below hB1 b0.lt
  have HE : Hid (∀ V, RowKit.Below w1.heap.size w1 V → Sg 3 V edE p G.es) := fun V hV => (HIN.out.below hB1).below hV
  have HZ : Hid (∀ V, RowKit.Below w1.heap.size w1 V → RowKit.Below w.heap.size w V) := fun V hV => (HB0.out.trans (hB1.mono HB0.out.size)).trans (hV.mono (by have := hB1.size; have := HB0.out.size; omega))
  have HLL := hidI hll
  have hO0 : OutD ((L.take 0).filter (sinkB G)) w1.heap.size [] (.slice (some ⟨w1.heap.size, 0, none⟩) 0 0) (w1.alloc (.cells #[] 30)) := ⟨own_new w1 w1.heap.size [] 30 (Nat.le_refl _) (by simp [maxLen]), by simp, fun x hx => by cases hx⟩
  have hBa : RowKit.Below w1.heap.size w1 (w1.alloc (.cells #[] 30)) := (RowKit.Below.refl _ _).alloc (Nat.le_refl _) _
  clear hll HO HIN
  go_wp2_with fail
  go_loopw [6, 7] (fun ov iv wr => ∃ (k : Nat) (xs : List LEc), k ≤ L.length ∧ iv = .int .i64 k ∧ OutD ((L.take k).filter (sinkB G)) w1.heap.size xs ov wr ∧ RowKit.Below w1.heap.size w1 wr) (fun _ iv _ => L.length - (intOf iv).toNat)
  case atStart => exact ⟨0, [], by omega, rfl, hO0, hBa⟩
  case round =>
    clear hO0 hBa
    obtain ⟨k, xs, hk, rfl, hO, hB⟩ := hrel
    by_cases hlt : k < L.length
    · have hltI : (k : Int) < (L.length : Int) := by omega
      rename World => wo
      have HLK : Hid (L[k].length ≤ 64) := HL2.out _ (List.getElem_mem hlt)
      have HFS := hidI (filt_snoc (sinkB G) L k hlt)
      obtain ⟨b4, o4, q4, d4, rfl, hb4, e4, hs4⟩ := HLL.out.get k hlt
      have HE4 := hidI e4; have HS4 := hidI hs4
      have HOO := hidI hO
      generalize L[k] = l at *
      clear hO e4 hs4
      go_wp2_with fail
      go_loopw [8, 9] (fun fv jv wx => ∃ j : Nat, j ≤ G.es.length ∧ jv = .int .i64 j ∧ fv = .bool ((G.es.take j).any (fun x => decide (x.f ∈ l) && !decide (x.t ∈ l))) ∧ RowKit.Below wo.heap.size wo wx) (fun _ jv _ => G.es.length - (intOf jv).toNat)
      case atStart => exact ⟨0, by omega, rfl, rfl, RowKit.Below.refl _ _⟩
      case round =>
        obtain ⟨j, hj, rfl, rfl, hBx⟩ := hrel
        have hBz := hB.trans (hBx.mono hB.size)
        have hg := b1.below hBz b1.lt
        have f2 := hg.at 2 rfl
        have e4 := (hBz.cell (p := (⟨b4, o4 + k, none⟩ : Addr)) hb4).trans HE4.out
        have hsl4 := (HS4.out.1.below hBz)
        by_cases hjl : j < G.es.length
        · obtain ⟨b3, o3, rfl, hb3, q0, q1, q2⟩ := (HE.out _ hBz).get3 j hjl rfl
          have hjI : (j : Int) < (G.es.length : Int) := by omega
          have HA := hidI (any_snocX (fun x => decide (x.f ∈ l) && !decide (x.t ∈ l)) G.es j hjl)
          have HLK' := HLK.out
          generalize (G.es.take j).any (fun x => decide (x.f ∈ l) && !decide (x.t ∈ l)) = a1 at *
          generalize G.es[j] = x at *
          obtain ⟨r1, hr1⟩ : ∃ r, decide (x.f ∈ l) = r := ⟨_, rfl⟩
          obtain ⟨r2, hr2⟩ : ∃ r, decide (x.t ∈ l) = r := ⟨_, rfl⟩
          have q0 : wr.cell? ⟨b3, o3 + j * 3, none⟩ = some (.int .i64 x.f) := q0
          have q2 : wr.cell? ⟨b3, o3 + j * 3 + 2, none⟩ = some (.int .i64 x.t) := q2
          have HX : Hid ((G.es.take (j + 1)).any (fun x => decide (x.f ∈ l) && !decide (x.t ∈ l)) = (a1 || (r1 && !r2))) := by rw [Hid, HA.out, ← hr1, ← hr2]
          have HC1 := fun (n : Nat) => Calls.quiet_of_same (r10has_q l q4 d4 x.f r1 (wr.drewN n) hsl4 (by omega) hr1)
          have HC2 := fun (n : Nat) => Calls.quiet_of_same (r10has_q l q4 d4 x.t r2 (wr.drewN n) hsl4 (by omega) hr2)
          clear HA hr1 hr2 hg HLK'
          cases a1
          · cases r1
            · go_wp2_with fail
              (refine wp_region_quiet_lit (by kernel_rfl) (by kernel_rfl) ?_; (repeat (first | go_big_quiet_step ((first | (go_at_call 134; with_reducible exact HC1 _) | (go_at_call 134; with_reducible exact HC2 _))) | quiet_step ((first | (go_at_call 134; with_reducible exact HC1 _) | (go_at_call 134; with_reducible exact HC2 _))))); refine wpQuiet_nil ?_; intro _ hwq; obtain ⟨nq, hwq2⟩ := hwq; subst hwq2)
              go_wp2_with fail
              go_roundw
              case rel => exact ⟨j + 1, by omega, by go_num, by rw [HX.out]; rfl, below_dN hBx nq⟩
              case measure => simp [intOf]; omega
            · go_wp2_with fail
              (refine wp_region_quiet_lit (by kernel_rfl) (by kernel_rfl) ?_; (repeat (first | go_big_quiet_step ((first | (go_at_call 134; with_reducible exact HC1 _) | (go_at_call 134; with_reducible exact HC2 _))) | quiet_step ((first | (go_at_call 134; with_reducible exact HC1 _) | (go_at_call 134; with_reducible exact HC2 _))))); refine wpQuiet_nil ?_; intro _ hwq; obtain ⟨nq, hwq2⟩ := hwq; subst hwq2)
              go_wp2_with fail
              go_roundw
              case rel => exact ⟨j + 1, by omega, by go_num, by rw [HX.out]; simp, below_dN hBx nq⟩
              case measure => simp [intOf]; omega
          · go_wp2_with fail
            (refine wp_region_quiet_lit (by kernel_rfl) (by kernel_rfl) ?_; (repeat (first | go_big_quiet_step ((first | (go_at_call 134; with_reducible exact HC1 _) | (go_at_call 134; with_reducible exact HC2 _))) | quiet_step ((first | (go_at_call 134; with_reducible exact HC1 _) | (go_at_call 134; with_reducible exact HC2 _))))); refine wpQuiet_nil ?_; intro _ hwq; obtain ⟨nq, hwq2⟩ := hwq; subst hwq2)
            go_wp2_with fail
            go_roundw
            case rel => exact ⟨j + 1, by omega, by go_num, by rw [HX.out]; rfl, below_dN hBx nq⟩
            case measure => simp [intOf]; omega
        · obtain rfl : j = G.es.length := by omega
          have hjI : ¬ (G.es.length : Int) < (G.es.length : Int) := by omega
          rw [List.take_length]
          have HP : Hid (sinkB G l = !(G.es.any (fun x => decide (x.f ∈ l) && !decide (x.t ∈ l)))) := rfl
          generalize G.es.any (fun x => decide (x.f ∈ l) && !decide (x.t ∈ l)) = a1 at *
          have hOx := HOO.out.below hBx
          have hzx := hBz.size
          have hsj := (KCs.below hBz).slj HS4.out
          have hxl : xs.length ≤ 64 := by have h1 := hOx.len; have h2 := List.length_filter_le (sinkB G) (L.take k); rw [List.length_take] at h2; omega
          cases a1
          · have hnew := cell_one_at wr (.slice q4 l.length d4) 30 wr.heap.size rfl
            clear HOO
            go_wp2_with (at_builtin; refine wpList_append_own _ rfl _ _ 47 rfl w1.heap.size 30 i2 (.slice none 0 0) 1 24 Tryz.underlying47 hi2 hx0 hx1 hx3 rfl (by decide) _ _ _ rfl (hOx.own.alloc _) ⟨wr.heap.size, 0, none⟩ 1 1 [.slice q4 l.length d4] rfl rfl hnew (by simp [Value.oneCell']) (by simp [maxLen]; omega) (by omega) (by simp; omega) ?_; intro v' w9 hown' hgrow _)
            have hOa := hOx.own.alloc (.cells #[.slice q4 l.length d4] 30)
            have hAl : RowKit.Below wr.heap.size wr (wr.alloc (.cells #[.slice q4 l.length d4] 30)) := (RowKit.Below.refl _ _).alloc (Nat.le_refl _) _
            have hO9 : OutD ((L.take (k + 1)).filter (sinkB G)) w1.heap.size (xs ++ [(l, (q4, d4))]) v' w9 := by
              refine ⟨by rw [List.length_append, List.map_append]; exact hown', by rw [List.map_append, hOx.eq, HFS.out, HP.out]; simp, fun x hx => ?_⟩
              have hkeep : ∀ {q : Option Addr} {l : List Int}, SlJ wr q l → SlJ w9 q l := fun h => ((KCs.below hAl).slj h).grown hgrow hOa (by decide)
              rcases List.mem_append.1 hx with h | h
              · exact hkeep (hOx.sl x h)
              · obtain rfl := List.mem_singleton.1 h
                exact hkeep hsj
            have hB9 : RowKit.Below w1.heap.size w1 w9 := (hBz.alloc hzx _).grown hgrow (by simp; omega) (fun j e => (hOx.own.lt j e).1)
            go_roundw
            case rel => exact ⟨k + 1, _, by omega, by go_num, hO9, hB9⟩
            case measure => simp [intOf]; omega
          · have hO2 : OutD ((L.take (k + 1)).filter (sinkB G)) w1.heap.size xs u6 wr := ⟨hOx.own, by rw [hOx.eq, HFS.out, HP.out]; simp, hOx.sl⟩
            clear hOx HOO
            go_wp2_with fail
            go_roundw
            case rel => exact ⟨k + 1, xs, by omega, by go_num, hO2, hBz⟩
            case measure => simp [intOf]; omega
    · obtain rfl : k = L.length := by omega
      have hltI : ¬ (L.length : Int) < (L.length : Int) := by omega
      rw [List.take_length] at hO
      obtain ⟨q', d', rfl, hll'⟩ := hO.ll
      have hBr := HZ.out _ hB
      have HLL2 := hidI hll'
      generalize List.filter (sinkB G) L = R at *
      clear hO hB hll'
      go_wp2
      go_ret2
      exact ⟨q', d', rfl, HLL2.out, hBr⟩
end Go.Proofs.YtocbhlohcikapaaGreatDoor
namespace Go.Proofs.YtocbhlohcikapaaGreatDoor
open Go.RowKit Go.Sort Go.Shelf Go.Lib

set_option maxRecDepth 100000 in
set_option maxHeartbeats 4000000 in
theorem r10Irr_any (G : Gr) (p : Option Addr) (c : Nat) (w : World) (hin : Sg 3 w edE p G.es) (hl : G.es.length ≤ 9223372036854775807) :
    Calls Tryz.prog 60 #[(.agg #[.int .i64 G.q, .int .i64 G.n, .slice p G.es.length c])] w fun e w' => e = .returned (.tuple #[.bool (decide (chkG G = 0) && irrA G), .int .i64 (ofA G).2]) ∧ RowKit.Below w.heap.size w w' := by
  obtain ⟨w0, hw0⟩ : ∃ w0, w0 = w.alloc (.cells #[.int .i64 G.q, .int .i64 G.n, .slice p G.es.length c] 24) := ⟨_, rfl⟩
  have b0 : VRow w0 w.heap.size 24 [.int .i64 G.q, .int .i64 G.n, .slice p G.es.length c] := by subst hw0; exact VRow.new w _ _
  have hB0 : RowKit.Below w.heap.size w w0 := by subst hw0; exact (RowKit.Below.refl _ _).alloc (Nat.le_refl _) _
  have HO := hidI (r10Of_any G p c w0 (hin.below hB0) hl)
  have HC := hidI (fun W (hW : RowKit.Below w0.heap.size w0 W) => r10Cyclic_any G p c W ((hin.below hB0).below hW) hl)
  have f0 := b0.at 0 rfl; have f1 := b0.at 1 rfl; have f2 := b0.at 2 rfl
  have HBX := hidI b0
  by_cases hc : chkG G = 0
  · have e1 : ofA G = (compsA G, 0) := if_pos hc
    rw [e1] at HO HC ⊢
    have HI : Hid ((decide (chkG G = 0) && irrA G) = (decide ((compsA G).length = 1) && decide (((compsA G).filter (cycB G)).length = 1))) := by rw [Hid, decide_eq_true hc, Bool.true_and, ← irr_same (chkG_ok.1 hc)]; rfl
    rw [HI.out]
    obtain ⟨M, hM⟩ : ∃ M, (compsA G).filter (cycB G) = M := ⟨_, rfl⟩
    rw [show ((compsA G, (0 : Int)).1) = compsA G from rfl, hM] at HC
    rw [hM]
    generalize compsA G = L at *
    clear hM HI
    by_cases h1 : L.length = 1
    · have k1 : ((L.length : Int) == 1) = true := by simp [h1]
      have e2 : decide (L.length = 1) = true := decide_eq_true h1
      rw [e2, Bool.true_and]
      by_cases h2 : M.length = 1
      · have k2 : ((M.length : Int) == 1) = true := by simp [h2]
        have e3 : decide (M.length = 1) = true := decide_eq_true h2
        rw [e3]
        clear hc h1 h2 hin b0 e1 e2 e3
        (go_enter Tryz.func60, Tryz.ntmps60; go_upto_region 1 with fail; rw [← hw0]; clear hw0; go_wp2_with fail; refine HO.out.mono ?_; rintro e w1 ⟨q, d, rfl, hs, hB1⟩; have b1 := HBX.out.below hB1 HBX.out.lt; have x1 := hB0.trans (hB1.mono hB0.size); clear f0 f1 f2 hs; have f0 := b1.at 0 rfl; have f1 := b1.at 1 rfl; have f2 := b1.at 2 rfl; go_wp2_with fail; refine (HC.out w1 hB1).mono ?_; rintro e w2 ⟨q2, d2, rfl, hs, hB2⟩; have x2 := x1.trans (hB2.mono x1.size); clear f0 f1 f2 hs b1; go_wp2; go_ret2; exact ⟨rfl, x2⟩)
      · have k2 : ((M.length : Int) == 1) = false := by simp; omega
        have e3 : decide (M.length = 1) = false := decide_eq_false h2
        rw [e3]
        clear hc h1 h2 hin b0 e1 e2 e3
        (go_enter Tryz.func60, Tryz.ntmps60; go_upto_region 1 with fail; rw [← hw0]; clear hw0; go_wp2_with fail; refine HO.out.mono ?_; rintro e w1 ⟨q, d, rfl, hs, hB1⟩; have b1 := HBX.out.below hB1 HBX.out.lt; have x1 := hB0.trans (hB1.mono hB0.size); clear f0 f1 f2 hs; have f0 := b1.at 0 rfl; have f1 := b1.at 1 rfl; have f2 := b1.at 2 rfl; go_wp2_with fail; refine (HC.out w1 hB1).mono ?_; rintro e w2 ⟨q2, d2, rfl, hs, hB2⟩; have x2 := x1.trans (hB2.mono x1.size); clear f0 f1 f2 hs b1; go_wp2; go_ret2; exact ⟨rfl, x2⟩)
    · have k1 : ((L.length : Int) == 1) = false := by simp; omega
      have e2 : decide (L.length = 1) = false := decide_eq_false h1
      rw [e2, Bool.false_and]
      clear hc h1 hin b0 e1 e2
      (go_enter Tryz.func60, Tryz.ntmps60; go_upto_region 1 with fail; rw [← hw0]; clear hw0; go_wp2_with fail; refine HO.out.mono ?_; rintro e w1 ⟨q, d, rfl, hs, hB1⟩; have b1 := HBX.out.below hB1 HBX.out.lt; have x1 := hB0.trans (hB1.mono hB0.size); clear f0 f1 f2 hs; have f0 := b1.at 0 rfl; have f1 := b1.at 1 rfl; have f2 := b1.at 2 rfl; go_wp2_with fail; refine (HC.out w1 hB1).mono ?_; rintro e w2 ⟨q2, d2, rfl, hs, hB2⟩; have x2 := x1.trans (hB2.mono x1.size); clear f0 f1 f2 hs b1; go_wp2; go_ret2; exact ⟨rfl, x2⟩)
  · have e1 : ofA G = ([], 1) := if_neg hc
    rw [e1] at HO HC ⊢
    rw [decide_eq_false hc, Bool.false_and]
    clear hc hin b0 e1
    (go_enter Tryz.func60, Tryz.ntmps60; go_upto_region 1 with fail; rw [← hw0]; clear hw0; go_wp2_with fail; refine HO.out.mono ?_; rintro e w1 ⟨q, d, rfl, hs, hB1⟩; have b1 := HBX.out.below hB1 HBX.out.lt; have x1 := hB0.trans (hB1.mono hB0.size); clear f0 f1 f2 hs; have f0 := b1.at 0 rfl; have f1 := b1.at 1 rfl; have f2 := b1.at 2 rfl; go_wp2_with fail; refine (HC.out w1 hB1).mono ?_; rintro e w2 ⟨q2, d2, rfl, hs, hB2⟩; have x2 := x1.trans (hB2.mono x1.size); clear f0 f1 f2 hs b1; go_wp2; go_ret2; exact ⟨rfl, x2⟩)
end Go.Proofs.YtocbhlohcikapaaGreatDoor
namespace Go.Proofs.YtocbhlohcikapaaGreatDoor
open Go.RowKit Go.Sort Go.Shelf Go.Lib

set_option maxHeartbeats 400000 in
theorem r12SameJ_any (l m : List Int) (p q : Option Addr) (c d : Nat) (w : World) (hp : Sl w (Value.int .i64) p l) (hq : Sl w (Value.int .i64) q m) (hl : l.length ≤ 9223372036854775807) (hm : m.length ≤ 9223372036854775807) :
    Calls Tryz.prog 235 #[.slice p l.length c, .slice q m.length d] w fun e w' => e = .returned (.bool (decide (l = m))) ∧ Dr w w' := by
  by_cases hlen : l.length = m.length
  · have hlen' : ((l.length : Int) == (m.length : Int)) = true := by simp [hlen]
    have HT : Hid (l.length = m.length) := hlen
    clear hlen
    go_enter Tryz.func235, Tryz.ntmps235
    go_wp2
    go_loopw [5] (fun i wr => ∃ k : Nat, k ≤ l.length ∧ i = .int .i64 k ∧ Hid (l.take k = m.take k) ∧ Dr w wr) (fun i _ => l.length - (intOf i).toNat)
    case atStart => exact ⟨0, by omega, rfl, by simp [Hid], Dr.refl _⟩
    case round =>
      obtain ⟨k, hk, rfl, hj, hD⟩ := hrel
      by_cases hlt : k < l.length
      · have hlt2 : k < m.length := by have := HT.out; omega
        obtain ⟨b1, o1, rfl, hb1, hc1⟩ := (hp.dr hD).get k hlt
        obtain ⟨b2, o2, rfl, hb2, hc2⟩ := (hq.dr hD).get k hlt2
        have e1 := hc1 k hlt
        have e2 := hc2 k hlt2
        have h2' : (k : Int) < (m.length : Int) := by omega
        clear hc1 hc2
        by_cases he : l[k] = m[k]
        · have heb : (l[k] == m[k]) = true := by simpa using he
          have HE : Hid (l.take (k + 1) = m.take (k + 1)) := by unfold Hid; rw [List.take_succ_eq_append_getElem hlt, List.take_succ_eq_append_getElem hlt2, hj.out, he]
          clear he
          go_wp2_with fail
          (refine wp_region_quiet_lit (by kernel_rfl) (by kernel_rfl) ?_; (repeat (first | go_big_quiet_step (fail) | quiet_step (fail))); refine wpQuiet_nil ?_; intro _ hwq; obtain ⟨nq, hwq2⟩ := hwq; subst hwq2)
          go_wp2
          go_roundw
          case rel => exact ⟨k + 1, by omega, by go_num, HE, hD.one _⟩
          case measure => simp [intOf]; omega
        · have heb : (l[k] == m[k]) = false := by simpa using he
          have HE : Hid (decide (l = m) = false) := decide_eq_false (fun e => by subst e; exact he rfl)
          go_wp2_with fail
          (refine wp_region_quiet_lit (by kernel_rfl) (by kernel_rfl) ?_; (repeat (first | go_big_quiet_step (fail) | quiet_step (fail))); refine wpQuiet_nil ?_; intro _ hwq; obtain ⟨nq, hwq2⟩ := hwq; subst hwq2)
          go_wp2
          go_ret
          exact ⟨ret_bool HE.out.symm, hD.one _⟩
      · obtain rfl : k = l.length := by omega
        have HE : Hid (decide (l = m) = true) := by
          have h1 := hj.out
          rw [List.take_length, HT.out, List.take_length] at h1
          simp [Hid, h1]
        go_wp2
        go_ret
        exact ⟨ret_bool HE.out.symm, hD⟩
  · have hlen' : ((l.length : Int) == (m.length : Int)) = false := by simpa using fun h : (l.length : Int) = m.length => hlen (by omega)
    have HE : Hid (decide (l = m) = false) := by simp [Hid]; rintro rfl; exact hlen rfl
    clear hlen
    go_enter Tryz.func235, Tryz.ntmps235
    go_wp2
    go_ret
    exact ⟨ret_bool HE.out.symm, Dr.refl _⟩

/-- Where a list stands among lists; -1 where it is not there. -/
def idxL (L : List (List Int)) (s : List Int) : Int := if s ∈ L then ((L.idxOf s : Nat) : Int) else -1
theorem idxL_at {L : List (List Int)} {s : List Int} {k : Nat} (hk : k < L.length) (he : L[k] = s) (hj : ∀ j (h : j < L.length), j < k → L[j] ≠ s) : idxL L s = k := by
  have hm : s ∈ L := he ▸ List.getElem_mem hk
  have hi := List.idxOf_lt_length_iff.2 hm
  have hg : L[L.idxOf s] = s := List.getElem_idxOf hi
  have h1 : ¬ L.idxOf s < k := fun h => hj _ hi h hg
  have h2 : ¬ k < L.idxOf s := fun h => by
    have := List.not_of_lt_findIdx (p := (· == s)) (xs := L) (i := k) h
    simp [he] at this
  unfold idxL
  rw [if_pos hm]; omega
theorem idxL_none {L : List (List Int)} {s : List Int} (hj : ∀ j (h : j < L.length), L[j] ≠ s) : idxL L s = -1 := if_neg (fun hm => by
  obtain ⟨i, hi, e⟩ := List.mem_iff_getElem.1 hm
  exact hj i hi e)

set_option maxRecDepth 100000 in
set_option maxHeartbeats 1000000 in
theorem r12index_any (L : List (List Int)) (s : List Int) (p q : Option Addr) (c d : Nat) (w : World) (hp : LLj w p L) (hq : Sl w (Value.int .i64) q s) (hL : ∀ x ∈ L, x.length ≤ 100000) (hs : s.length ≤ 100000) (hl : L.length ≤ 100000) :
    Calls Tryz.prog 218 #[.slice p L.length c, .slice q s.length d] w fun e w' => e = .returned (.int .i64 (idxL L s)) ∧ Dr w w' := by
  have HL := hidI hL
  clear hL
  go_enter Tryz.func218, Tryz.ntmps218
  go_wp2
  go_loopw [5] (fun iv wr => ∃ k : Nat, k ≤ L.length ∧ iv = .int .i64 k ∧ Hid (∀ j (h : j < L.length), j < k → L[j] ≠ s) ∧ Dr w wr) (fun iv _ => L.length - (intOf iv).toNat)
  case atStart => exact ⟨0, by omega, rfl, fun j _ h => absurd h (by omega), Dr.refl _⟩
  case round =>
    obtain ⟨k, hk, rfl, hj, hD⟩ := hrel
    by_cases hlt : k < L.length
    · have hltI : (k : Int) < (L.length : Int) := by omega
      obtain ⟨b1, o1, q1, d1, rfl, hb1, e1, s1⟩ := (hp.below (hD.below _)).get k hlt
      have HX := hidI (r12SameJ_any L[k] s q1 q d1 d wr s1.1 (hq.dr hD) (by have := HL.out _ (List.getElem_mem hlt); omega) (by omega))
      by_cases he : L[k] = s
      · have HI : Hid (idxL L s = k) := idxL_at hlt he hj.out
        rw [decide_eq_true he] at HX
        generalize L[k] = x at *
        clear he s1
        go_wp2_with fail
        refine HX.out.mono ?_
        rintro e w2 ⟨rfl, hD2⟩
        go_wp2
        go_ret
        exact ⟨ret_int HI.out.symm, hD.trans hD2⟩
      · have HJ : Hid (∀ j (h : j < L.length), j < k + 1 → L[j] ≠ s) := fun j h h2 => by
          by_cases e : j = k
          · subst e; exact he
          · exact hj.out j h (by omega)
        rw [decide_eq_false he] at HX
        generalize L[k] = x at *
        clear he s1
        go_wp2_with fail
        refine HX.out.mono ?_
        rintro e w2 ⟨rfl, hD2⟩
        go_wp2
        go_roundw
        case rel => exact ⟨k + 1, by omega, by go_num, HJ, hD.trans hD2⟩
        case measure => simp [intOf]; omega
    · obtain rfl : k = L.length := by omega
      have hltI : ¬ (L.length : Int) < (L.length : Int) := by omega
      have HI : Hid (idxL L s = -1) := idxL_none (fun j h => hj.out j h h)
      go_wp2
      go_ret
      exact ⟨ret_int HI.out.symm, hD⟩
end Go.Proofs.YtocbhlohcikapaaGreatDoor
namespace Go.Proofs.YtocbhlohcikapaaGreatDoor
open Go.RowKit Go.Sort Go.Shelf Go.Lib

theorem sbAdd_mono (G : Gr) (set : List Int) (i : Nat) (st : Sst) (a : Nat) : st.1.length ≤ (sbAdd G set i st a).1.length ∧ st.2.length ≤ (sbAdd G set i st a).2.length := by
  unfold sbAdd
  split
  · exact ⟨Nat.le_refl _, Nat.le_refl _⟩
  · split
    · exact ⟨Nat.le_refl _, by simp⟩
    · exact ⟨by simp, by simp⟩
theorem sbTo_mono (G : Gr) (set : List Int) (i : Nat) (st : Sst) (a : Nat) : ∀ d, (sbTo G set i st a).1.length ≤ (sbTo G set i st (a + d)).1.length ∧ (sbTo G set i st a).2.length ≤ (sbTo G set i st (a + d)).2.length
  | 0 => ⟨Nat.le_refl _, Nat.le_refl _⟩
  | d + 1 => by
    have h1 := sbTo_mono G set i st a d
    have h2 := sbAdd_mono G set i (sbTo G set i st (a + d)) (a + d)
    rw [show a + (d + 1) = (a + d) + 1 by omega, sbTo_succ]
    omega
/-- Too much after an edge: no build. -/
theorem sbGo_over {G : Gr} {m i a : Nat} {st : Sst} (h : i < st.1.length) (ha : a ≤ G.q.toNat) (ho : 64 < (sbTo G st.1[i] i st a).1.length ∨ 1024 < (sbTo G st.1[i] i st a).2.length) : sbGo G (m + 1) i st = none := by
  rw [sbGo_next h]
  have hm := sbTo_mono G st.1[i] i st a (G.q.toNat - a)
  rw [show a + (G.q.toNat - a) = G.q.toNat by omega] at hm
  rw [if_pos (by omega)]
theorem sbGo_step {G : Gr} {m i : Nat} {st : Sst} (h : i < st.1.length) (h1 : (sbTo G st.1[i] i st G.q.toNat).1.length ≤ 64) (h2 : (sbTo G st.1[i] i st G.q.toNat).2.length ≤ 1024) :
    sbGo G (m + 1) i st = sbGo G m (i + 1) (sbTo G st.1[i] i st G.q.toNat) := by
  rw [sbGo_next h, if_neg (by omega)]

/-- A list of numbers in memory of its own type. -/
def RetSlJ (l : List Int) (w : World) (e : Ending) (w' : World) : Prop := ∃ q d, e = .returned (.slice q l.length d) ∧ SlJ w' q l ∧ RowKit.Below w.heap.size w w'
set_option maxRecDepth 100000 in
set_option maxHeartbeats 1000000 in
theorem r12states_any (G : Gr) (p : Option Addr) (c : Nat) (w : World) (hv : Vg G) :
    Calls Tryz.prog 130 #[(.agg #[.int .i64 G.q, .int .i64 G.n, .slice p G.es.length c])] w (RetSlJ (upto G.n.toNat) w) := by
  obtain ⟨i0, hi0, hz0, hz1, hz3⟩ := info_parts infoIg
  obtain ⟨w0, hw0⟩ : ∃ w0, w0 = w.alloc (.cells #[.int .i64 G.q, .int .i64 G.n, .slice p G.es.length c] 24) := ⟨_, rfl⟩
  have b0 : VRow w0 w.heap.size 24 [.int .i64 G.q, .int .i64 G.n, .slice p G.es.length c] := by subst hw0; exact VRow.new w _ _
  have hB0 : RowKit.Below w.heap.size w w0 := by subst hw0; exact (RowKit.Below.refl _ _).alloc (Nat.le_refl _) _
  obtain ⟨N, hN⟩ : ∃ N : Nat, G.n = N := ⟨G.n.toNat, by have := hv.n1; omega⟩
  have hN64 : N ≤ 64 := by have := hv.n2; omega
  have hNT : G.n.toNat = N := by omega
  have HN := hidI hN
  have HB0 := hidI hB0
  rw [hNT]
  clear hv hN hNT hB0
  have h0 := own_new w0 w0.heap.size [] 3 (Nat.le_refl _) (by simp [maxLen])
  have hB1 : RowKit.Below w0.heap.size w0 (w0.alloc (.cells #[] 3)) := (RowKit.Below.refl _ _).alloc (Nat.le_refl _) _
  go_enter Tryz.func130, Tryz.ntmps130
  go_upto_region 1 with fail
  rw [← hw0]
  clear hw0
  go_wp2_with fail
  go_loopw [3, 4] (fun lv iv wr => ∃ k : Nat, k ≤ N ∧ iv = .int .i64 k ∧ wr.ownsRow w0.heap.size 3 1 lv (upto k).length ((upto k).map (Value.int .i64)) ∧ RowKit.Below w0.heap.size w0 wr) (fun _ iv _ => N - (intOf iv).toNat)
  case atStart => exact ⟨0, by omega, rfl, h0, hB1⟩
  case round =>
    clear h0 hB1
    obtain ⟨k, hk, rfl, hown, hB⟩ := hrel
    have f1 := (b0.below hB b0.lt).at 1 rfl
    rw [HN.out] at f1
    by_cases hlt : k < N
    · have hltI : (k : Int) < (N : Int) := by omega
      have hnew := cell_one_at wr (.int .i64 (k : Int)) 3 wr.heap.size rfl
      have hlk : (upto k).length ≤ 64 := by rw [upto_len]; omega
      have HS : Hid ((upto (k + 1)).length = (upto k).length + 1 ∧ (upto (k + 1)).map (Value.int .i64) = (upto k).map (Value.int .i64) ++ [.int .i64 (k : Int)]) := by
        rw [Hid, upto_succ]; simp
      have hzx := hB.size
      generalize upto k = U at *
      go_wp2_with (at_builtin; refine wpList_append_own _ rfl _ _ 30 rfl w0.heap.size 3 i0 (.int .i64 0) 1 8 Tryz.underlying30 hi0 hz0 hz1 hz3 rfl (by decide) _ _ _ rfl (hown.alloc _) ⟨wr.heap.size, 0, none⟩ 1 1 [.int .i64 (k : Int)] rfl rfl hnew (by simp [Value.oneCell']) (by simp [maxLen]; omega) (by omega) (by simp; omega) ?_; intro v' w9 hown' hgrow _)
      have hB9 : RowKit.Below w0.heap.size w0 w9 := (hB.alloc hzx _).grown hgrow (by simp; omega) (fun j e => (hown.lt j e).1)
      go_roundw
      case rel => exact ⟨k + 1, by omega, by go_num, by rw [HS.out.1, HS.out.2]; exact hown', hB9⟩
      case measure => simp [intOf]; omega
    · obtain rfl : k = N := by omega
      have hltI : ¬ (k : Int) < (k : Int) := by omega
      obtain ⟨q, d, rfl, hs⟩ := own_sl hown
      have HJ : Hid (SlJ wr q (upto k)) := ⟨hs, fun b o z hb => Lib.ownsRow_kind hown b (by rw [hb]; simp [Value.ownBlock])⟩
      have hBr := HB0.out.trans (hB.mono HB0.out.size)
      clear hown hs
      go_wp2
      go_ret
      exact ⟨q, d, rfl, HJ.out, hBr⟩
end Go.Proofs.YtocbhlohcikapaaGreatDoor
namespace Go.Proofs.YtocbhlohcikapaaGreatDoor
open Go.RowKit Go.Sort Go.Shelf Go.Lib

theorem own_notS {W : World} {B b e s : Nat} {v : Value} {n : Nat} {xs : List Value} {t : TypeId} {c : Array Value} {f : Nat × Nat} (h : W.ownsRow B e s v n xs) (hb : W.heap[b]? = some (.cells c t f)) (hne : t ≠ e) : some b ≠ v.ownBlock := fun he => by
  rcases h.2 with ⟨rfl, _⟩ | ⟨g, cap, cur, rfl, _, hh, _⟩
  · cases he
  · cases he
    rw [hb] at hh
    cases hh
    exact hne rfl
/-- All blocks but those of one type are as they were. -/
def KpT (e : TypeId) (W W' : World) : Prop := ∀ (i : Nat) (cur : Array Value) (t : TypeId) (fz : Nat × Nat), t ≠ e → W.heap[i]? = some (.cells cur t fz) → W'.heap[i]? = some (.cells cur t fz)
section
variable {W W' : World} {e : TypeId}
theorem KpT.grown {B s n : Nat} {v : Value} {xs : List Value} (hg : W.grownBy W' v.ownBlock) (ho : W.ownsRow B e s v n xs) : KpT e W W' := fun i _ _ _ ht hc =>
  (hg.block i (Array.getElem?_eq_some_iff.1 hc).1 (own_notS ho hc ht)).trans hc
theorem KpT.set {B j : Nat} {l : List Value} {v : Value} (h : VRow W B e l) : KpT e W (W.setCell ⟨B, j, none⟩ v) := fun i cur t fz ht hc => by
  have hne : i ≠ B := by
    rintro rfl
    have h' : W.heap[i]? = some (.cells l.toArray e) := h
    rw [h'] at hc
    cases hc
    exact ht rfl
  exact (Below.heap_setCell _ _ _ _ hne).trans hc
theorem KpT.own {B s n e' : Nat} {v : Value} {xs : List Value} (h : KpT e W W') (hne : e' ≠ e) (ho : W.ownsRow B e' s v n xs) : W'.ownsRow B e' s v n xs := by
  refine ⟨ho.1, ho.2.imp id ?_⟩
  rintro ⟨g, cap, cur, e1, e2, e3, e4⟩
  exact ⟨g, cap, cur, e1, e2, h _ _ _ _ hne e3, e4⟩
theorem KpT.slj {p : Option Addr} {l : List Int} (h : KpT e W W') (hne : 3 ≠ e) (hs : SlJ W p l) : SlJ W' p l := slj_ty (fun i c f hc => h i c _ f hne hc) hs
theorem KpT.row {B t : Nat} {l : List Value} (h : KpT e W W') (hne : t ≠ e) (r : VRow W B t l) : VRow W' B t l := h _ _ _ _ hne r
theorem OutD.kpt {L : List (List Int)} {B : Nat} {xs : List LEc} {v : Value} (h : OutD L B xs v W) (k : KpT e W W') (h1 : 30 ≠ e) (h2 : 3 ≠ e) : OutD L B xs v W' :=
  ⟨k.own h1 h.own, h.eq, fun x hx => k.slj h2 (h.sl x hx)⟩
end

/-- The graph, the result's cell, the box of what is built, the sets, the edges. -/
structure SetJ (w : World) (G : Gr) (p : Option Addr) (c : Nat) (st : Sst) (xs : List LEc) (av ev : Value) (W : World) : Prop where
  g : VRow W w.heap.size 24 [.int .i64 G.q, .int .i64 G.n, .slice p G.es.length c]
  r : VRow W (w.heap.size + 1) 24 [.int .i64 0, .int .i64 0, .slice none 0 0]
  o : VRow W (w.heap.size + 2) 24 [.int .i64 G.q, .int .i64 0, ev]
  all : OutD st.1 (w.heap.size + 3) xs av W
  es : W.ownsRow (w.heap.size + 3) 44 3 ev st.2.length (cat st.2)
  b : RowKit.Below w.heap.size w W
section
variable {w : World} {G : Gr} {p : Option Addr} {c : Nat} {st : Sst} {xs : List LEc} {av ev : Value} {W W' : World}
theorem SetJ.below (h : SetJ w G p c st xs av ev W) (hB : RowKit.Below W.heap.size W W') : SetJ w G p c st xs av ev W' :=
  ⟨h.g.below hB h.g.lt, h.r.below hB h.r.lt, h.o.below hB h.o.lt, h.all.below hB, h.es.below hB, h.b.trans (hB.mono h.b.size)⟩
theorem SetJ.sz (h : SetJ w G p c st xs av ev W) : w.heap.size + 3 ≤ W.heap.size := by have := h.o.lt; omega
theorem SetJ.push {l : List Int} {q : Option Addr} {d : Nat} {v' : Value} (h : SetJ w G p c st xs av ev W) (hs : SlJ W q l)
    (hown : W'.ownsRow (w.heap.size + 3) 30 1 v' (xs.length + 1) (xs.map lcV ++ [.slice q l.length d])) (hg : (W.alloc (.cells #[.slice q l.length d] 30)).grownBy W' av.ownBlock) :
    SetJ w G p c (st.1 ++ [l], st.2) (xs ++ [(l, (q, d))]) v' ev W' := by
  have hAl : RowKit.Below W.heap.size W (W.alloc (.cells #[.slice q l.length d] 30)) := (RowKit.Below.refl _ _).alloc (Nat.le_refl _) _
  have h1 := h.below hAl
  have hk := KpT.grown hg h1.all.own
  have hb := h1.b.grown hg h1.b.size (fun j e => by have := (h1.all.own.lt j e).1; omega)
  refine ⟨hk.row (by decide) h1.g, hk.row (by decide) h1.r, hk.row (by decide) h1.o, ⟨?_, ?_, ?_⟩, hk.own (by decide) h1.es, hb⟩
  · rw [List.length_append, List.map_append]; exact hown
  · rw [List.map_append, h.all.eq]; rfl
  · intro x hx
    rcases List.mem_append.1 hx with hx | hx
    · exact hk.slj (by decide) (h1.all.sl x hx)
    · obtain rfl := List.mem_singleton.1 hx
      exact hk.slj (by decide) ((KCs.below hAl).slj hs)
theorem SetJ.edge {y : Ed} {v' : Value} (h : SetJ w G p c st xs av ev W) (hown : W'.ownsRow (w.heap.size + 3) 44 3 v' (st.2.length + 1) (cat (st.2 ++ [y])))
    (hg : (W.alloc (.cells #[.int .i64 y.f, .int .i64 y.l, .int .i64 y.t] 44)).grownBy W' ev.ownBlock) :
    SetJ w G p c (st.1, st.2 ++ [y]) xs av v' (W'.setCell ⟨w.heap.size + 2, 2, none⟩ v') := by
  have hAl : RowKit.Below W.heap.size W (W.alloc (.cells #[.int .i64 y.f, .int .i64 y.l, .int .i64 y.t] 44)) := (RowKit.Below.refl _ _).alloc (Nat.le_refl _) _
  have h1 := h.below hAl
  have hk := KpT.grown hg h1.es
  have hb := h1.b.grown hg h1.b.size (fun j e => by have := (h1.es.lt j e).1; omega)
  have ho := hk.row (by decide) h1.o
  have hk2 := KpT.set (j := 2) (v := v') ho
  refine ⟨(hk.row (by decide) h1.g).other _ (by omega), (hk.row (by decide) h1.r).other _ (by omega), VRow.set (i := 2) v' ho, (h1.all.kpt hk (by decide) (by decide)).kpt hk2 (by decide) (by decide), ?_, hb.setCell (by simp) _⟩
  show (W'.setCell _ _).ownsRow _ _ _ _ (st.2 ++ [y]).length _
  rw [List.length_append]
  exact hk2.own (by decide) hown
end
end Go.Proofs.YtocbhlohcikapaaGreatDoor
