/-
  Walks: the part of a graph on a set, of the reference.
-/
import Derived.Test.YtlgjhmenjfmpfaaGl
namespace Go.Proofs.Ytlgjhmenjfmpfaa
open Go.RowKit Go.Sort Go.Shelf Go.Lib

/-- One graph, its edges in memory that the call made. -/
def RetG (G : Gr) (w : World) (e : Ending) (w' : World) : Prop := ∃ p m c, e = .returned (.agg #[.int .i64 G.q, .int .i64 G.n, .slice p m c]) ∧ w'.ownsRow w.heap.size 47 3 (.slice p m c) G.es.length (cat G.es) ∧ RowKit.Below w.heap.size w w'
theorem cell_new3 (W : World) (y : Ed) (t n : Nat) (hn : W.heap.size = n) : ∀ (j : Nat) (u : Value), (cat [y])[j]? = some u → (W.alloc (.cells (edE y).toArray t)).cell? ((⟨n, 0, none⟩ : Addr).add j) = some u := by
  subst hn
  intro j u hu
  rw [show (⟨W.heap.size, 0, none⟩ : Addr).add j = ⟨W.heap.size, j, none⟩ by unfold Addr.add; split <;> simp_all, (VRow.new W t (edE y)).cell]
  simpa [cat] using hu
theorem own_shape {w : World} {B e n : Nat} {v : Value} {l : List Ed} (h : w.ownsRow B e 3 v n (cat l)) : ∃ p m c, v = .slice p m c := by
  obtain ⟨p, c, h, _⟩ := own_sg h; exact ⟨p, _, c, h⟩
theorem part_stop {st : List Int} {x : Ed} (h : ¬ (x.f ∈ st ∧ x.t ∈ st)) : partE st x = none := if_neg h
theorem part_go {st : List Int} {x : Ed} (h : x.f ∈ st ∧ x.t ∈ st) : partE st x = some ⟨((st.idxOf x.f : Nat) : Int), x.l, ((st.idxOf x.t : Nat) : Int)⟩ := if_pos h
theorem idxI_neg {n : Int} {l : List Int} (h : n ∉ l) : idxI n l = -1 := if_neg h
theorem idxI_pos {n : Int} {l : List Int} (h : n ∈ l) : idxI n l = ((l.idxOf n : Nat) : Int) := if_pos h

set_option maxRecDepth 100000 in
set_option maxHeartbeats 2000000 in
theorem rPart_any (G : Gr) (p : Option Addr) (c : Nat) (st : List Int) (q : Option Addr) (d : Nat) (w : World) (hin : Sg 3 w edE p G.es) (hst : Sl w (Value.int .i64) q st) (hl : G.es.length ≤ 10000) (hs : st.length ≤ 100000) :
    Calls Try.prog 48 #[(.agg #[.int .i64 G.q, .int .i64 G.n, .slice p G.es.length c]), .slice q st.length d] w (RetG (partA G st) w) := by
  have HIN := hidI hin; have HST := hidI hst
  obtain ⟨i0, hi0, hz0, hz1, hz2⟩ := info_parts infoE
  clear hin hst
  obtain ⟨w0, hw0⟩ : ∃ w0, w0 = ((w.alloc (.cells #[.int .i64 G.q, .int .i64 G.n, .slice p G.es.length c] 24)).alloc (.cells #[.int .i64 0, .int .i64 0, .slice none 0 0] 24)).alloc (.cells #[.int .i64 G.q, .int .i64 st.length, .slice none 0 0] 24) := ⟨_, rfl⟩
  have b0 : VRow w0 w.heap.size 24 [.int .i64 G.q, .int .i64 G.n, .slice p G.es.length c] := by subst hw0; exact ((VRow.new w _ _).alloc _).alloc _
  have b1 : VRow w0 (w.heap.size + 1) 24 [.int .i64 0, .int .i64 0, .slice none 0 0] := by subst hw0; exact (VRow.new1 w _ _ _).alloc _
  have b2 : VRow w0 (w.heap.size + 1 + 1) 24 [.int .i64 G.q, .int .i64 st.length, .slice none 0 0] := by subst hw0; exact VRow.new2 w _ _ _ _
  have hB0 : Below w.heap.size w w0 := by subst hw0; exact (((Below.refl _ _).alloc (Nat.le_refl _) _).alloc (by simp) _).alloc (by simp; omega) _
  have hsz0 : w0.heap.size = w.heap.size + 1 + 1 + 1 := by subst hw0; simp
  go_enter Try.func48, Try.ntmps48
  go_wp2
  rw [← hw0]
  clear hw0
  go_loopw [6] (fun iv wr => ∃ (k : Nat) (v : Value), k ≤ G.es.length ∧ iv = .int .i64 k ∧ VRow wr w.heap.size 24 [.int .i64 G.q, .int .i64 G.n, .slice p G.es.length c] ∧ VRow wr (w.heap.size + 1) 24 [.int .i64 0, .int .i64 0, .slice none 0 0] ∧ VRow wr (w.heap.size + 1 + 1) 24 [.int .i64 G.q, .int .i64 st.length, v] ∧
      wr.ownsRow (w.heap.size + 1 + 1 + 1) 47 3 v ((G.es.take k).filterMap (partE st)).length (cat ((G.es.take k).filterMap (partE st))) ∧ Below w.heap.size w wr ∧ w.heap.size + 1 + 1 + 1 ≤ wr.heap.size) (fun iv _ => G.es.length - (intOf iv).toNat)
  case atStart => exact ⟨0, _, by omega, rfl, b0, b1, b2, World.ownsRow_nil _ _ _ _, hB0, by omega⟩
  case round =>
    obtain ⟨k, v, hk, rfl, c0, c1, c2, hown, hB, hge⟩ := hrel
    have f2 := c0.at 2 rfl
    by_cases hlt : k < G.es.length
    · obtain ⟨b3, o3, rfl, hb3, e0, e1, e2⟩ := (HIN.out.below hB).get3 k hlt rfl
      have hSN := hidI (partE_snoc st G.es k hlt)
      have hML : ((G.es.take k).filterMap (partE st)).length ≤ k := Nat.le_trans (List.length_filterMap_le _ _) (by rw [List.length_take]; omega)
      generalize (G.es.take k).filterMap (partE st) = M at *
      generalize hx : G.es[k] = x at *
      have HS1 : Sl (wr.alloc (.cells #[.int .i64 x.f, .int .i64 x.l, .int .i64 x.t] 47)) (Value.int .i64) q st := HST.out.below (hB.alloc hB.size _)
      have y0 : VRow (wr.alloc (.cells #[.int .i64 x.f, .int .i64 x.l, .int .i64 x.t] 47)) wr.heap.size 47 (edE x) := VRow.new wr _ _
      have hown1 := hown.alloc (.cells #[.int .i64 x.f, .int .i64 x.l, .int .i64 x.t] 47)
      have d0 := c0.alloc (.cells #[.int .i64 x.f, .int .i64 x.l, .int .i64 x.t] 47)
      have d1 := c1.alloc (.cells #[.int .i64 x.f, .int .i64 x.l, .int .i64 x.t] 47)
      have d2 := c2.alloc (.cells #[.int .i64 x.f, .int .i64 x.l, .int .i64 x.t] 47)
      have hB1 := hB.alloc hB.size (.cells #[.int .i64 x.f, .int .i64 x.l, .int .i64 x.t] 47)
      have hsz1 : (wr.alloc (.cells #[.int .i64 x.f, .int .i64 x.l, .int .i64 x.t] 47)).heap.size = wr.heap.size + 1 := World.size_alloc _ _
      go_wp2_with fail
      generalize (wr.alloc (.cells #[.int .i64 x.f, .int .i64 x.l, .int .i64 x.t] 47)) = W1 at *
      have g0 := y0.at 0 rfl; have g1 := y0.at 1 rfl; have g2 := y0.at 2 rfl
      have k0 := d2.at 0 rfl; have k1 := d2.at 1 rfl; have k2 := d2.at 2 rfl; have kf := d2.frozen 2
      clear e0 e1 e2 f2
      by_cases hm : x.f ∈ st ∧ x.t ∈ st
      · have HPE := hidI (part_go hm)
        have HF := hidI (idxI_pos hm.1); have HT := hidI (idxI_pos hm.2)
        generalize st.idxOf x.f = a at *
        generalize st.idxOf x.t = b at *
        clear hm
        have HC1 := fun (n : Nat) => Calls.quiet_of_same (rIndex_r st q d x.f a (W1.drewN n) HS1 (by omega) HF.out)
        have HC2 := fun (n : Nat) => Calls.quiet_of_same (rIndex_r st q d x.t b (W1.drewN n) HS1 (by omega) HT.out)
        (refine wp_region_quiet_lit (by kernel_rfl) (by kernel_rfl) ?_; (repeat (first | go_big_quiet_step (first | (go_at_call 66; with_reducible exact HC1 _) | (go_at_call 66; with_reducible exact HC2 _)) | quiet_step (first | (go_at_call 66; with_reducible exact HC1 _) | (go_at_call 66; with_reducible exact HC2 _)))); refine wpQuiet_nil ?_; intro _ hwq; obtain ⟨nq, hwq2⟩ := hwq; subst hwq2)
        clear g0 g2 HC1 HC2
        have HSN : Hid (List.filterMap (partE st) (G.es.take (k + 1)) = M ++ [⟨(a : Int), x.l, (b : Int)⟩]) := by rw [Hid, hSN.out, HPE.out]
        clear hSN HPE HF HT
        have hq2 : VRow (W1.drewN nq) (w.heap.size + 1 + 1) 24 [.int .i64 G.q, .int .i64 st.length, v] := d2
        have hownq : (W1.drewN nq).ownsRow (w.heap.size + 1 + 1 + 1) 47 3 v M.length (cat M) := hown1
        have hq0 : VRow (W1.drewN nq) w.heap.size 24 [.int .i64 G.q, .int .i64 G.n, .slice (some ⟨b3, o3, none⟩) G.es.length c] := d0
        have hq1 : VRow (W1.drewN nq) (w.heap.size + 1) 24 [.int .i64 0, .int .i64 0, .slice none 0 0] := d1
        have hBq : Below w.heap.size w (W1.drewN nq) := below_dN hB1 nq
        have hszq : (W1.drewN nq).heap.size = wr.heap.size + 1 := hsz1
        have g1' : (W1.drewN nq).cell? ⟨wr.heap.size, 1, none⟩ = some (.int .i64 x.l) := g1
        have k2' : (W1.drewN nq).cell? ⟨w.heap.size + 1 + 1, 2, none⟩ = some v := k2
        have a0 : (0 : Int) ≤ (a : Int) := by omega
        have a1 : (0 : Int) ≤ (b : Int) := by omega
        clear d0 d1 d2 hown1 hB1 hsz1 g1 k0 k1 k2 kf HS1 y0
        generalize W1.drewN nq = W2 at *
        have hnew := cell_new3 W2 ⟨(a : Int), x.l, (b : Int)⟩ 47 (wr.heap.size + 1) hszq
        have hownA := hownq.alloc (.cells (edE ⟨(a : Int), x.l, (b : Int)⟩).toArray 47)
        have hBA := hBq.alloc hBq.size (.cells (edE ⟨(a : Int), x.l, (b : Int)⟩).toArray 47)
        have p0 := hq0.alloc (.cells (edE ⟨(a : Int), x.l, (b : Int)⟩).toArray 47)
        have p1 := hq1.alloc (.cells (edE ⟨(a : Int), x.l, (b : Int)⟩).toArray 47)
        have p2 := hq2.alloc (.cells (edE ⟨(a : Int), x.l, (b : Int)⟩).toArray 47)
        have hne : ∀ j, v.ownBlock = some j → w.heap.size + 1 + 1 + 1 ≤ j := fun j e => (hownq.lt j e).1
        go_wp2_with (at_builtin; refine wpList_append_own _ rfl _ _ 22 rfl (w.heap.size + 1 + 1 + 1) 47 i0 _ 3 24 Try.underlying22 hi0 hz0 hz1 hz2 rfl (by decide) _ _ _ rfl hownA ⟨wr.heap.size + 1, 0, none⟩ 1 1 (cat [⟨(a : Int), x.l, (b : Int)⟩]) rfl rfl hnew (cat_one _) (by simp [maxLen]; omega) (by omega) (by rw [World.size_alloc, hszq]; omega) ?_; intro v' w1 hown' hgrow _; rw [← cat_app] at hown'; obtain ⟨pv, mv, cv, rfl⟩ := own_shape hown'; have r2 := VRow.grown p2 hgrow (fun e => by have := hne _ e.symm; omega); have z2 := r2.frozen 2; have s2 := r2.at 2 rfl)
        have hr0 := VRow.other (i := 2) (.slice pv mv cv) (p0.grown hgrow (fun e => by have := hne _ e.symm; omega)) (C := w.heap.size + 1 + 1) (by omega)
        have hr1 := VRow.other (i := 2) (.slice pv mv cv) (p1.grown hgrow (fun e => by have := hne _ e.symm; omega)) (C := w.heap.size + 1 + 1) (by omega)
        have hBf : RowKit.Below w.heap.size w (w1.setCell (⟨w.heap.size + 1 + 1, 2, none⟩ : Addr) (.slice pv mv cv)) := (hBA.grown hgrow (Nat.le_trans hBq.size (by simp)) (fun j e => by have := hne _ e; omega)).setCell (show w.heap.size ≤ w.heap.size + 1 + 1 by omega) _
        go_roundw
        case rel =>
          refine ⟨k + 1, _, by omega, by go_num, hr0, hr1, VRow.set (i := 2) _ r2, ?_, hBf, ?_⟩
          · rw [HSN.out]
            exact ownsRow_setCell_below (a := (⟨w.heap.size + 1 + 1, 2, none⟩ : Addr)) (own_conv hown' rfl (Nat.le_refl _)) (show w.heap.size + 1 + 1 < w.heap.size + 1 + 1 + 1 by omega) _
          · rw [World.size_setCell]; have := hgrow.size; rw [World.size_alloc] at this; omega
        case measure => simp [intOf]; omega
      · obtain ⟨r1, hr1, r2, hr2, hor⟩ : ∃ r1, idxI x.f st = r1 ∧ ∃ r2, idxI x.t st = r2 ∧ (decide (0 ≤ r1) = false ∨ (0 ≤ r1 ∧ decide (0 ≤ r2) = false)) := by
          refine ⟨_, rfl, _, rfl, ?_⟩
          by_cases h1 : x.f ∈ st
          · right
            rw [idxI_pos h1, idxI_neg (fun h2 => hm ⟨h1, h2⟩)]
            exact ⟨by omega, by decide⟩
          · left; rw [idxI_neg h1]; decide
        have HSN : Hid (List.filterMap (partE st) (G.es.take (k + 1)) = M) := by rw [Hid, hSN.out, part_stop hm]; simp
        clear hSN hm
        have HC1 := fun (n : Nat) => Calls.quiet_of_same (rIndex_r st q d x.f r1 (W1.drewN n) HS1 (by omega) hr1)
        have HC2 := fun (n : Nat) => Calls.quiet_of_same (rIndex_r st q d x.t r2 (W1.drewN n) HS1 (by omega) hr2)
        clear hr1 hr2
        rcases hor with h1 | ⟨h1, h2⟩
        all_goals
          (refine wp_region_quiet_lit (by kernel_rfl) (by kernel_rfl) ?_; (repeat (first | go_big_quiet_step (first | (go_at_call 66; with_reducible exact HC1 _) | (go_at_call 66; with_reducible exact HC2 _)) | quiet_step (first | (go_at_call 66; with_reducible exact HC1 _) | (go_at_call 66; with_reducible exact HC2 _)))); refine wpQuiet_nil ?_; intro _ hwq; obtain ⟨nq, hwq2⟩ := hwq; subst hwq2)
          clear g0 g1 g2 HC1 HC2
          have hq2 : VRow (W1.drewN nq) (w.heap.size + 1 + 1) 24 [.int .i64 G.q, .int .i64 st.length, v] := d2
          have hownq : (W1.drewN nq).ownsRow (w.heap.size + 1 + 1 + 1) 47 3 v M.length (cat M) := hown1
          have hq0 : VRow (W1.drewN nq) w.heap.size 24 [.int .i64 G.q, .int .i64 G.n, .slice (some ⟨b3, o3, none⟩) G.es.length c] := d0
          have hq1 : VRow (W1.drewN nq) (w.heap.size + 1) 24 [.int .i64 0, .int .i64 0, .slice none 0 0] := d1
          have hBq : Below w.heap.size w (W1.drewN nq) := below_dN hB1 nq
          have hszq : (W1.drewN nq).heap.size = wr.heap.size + 1 := hsz1
          clear d0 d1 d2 hown1 hB1 hsz1 k0 k1 k2 kf HS1 y0
          go_wp2_with fail
          go_roundw
          case rel =>
            refine ⟨k + 1, v, by omega, by go_num, hq0, hq1, hq2, ?_, hBq, by omega⟩
            rw [HSN.out]; exact hownq
          case measure => simp [intOf]; omega
    · obtain rfl : k = G.es.length := by omega
      rw [List.take_length] at hown
      have k0 := c2.at 0 rfl; have k1 := c2.at 1 rfl; have k2 := c2.at 2 rfl
      have j0 := c1.at 0 rfl; have j1 := c1.at 1 rfl; have j2 := c1.at 2 rfl
      have z0 := c1.frozen 0; have z1 := c1.frozen 1; have z2 := c1.frozen 2
      obtain ⟨pv, mv, cv, rfl⟩ := own_shape hown
      go_wp2
      have r6 := VRow.set (i := 2) (.slice pv mv cv) (VRow.set (i := 1) (.int .i64 st.length) (VRow.set (i := 0) (.int .i64 G.q) c1))
      have y0 := r6.at 0 rfl; have y1 := r6.at 1 rfl; have y2 := r6.at 2 rfl
      have hz0 : w.heap.size + 1 < w.heap.size + 1 + 1 + 1 := by omega
      have o6 := ownsRow_setCell_below (a := (⟨w.heap.size + 1, 2, none⟩ : Addr)) (ownsRow_setCell_below (a := (⟨w.heap.size + 1, 1, none⟩ : Addr)) (ownsRow_setCell_below (a := (⟨w.heap.size + 1, 0, none⟩ : Addr)) hown hz0 (.int .i64 G.q)) hz0 (.int .i64 st.length)) hz0 (.slice pv mv cv)
      have x6 : RowKit.Below w.heap.size w (((wr.setCell (⟨w.heap.size + 1, 0, none⟩ : Addr) (.int .i64 G.q)).setCell (⟨w.heap.size + 1, 1, none⟩ : Addr) (.int .i64 st.length)).setCell (⟨w.heap.size + 1, 2, none⟩ : Addr) (.slice pv mv cv)) :=
        ((hB.setCell (show w.heap.size ≤ w.heap.size + 1 by omega) _).setCell (show w.heap.size ≤ w.heap.size + 1 by omega) _).setCell (show w.heap.size ≤ w.heap.size + 1 by omega) _
      refine bodyPost_ret (v := .agg #[.int .i64 G.q, .int .i64 st.length, .slice pv mv cv]) (by simp [results, Try.results48, go_sem, y0, y1, y2]) rfl ?_
      exact ⟨_, _, _, rfl, own_conv o6 rfl (by omega), x6⟩
end Go.Proofs.Ytlgjhmenjfmpfaa
