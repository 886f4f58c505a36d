/-
  Words, plain lemmas and walks, merged: Gn, Gu, Gq, Map, He, Hi, Hd, Gw, Gv, Gy, Gs, Gz, Gt, Hp, Pa.
-/
import Derived.Test.YtcfmpplhghkagaaDoorZkb
import Derived.Test.YtcfmpplhghkagaaDoorZkc
import Derived.Maps.OwnIn
import Derived.DeepKeys4
import Derived.Test.YtcfmpplhghkagaaDoorZka
import Derived.Shelf.SlicesE.DeleteFunc
set_option linter.unusedVariables false
set_option linter.unusedSimpArgs false
namespace Go.Proofs.YtcfmpplhghkagaaDoor
open Go.RowKit Go.Sort Go.Shelf Go.Lib

theorem binI_any (l : List Int) (p : Option Addr) (c : Nat) (x : Int) (w : World) (hp : Sl w (Value.int .i64) p l) (hs : l.Pairwise (· < ·)) (hl : l.length ≤ 100000) :
    Calls Tryd.prog 27 #[.slice p l.length c, .int .i64 x] w fun e w' => (∃ i : Int, e = .returned (.tuple #[.int .i64 i, .bool (decide (x ∈ l))]) ∧ (x ∈ l → i = ((l.idxOf x : Nat) : Int))) ∧ Dr w w' := by
  rcases Nat.eq_zero_or_pos l.length with h0 | h0
  · have : l = [] := List.length_eq_zero_iff.1 h0
    subst this
    refine (Tryd.slices_BinarySearch_int_empty p c x w).mono ?_
    rintro e w' ⟨rfl, rfl⟩
    exact ⟨⟨0, by simp, by simp⟩, Dr.refl _⟩
  · obtain ⟨b, off, rfl, hb, hc⟩ := hp.get 0 h0
    refine (Tryd.slices_BinarySearch_int b off l.length c l x w (Nat.le_refl _) (by omega) (fun j hj => by rw [hc j hj, List.getD_eq_getElem?_getD, List.getElem?_eq_getElem hj]; rfl) (by rw [List.take_length]; exact hs.imp (fun h => by omega))).mono ?_
    rintro e w' ⟨rfl, hD⟩
    rw [List.take_length]
    refine ⟨⟨((l.countP (· < x) : Nat) : Int), ?_, fun hm => congrArg Int.ofNat (countP_idxOf hs hm)⟩, hD⟩
    rw [show l.contains x = decide (x ∈ l) by rw [Bool.eq_iff_iff]; simp]

set_option maxRecDepth 100000 in
set_option maxHeartbeats 2000000 in
theorem gkeep_any (G : Gr) (p : Option Addr) (c : Nat) (st : List Int) (q : Option Addr) (d : Nat) (w : World) (hin : Sg 3 w edE p G.es) (hst : Sl w (Value.int .i64) q st) (hl : G.es.length ≤ 10000) (hs : st.length ≤ 100000) (hso : st.Pairwise (· < ·)) :
    Calls Tryd.prog 30 #[(.agg #[.int .i64 G.q, .int .i64 G.n, .slice p G.es.length c]), .slice q st.length d] w (RetG (partA G st) w) := by
  have HIN := hidI hin; have HST := hidI hst; have HSO := hidI hso
  obtain ⟨i0, hi0, hz0, hz1, hz2⟩ := info_parts infoE
  clear hin hst hso
  obtain ⟨w0, hw0⟩ : ∃ w0, w0 = ((w.alloc (.cells #[.int .i64 G.q, .int .i64 G.n, .slice p G.es.length c] 24)).alloc (.cells #[.int .i64 0, .int .i64 0, .slice none 0 0] 24)).alloc (.cells #[.int .i64 G.q, .int .i64 st.length, .slice none 0 0] 24) := ⟨_, rfl⟩
  have b0 : VRow w0 w.heap.size 24 [.int .i64 G.q, .int .i64 G.n, .slice p G.es.length c] := by subst hw0; exact ((VRow.new w _ _).alloc _).alloc _
  have b1 : VRow w0 (w.heap.size + 1) 24 [.int .i64 0, .int .i64 0, .slice none 0 0] := by subst hw0; exact (VRow.new1 w _ _ _).alloc _
  have b2 : VRow w0 (w.heap.size + 1 + 1) 24 [.int .i64 G.q, .int .i64 st.length, .slice none 0 0] := by subst hw0; exact VRow.new2 w _ _ _ _
  have hB0 : Below w.heap.size w w0 := by subst hw0; exact (((Below.refl _ _).alloc (Nat.le_refl _) _).alloc (by simp) _).alloc (by simp; omega) _
  have hsz0 : w0.heap.size = w.heap.size + 1 + 1 + 1 := by subst hw0; simp
  go_enter Tryd.func30, Tryd.ntmps30
  go_wp2
  rw [← hw0]
  clear hw0
  go_loopw [20] (fun iv wr => ∃ (k : Nat) (v : Value), k ≤ G.es.length ∧ iv = .int .i64 k ∧ VRow wr w.heap.size 24 [.int .i64 G.q, .int .i64 G.n, .slice p G.es.length c] ∧ VRow wr (w.heap.size + 1) 24 [.int .i64 0, .int .i64 0, .slice none 0 0] ∧ VRow wr (w.heap.size + 1 + 1) 24 [.int .i64 G.q, .int .i64 st.length, v] ∧
      wr.ownsRow (w.heap.size + 1 + 1 + 1) 40 3 v ((G.es.take k).filterMap (partE st)).length (cat ((G.es.take k).filterMap (partE st))) ∧ Below w.heap.size w wr ∧ w.heap.size + 1 + 1 + 1 ≤ wr.heap.size) (fun iv _ => G.es.length - (intOf iv).toNat)
  case atStart => exact ⟨0, _, by omega, rfl, b0, b1, b2, World.ownsRow_nil _ _ _ _, hB0, by omega⟩
  case round =>
    obtain ⟨k, v, hk, rfl, c0, c1, c2, hown, hB, hge⟩ := hrel
    have f2 := c0.at 2 rfl
    by_cases hlt : k < G.es.length
    · obtain ⟨b3, o3, rfl, hb3, e0, e1, e2⟩ := (HIN.out.below hB).get3 k hlt rfl
      have hSN := hidI (partE_snoc st G.es k hlt)
      have hML : ((G.es.take k).filterMap (partE st)).length ≤ k := Nat.le_trans (List.length_filterMap_le _ _) (by rw [List.length_take]; omega)
      generalize (G.es.take k).filterMap (partE st) = M at *
      generalize hx : G.es[k] = x at *
      have HS1 : Sl (wr.alloc (.cells #[.int .i64 x.f, .int .i64 x.l, .int .i64 x.t] 40)) (Value.int .i64) q st := HST.out.below (hB.alloc hB.size _)
      have y0 : VRow (wr.alloc (.cells #[.int .i64 x.f, .int .i64 x.l, .int .i64 x.t] 40)) wr.heap.size 40 (edE x) := VRow.new wr _ _
      have hown1 := hown.alloc (.cells #[.int .i64 x.f, .int .i64 x.l, .int .i64 x.t] 40)
      have d0 := c0.alloc (.cells #[.int .i64 x.f, .int .i64 x.l, .int .i64 x.t] 40)
      have d1 := c1.alloc (.cells #[.int .i64 x.f, .int .i64 x.l, .int .i64 x.t] 40)
      have d2 := c2.alloc (.cells #[.int .i64 x.f, .int .i64 x.l, .int .i64 x.t] 40)
      have hB1 := hB.alloc hB.size (.cells #[.int .i64 x.f, .int .i64 x.l, .int .i64 x.t] 40)
      have hsz1 : (wr.alloc (.cells #[.int .i64 x.f, .int .i64 x.l, .int .i64 x.t] 40)).heap.size = wr.heap.size + 1 := World.size_alloc _ _
      go_wp2_with fail
      generalize (wr.alloc (.cells #[.int .i64 x.f, .int .i64 x.l, .int .i64 x.t] 40)) = W1 at *
      have g0 := y0.at 0 rfl; have g1 := y0.at 1 rfl; have g2 := y0.at 2 rfl
      have k0 := d2.at 0 rfl; have k1 := d2.at 1 rfl; have k2 := d2.at 2 rfl; have kf := d2.frozen 2
      clear e0 e1 e2 f2
      refine (binI_any st q d x.f W1 HS1 HSO.out hs).mono ?_
      rintro e wa ⟨⟨i, rfl, hi⟩, hDa⟩
      have HS2 := HS1.dr hDa
      have y1 := y0.dr hDa
      have l2 := y1.at 2 rfl
      have g2 := y1.at 2 rfl
      clear g0 g1 k0 k1 k2 kf
      go_wp2_with fail
      refine (binI_any st q d x.t wa HS2 HSO.out hs).mono ?_
      rintro e W2 ⟨⟨j, rfl, hj⟩, hDb⟩
      have hD := hDa.trans hDb
      have y2 := y0.dr hD
      have g1 := y2.at 1 rfl
      have hownq := hown1.dr hD
      have hq0 := d0.dr hD
      have hq1 := d1.dr hD
      have hq2 := d2.dr hD
      have hBq := hB1.trans (hD.below _)
      have hszq : W2.heap.size = wr.heap.size + 1 := by rw [hD.size]; exact hsz1
      have kk2 := hq2.at 2 rfl
      clear d0 d1 d2 hown1 hB1 hsz1 HS1 HS2 y0 y1 y2 hDa hDb hD l2 g2
      by_cases hm : x.f ∈ st ∧ x.t ∈ st
      · have HSN : Hid (List.filterMap (partE st) (G.es.take (k + 1)) = M ++ [⟨i, x.l, j⟩]) := by rw [Hid, hSN.out, part_go hm, hi hm.1, hj hm.2]
        have m1 : decide (x.f ∈ st) = true := decide_eq_true hm.1
        have m2 : decide (x.t ∈ st) = true := decide_eq_true hm.2
        rw [m1, m2]
        clear hSN hi hj hm m1 m2
        have hnew := cell_new3 W2 ⟨i, x.l, j⟩ 40 (wr.heap.size + 1) hszq
        have hownA := hownq.alloc (.cells (edE ⟨i, x.l, j⟩).toArray 40)
        have hBA := hBq.alloc hBq.size (.cells (edE ⟨i, x.l, j⟩).toArray 40)
        have p0 := hq0.alloc (.cells (edE ⟨i, x.l, j⟩).toArray 40)
        have p1 := hq1.alloc (.cells (edE ⟨i, x.l, j⟩).toArray 40)
        have p2 := hq2.alloc (.cells (edE ⟨i, x.l, j⟩).toArray 40)
        have hne : ∀ j, v.ownBlock = some j → w.heap.size + 1 + 1 + 1 ≤ j := fun j e => (hownq.lt j e).1
        go_wp2_with (at_builtin; refine wpList_append_own _ rfl _ _ 22 rfl (w.heap.size + 1 + 1 + 1) 40 i0 _ 3 24 Tryd.underlying22 hi0 hz0 hz1 hz2 rfl (by decide) _ _ _ rfl hownA ⟨wr.heap.size + 1, 0, none⟩ 1 1 (cat [⟨i, x.l, j⟩]) rfl rfl hnew (cat_one _) (by simp [maxLen]; omega) (by omega) (by rw [World.size_alloc, hszq]; omega) ?_; intro v' w1 hown' hgrow _; rw [← cat_app] at hown'; obtain ⟨pv, mv, cv, rfl⟩ := own_shape hown'; have r2 := VRow.grown p2 hgrow (fun e => by have := hne _ e.symm; omega); have z2 := r2.frozen 2; have s2 := r2.at 2 rfl)
        have hr0 := VRow.other (i := 2) (.slice pv mv cv) (p0.grown hgrow (fun e => by have := hne _ e.symm; omega)) (C := w.heap.size + 1 + 1) (by omega)
        have hr1 := VRow.other (i := 2) (.slice pv mv cv) (p1.grown hgrow (fun e => by have := hne _ e.symm; omega)) (C := w.heap.size + 1 + 1) (by omega)
        have hBf : RowKit.Below w.heap.size w (w1.setCell (⟨w.heap.size + 1 + 1, 2, none⟩ : Addr) (.slice pv mv cv)) := (hBA.grown hgrow (Nat.le_trans hBq.size (by simp)) (fun j e => by have := hne _ e; omega)).setCell (show w.heap.size ≤ w.heap.size + 1 + 1 by omega) _
        go_roundw
        case rel =>
          refine ⟨k + 1, _, by omega, by go_num, hr0, hr1, VRow.set (i := 2) _ r2, ?_, hBf, ?_⟩
          · rw [HSN.out]
            exact ownsRow_setCell_below (a := (⟨w.heap.size + 1 + 1, 2, none⟩ : Addr)) (own_conv hown' rfl (Nat.le_refl _)) (show w.heap.size + 1 + 1 < w.heap.size + 1 + 1 + 1 by omega) _
          · rw [World.size_setCell]; have := hgrow.size; rw [World.size_alloc] at this; omega
        case measure => simp [intOf]; omega
      · have HSN : Hid (List.filterMap (partE st) (G.es.take (k + 1)) = M) := by rw [Hid, hSN.out, part_stop hm]; simp
        have hor : decide (x.f ∈ st) = false ∨ (decide (x.f ∈ st) = true ∧ decide (x.t ∈ st) = false) := by
          by_cases h1 : x.f ∈ st
          · exact .inr ⟨decide_eq_true h1, decide_eq_false (fun h2 => hm ⟨h1, h2⟩)⟩
          · exact .inl (decide_eq_false h1)
        clear hSN hm hi hj
        generalize decide (x.f ∈ st) = b1 at *
        generalize decide (x.t ∈ st) = b2 at *
        rcases hor with rfl | ⟨rfl, rfl⟩
        all_goals
          go_wp2_with fail
          go_roundw
          case rel =>
            refine ⟨k + 1, v, by omega, by go_num, hq0, hq1, hq2, ?_, hBq, by omega⟩
            rw [HSN.out]; exact hownq
          case measure => simp [intOf]; omega
    · obtain rfl : k = G.es.length := by omega
      rw [List.take_length] at hown
      have k0 := c2.at 0 rfl; have k1 := c2.at 1 rfl; have k2 := c2.at 2 rfl
      have j0 := c1.at 0 rfl; have j1 := c1.at 1 rfl; have j2 := c1.at 2 rfl
      have z0 := c1.frozen 0; have z1 := c1.frozen 1; have z2 := c1.frozen 2
      obtain ⟨pv, mv, cv, rfl⟩ := own_shape hown
      go_wp2
      have r6 := VRow.set (i := 2) (.slice pv mv cv) (VRow.set (i := 1) (.int .i64 st.length) (VRow.set (i := 0) (.int .i64 G.q) c1))
      have y0 := r6.at 0 rfl; have y1 := r6.at 1 rfl; have y2 := r6.at 2 rfl
      have hz0 : w.heap.size + 1 < w.heap.size + 1 + 1 + 1 := by omega
      have o6 := ownsRow_setCell_below (a := (⟨w.heap.size + 1, 2, none⟩ : Addr)) (ownsRow_setCell_below (a := (⟨w.heap.size + 1, 1, none⟩ : Addr)) (ownsRow_setCell_below (a := (⟨w.heap.size + 1, 0, none⟩ : Addr)) hown hz0 (.int .i64 G.q)) hz0 (.int .i64 st.length)) hz0 (.slice pv mv cv)
      have x6 : RowKit.Below w.heap.size w (((wr.setCell (⟨w.heap.size + 1, 0, none⟩ : Addr) (.int .i64 G.q)).setCell (⟨w.heap.size + 1, 1, none⟩ : Addr) (.int .i64 st.length)).setCell (⟨w.heap.size + 1, 2, none⟩ : Addr) (.slice pv mv cv)) :=
        ((hB.setCell (show w.heap.size ≤ w.heap.size + 1 by omega) _).setCell (show w.heap.size ≤ w.heap.size + 1 by omega) _).setCell (show w.heap.size ≤ w.heap.size + 1 by omega) _
      refine bodyPost_ret (v := .agg #[.int .i64 G.q, .int .i64 st.length, .slice pv mv cv]) (by simp [results, Tryd.results30, go_sem, y0, y1, y2]) rfl ?_
      exact ⟨_, _, _, rfl, own_conv o6 rfl (by omega), x6⟩
end Go.Proofs.YtcfmpplhghkagaaDoor
namespace Go.Proofs.YtcfmpplhghkagaaDoor
open Go.RowKit Go.Sort Go.Shelf Go.Lib

theorem infoIn : (Tryd.prog.info? 3).map (fun i => (i.zero, i.size, i.bytes)) = some (some (.int .i64 0), 1, 8) := by kernel_rfl
/-- Where edges that leave a state stand, among the first k. -/
def outI (es : List Ed) (s : Int) (k : Nat) : List Int := ((List.range k).filter (fun i => decide (es[i]?.map Ed.f = some s))).map (fun (i : Nat) => (i : Int))
theorem outI_zero (es : List Ed) (s : Int) : outI es s 0 = [] := rfl
theorem outI_succ {es : List Ed} {s : Int} {k : Nat} (h : k < es.length) : outI es s (k + 1) = outI es s k ++ (if es[k].f = s then [(k : Int)] else []) := by
  unfold outI
  rw [List.range_succ, List.filter_append, List.map_append]
  congr 1
  by_cases hs : es[k].f = s <;> simp [h, hs]
theorem outI_len (es : List Ed) (s : Int) (k : Nat) : (outI es s k).length ≤ k := by
  unfold outI
  rw [List.length_map]
  exact Nat.le_trans (List.length_filter_le _ _) (by simp)
/-- Where edges that leave a state stand, and the error. -/
def outA (G : Gr) (s : Int) : List Int × Int := if chkG G = 0 then (if s < 0 ∨ G.n ≤ s then ([], 25) else (outI G.es s G.es.length, 0)) else ([], 1)
/-- A list of numbers in memory of the call's own, and an error. -/
def RetLi (r : List Int) (k : Int) (w : World) (e : Ending) (w' : World) : Prop := ∃ p m c, e = .returned (.tuple #[.slice p m c, .int .i64 k]) ∧ w'.ownsRow w.heap.size 3 1 (.slice p m c) r.length (r.map (Value.int .i64)) ∧ RowKit.Below w.heap.size w w'
theorem RetLi.of {x : List Int × Int} {r : List Int} {k : Int} {w w' : World} {B m : Nat} {v : Value} (hx : x = (r, k)) (h : w'.ownsRow B 3 1 v r.length (r.map (Value.int .i64))) (hm : w.heap.size ≤ B) (hB : RowKit.Below w.heap.size w w') :
    RetLi x.1 x.2 w (.returned (.tuple #[v, .int .i64 k])) w' := by
  subst hx
  obtain ⟨p, c, rfl, _⟩ := own_sl h
  exact ⟨p, _, c, rfl, ⟨h.1, h.2.imp id (fun ⟨g, cap, cur, a, b, z⟩ => ⟨g, cap, cur, a, Nat.le_trans hm b, z⟩)⟩, hB⟩
theorem RetLi.nil {x : List Int × Int} {k : Int} {w w' : World} (hx : x = ([], k)) (hB : RowKit.Below w.heap.size w w') :
    RetLi x.1 x.2 w (.returned (.tuple #[.slice none 0 0, .int .i64 k])) w' := by
  subst hx; exact ⟨none, 0, 0, rfl, World.ownsRow_nil _ _ _ _, hB⟩

end Go.Proofs.YtcfmpplhghkagaaDoor
namespace Go.Proofs.YtcfmpplhghkagaaDoor
open Go.RowKit

def cmsE (es : List Ed) (st : List Int) (s : Int) : Bool := es.any (fun x => decide (x.t = s) && decide (x.f ∈ st))
def goesE (es : List Ed) (st : List Int) (s : Int) : Bool := es.any (fun x => decide (x.f = s) && decide (x.t ∈ st))
/-- One round: states with an edge to them and one from them. -/
def essP (es : List Ed) (st : List Int) (s : Int) : Bool := cmsE es st s && goesE es st s
def essS (es : List Ed) (st : List Int) : List Int := st.filter (essP es st)
theorem essS_le (es : List Ed) (st : List Int) : (essS es st).length ≤ st.length := List.length_filter_le _ _
/-- The states of the essential part. -/
def ess (es : List Ed) (st : List Int) : List Int := if (essS es st).length = st.length then st else ess es (essS es st)
termination_by st.length
decreasing_by
  have := essS_le es st; omega
theorem ess_stop {es : List Ed} {st : List Int} (h : (essS es st).length = st.length) : ess es st = st := by rw [ess, if_pos h]
theorem ess_go {es : List Ed} {st : List Int} (h : ¬ (essS es st).length = st.length) : ess es st = ess es (essS es st) := by rw [ess, if_neg h]
theorem filter_all {p : Int → Bool} : ∀ {l : List Int}, (l.filter p).length = l.length → l.filter p = l := by
  intro l h
  exact List.filter_eq_self.2 (by
    intro a ha
    have := List.length_filter_eq_length_iff.1 h
    exact this a ha)
theorem essS_eq {es : List Ed} {st : List Int} (h : (essS es st).length = st.length) : essS es st = st := filter_all h
theorem essS_srt {es : List Ed} {st : List Int} (h : st.Pairwise (· < ·)) : (essS es st).Pairwise (· < ·) := h.filter _
theorem filter_snoc (p : Int → Bool) (l : List Int) (k : Nat) (h : k < l.length) : (l.take (k + 1)).filter p = (l.take k).filter p ++ (if p l[k] = true then [l[k]] else []) := by
  rw [List.take_succ_eq_append_getElem h, List.filter_append]
  congr 1
  cases hp : p l[k] <;> simp [hp]
theorem any_snoc {α : Type} (p : α → Bool) (l : List α) (k : Nat) (h : k < l.length) : (l.take (k + 1)).any p = ((l.take k).any p || p l[k]) := by
  rw [List.take_succ_eq_append_getElem h, List.any_append]; simp
/-- The numbers below n. -/
def upto (n : Nat) : List Int := (List.range n).map (fun (i : Nat) => (i : Int))
theorem upto_succ (n : Nat) : upto (n + 1) = upto n ++ [(n : Int)] := by simp [upto, List.range_succ]
theorem upto_len (n : Nat) : (upto n).length = n := by simp [upto]
theorem upto_srt (n : Nat) : (upto n).Pairwise (· < ·) := by
  induction n with
  | zero => simp [upto]
  | succ n ih =>
    rw [upto_succ, List.pairwise_append]
    refine ⟨ih, by simp, fun a ha b hb => ?_⟩
    simp only [List.mem_singleton] at hb
    subst hb
    simp only [upto, List.mem_map, List.mem_range] at ha
    obtain ⟨i, hi, rfl⟩ := ha
    omega
/-- The essential part, its states, and the error. -/
def essA (G : Gr) : Gr × List Int × Int := if chkG G = 0 then (partA G (ess G.es (upto G.n.toNat)), ess G.es (upto G.n.toNat), 0) else (⟨0, 0, []⟩, [], 1)
theorem essA_ok {G : Gr} (h : chkG G = 0) : essA G = (partA G (ess G.es (upto G.n.toNat)), ess G.es (upto G.n.toNat), 0) := if_pos h
theorem essA_bad {G : Gr} (h : ¬ chkG G = 0) : essA G = (⟨0, 0, []⟩, [], 1) := if_neg h
end Go.Proofs.YtcfmpplhghkagaaDoor
namespace Go.Proofs.YtcfmpplhghkagaaDoor
open Go.RowKit Go.ChangeMaps Go.MapKept Go.WideShapes Go.Maps

/-- The keys of a kind, as they lie in memory. -/
structure KeyBy {α : Type} (P : Program) (k : TypeId) (kv : α → Value) (ok : α → Prop) : Prop where
  law : Keyed P k
  reads : ∀ a, ok a → ∃ l, keyOf P k (kv a) = some l
  inj : ∀ a b, ok a → ok b → kv a = kv b → a = b

/-- Block b is a map that answers as f does. -/
def Mp {α β : Type} (kv : α → Value) (ok : α → Prop) (vv : β → Value) (w : World) (b : Nat) (f : α → Option β) : Prop :=
  ∃ es clock, w.heap[b]? = some (.map es clock) ∧ es.toList.Pairwise (fun x y => x.key ≠ y.key) ∧
    (∀ e ∈ es.toList, ∃ a x, e.key = kv a ∧ ok a ∧ e.val = vv x ∧ f a = some x) ∧ (∀ a x, f a = some x → ∃ e ∈ es.toList, e.key = kv a)

section
variable {α β : Type} {kv : α → Value} {ok : α → Prop} {vv : β → Value} {w : World} {b : Nat} {f : α → Option β} {P : Program} {k : TypeId}

theorem Mp.lt (h : Mp kv ok vv w b f) : b < w.heap.size := by
  obtain ⟨es, clock, hb, _⟩ := h
  exact (Array.getElem?_eq_some_iff.1 hb).1
theorem Mp.same {w' : World} (h : Mp kv ok vv w b f) (hb : w'.heap[b]? = w.heap[b]?) : Mp kv ok vv w' b f := by
  obtain ⟨es, clock, hb', r⟩ := h
  exact ⟨es, clock, hb.trans hb', r⟩
theorem Mp.alloc (h : Mp kv ok vv w b f) (o : Obj) : Mp kv ok vv (w.alloc o) b f := h.same (Below.heap_alloc w o b h.lt)
theorem Mp.drewN (h : Mp kv ok vv w b f) (n : Nat) : Mp kv ok vv (w.drewN n) b f := h
theorem Mp.drew (h : Mp kv ok vv w b f) : Mp kv ok vv w.drew b f := h
theorem Mp.below {w' : World} {B : Nat} (h : Mp kv ok vv w b f) (hB : Below B w w') (hb : b < B) : Mp kv ok vv w' b f := h.same (hB.block b hb)
theorem Mp.kept {w' : World} {row : Option Nat} (h : Mp kv ok vv w b f) (hg : w.grownBy w' row) (hne : some b ≠ row) : Mp kv ok vv w' b f :=
  h.same (hg.block b h.lt hne)
theorem Mp.setCell (h : Mp kv ok vv w b f) {a : Addr} (ha : b ≠ a.block) (u : Value) : Mp kv ok vv (w.setCell a u) b f := h.same (Below.heap_setCell _ _ _ _ ha)
theorem Mp.made (w : World) : Mp kv ok vv (w.alloc (.map #[] 0)) w.heap.size (fun _ => none) :=
  ⟨#[], 0, heap_alloc_new w _, by simp, by simp, by simp⟩
theorem Mp.congr {g : α → Option β} (h : Mp kv ok vv w b f) (e : ∀ a, f a = g a) : Mp kv ok vv w b g := by
  have : f = g := funext e
  exact this ▸ h

theorem Mp.look {t e : TypeId} (h : Mp kv ok vv w b f) (K : KeyBy P k kv ok) (ht : P.underlying t = some (.map k e)) {z : Value} (hz : (zeroValue e).run P w = .ok z w) (a : α) (ha : ok a) (c : Bool) :
    (Instr.lookup t (.map (some b)) (kv a) c).run P w = .ok (match f a with | some x => if c then .tuple #[vv x, .bool true] else vv x | none => if c then .tuple #[z, .bool false] else z) w := by
  obtain ⟨es, clock, hb, hd, hr, hc⟩ := h
  obtain ⟨kl, hkey⟩ := K.reads a ha
  have hkeys : ∀ e ∈ es.toList, ∃ l, keyOf P k e.key = some l := fun e he => by
    obtain ⟨a', x, h1, h2, _⟩ := hr e he
    rw [h1]; exact K.reads a' h2
  rcases K.law.find w hkey es.toList hkeys with ⟨h1, h2⟩ | ⟨j, e0, h1, h2, h3⟩
  · have hf : f a = none := by
      cases hfa : f a with
      | none => rfl
      | some x => obtain ⟨e, he, hk⟩ := hc a x hfa; exact absurd hk (h2 e he)
    rw [hf]
    simp [Instr.lookup, run_underlying ht, MapKept.run_getObj_map hb, K.law.check w _ hkey, h1, hz, Result.andThen]
  · obtain ⟨a', x, g1, g2, g3, g4⟩ := hr e0 (List.mem_of_getElem? h2)
    obtain rfl := K.inj a' a g2 ha (g1.symm.trans h3)
    rw [g4]
    simp [Instr.lookup, run_underlying ht, MapKept.run_getObj_map hb, K.law.check w _ hkey, h1, g3, Result.andThen]

/-- One key more, or another value at it. -/
def mset [DecidableEq α] (f : α → Option β) (a : α) (x : β) : α → Option β := fun a' => if a' = a then some x else f a'
theorem mset_at [DecidableEq α] (f : α → Option β) (a : α) (x : β) : mset f a x a = some x := by simp [mset]
theorem mset_ne [DecidableEq α] (f : α → Option β) (a a' : α) (x : β) (h : a' ≠ a) : mset f a x a' = f a' := by simp [mset, h]

theorem Mp.store [DecidableEq α] {t e : TypeId} (h : Mp kv ok vv w b f) (K : KeyBy P k kv ok) (ht : P.underlying t = some (.map k e)) (a : α) (ha : ok a) (x : β) :
    ∃ w', (Instr.mapUpdate t (.map (some b)) (kv a) (vv x)).run P w = .ok () w' ∧ Mp kv ok vv w' b (mset f a x) ∧ w.mapTurned w' b := by
  obtain ⟨es, clock, hb, hd, hr, hc⟩ := h
  obtain ⟨kl, hkey⟩ := K.reads a ha
  have hkeys : ∀ e ∈ es.toList, ∃ l, keyOf P k e.key = some l := fun e he => by
    obtain ⟨a', x, h1, h2, _⟩ := hr e he
    rw [h1]; exact K.reads a' h2
  rcases K.law.find w hkey es.toList hkeys with ⟨h1, h2⟩ | ⟨j, e0, h1, h2, h3⟩
  · refine ⟨_, ?_, ⟨es.push ⟨kv a, vv x, clock⟩, clock + 1, heap_setBlock_same hb _, ?_, ?_, ?_⟩, ⟨es, clock, _, _, hb, rfl⟩⟩
    · simp [Instr.mapUpdate, run_underlying ht, MapKept.run_getObj_map hb, K.law.check w false hkey, h1, MapKept.run_setObj_map _ hb, Result.andThen, setBlock]
    · rw [Array.toList_push, List.pairwise_append]
      refine ⟨hd, by simp, fun y hy z hz => ?_⟩
      simp only [List.mem_singleton] at hz; subst hz
      exact h2 y hy
    · intro y hy
      rw [Array.toList_push, List.mem_append, List.mem_singleton] at hy
      rcases hy with hy | rfl
      · obtain ⟨a', x', g1, g2, g3, g4⟩ := hr y hy
        refine ⟨a', x', g1, g2, g3, ?_⟩
        rw [mset_ne _ _ _ _ (fun e => h2 y hy (by rw [g1, e]))]; exact g4
      · exact ⟨a, x, rfl, ha, rfl, mset_at _ _ _⟩
    · intro a' x' hfa
      by_cases e : a' = a
      · subst e; exact ⟨⟨kv a', vv x, clock⟩, by simp, rfl⟩
      · rw [mset_ne _ _ _ _ e] at hfa
        obtain ⟨y, hy, hk⟩ := hc a' x' hfa
        exact ⟨y, by simp [Array.toList_push]; exact .inl (by simpa using hy), hk⟩
  · have hj : es[j]? = some e0 := by simpa using h2
    have hjl : j < es.toList.length := (List.getElem?_eq_some_iff.1 h2).1
    have hlist : (es.modify j (fun e' => { e' with key := kv a, val := vv x })).toList = es.toList.set j { e0 with key := kv a, val := vv x } := by rw [Array.toList_modify, modify_eq_set _ _ _ _ h2]
    have hkm : (es.toList.set j { e0 with key := kv a, val := vv x }).map MapEntry.key = es.toList.map MapEntry.key := by
      rw [List.map_set]
      apply List.ext_getElem?
      intro i
      rw [List.getElem?_set]
      split
      · rename_i hi; subst hi
        rw [if_pos (by simpa using hjl), List.getElem?_map, h2]
        simp [h3]
      · rfl
    have hd' : (es.toList.set j { e0 with key := kv a, val := vv x }).Pairwise (fun x y => x.key ≠ y.key) := by
      have hn : (es.toList.map MapEntry.key).Pairwise (· ≠ ·) := List.pairwise_map.2 hd
      rw [← hkm] at hn
      exact List.pairwise_map.1 hn
    refine ⟨_, ?_, ⟨es.modify j (fun e' => { e' with key := kv a, val := vv x }), clock, heap_setBlock_same hb _, ?_, ?_, ?_⟩, ⟨es, clock, _, _, hb, rfl⟩⟩
    · have hst := K.law.stays w hkey
      simp [Instr.mapUpdate, run_underlying ht, MapKept.run_getObj_map hb, K.law.check w false hkey, h1, hj, h3, hst, MapKept.run_setObj_map _ hb, Result.andThen, setBlock]
    · rw [hlist]; exact hd'
    · intro y hy
      rw [hlist] at hy
      obtain ⟨i, hi, hyi⟩ := List.mem_iff_getElem.1 hy
      rw [List.getElem_set] at hyi
      split at hyi
      · subst hyi; exact ⟨a, x, rfl, ha, rfl, mset_at _ _ _⟩
      · rename_i hne
        have hi' : i < es.toList.length := by simpa using hi
        have hym : y ∈ es.toList := by rw [← hyi]; exact List.getElem_mem _
        obtain ⟨a', x', g1, g2, g3, g4⟩ := hr y hym
        refine ⟨a', x', g1, g2, g3, ?_⟩
        rw [mset_ne]
        · exact g4
        · rintro rfl
          have e1 : es.toList[i].key = es.toList[j].key := by
            rw [hyi, g1]
            have : es.toList[j] = e0 := by have := List.getElem?_eq_getElem hjl; rw [h2] at this; exact (Option.some.inj this).symm
            rw [this, h3]
          rcases Nat.lt_or_gt_of_ne (fun e => hne e) with hlt | hlt
          · exact (List.pairwise_iff_getElem.1 hd j i hjl hi' hlt) e1.symm
          · exact (List.pairwise_iff_getElem.1 hd i j hi' hjl hlt) e1
    · intro a' x' hfa
      rw [hlist]
      by_cases e : a' = a
      · subst e
        exact ⟨_, List.mem_of_getElem? (by rw [List.getElem?_set_self hjl]), rfl⟩
      · rw [mset_ne _ _ _ _ e] at hfa
        obtain ⟨y, hy, hk⟩ := hc a' x' hfa
        have : y.key ∈ (es.toList.set j { e0 with key := kv a, val := vv x }).map MapEntry.key := by rw [hkm]; exact List.mem_map_of_mem hy
        obtain ⟨y', hy', e'⟩ := List.mem_map.1 this
        exact ⟨y', hy', e'.trans hk⟩

/-! ### at the operation, for the walk -/
theorem wpList_lookup_mp {ops : Array Oper} {rest : List Oper} {o : Oper} {a : Act} {Q : Exit → Act → World → Prop}
    (hg : o.guard = none) (m x : Operand) (t : TypeId) (c : Bool) (hop : o.op = Op.lookup t m x c) (e : TypeId) (K : KeyBy P k kv ok) (ht : P.underlying t = some (.map k e)) (z : Value) (hz : (zeroValue e).run P w = .ok z w)
    (b : Nat) (f : α → Option β) (hm : a.eval m = .map (some b)) (hown : Mp kv ok vv w b f) (key : α) (hx : a.eval x = kv key) (hkey : ok key) (r : Value)
    (hr : (match f key with | some x => if c then .tuple #[vv x, .bool true] else vv x | none => if c then .tuple #[z, .bool false] else z) = r)
    (hK : wpList P ops Q rest (a.put o.dst r) w) : wpList P ops Q (o :: rest) a w := by
  refine wpList_plain hg fun K' hK' => ?_
  have hrun := hown.look K ht hz key hkey c
  rw [hr] at hrun
  unfold Oper.wp
  simp [execOp, hop, hm, hx, hrun, Result.andThen]
  exact hK' _ _ hK
theorem wpList_update_mp [DecidableEq α] {ops : Array Oper} {rest : List Oper} {o : Oper} {a : Act} {Q : Exit → Act → World → Prop}
    (hg : o.guard = none) (m x v : Operand) (t : TypeId) (hop : o.op = Op.mapUpdate t m x v) (e : TypeId) (K : KeyBy P k kv ok) (ht : P.underlying t = some (.map k e))
    (b : Nat) (f : α → Option β) (hm : a.eval m = .map (some b)) (hown : Mp kv ok vv w b f) (key : α) (hx : a.eval x = kv key) (hkey : ok key) (val : β) (hv : a.eval v = vv val)
    (hK : ∀ w', Mp kv ok vv w' b (mset f key val) → w.mapTurned w' b → wpList P ops Q rest (a.put o.dst undef) w') : wpList P ops Q (o :: rest) a w := by
  refine wpList_plain hg fun K' hK' => ?_
  obtain ⟨w', hrun, r1, r2⟩ := hown.store K ht key hkey val
  unfold Oper.wp
  simp [execOp, hop, hm, hx, hv, hrun, Result.andThen]
  exact hK' _ _ (hK w' r1 r2)
variable {F : Fence} {nF : Nat}
theorem wpListIn_lookup_mp {ops : Array Oper} {rest : List Oper} {o : Oper} {a : Act} {Q : Exit → Act → World → Prop}
    (hg : o.guard = none) (m x : Operand) (t : TypeId) (c : Bool) (hop : o.op = Op.lookup t m x c) (e : TypeId) (K : KeyBy P k kv ok) (ht : P.underlying t = some (.map k e)) (z : Value) (hz : (zeroValue e).run P w = .ok z w)
    (b : Nat) (f : α → Option β) (hm : a.eval m = .map (some b)) (hown : Mp kv ok vv w b f) (key : α) (hx : a.eval x = kv key) (hkey : ok key) (r : Value)
    (hr : (match f key with | some x => if c then .tuple #[vv x, .bool true] else vv x | none => if c then .tuple #[z, .bool false] else z) = r)
    (hK : wpListIn F nF P ops Q rest (a.put o.dst r) w) : wpListIn F nF P ops Q (o :: rest) a w := by
  refine wpListIn_plain hg fun K' hK' => ?_
  have hrun := hown.look K ht hz key hkey c
  rw [hr] at hrun
  unfold Oper.wpIn
  refine ⟨by simp [Oper.about, hop], ?_⟩
  rw [Oper.semAt_plain F _ _ (by rw [hop]; intro c hc'; cases hc')]
  simp [execOp, hop, hm, hx, hrun, Result.andThen]
  exact hK' _ _ hK
theorem wpListIn_update_mp [DecidableEq α] {ops : Array Oper} {rest : List Oper} {o : Oper} {a : Act} {Q : Exit → Act → World → Prop}
    (hg : o.guard = none) (m x v : Operand) (t : TypeId) (hop : o.op = Op.mapUpdate t m x v) (e : TypeId) (K : KeyBy P k kv ok) (ht : P.underlying t = some (.map k e))
    (b : Nat) (f : α → Option β) (hm : a.eval m = .map (some b)) (hown : Mp kv ok vv w b f) (key : α) (hx : a.eval x = kv key) (hkey : ok key) (val : β) (hv : a.eval v = vv val)
    (hK : ∀ w', Mp kv ok vv w' b (mset f key val) → w.mapTurned w' b → wpListIn F nF P ops Q rest (a.put o.dst undef) w') : wpListIn F nF P ops Q (o :: rest) a w := by
  refine wpListIn_plain hg fun K' hK' => ?_
  obtain ⟨w', hrun, r1, r2⟩ := hown.store K ht key hkey val
  unfold Oper.wpIn
  refine ⟨by simp [Oper.about, hop], ?_⟩
  rw [Oper.semAt_plain F _ _ (by rw [hop]; intro c hc'; cases hc')]
  simp [execOp, hop, hm, hx, hv, hrun, Result.andThen]
  exact hK' _ _ (hK w' r1 r2)
end
end Go.Proofs.YtcfmpplhghkagaaDoor
namespace Go.Proofs.YtcfmpplhghkagaaDoor
open Go.RowKit Go.Sort Go.Shelf Go.Lib

def okI (a : Int) : Prop := (Lit.int .i64 a).wf = true
theorem okI_of {a : Int} (h0 : 0 ≤ a) (h1 : a ≤ 1000000) : okI a := WalkArith.wf_i64 (by omega)
theorem keyI : KeyBy Tryd.prog 3 (Value.int .i64) okI where
  law := Maps.int_keyed Tryd.underlying3
  reads := fun a ha => ⟨.int .i64 a, by simp [keyOf, mapKey, Tryd.underlying3]; exact ha⟩
  inj := fun a b _ _ h => by simpa using h
theorem zeroBl (w : World) : (zeroValue 4).run Tryd.prog w = .ok (.bool false) w := by kernel_rfl
/-- Block b is a map of numbers in which those that f names are true. -/
def MapB (w : World) (b : Nat) (f : Int → Bool) : Prop := Mp (Value.int .i64) okI Value.bool w b (fun a => if f a = true then some true else none)
theorem MapB.congr {w : World} {b : Nat} {f g : Int → Bool} (h : MapB w b f) (e : ∀ a, f a = g a) : MapB w b g := by
  have : f = g := funext e
  exact this ▸ h
theorem MapB.look {w : World} {b : Nat} {f : Int → Bool} (h : MapB w b f) (a : Int) (ha : okI a) : (Instr.lookup 67 (.map (some b)) (.int .i64 a) false).run Tryd.prog w = .ok (.bool (f a)) w := by
  have := Mp.look h keyI Tryd.underlying67 (zeroBl w) a ha false
  rw [this]
  cases f a <;> rfl

set_option maxRecDepth 100000 in
set_option maxHeartbeats 1000000 in
/-- The closure: a state is left out if no edge leads to it, or none leaves it. -/
theorem gEss1_gives (f g : Int → Bool) (b1 b2 m1 m2 : Nat) (W : World) (x : Int) (hx : okI x) (h1 : W.cell? ⟨b1, 0, none⟩ = some (.map (some m1))) (h2 : W.cell? ⟨b2, 0, none⟩ = some (.map (some m2))) (hf : MapB W m1 f) (hg : MapB W m2 g) :
    FnGives Tryd.prog 29 #[.pointer (some ⟨b1, 0, none⟩), .pointer (some ⟨b2, 0, none⟩)] #[.int .i64 x] (.bool (!(f x && g x))) W := by
  show Calls Tryd.prog 29 #[.int .i64 x, .pointer (some ⟨b1, 0, none⟩), .pointer (some ⟨b2, 0, none⟩)] W _
  have l1 := hf.look x hx
  have l2 := hg.look x hx
  clear hf hg hx
  generalize f x = u at *
  generalize g x = v at *
  go_enter Tryd.func29, Tryd.ntmps29
  cases u
  · go_wp2
    go_ret
    exact ⟨rfl, 0, rfl⟩
  · cases v
    · go_wp2
      go_ret
      exact ⟨rfl, 0, rfl⟩
    · go_wp2
      go_ret
      exact ⟨rfl, 0, rfl⟩
end Go.Proofs.YtcfmpplhghkagaaDoor
namespace Go.Proofs.YtcfmpplhghkagaaDoor
open Go.RowKit Go.Sort Go.Shelf Go.Lib

/-- A number as it lies in memory; numbers that are no states read as 0. -/
def nmI (x : Int) : Int := if 0 ≤ x ∧ x ≤ 1000000 then x else 0
def encN (x : Int) : Value := .int .i64 (nmI x)
theorem nmI_in {x : Int} (h : 0 ≤ x ∧ x ≤ 1000000) : nmI x = x := if_pos h
theorem nmI_bd (x : Int) : 0 ≤ nmI x ∧ nmI x ≤ 1000000 := by unfold nmI; split <;> omega
theorem encN_in {l : List Int} (h : ∀ x ∈ l, 0 ≤ x ∧ x ≤ 1000000) : l.map encN = l.map (Value.int .i64) :=
  List.map_congr_left (fun x hx => by unfold encN; rw [nmI_in (h x hx)])
theorem own_holdsN {w : World} {B e g n cap : Nat} {l : List Int} (h : w.ownsRow B e 1 (.slice (some ⟨g, 0, none⟩) n cap) n (l.map (Value.int .i64))) (hi : ∀ x ∈ l, 0 ≤ x ∧ x ≤ 1000000) :
    Holds encN w g 0 l.toArray ∧ g < w.heap.size ∧ B ≤ g ∧ l.length = n ∧ n ≤ cap := by
  have hn : l.length = n := by have := h.1; simpa using this
  rcases h.2 with ⟨e0, _⟩ | ⟨g', cap', cur, e0, hg, hh, hc, hm, hs, ht⟩
  · cases e0
  · cases e0
    refine ⟨fun j hj => ?_, (Array.getElem?_eq_some_iff.1 hh).1, hg, hn, hc⟩
    have hj' : j < l.length := by simpa using hj
    refine ⟨?_, by simp [World.frozen?, hh]⟩
    have e1 : (l.map encN)[j]? = cur.toList[j]? := by
      rw [encN_in hi, ← ht, List.getElem?_take, if_pos (by omega)]
    rw [List.getElem?_map, List.getElem?_eq_getElem hj', Array.getElem?_toList] at e1
    rw [getElem!_pos l.toArray j hj, Nat.zero_add]
    simp [World.cell?, hh]
    exact e1.symm
theorem own_struck {w : World} {B e g n cap q : Nat} {l m : List Int} (h : w.ownsRow B e 1 (.slice (some ⟨g, 0, none⟩) n cap) n (l.map (Value.int .i64))) (hm : m.length ≤ n) (hi : ∀ x ∈ m, 0 ≤ x ∧ x ≤ 1000000) :
    (putRow encN (Sort.ahead w q) g 0 (m ++ List.replicate (n - m.length) 0).toArray).ownsRow B e 1 (.slice (some ⟨g, 0, none⟩) m.length cap) m.length (m.map (Value.int .i64)) := by
  rcases h.2 with ⟨e0, _⟩ | ⟨g', cap', cur, e0, hg, hh, hc, hcm, hs, ht⟩
  · cases e0
  · cases e0
    have hlt : g < w.heap.size := (Array.getElem?_eq_some_iff.1 hh).1
    refine ⟨by simp, .inr ⟨g, cap, putCells encN 0 (m ++ List.replicate (n - m.length) 0).toArray cur, rfl, hg, ?_, by omega, hcm, by simpa [putCells] using hs, ?_⟩⟩
    · have hg' : w.heap[g] = .cells cur e (0, 0) := by have := Array.getElem?_eq_some_iff.1 hh; exact this.2
      simp [putRow, mapBlock, Sort.ahead, hlt, Array.getElem_modify, hg', onCells]
    · apply List.ext_getElem?
      intro j
      rw [List.getElem?_take, Array.getElem?_toList]
      by_cases hj : j < m.length
      · have hjc : j < cur.size := by omega
        rw [if_pos (by omega), List.getElem?_map, List.getElem?_eq_getElem hj]
        simp only [putCells, Array.getElem?_mapIdx, Array.getElem?_eq_getElem hjc, Option.map_some]
        rw [if_pos (by simp; omega)]
        simp only [Nat.sub_zero]
        rw [getElem!_pos _ j (by simp; omega)]
        simp [hj, encN, nmI_in (hi _ (List.getElem_mem hj))]
      · rw [if_neg (by omega), List.getElem?_eq_none (by simp; omega)]
theorem grown_struck {w : World} {g q : Nat} (d : Array Int) : w.grownBy (putRow encN (Sort.ahead w q) g 0 d) (some g) := by
  refine ⟨rfl, rfl, rfl, by simp [putRow, mapBlock, Sort.ahead], fun i hi hne => ?_⟩
  have hne' : g ≠ i := fun e => hne (by rw [e])
  simp [putRow, mapBlock, Sort.ahead, hi, Array.getElem_modify, hne']
theorem grown_over {w : World} {g q : Nat} (d : Array Int) (os : Array Obj) : w.grownBy (sortWorld encN w g 0 q d os) (some g) := by
  refine ⟨rfl, rfl, rfl, by simp [sortWorld, grow, putRow, mapBlock, Sort.ahead], fun i hi hne => ?_⟩
  have hne' : g ≠ i := fun e => hne (by rw [e])
  simp [sortWorld, grow, putRow, mapBlock, Sort.ahead, Array.getElem?_append, hi, Array.getElem_modify, hne']
end Go.Proofs.YtcfmpplhghkagaaDoor
namespace Go.Proofs.YtcfmpplhghkagaaDoor
open Go.RowKit Go.Sort Go.Shelf Go.Lib

theorem MapB.kept {w w' : World} {b : Nat} {f : Int → Bool} {row : Option Nat} (h : MapB w b f) (hg : w.grownBy w' row) (hne : some b ≠ row) : MapB w' b f := Mp.kept h hg hne
theorem MapB.lt {w : World} {b : Nat} {f : Int → Bool} (h : MapB w b f) : b < w.heap.size := Mp.lt h
theorem MapB.ne {w : World} {b g e : Nat} {f : Int → Bool} {cur : Array Value} {z : Nat × Nat} (h : MapB w b f) (hg : w.heap[g]? = some (.cells cur e z)) : b ≠ g := by
  obtain ⟨es, cl, hb, _⟩ := h
  rintro rfl
  rw [hb] at hg; cases hg
theorem cell_kept {w w' : World} {b : Nat} {u : Value} {row : Option Nat} (hg : w.grownBy w' row) (hc : w.cell? ⟨b, 0, none⟩ = some u) (hne : some b ≠ row) : w'.cell? ⟨b, 0, none⟩ = some u :=
  (World.cell?_of_block (w := w) (a := ⟨b, 0, none⟩) (hg.block b (World.block_lt_of_cell? w _ hc) hne)).trans hc

set_option maxRecDepth 100000 in
set_option maxHeartbeats 1000000 in
theorem gDel_nil (fv : Value) (w : World) : Calls Tryd.prog 28 #[.slice none 0 0, fv] w fun e w' => e = .returned (.slice none 0 0) ∧ w' = w := by
  go_enter Tryd.func28, Tryd.ntmps28
  go_wp2_with (first | (go_at_call 42; refine (Tryd.slices_IndexFunc_empty (α := Int) none 0 fv w).mono ?_; rintro e w' ⟨rfl, rfl⟩) | (go_at_call 42; refine (Tryd.slices_IndexFunc_empty_f42 (α := Int) none 0 fv w).mono ?_; rintro e w' ⟨rfl, rfl⟩))
  go_ret
  exact ⟨rfl, rfl⟩
theorem gDel_any (f g : Int → Bool) (st : List Int) (B n b1 b2 m1 m2 : Nat) (v : Value) (w : World) (h : w.ownsRow B 3 1 v n (st.map (Value.int .i64))) (hn : n ≤ 100000) (hi : ∀ x ∈ st, 0 ≤ x ∧ x ≤ 1000000)
    (h1 : w.cell? ⟨b1, 0, none⟩ = some (.map (some m1))) (h2 : w.cell? ⟨b2, 0, none⟩ = some (.map (some m2))) (hf : MapB w m1 f) (hg : MapB w m2 g) (n1 : v.ownBlock ≠ some b1) (n2 : v.ownBlock ≠ some b2) :
    Calls Tryd.prog 28 #[v, .func (.func 29) #[] #[.pointer (some ⟨b1, 0, none⟩), .pointer (some ⟨b2, 0, none⟩)]] w fun e w' =>
      ∃ v', e = .returned v' ∧ w'.ownsRow B 3 1 v' (st.filter fun x => f x && g x).length ((st.filter fun x => f x && g x).map (Value.int .i64)) ∧ w.grownBy w' v.ownBlock ∧ v'.ownBlock = v.ownBlock := by
  rcases h.2 with ⟨rfl, rfl⟩ | ⟨gb, cap, cur, rfl, hgb, hh, hc, hm, hs, ht⟩
  · have : st = [] := List.length_eq_zero_iff.1 (by have := h.1; simpa using this)
    subst this
    refine (gDel_nil _ w).mono ?_
    rintro e w' ⟨rfl, rfl⟩
    exact ⟨_, rfl, World.ownsRow_nil _ _ _ _, ⟨rfl, rfl, rfl, Nat.le_refl _, fun _ _ _ => rfl⟩, rfl⟩
  · obtain ⟨hH, hlt, _, hl, _⟩ := own_holdsN h hi
    have k1 := hf.ne hh; have k2 := hg.ne hh
    have n1' : (some b1 : Option Nat) ≠ some gb := fun e => n1 (by rw [Value.ownBlock]; exact e.symm)
    have n2' : (some b2 : Option Nat) ≠ some gb := fun e => n2 (by rw [Value.ownBlock]; exact e.symm)
    have eg : ∀ args w, (callFunc 29 args).run Tryd.prog w = .ok (.enter 29 args) w := enters_of Tryd.func29 (by kernel_rfl) rfl
    have hgive : ∀ (W : World) (x : Int), w.grownBy W (some gb) → FnGives Tryd.prog 29 #[.pointer (some ⟨b1, 0, none⟩), .pointer (some ⟨b2, 0, none⟩)] #[encN x] (.bool (!(f (nmI x) && g (nmI x)))) W := fun W x hgr =>
      gEss1_gives f g b1 b2 m1 m2 W (nmI x) (okI_of (nmI_bd x).1 (nmI_bd x).2) (cell_kept hgr h1 n1') (cell_kept hgr h2 n2') (hf.kept hgr (fun e => k1 (Option.some.inj e))) (hg.kept hgr (fun e => k2 (Option.some.inj e)))
    have hz : ∀ w, (zeroValue 3).run Tryd.prog w = .ok (encN 0) w := fun w => by kernel_rfl
    have hcon := Tryd.slices_DeleteFunc encN (fun _ => rfl) (fun x => !(f (nmI x) && g (nmI x))) 29 #[.pointer (some ⟨b1, 0, none⟩), .pointer (some ⟨b2, 0, none⟩)] eg 0 hz gb 0 cap st.toArray w
      (fun W x hb => hgive W x ⟨hb.os, hb.tape, hb.output, hb.size, fun i hi _ => hb.block i hi⟩) (fun q os dk x _ => hgive _ x (grown_over dk os)) hH (by simp; omega) (by simp; omega)
    have hfl : (st.toArray.toList.filter fun x => !!(f (nmI x) && g (nmI x))) = st.filter fun x => f x && g x := by
      simp only [Bool.not_not]
      exact List.filter_congr (fun x hx => by rw [nmI_in (hi x hx)])
    rw [hfl, show st.toArray.size = n by simpa using hl] at hcon
    refine hcon.mono ?_
    rintro e w' ⟨rfl, q, rfl⟩
    exact ⟨_, rfl, own_struck h (by rw [← hl]; exact List.length_filter_le _ _) (fun x hx => hi x (List.mem_filter.1 hx).1), grown_struck _, rfl⟩
end Go.Proofs.YtcfmpplhghkagaaDoor
namespace Go.Proofs.YtcfmpplhghkagaaDoor
open Go.RowKit Go.Sort Go.Shelf Go.Lib

/-- A graph and an error; its edges lie in memory that the call made. -/
def RetGo (G : Gr) (k : Int) (w : World) (e : Ending) (w' : World) : Prop := ∃ p m c, e = .returned (.tuple #[.agg #[.int .i64 G.q, .int .i64 G.n, .slice p m c], .int .i64 k]) ∧ w'.ownsRow w.heap.size 40 3 (.slice p m c) G.es.length (cat G.es) ∧ RowKit.Below w.heap.size w w'
theorem RetGo.of {G' : Gr} {k' : Int} {x : Gr × Int} {w w' : World} {p : Option Addr} {m c : Nat} (hr : x = (G', k')) (hs : w'.ownsRow w.heap.size 40 3 (.slice p m c) G'.es.length (cat G'.es)) (hB : RowKit.Below w.heap.size w w') :
    RetGo x.1 x.2 w (.returned (.tuple #[.agg #[.int .i64 G'.q, .int .i64 G'.n, .slice p m c], .int .i64 k'])) w' := by subst hr; exact ⟨p, m, c, rfl, hs, hB⟩

end Go.Proofs.YtcfmpplhghkagaaDoor
namespace Go.Proofs.YtcfmpplhghkagaaDoor
open Go.RowKit Go.Sort Go.Shelf Go.Lib

def rvE (x : Ed) : Ed := ⟨x.t, x.l, x.f⟩
/-- The graph with all edges turned around, and the error. -/
def revA (G : Gr) : Gr × Int := if chkG G = 0 then makeA G.q G.n (G.es.map rvE) else (⟨0, 0, []⟩, 1)
theorem rv_snoc (l : List Ed) (k : Nat) (h : k < l.length) : (l.take (k + 1)).map rvE = (l.take k).map rvE ++ [⟨l[k].t, l[k].l, l[k].f⟩] := by
  rw [List.take_succ_eq_append_getElem h, List.map_append]; rfl
theorem sg_len {w : World} {p : Option Addr} {l : List Ed} {B e n : Nat} {p' : Option Addr} {m c : Nat} (h : w.ownsRow B e 3 (.slice p m c) n (cat l)) : m = l.length ∧ Sg 3 w edE p l := by
  obtain ⟨q, d, hv, hs, _, _⟩ := own_sg h
  cases hv
  exact ⟨rfl, hs⟩

end Go.Proofs.YtcfmpplhghkagaaDoor
namespace Go.Proofs.YtcfmpplhghkagaaDoor
open Go.RowKit Go.Sort Go.Shelf Go.Lib

def nxE (st : List Int) (b t : Int) (x : Ed) : Bool := decide (x.t = t) && (decide (x.l = b) && decide (x.f ∈ st))
/-- A state that an edge with a label leads to, from a set. -/
def nxP (es : List Ed) (st : List Int) (b t : Int) : Bool := es.any (nxE st b t)
def nextA (G : Gr) (st : List Int) (b : Int) : List Int := (upto G.n.toNat).filter (nxP G.es st b)
theorem uptof_succ (f : Int → Bool) (k : Nat) : (upto (k + 1)).filter f = (upto k).filter f ++ (if f (k : Int) = true then [(k : Int)] else []) := by
  rw [upto_succ, List.filter_append]; congr 1; cases h : f (k : Int) <;> simp [h]
theorem uptof_len (f : Int → Bool) (k : Nat) : ((upto k).filter f).length ≤ k := Nat.le_trans (List.length_filter_le _ _) (by rw [upto_len]; omega)

end Go.Proofs.YtcfmpplhghkagaaDoor
namespace Go.Proofs.YtcfmpplhghkagaaDoor
open Go.RowKit Go.Sort Go.Lib

end Go.Proofs.YtcfmpplhghkagaaDoor
namespace Go.Proofs.YtcfmpplhghkagaaDoor
open Go.RowKit Go.Sort Go.Shelf Go.Lib

/-- The states that are reached from a set by a label, and the error. -/
def stepA (G : Gr) (st : List Int) (b : Int) : List Int × Int := if chkG G = 0 then (if chkS G.n none st = 0 then (if b < 0 ∨ G.q ≤ b then ([], 2) else (nextA G st b, 0)) else ([], chkS G.n none st)) else ([], 1)

end Go.Proofs.YtcfmpplhghkagaaDoor
namespace Go.Proofs.YtcfmpplhghkagaaDoor
open Go.RowKit Go.Sort Go.Shelf Go.Lib

/-- The part on a set, and the error. -/
def keepA (G : Gr) (st : List Int) : Gr × Int := if chkG G = 0 then (if chkS G.n none st = 0 then (partA G st, 0) else (⟨0, 0, []⟩, chkS G.n none st)) else (⟨0, 0, []⟩, 1)

end Go.Proofs.YtcfmpplhghkagaaDoor
namespace Go.Proofs.YtcfmpplhghkagaaDoor
open Go.RowKit

theorem srt_unique : ∀ {a b : List Int}, a.Pairwise (· < ·) → b.Pairwise (· < ·) → (∀ x, x ∈ a ↔ x ∈ b) → a = b
  | [], [], _, _, _ => rfl
  | [], y :: b, _, _, h => absurd ((h y).2 List.mem_cons_self) (by simp)
  | x :: a, [], _, _, h => absurd ((h x).1 List.mem_cons_self) (by simp)
  | x :: a, y :: b, ha, hb, h => by
    obtain ⟨ha1, ha2⟩ := List.pairwise_cons.1 ha
    obtain ⟨hb1, hb2⟩ := List.pairwise_cons.1 hb
    have e : x = y := by
      rcases List.mem_cons.1 ((h x).1 List.mem_cons_self) with e | hx
      · exact e
      · rcases List.mem_cons.1 ((h y).2 List.mem_cons_self) with e | hy
        · exact e.symm
        · have := ha1 y hy; have := hb1 x hx; omega
    subst e
    rw [srt_unique ha2 hb2 (fun z => ?_)]
    constructor
    · intro hz
      rcases List.mem_cons.1 ((h z).1 (List.mem_cons_of_mem _ hz)) with e | hz'
      · subst e; have := ha1 z hz; omega
      · exact hz'
    · intro hz
      rcases List.mem_cons.1 ((h z).2 (List.mem_cons_of_mem _ hz)) with e | hz'
      · subst e; have := hb1 z hz; omega
      · exact hz'
theorem mem_upto {n : Nat} {x : Int} : x ∈ upto n ↔ 0 ≤ x ∧ x < n := by
  unfold upto
  rw [List.mem_map]
  constructor
  · rintro ⟨i, hi, rfl⟩
    rw [List.mem_range] at hi
    omega
  · intro h
    exact ⟨x.toNat, by rw [List.mem_range]; omega, by omega⟩
theorem nextA_srt (G : Gr) (st : List Int) (b : Int) : (nextA G st b).Pairwise (· < ·) := (upto_srt _).filter _
theorem mem_nextA {G : Gr} {st : List Int} {b t : Int} (hv : Vg G) : t ∈ nextA G st b ↔ ∃ x ∈ G.es, x.t = t ∧ x.l = b ∧ x.f ∈ st := by
  unfold nextA nxP
  rw [List.mem_filter, mem_upto, List.any_eq_true]
  constructor
  · rintro ⟨_, x, hx, h⟩
    simp only [nxE, Bool.and_eq_true, decide_eq_true_eq] at h
    exact ⟨x, hx, h⟩
  · rintro ⟨x, hx, rfl, h1, h2⟩
    have := hv.ins x hx
    have := hv.n1
    exact ⟨⟨by omega, by omega⟩, x, hx, by simp [nxE, h1, h2]⟩
/-- What a step collects: for each state of the set, the ends of its edges with the label. -/
def stepL (es : List Ed) (st : List Int) (b : Int) : List Int := st.flatMap (fun s => (es.filter (fun x => decide (x.f = s) && decide (x.l = b))).map Ed.t)
theorem mem_stepL {es : List Ed} {st : List Int} {b t : Int} : t ∈ stepL es st b ↔ ∃ x ∈ es, x.t = t ∧ x.l = b ∧ x.f ∈ st := by
  unfold stepL
  rw [List.mem_flatMap]
  constructor
  · rintro ⟨s, hs, h⟩
    obtain ⟨x, hx, rfl⟩ := List.mem_map.1 h
    obtain ⟨hx, h⟩ := List.mem_filter.1 hx
    simp only [Bool.and_eq_true, decide_eq_true_eq] at h
    exact ⟨x, hx, rfl, h.2, h.1 ▸ hs⟩
  · rintro ⟨x, hx, rfl, h1, h2⟩
    exact ⟨x.f, h2, List.mem_map.2 ⟨x, List.mem_filter.2 ⟨hx, by simp [h1]⟩, rfl⟩⟩
/-- A list in order, each once, with the members that a step collects, is what the reference finds. -/
theorem step_law {G : Gr} {st l : List Int} {b : Int} (hv : Vg G) (hs : l.Pairwise (· < ·)) (hm : ∀ x, x ∈ l ↔ x ∈ stepL G.es st b) : l = nextA G st b :=
  srt_unique hs (nextA_srt G st b) (fun x => by rw [hm, mem_stepL, mem_nextA hv])
end Go.Proofs.YtcfmpplhghkagaaDoor
namespace Go.Proofs.YtcfmpplhghkagaaDoor
open Go.RowKit

/-! ### Graphs turned around -/
theorem norm_le (l : List Ed) : (norm l).length ≤ l.length := by
  rw [← norm_sort]; exact Nat.le_trans (compact_len _) (by simp)
theorem mem_rv {es : List Ed} {x : Ed} : x ∈ es.map rvE ↔ rvE x ∈ es := by
  rw [List.mem_map]
  constructor
  · rintro ⟨y, hy, rfl⟩; exact hy
  · intro h; exact ⟨rvE x, h, rfl⟩
theorem vg_make {q n : Int} {l : List Ed} (h1 : 1 ≤ q) (h2 : q ≤ 256) (h3 : 0 ≤ n) (h4 : n ≤ 64) (hl : l.length ≤ 1024) (hi : ∀ x ∈ l, 0 ≤ x.f ∧ 0 ≤ x.l ∧ 0 ≤ x.t ∧ x.f < n ∧ x.t < n ∧ x.l < q) : Vg ⟨q, n, norm l⟩ :=
  ⟨h1, h2, h3, h4, Nat.le_trans (norm_le l) hl, fun x hx => hi x (mem_norm.1 hx), norm_srt l⟩
theorem vg_rev {G : Gr} (h : Vg G) : Vg ⟨G.q, G.n, norm (G.es.map rvE)⟩ :=
  vg_make h.q1 h.q2 h.n1 h.n2 (by rw [List.length_map]; exact h.len) (fun x hx => by have := h.ins _ (mem_rv.1 hx); simp only [rvE] at this; omega)
theorem revA_ok {G : Gr} (h : Vg G) : revA G = (⟨G.q, G.n, norm (G.es.map rvE)⟩, 0) := by
  unfold revA; rw [if_pos (chkG_ok.2 h)]; exact makeA_ok (chkG_ok.2 (vg_rev h))
theorem rev_rev {G : Gr} (h : Vg G) : revA ⟨G.q, G.n, norm (G.es.map rvE)⟩ = (G, 0) := by
  rw [revA_ok (vg_rev h)]
  have : norm ((norm (G.es.map rvE)).map rvE) = G.es := (norm_eq h.srt (fun x => by rw [mem_rv, mem_norm, mem_rv]; exact Iff.rfl)).symm
  show ((⟨G.q, G.n, norm ((norm (G.es.map rvE)).map rvE)⟩ : Gr), (0:Int)) = _
  rw [this]
theorem rev_step {G : Gr} (h : Vg G) (s t b : Int) : (t ∈ nextA G [s] b ↔ s ∈ nextA ⟨G.q, G.n, norm (G.es.map rvE)⟩ [t] b) := by
  rw [mem_nextA h, mem_nextA (vg_rev h)]
  constructor
  · rintro ⟨x, hx, h1, h2, h3⟩
    rw [List.mem_singleton] at h3
    exact ⟨rvE x, mem_norm.2 (mem_rv.2 hx), h3, h2, by simp [rvE, h1]⟩
  · rintro ⟨x, hx, h1, h2, h3⟩
    rw [List.mem_singleton] at h3
    exact ⟨rvE x, mem_rv.1 (mem_norm.1 hx), h3, h2, by simp [rvE, h1]⟩

/-! ### Sets of states -/
theorem chkS_of {n : Int} : ∀ {l : List Int} {p : Option Int}, l.Pairwise (· < ·) → (∀ x ∈ l, 0 ≤ x ∧ x < n) → (∀ q, p = some q → ∀ x ∈ l, q < x) → chkS n p l = 0
  | [], _, _, _, _ => rfl
  | s :: l, p, h1, h2, h3 => by
    obtain ⟨a, b⟩ := List.pairwise_cons.1 h1
    have hp : ¬ leP p s = true := by
      cases p with
      | none => simp [leP]
      | some q => have := h3 q rfl s List.mem_cons_self; simp [leP]; omega
    rw [chkS_cons, if_neg (by have := h2 s List.mem_cons_self; omega), if_neg hp]
    exact chkS_of b (fun x hx => h2 x (List.mem_cons_of_mem _ hx)) (fun q hq x hx => by cases hq; exact a x hx)
theorem stepA_one {G : Gr} (h : Vg G) {s b : Int} (h1 : 0 ≤ s) (h2 : s < G.n) (h3 : 0 ≤ b) (h4 : b < G.q) : stepA G [s] b = (nextA G [s] b, 0) := by
  unfold stepA
  rw [if_pos (chkG_ok.2 h), if_pos (chkS_of (by simp) (by simp [h1, h2]) (by simp)), if_neg (by omega)]
/-- A set of states. -/
structure St (n : Int) (l : List Int) : Prop where
  srt : l.Pairwise (· < ·)
  ins : ∀ x ∈ l, 0 ≤ x ∧ x < n
theorem St.chk {n : Int} {l : List Int} (h : St n l) : chkS n none l = 0 := chkS_of h.srt h.ins (by simp)
theorem St.eq {n : Int} {l : List Int} (h : St n l) : l = (upto n.toNat).filter (fun x => decide (x ∈ l)) :=
  srt_unique h.srt ((upto_srt _).filter _) (fun x => by
    rw [List.mem_filter, mem_upto, decide_eq_true_eq]
    exact ⟨fun hx => ⟨by have := h.ins x hx; omega, hx⟩, fun hx => hx.2⟩)
theorem St.len {n : Int} {l : List Int} (h : St n l) (hn : 0 ≤ n) : (l.length : Int) ≤ n := by
  have := List.length_filter_le (fun x => decide (x ∈ l)) (upto n.toNat)
  rw [← h.eq, upto_len] at this
  omega
theorem St.upto {n : Int} (hn : 0 ≤ n) : St n (upto n.toNat) := ⟨upto_srt _, fun x hx => by rw [mem_upto] at hx; omega⟩
theorem St.filter {n : Int} {l : List Int} (h : St n l) (p : Int → Bool) : St n (l.filter p) := ⟨h.srt.filter _, fun x hx => h.ins x (List.mem_filter.1 hx).1⟩
theorem iof_lt {x : Int} {l : List Int} (h : x ∈ l) : l.idxOf x < l.length := List.idxOf_lt_length_iff.2 h
theorem iof_get {x : Int} {l : List Int} (h : x ∈ l) : l[l.idxOf x]'(iof_lt h) = x := List.getElem_idxOf (iof_lt h)
theorem iof_mono {x y : Int} {l : List Int} (hs : l.Pairwise (· < ·)) (hx : x ∈ l) (hy : y ∈ l) (h : x < y) : l.idxOf x < l.idxOf y := by
  rcases Nat.lt_or_ge (l.idxOf x) (l.idxOf y) with h' | h'
  · exact h'
  · have ex := iof_get hx; have ey := iof_get hy
    by_cases e : l.idxOf y = l.idxOf x
    · have : y = x := by rw [← ex, ← ey]; congr 1
      omega
    · have := List.pairwise_iff_getElem.1 hs _ _ (iof_lt hy) (iof_lt hx) (by omega)
      rw [ex, ey] at this; omega
theorem iof_inj {x y : Int} {l : List Int} (hx : x ∈ l) (hy : y ∈ l) (h : l.idxOf x = l.idxOf y) : x = y := by
  rw [← iof_get hx, ← iof_get hy]; congr 1
theorem upto_get {n i : Nat} (h : i < (upto n).length) : (upto n)[i] = (i : Int) := by simp [Go.Proofs.YtcfmpplhghkagaaDoor.upto]
theorem iof_upto {n : Nat} {x : Int} (h0 : 0 ≤ x) (h1 : x < n) : (((upto n).idxOf x : Nat) : Int) = x := by
  have hm : x ∈ upto n := mem_upto.2 ⟨h0, h1⟩
  have e := iof_get hm
  have hl := iof_lt hm
  have e2 := upto_get hl
  omega

/-! ### Parts -/
theorem fm_congr {f g : Ed → Option Ed} : ∀ {l : List Ed}, (∀ x ∈ l, f x = g x) → l.filterMap f = l.filterMap g
  | [], _ => rfl
  | x :: l, h => by
    rw [List.filterMap_cons, List.filterMap_cons, h x List.mem_cons_self, fm_congr (fun y hy => h y (List.mem_cons_of_mem _ hy))]
theorem partE_some {st : List Int} {x y : Ed} (h : partE st x = some y) : x.f ∈ st ∧ x.t ∈ st ∧ y = ⟨((st.idxOf x.f : Nat) : Int), x.l, ((st.idxOf x.t : Nat) : Int)⟩ := by
  unfold partE at h
  split at h
  · rename_i hh; cases h; exact ⟨hh.1, hh.2, rfl⟩
  · cases h
theorem part_vg {G : Gr} (h : Vg G) {st : List Int} (hs : St G.n st) : Vg (partA G st) := by
  have hl := hs.len h.n1
  have h2 := h.n2
  refine ⟨h.q1, h.q2, by show (0:Int) ≤ (st.length : Int); omega, by show (st.length : Int) ≤ 64; omega, Nat.le_trans (partE_len _ _) h.len, fun y hy => ?_, ?_⟩
  · obtain ⟨x, hx, e⟩ := List.mem_filterMap.1 hy
    obtain ⟨a, b, rfl⟩ := partE_some e
    have := h.ins x hx
    have := iof_lt a; have := iof_lt b
    show (0:Int) ≤ ((st.idxOf x.f : Nat) : Int) ∧ 0 ≤ x.l ∧ (0:Int) ≤ ((st.idxOf x.t : Nat) : Int) ∧ ((st.idxOf x.f : Nat) : Int) < (st.length : Int) ∧ ((st.idxOf x.t : Nat) : Int) < (st.length : Int) ∧ x.l < G.q
    omega
  · refine h.srt.filterMap _ (fun x x' hlt y hy y' hy' => ?_)
    obtain ⟨a, b, rfl⟩ := partE_some hy
    obtain ⟨a', b', rfl⟩ := partE_some hy'
    rw [ltE_iff] at hlt ⊢
    show ((st.idxOf x.f : Nat) : Int) < ((st.idxOf x'.f : Nat) : Int) ∨ (((st.idxOf x.f : Nat) : Int) = ((st.idxOf x'.f : Nat) : Int) ∧ (x.l < x'.l ∨ (x.l = x'.l ∧ ((st.idxOf x.t : Nat) : Int) < ((st.idxOf x'.t : Nat) : Int))))
    rcases hlt with h1 | ⟨h1, h2 | ⟨h2, h3⟩⟩
    · have := iof_mono hs.srt a a' h1; omega
    · rw [h1]; exact .inr ⟨rfl, .inl h2⟩
    · have := iof_mono hs.srt b b' h3
      rw [h1]; exact .inr ⟨rfl, .inr ⟨h2, by omega⟩⟩
theorem part_all {G : Gr} (h : Vg G) : partA G (upto G.n.toNat) = G := by
  have h1 := h.n1
  have : G.es.filterMap (partE (upto G.n.toNat)) = G.es := by
    have hc : ∀ x ∈ G.es, partE (upto G.n.toNat) x = some x := fun x hx => by
      have := h.ins x hx
      unfold partE
      rw [if_pos ⟨mem_upto.2 (by omega), mem_upto.2 (by omega)⟩, iof_upto (by omega) (by omega), iof_upto (by omega) (by omega)]
    rw [fm_congr hc]; simp
  unfold partA
  rw [this, upto_len]
  cases G; simp at h1 ⊢; omega
theorem iof_map {f : Int → Int} {i : Int} : ∀ {l : List Int}, (∀ j ∈ l, f j = f i → j = i) → (l.map f).idxOf (f i) = l.idxOf i
  | [], _ => rfl
  | y :: l, h => by
    rw [List.map_cons, List.idxOf_cons, List.idxOf_cons, iof_map (fun j hj => h j (List.mem_cons_of_mem _ hj))]
    by_cases e : y = i
    · subst e; simp
    · have : f y ≠ f i := fun e' => e (h y List.mem_cons_self e')
      rw [show (f y == f i) = false by simpa using this, show (y == i) = false by simpa using e]
/-- The states that numbers of states of a part stand for. -/
def bothA (st inner : List Int) : List Int := inner.map (fun i => st.getD i.toNat 0)
theorem both_get {st : List Int} {i : Int} (h0 : 0 ≤ i) (h1 : i < st.length) : st.getD i.toNat 0 = st[i.toNat]'(by omega) := by
  rw [List.getD_eq_getElem?_getD, List.getElem?_eq_getElem (by omega)]; rfl
theorem both_iff {st inner : List Int} (hs : st.Pairwise (· < ·)) (hi : ∀ i ∈ inner, 0 ≤ i ∧ i < st.length) (x : Int) : x ∈ bothA st inner ↔ x ∈ st ∧ ((st.idxOf x : Nat) : Int) ∈ inner := by
  unfold bothA
  rw [List.mem_map]
  constructor
  · rintro ⟨i, hm, rfl⟩
    obtain ⟨h0, h1⟩ := hi i hm
    rw [both_get h0 h1]
    have hmem : st[i.toNat]'(by omega) ∈ st := List.getElem_mem _
    refine ⟨hmem, ?_⟩
    have e := iof_get hmem
    have hl := iof_lt hmem
    have : st.idxOf (st[i.toNat]'(by omega)) = i.toNat := by
      rcases Nat.lt_trichotomy (st.idxOf (st[i.toNat]'(by omega))) i.toNat with h | h | h
      · have := List.pairwise_iff_getElem.1 hs _ _ hl (by omega) h; omega
      · exact h
      · have := List.pairwise_iff_getElem.1 hs _ _ (by omega) hl h; omega
    rw [this, Int.toNat_of_nonneg h0]; exact hm
  · rintro ⟨hm, hx⟩
    refine ⟨_, hx, ?_⟩
    rw [both_get (by omega) (by have := iof_lt hm; omega)]
    simp
theorem both_idx {st inner : List Int} (hs : st.Pairwise (· < ·)) (hi : ∀ i ∈ inner, 0 ≤ i ∧ i < st.length) {x : Int} (hx : x ∈ st) : (bothA st inner).idxOf x = inner.idxOf ((st.idxOf x : Nat) : Int) := by
  have hl := iof_lt hx
  have e : st.getD ((st.idxOf x : Nat) : Int).toNat 0 = x := by
    rw [both_get (by omega) (by omega)]; simp
  have := @iof_map (fun i => st.getD i.toNat 0) ((st.idxOf x : Nat) : Int) inner (fun j hj h => by
    obtain ⟨h0, h1⟩ := hi j hj
    rw [e, both_get h0 h1] at h
    rcases Int.lt_trichotomy j ((st.idxOf x : Nat) : Int) with h' | h' | h'
    · have := List.pairwise_iff_getElem.1 hs j.toNat (st.idxOf x) (by omega) hl (by omega)
      rw [h, iof_get hx] at this; omega
    · exact h'
    · have := List.pairwise_iff_getElem.1 hs (st.idxOf x) j.toNat hl (by omega) (by omega)
      rw [h, iof_get hx] at this; omega)
  simp only [e] at this
  exact this
theorem both_st {n : Int} {st inner : List Int} (hs : St n st) (hi : St st.length inner) : St n (bothA st inner) := by
  refine ⟨?_, fun x hx => hs.ins x ((both_iff hs.srt hi.ins x).1 hx).1⟩
  unfold bothA
  rw [List.pairwise_map]
  refine List.Pairwise.imp_of_mem (fun {a b} ha hb h => ?_) hi.srt
  obtain ⟨a0, a1⟩ := hi.ins a ha
  obtain ⟨b0, b1⟩ := hi.ins b hb
  rw [both_get a0 a1, both_get b0 b1]
  exact List.pairwise_iff_getElem.1 hs.srt _ _ (by omega) (by omega) (by omega)
theorem part_part {G : Gr} {st inner : List Int} (hs : St G.n st) (hi : St st.length inner) : partA (partA G st) inner = partA G (bothA st inner) := by
  unfold partA
  have hb := hi.ins
  simp only [Gr.mk.injEq, true_and]
  refine ⟨by simp [bothA], ?_⟩
  rw [List.filterMap_filterMap]
  refine fm_congr (fun x _ => ?_)
  by_cases h : x.f ∈ st ∧ x.t ∈ st
  · rw [part_go h]
    show partE inner _ = _
    unfold partE
    simp only [both_iff hs.srt hb, both_idx hs.srt hb h.1, both_idx hs.srt hb h.2, h.1, h.2, true_and]
  · rw [part_stop h, part_stop (fun h' => h ⟨((both_iff hs.srt hb _).1 h'.1).1, ((both_iff hs.srt hb _).1 h'.2).1⟩)]
    rfl
theorem keepA_ok {G : Gr} (h : Vg G) {st : List Int} (hs : St G.n st) : keepA G st = (partA G st, 0) := by
  unfold keepA; rw [if_pos (chkG_ok.2 h), if_pos hs.chk]

/-! ### Deterministic graphs -/
def Uq (l : List Ed) : Prop := l.Pairwise (fun a b => ¬ (a.f = b.f ∧ a.l = b.l))
theorem uq_of_det : ∀ {l : List Ed}, l.Pairwise (fun a b => ltE a b = true) → detB l = true → Uq l
  | [], _, _ => List.Pairwise.nil
  | [_], _, _ => by simp [Uq]
  | x :: y :: l, h, hd => by
    obtain ⟨h1, h2⟩ := List.pairwise_cons.1 h
    have hd1 : ¬ (x.f = y.f ∧ x.l = y.l) := fun e => by
      have := detB_f (l := x :: y :: l) 0 (by simp) (by simpa using e.1) (by simpa using e.2)
      rw [hd] at this; cases this
    have hd2 : detB (y :: l) = true := by
      cases hc : detB (y :: l)
      · exfalso
        have : detB (x :: y :: l) = true → detB (y :: l) = true := fun h => by
          unfold detB at h
          first
          | exact (Bool.and_eq_true_iff.1 h).2
          | (split at h <;> simp_all)
        rw [this hd] at hc; cases hc
      · rfl
    have ih := uq_of_det h2 hd2
    refine List.pairwise_cons.2 ⟨fun z hz => ?_, ih⟩
    rcases List.mem_cons.1 hz with e | hz
    · subst e; exact hd1
    · have a := ltE_iff.1 (h1 y List.mem_cons_self)
      have b := ltE_iff.1 ((List.pairwise_cons.1 h2).1 z hz)
      omega
theorem det_of_uq {l : List Ed} (h : Uq l) : detB l = true :=
  detB_t (fun k hk => List.pairwise_iff_getElem.1 h k (k + 1) (by omega) hk (by omega))
theorem det_part {G : Gr} (h : Vg G) {st : List Int} (hd : detB G.es = true) : detB (partA G st).es = true := by
  refine det_of_uq ((uq_of_det h.srt hd).filterMap _ (fun x x' hne y hy y' hy' e => ?_))
  obtain ⟨a, b, rfl⟩ := partE_some hy
  obtain ⟨a', b', rfl⟩ := partE_some hy'
  exact hne ⟨iof_inj a a' (by have := e.1; simp only at this; omega), e.2⟩
theorem two_of_mem {l : List Int} {x y : Int} (hx : x ∈ l) (hy : y ∈ l) (h : x ≠ y) : 2 ≤ l.length := by
  match l, hx, hy with
  | [z], hx, hy => simp at hx hy; omega
  | _ :: _ :: _, _, _ => simp
theorem step_one {G : Gr} (h : Vg G) (hd : detB G.es = true) (s b : Int) : (nextA G [s] b).length < 2 := by
  have hu := uq_of_det h.srt hd
  rcases Nat.lt_or_ge (nextA G [s] b).length 2 with h' | h'
  · exact h'
  · exfalso
    have hm0 := List.getElem_mem (l := nextA G [s] b) (n := 0) (by omega)
    have hm1 := List.getElem_mem (l := nextA G [s] b) (n := 1) (by omega)
    have hlt := List.pairwise_iff_getElem.1 (nextA_srt G [s] b) 0 1 (by omega) (by omega) (by omega)
    obtain ⟨x, hx, e1, e2, e3⟩ := (mem_nextA h).1 hm0
    obtain ⟨y, hy, f1, f2, f3⟩ := (mem_nextA h).1 hm1
    rw [List.mem_singleton] at e3 f3
    obtain ⟨i, hi, rfl⟩ := List.mem_iff_getElem.1 hx
    obtain ⟨j, hj, rfl⟩ := List.mem_iff_getElem.1 hy
    rcases Nat.lt_trichotomy i j with hij | hij | hij
    · exact List.pairwise_iff_getElem.1 hu i j hi hj hij ⟨by omega, by omega⟩
    · subst hij; omega
    · exact List.pairwise_iff_getElem.1 hu j i hj hi hij ⟨by omega, by omega⟩
theorem det_of_steps {G : Gr} (h : Vg G) (hs : ∀ s b : Int, 0 ≤ s → s < G.n → 0 ≤ b → b < G.q → (nextA G [s] b).length < 2) : detB G.es = true := by
  refine detB_t (fun k hk e => ?_)
  have hx := List.getElem_mem (l := G.es) (n := k) (by omega)
  have hy := List.getElem_mem (l := G.es) (n := k + 1) hk
  have ix := h.ins _ hx
  have lt := ltE_iff.1 (List.pairwise_iff_getElem.1 h.srt k (k + 1) (by omega) hk (by omega))
  have := hs G.es[k].f G.es[k].l (by omega) (by omega) (by omega) (by omega)
  have h1 : G.es[k].t ∈ nextA G [G.es[k].f] G.es[k].l := (mem_nextA h).2 ⟨_, hx, rfl, rfl, by simp⟩
  have h2 : G.es[k + 1].t ∈ nextA G [G.es[k].f] G.es[k].l := (mem_nextA h).2 ⟨_, hy, rfl, e.2.symm, by simp [e.1]⟩
  have := two_of_mem h1 h2 (by omega)
  omega
end Go.Proofs.YtcfmpplhghkagaaDoor
