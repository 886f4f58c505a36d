/-
  Walks: the graph with all edges turned around (door seat).
-/
import Derived.Test.YtkknkbdkokdbfaaDoorGw
namespace Go.Proofs.YtkknkbdkokdbfaaDoor
open Go.RowKit Go.Sort Go.Shelf Go.Lib

def rvE (x : Ed) : Ed := ⟨x.t, x.l, x.f⟩
/-- The graph with all edges turned around, and the error. -/
def revA (G : Gr) : Gr × Int := if chkG G = 0 then makeA G.q G.n (G.es.map rvE) else (⟨0, 0, []⟩, 1)
theorem rv_snoc (l : List Ed) (k : Nat) (h : k < l.length) : (l.take (k + 1)).map rvE = (l.take k).map rvE ++ [⟨l[k].t, l[k].l, l[k].f⟩] := by
  rw [List.take_succ_eq_append_getElem h, List.map_append]; rfl
theorem sg_len {w : World} {p : Option Addr} {l : List Ed} {B e n : Nat} {p' : Option Addr} {m c : Nat} (h : w.ownsRow B e 3 (.slice p m c) n (cat l)) : m = l.length ∧ Sg 3 w edE p l := by
  obtain ⟨q, d, hv, hs, _, _⟩ := own_sg h
  cases hv
  exact ⟨rfl, hs⟩

set_option maxRecDepth 100000 in
set_option maxHeartbeats 2000000 in
theorem gReverse_any (G : Gr) (p : Option Addr) (c : Nat) (w : World) (hin : Sg 3 w edE p G.es) (hl : G.es.length ≤ 10000) :
    Calls Tryd.prog 30 #[(.agg #[.int .i64 G.q, .int .i64 G.n, .slice p G.es.length c])] w (RetGr (revA G).1 (revA G).2 w) := by
  have HIN := hidI hin
  clear hin
  obtain ⟨i0, hi0, hz0, hz1, hz2⟩ := info_parts infoE
  obtain ⟨w0, hw0⟩ : ∃ w0, w0 = (w.alloc (.cells #[.int .i64 G.q, .int .i64 G.n, .slice p G.es.length c] 24)).alloc (.cells #[.int .i64 0, .int .i64 0, .slice none 0 0] 24) := ⟨_, rfl⟩
  have b0 : VRow w0 w.heap.size 24 [.int .i64 G.q, .int .i64 G.n, .slice p G.es.length c] := by subst hw0; exact (VRow.new w _ _).alloc _
  have b1 : VRow w0 (w.heap.size + 1) 24 [.int .i64 0, .int .i64 0, .slice none 0 0] := by subst hw0; exact VRow.new1 w _ _ _
  have hB0 : RowKit.Below w.heap.size w w0 := by subst hw0; exact ((RowKit.Below.refl _ _).alloc (Nat.le_refl _) _).alloc (by simp) _
  obtain ⟨r, hr⟩ : ∃ r, chkG G = r := ⟨_, rfl⟩
  by_cases hr0 : r = 0
  · subst hr0
    have HR := hidI hr
    have HK : Hid (revA G = makeA G.q G.n (G.es.map rvE)) := if_pos hr
    clear hr
    go_enter Tryd.func30, Tryd.ntmps30
    go_wp2_with fail
    rw [← hw0]
    clear hw0
    refine (gCheck_r G p c _ 0 HR.out (HIN.out.below hB0) (by omega)).mono ?_
    rintro e w1 ⟨rfl, hB1⟩
    have x1 := hB0.trans (hB1.mono hB0.size)
    have c0 := b0.below hB1 b0.lt
    have c1 := b1.below hB1 b1.lt
    have f0 := c0.at 0 rfl; have f1 := c0.at 1 rfl; have f2 := c0.at 2 rfl
    clear hB1 b0 b1 hB0
    go_wp2
    have hsz := x1.size
    go_loopw [4, 14] (fun ov iv wr => ∃ k : Nat, k ≤ G.es.length ∧ iv = .int .i64 k ∧ wr.ownsRow w1.heap.size 34 3 ov k (cat ((G.es.take k).map rvE)) ∧ RowKit.Below w1.heap.size w1 wr) (fun _ iv _ => G.es.length - (intOf iv).toNat)
    case atStart => exact ⟨0, by omega, rfl, World.ownsRow_nil _ _ _ _, RowKit.Below.refl _ _⟩
    case round =>
      obtain ⟨k, hk, rfl, hown, hB⟩ := hrel
      have xr := x1.trans (hB.mono x1.size)
      have cr := c0.below hB c0.lt
      have cs := c1.below hB c1.lt
      clear f0 f1 f2
      have f0 := cr.at 0 rfl; have f1 := cr.at 1 rfl; have f2 := cr.at 2 rfl
      by_cases hlt : k < G.es.length
      · obtain ⟨b3, o3, rfl, hb3, e0, e1, e2⟩ := (HIN.out.below xr).get3 k hlt rfl
        have HN := hidI (rv_snoc G.es k hlt)
        generalize (G.es.take k).map rvE = M at *
        generalize hx : G.es[k] = x at *
        have hownA := (hown.alloc (.cells #[.int .i64 x.f, .int .i64 x.l, .int .i64 x.t] 34)).alloc (.cells (edE ⟨x.t, x.l, x.f⟩).toArray 34)
        have hBA := (hB.alloc hB.size (.cells #[.int .i64 x.f, .int .i64 x.l, .int .i64 x.t] 34)).alloc (by have := hB.size; simp; omega) (.cells (edE ⟨x.t, x.l, x.f⟩).toArray 34)
        have hnew := cell_new3 (wr.alloc (.cells #[.int .i64 x.f, .int .i64 x.l, .int .i64 x.t] 34)) ⟨x.t, x.l, x.f⟩ 34 (wr.heap.size + 1) (World.size_alloc _ _)
        have hsz1 := hB.size
        go_wp2_with (at_builtin; refine wpList_append_own _ rfl _ _ 22 rfl w1.heap.size 34 i0 _ 3 24 Tryd.underlying22 hi0 hz0 hz1 hz2 rfl (by decide) _ _ _ rfl hownA ⟨wr.heap.size + 1, 0, none⟩ 1 1 (cat [⟨x.t, x.l, x.f⟩]) rfl rfl hnew (cat_one _) (by simp [maxLen]; omega) (by omega) (by simp; omega) ?_; intro v' w2 hown' hgrow _)
        go_roundw
        case rel => exact ⟨k + 1, by omega, by go_num, by rw [HN.out, cat_app]; exact hown', hBA.grown hgrow (by simp; omega) (fun j e => (hown.lt j e).1)⟩
        case measure => simp [intOf]; omega
      · obtain rfl : k = G.es.length := by omega
        rw [List.take_length] at hown
        obtain ⟨pv, mv, cv, rfl⟩ := own_shape hown
        obtain ⟨hmv, hsv⟩ := sg_len (p' := none) hown
        have hlm : (G.es.map rvE).length ≤ 100000 := by rw [List.length_map]; omega
        have HM : Hid (Calls Tryd.prog 11 #[.int .i64 G.q, .int .i64 G.n, .slice pv mv cv] wr (RetGo (makeA G.q G.n (G.es.map rvE)).1 (makeA G.q G.n (G.es.map rvE)).2 wr)) := by
          subst hmv; exact gMake_own G.q G.n (G.es.map rvE) pv cv wr hsv hlm
        clear hmv
        generalize G.es.map rvE = L at *
        go_wp2_with fail
        refine HM.out.mono ?_
        generalize makeA G.q G.n L = R at *
        rintro e w3 ⟨p3, m3, c3, rfl, hown3, hB3⟩
        have x3 := xr.trans (hB3.mono xr.size)
        have e1 := cs.below hB3 cs.lt
        have hz : w.heap.size + 1 < wr.heap.size := cs.lt
        clear f0 f1 f2
        have j0 := e1.at 0 rfl; have j1 := e1.at 1 rfl; have j2 := e1.at 2 rfl
        have z0 := e1.frozen 0; have z1 := e1.frozen 1; have z2 := e1.frozen 2
        go_wp2
        have r6 := VRow.set (i := 2) (.slice p3 m3 c3) (VRow.set (i := 1) (.int .i64 R.1.n) (VRow.set (i := 0) (.int .i64 R.1.q) e1))
        have y0 := r6.at 0 rfl; have y1 := r6.at 1 rfl; have y2 := r6.at 2 rfl
        have o6 := ownsRow_setCell_below (a := (⟨w.heap.size + 1, 2, none⟩ : Addr)) (ownsRow_setCell_below (a := (⟨w.heap.size + 1, 1, none⟩ : Addr)) (ownsRow_setCell_below (a := (⟨w.heap.size + 1, 0, none⟩ : Addr)) hown3 hz (.int .i64 R.1.q)) hz (.int .i64 R.1.n)) hz (.slice p3 m3 c3)
        have x6 : RowKit.Below w.heap.size w (((w3.setCell (⟨w.heap.size + 1, 0, none⟩ : Addr) (.int .i64 R.1.q)).setCell (⟨w.heap.size + 1, 1, none⟩ : Addr) (.int .i64 R.1.n)).setCell (⟨w.heap.size + 1, 2, none⟩ : Addr) (.slice p3 m3 c3)) :=
          ((x3.setCell (show w.heap.size ≤ w.heap.size + 1 by omega) _).setCell (show w.heap.size ≤ w.heap.size + 1 by omega) _).setCell (show w.heap.size ≤ w.heap.size + 1 by omega) _
        refine bodyPost_ret (v := .tuple #[.agg #[.int .i64 R.1.q, .int .i64 R.1.n, .slice p3 m3 c3], .int .i64 R.2]) (by simp [results, Tryd.results30, go_sem, y0, y1, y2]) rfl ?_
        obtain ⟨p6, c6, hv, hs6, hc6, _⟩ := own_sg o6
        cases hv
        exact RetGr.of (G' := R.1) (k' := R.2) HK.out hs6 hc6 x6
  · have HK : Hid (revA G = (⟨0, 0, []⟩, 1)) := by unfold Hid revA; rw [if_neg (by rw [hr]; exact hr0)]
    have hrb : (r == 0) = false := by simpa using hr0
    have HR := hidI hr
    clear hr
    go_enter Tryd.func30, Tryd.ntmps30
    go_wp2_with fail
    rw [← hw0]
    clear hw0
    refine (gCheck_r G p c _ r HR.out (HIN.out.below hB0) (by omega)).mono ?_
    rintro e w1 ⟨rfl, hB1⟩
    have x1 := hB0.trans (hB1.mono hB0.size)
    have c1 := b1.below hB1 b1.lt
    have j0 := c1.at 0 rfl; have j1 := c1.at 1 rfl; have j2 := c1.at 2 rfl
    have z0 := c1.frozen 0; have z1 := c1.frozen 1; have z2 := c1.frozen 2
    go_wp2
    have r6 := VRow.set (i := 2) (.slice none 0 0) (VRow.set (i := 1) (.int .i64 0) (VRow.set (i := 0) (.int .i64 0) c1))
    have y0 := r6.at 0 rfl; have y1 := r6.at 1 rfl; have y2 := r6.at 2 rfl
    have x6 : RowKit.Below w.heap.size w (((w1.setCell (⟨w.heap.size + 1, 0, none⟩ : Addr) (.int .i64 0)).setCell (⟨w.heap.size + 1, 1, none⟩ : Addr) (.int .i64 0)).setCell (⟨w.heap.size + 1, 2, none⟩ : Addr) (.slice none 0 0)) :=
      ((x1.setCell (show w.heap.size ≤ w.heap.size + 1 by omega) _).setCell (show w.heap.size ≤ w.heap.size + 1 by omega) _).setCell (show w.heap.size ≤ w.heap.size + 1 by omega) _
    refine bodyPost_ret (v := .tuple #[.agg #[.int .i64 0, .int .i64 0, .slice none 0 0], .int .i64 1]) (by simp [results, Tryd.results30, go_sem, y0, y1, y2]) rfl ?_
    exact RetGr.of (G' := ⟨0, 0, []⟩) HK.out (Sg.nil _ _ _ _) (by simp) x6
end Go.Proofs.YtkknkbdkokdbfaaDoor
