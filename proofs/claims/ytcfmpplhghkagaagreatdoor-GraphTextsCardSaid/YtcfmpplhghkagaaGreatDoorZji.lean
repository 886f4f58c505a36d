/-
  Words, plain lemmas and walks, merged: Jl, Ji, Jm.
-/
import Derived.Test.YtcfmpplhghkagaaGreatDoorZje
import Derived.Test.YtcfmpplhghkagaaGreatDoorZjc
import Derived.Test.YtcfmpplhghkagaaGreatDoorZjg
set_option linter.unusedVariables false
set_option linter.unusedSimpArgs false
namespace Go.Proofs.YtcfmpplhghkagaaGreatDoor
open Go.RowKit Go.Sort Go.Shelf Go.Lib

set_option maxRecDepth 100000 in
set_option maxHeartbeats 1000000 in
theorem rMake_own (q n : Int) (l : List Ed) (p : Option Addr) (c : Nat) (w : World) (hin : Sg 3 w edE p l) (hl : l.length ≤ 10000) :
    Calls Tryz.prog 23 #[.int .i64 q, .int .i64 n, .slice p l.length c] w (RetGo (makeA q n l).1 (makeA q n l).2 w) := by
  have hB0 : Below w.heap.size w (w.alloc (.cells #[.int .i64 0, .int .i64 0, .slice none 0 0] 24)) := (Below.refl _ _).alloc (Nat.le_refl _) _
  have b0 : VRow (w.alloc (.cells #[.int .i64 0, .int .i64 0, .slice none 0 0] 24)) w.heap.size 24 [.int .i64 0, .int .i64 0, .slice none 0 0] := VRow.new w _ _
  go_enter Tryz.func23, Tryz.ntmps23
  go_wp2_with fail
  refine (rSorted_any l p c _ (hin.below hB0) hl).mono ?_
  rintro e w4 ⟨v4, rfl, hown4, hB4⟩
  have hz0 : w.heap.size < (w.alloc (.cells #[.int .i64 0, .int .i64 0, .slice none 0 0] 24)).heap.size := b0.lt
  have x4 := hB0.trans (hB4.mono hB0.size)
  have b4 := b0.below hB4 b0.lt
  clear hB4 hB0 b0
  generalize (w.alloc (.cells #[.int .i64 0, .int .i64 0, .slice none 0 0] 24)).heap.size = B at *
  obtain ⟨p4, c4, rfl, hs4, hc4, _⟩ := own_sg hown4
  have f0 := b4.at 0 rfl; have f1 := b4.at 1 rfl; have f2 := b4.at 2 rfl
  have hfz := fun j => b4.frozen j
  have hz4 := b4.lt
  have hw5 : Sg 3 (w4.alloc (.cells #[.int .i64 (⟨q, n, norm l⟩ : Gr).q, .int .i64 (⟨q, n, norm l⟩ : Gr).n, .slice p4 (⟨q, n, norm l⟩ : Gr).es.length c4] 24)) edE p4 (norm l) := hs4.below ((Below.refl _ _).alloc (Nat.le_refl _) _)
  have hln : (norm l).length ≤ 100000 := by
    have := norm_len l l.length (Nat.le_refl _); rw [List.take_length] at this; omega
  obtain ⟨r, hr⟩ : ∃ r, chkG ⟨q, n, norm l⟩ = r := ⟨_, rfl⟩
  have b4' : VRow (w4.alloc (.cells #[.int .i64 (⟨q, n, norm l⟩ : Gr).q, .int .i64 (⟨q, n, norm l⟩ : Gr).n, .slice p4 (⟨q, n, norm l⟩ : Gr).es.length c4] 24)) w.heap.size 24 [.int .i64 0, .int .i64 0, .slice none 0 0] := b4.alloc _
  have c4' : VRow (w4.alloc (.cells #[.int .i64 (⟨q, n, norm l⟩ : Gr).q, .int .i64 (⟨q, n, norm l⟩ : Gr).n, .slice p4 (⟨q, n, norm l⟩ : Gr).es.length c4] 24)) w4.heap.size 24 [.int .i64 (⟨q, n, norm l⟩ : Gr).q, .int .i64 (⟨q, n, norm l⟩ : Gr).n, .slice p4 (⟨q, n, norm l⟩ : Gr).es.length c4] := VRow.new w4 _ _
  have x4' := x4.alloc x4.size (.cells #[.int .i64 (⟨q, n, norm l⟩ : Gr).q, .int .i64 (⟨q, n, norm l⟩ : Gr).n, .slice p4 (⟨q, n, norm l⟩ : Gr).es.length c4] 24)
  have hL : Hid ((norm l).length ≤ c4) := hc4
  by_cases hr0 : r = 0
  · subst hr0
    have HR := hidI (makeA_ok hr)
    go_wp2_with fail
    refine (rCheck_r ⟨q, n, norm l⟩ p4 c4 _ 0 hr hw5 (by show (norm l).length ≤ _; omega)).mono ?_
    rintro e w5 ⟨rfl, hB5⟩
    have x5 := x4'.trans (hB5.mono x4'.size)
    have b5 := b4'.below hB5 b4'.lt
    have c5 := c4'.below hB5 c4'.lt
    have o5 := (hown4.alloc (.cells #[.int .i64 (⟨q, n, norm l⟩ : Gr).q, .int .i64 (⟨q, n, norm l⟩ : Gr).n, .slice p4 (⟨q, n, norm l⟩ : Gr).es.length c4] 24)).below hB5
    have g0 := c5.at 0 rfl; have g1 := c5.at 1 rfl; have g2 := c5.at 2 rfl
    have k0 := b5.at 0 rfl; have k1 := b5.at 1 rfl; have k2 := b5.at 2 rfl
    have z0 := b5.frozen 0; have z1 := b5.frozen 1; have z2 := b5.frozen 2
    clear f0 f1 f2 hfz hr
    go_wp2
    have r6 := VRow.set (i := 2) (.slice p4 (norm l).length c4) (VRow.set (i := 1) (.int .i64 n) (VRow.set (i := 0) (.int .i64 q) b5))
    have y0 := r6.at 0 rfl; have y1 := r6.at 1 rfl; have y2 := r6.at 2 rfl
    have o6 := ownsRow_setCell_below (a := ⟨w.heap.size, 2, none⟩) (ownsRow_setCell_below (a := ⟨w.heap.size, 1, none⟩) (ownsRow_setCell_below (a := ⟨w.heap.size, 0, none⟩) o5 hz0 (.int .i64 q)) hz0 (.int .i64 n)) hz0 (.slice p4 (norm l).length c4)
    have x6 : Below w.heap.size w (((w5.setCell ⟨w.heap.size, 0, none⟩ (.int .i64 q)).setCell ⟨w.heap.size, 1, none⟩ (.int .i64 n)).setCell ⟨w.heap.size, 2, none⟩ (.slice p4 (norm l).length c4)) := ((x5.setCell (Nat.le_refl _) _).setCell (Nat.le_refl _) _).setCell (Nat.le_refl _) _
    refine bodyPost_ret (v := .tuple #[.agg #[.int .i64 q, .int .i64 n, .slice p4 (norm l).length c4], .int .i64 0]) (by simp [results, Tryz.results23, go_sem, y0, y1, y2]) rfl ?_
    exact RetGo.of HR.out (own_conv o6 rfl (Nat.le_of_lt hz0)) x6
  · have hrb : (r == 0) = false := by simpa using hr0
    have HR := hidI (makeA_bad (by rw [hr]; exact hr0))
    rw [hr] at HR
    go_wp2_with fail
    refine (rCheck_r ⟨q, n, norm l⟩ p4 c4 _ r hr hw5 (by show (norm l).length ≤ _; omega)).mono ?_
    rintro e w5 ⟨rfl, hB5⟩
    have x5 := x4'.trans (hB5.mono x4'.size)
    have b5 := b4'.below hB5 b4'.lt
    have o5 := (hown4.alloc (.cells #[.int .i64 (⟨q, n, norm l⟩ : Gr).q, .int .i64 (⟨q, n, norm l⟩ : Gr).n, .slice p4 (⟨q, n, norm l⟩ : Gr).es.length c4] 24)).below hB5
    have k0 := b5.at 0 rfl; have k1 := b5.at 1 rfl; have k2 := b5.at 2 rfl
    have z0 := b5.frozen 0; have z1 := b5.frozen 1; have z2 := b5.frozen 2
    clear f0 f1 f2 hfz hr
    go_wp2
    have r6 := VRow.set (i := 2) (.slice none 0 0) (VRow.set (i := 1) (.int .i64 0) (VRow.set (i := 0) (.int .i64 0) b5))
    have y0 := r6.at 0 rfl; have y1 := r6.at 1 rfl; have y2 := r6.at 2 rfl
    have o6 := ownsRow_setCell_below (a := ⟨w.heap.size, 2, none⟩) (ownsRow_setCell_below (a := ⟨w.heap.size, 1, none⟩) (ownsRow_setCell_below (a := ⟨w.heap.size, 0, none⟩) o5 hz0 (.int .i64 0)) hz0 (.int .i64 0)) hz0 (.slice none 0 0)
    have x6 : Below w.heap.size w (((w5.setCell ⟨w.heap.size, 0, none⟩ (.int .i64 0)).setCell ⟨w.heap.size, 1, none⟩ (.int .i64 0)).setCell ⟨w.heap.size, 2, none⟩ (.slice none 0 0)) := ((x5.setCell (Nat.le_refl _) _).setCell (Nat.le_refl _) _).setCell (Nat.le_refl _) _
    refine bodyPost_ret (v := .tuple #[.agg #[.int .i64 0, .int .i64 0, .slice none 0 0], .int .i64 r]) (by simp [results, Tryz.results23, go_sem, y0, y1, y2]) rfl ?_
    exact RetGo.of (G' := ⟨0, 0, []⟩) HR.out (World.ownsRow_nil _ _ _ _) x6

set_option maxRecDepth 100000 in
set_option maxHeartbeats 2000000 in
theorem rReverse_any (G : Gr) (p : Option Addr) (c : Nat) (w : World) (hin : Sg 3 w edE p G.es) (hl : G.es.length ≤ 10000) :
    Calls Tryz.prog 7 #[(.agg #[.int .i64 G.q, .int .i64 G.n, .slice p G.es.length c])] w (RetGr (revA G).1 (revA G).2 w) := by
  have HIN := hidI hin
  clear hin
  obtain ⟨i0, hi0, hz0, hz1, hz2⟩ := info_parts infoE
  obtain ⟨w0, hw0⟩ : ∃ w0, w0 = (w.alloc (.cells #[.int .i64 G.q, .int .i64 G.n, .slice p G.es.length c] 24)).alloc (.cells #[.int .i64 0, .int .i64 0, .slice none 0 0] 24) := ⟨_, rfl⟩
  have b0 : VRow w0 w.heap.size 24 [.int .i64 G.q, .int .i64 G.n, .slice p G.es.length c] := by subst hw0; exact (VRow.new w _ _).alloc _
  have b1 : VRow w0 (w.heap.size + 1) 24 [.int .i64 0, .int .i64 0, .slice none 0 0] := by subst hw0; exact VRow.new1 w _ _ _
  have hB0 : RowKit.Below w.heap.size w w0 := by subst hw0; exact ((RowKit.Below.refl _ _).alloc (Nat.le_refl _) _).alloc (by simp) _
  obtain ⟨r, hr⟩ : ∃ r, chkG G = r := ⟨_, rfl⟩
  by_cases hr0 : r = 0
  · subst hr0
    have HR := hidI hr
    have HK : Hid (revA G = makeA G.q G.n (G.es.map rvE)) := if_pos hr
    clear hr
    go_enter Tryz.func7, Tryz.ntmps7
    go_wp2_with fail
    rw [← hw0]
    clear hw0
    refine (rCheck_r G p c _ 0 HR.out (HIN.out.below hB0) (by omega)).mono ?_
    rintro e w1 ⟨rfl, hB1⟩
    have x1 := hB0.trans (hB1.mono hB0.size)
    have c0 := b0.below hB1 b0.lt
    have c1 := b1.below hB1 b1.lt
    have f0 := c0.at 0 rfl; have f1 := c0.at 1 rfl; have f2 := c0.at 2 rfl
    clear hB1 b0 b1 hB0
    go_wp2
    have hsz := x1.size
    go_loopw [4, 5] (fun ov iv wr => ∃ k : Nat, k ≤ G.es.length ∧ iv = .int .i64 k ∧ wr.ownsRow w1.heap.size 44 3 ov k (cat ((G.es.take k).map rvE)) ∧ RowKit.Below w1.heap.size w1 wr) (fun _ iv _ => G.es.length - (intOf iv).toNat)
    case atStart => exact ⟨0, by omega, rfl, World.ownsRow_nil _ _ _ _, RowKit.Below.refl _ _⟩
    case round =>
      obtain ⟨k, hk, rfl, hown, hB⟩ := hrel
      have xr := x1.trans (hB.mono x1.size)
      have cr := c0.below hB c0.lt
      have cs := c1.below hB c1.lt
      clear f0 f1 f2
      have f0 := cr.at 0 rfl; have f1 := cr.at 1 rfl; have f2 := cr.at 2 rfl
      by_cases hlt : k < G.es.length
      · obtain ⟨b3, o3, rfl, hb3, e0, e1, e2⟩ := (HIN.out.below xr).get3 k hlt rfl
        have HN := hidI (rv_snoc G.es k hlt)
        generalize (G.es.take k).map rvE = M at *
        generalize hx : G.es[k] = x at *
        have hownA := (hown.alloc (.cells #[.int .i64 x.f, .int .i64 x.l, .int .i64 x.t] 44)).alloc (.cells (edE ⟨x.t, x.l, x.f⟩).toArray 44)
        have hBA := (hB.alloc hB.size (.cells #[.int .i64 x.f, .int .i64 x.l, .int .i64 x.t] 44)).alloc (by have := hB.size; simp; omega) (.cells (edE ⟨x.t, x.l, x.f⟩).toArray 44)
        have hnew := cell_new3 (wr.alloc (.cells #[.int .i64 x.f, .int .i64 x.l, .int .i64 x.t] 44)) ⟨x.t, x.l, x.f⟩ 44 (wr.heap.size + 1) (World.size_alloc _ _)
        have hsz1 := hB.size
        go_wp2_with (at_builtin; refine wpList_append_own _ rfl _ _ 22 rfl w1.heap.size 44 i0 _ 3 24 Tryz.underlying22 hi0 hz0 hz1 hz2 rfl (by decide) _ _ _ rfl hownA ⟨wr.heap.size + 1, 0, none⟩ 1 1 (cat [⟨x.t, x.l, x.f⟩]) rfl rfl hnew (cat_one _) (by simp [maxLen]; omega) (by omega) (by simp; omega) ?_; intro v' w2 hown' hgrow _)
        go_roundw
        case rel => exact ⟨k + 1, by omega, by go_num, by rw [HN.out, cat_app]; exact hown', hBA.grown hgrow (by simp; omega) (fun j e => (hown.lt j e).1)⟩
        case measure => simp [intOf]; omega
      · obtain rfl : k = G.es.length := by omega
        rw [List.take_length] at hown
        obtain ⟨pv, mv, cv, rfl⟩ := own_shape hown
        obtain ⟨hmv, hsv⟩ := sg_len (p' := none) hown
        have hlm : (G.es.map rvE).length ≤ 10000 := by rw [List.length_map]; omega
        have HM : Hid (Calls Tryz.prog 23 #[.int .i64 G.q, .int .i64 G.n, .slice pv mv cv] wr (RetGo (makeA G.q G.n (G.es.map rvE)).1 (makeA G.q G.n (G.es.map rvE)).2 wr)) := by
          subst hmv; exact rMake_own G.q G.n (G.es.map rvE) pv cv wr hsv hlm
        clear hmv
        generalize G.es.map rvE = L at *
        go_wp2_with fail
        refine HM.out.mono ?_
        generalize makeA G.q G.n L = R at *
        rintro e w3 ⟨p3, m3, c3, rfl, hown3, hB3⟩
        have x3 := xr.trans (hB3.mono xr.size)
        have e1 := cs.below hB3 cs.lt
        have hz : w.heap.size + 1 < wr.heap.size := cs.lt
        clear f0 f1 f2
        have j0 := e1.at 0 rfl; have j1 := e1.at 1 rfl; have j2 := e1.at 2 rfl
        have z0 := e1.frozen 0; have z1 := e1.frozen 1; have z2 := e1.frozen 2
        go_wp2
        have r6 := VRow.set (i := 2) (.slice p3 m3 c3) (VRow.set (i := 1) (.int .i64 R.1.n) (VRow.set (i := 0) (.int .i64 R.1.q) e1))
        have y0 := r6.at 0 rfl; have y1 := r6.at 1 rfl; have y2 := r6.at 2 rfl
        have o6 := ownsRow_setCell_below (a := (⟨w.heap.size + 1, 2, none⟩ : Addr)) (ownsRow_setCell_below (a := (⟨w.heap.size + 1, 1, none⟩ : Addr)) (ownsRow_setCell_below (a := (⟨w.heap.size + 1, 0, none⟩ : Addr)) hown3 hz (.int .i64 R.1.q)) hz (.int .i64 R.1.n)) hz (.slice p3 m3 c3)
        have x6 : RowKit.Below w.heap.size w (((w3.setCell (⟨w.heap.size + 1, 0, none⟩ : Addr) (.int .i64 R.1.q)).setCell (⟨w.heap.size + 1, 1, none⟩ : Addr) (.int .i64 R.1.n)).setCell (⟨w.heap.size + 1, 2, none⟩ : Addr) (.slice p3 m3 c3)) :=
          ((x3.setCell (show w.heap.size ≤ w.heap.size + 1 by omega) _).setCell (show w.heap.size ≤ w.heap.size + 1 by omega) _).setCell (show w.heap.size ≤ w.heap.size + 1 by omega) _
        refine bodyPost_ret (v := .tuple #[.agg #[.int .i64 R.1.q, .int .i64 R.1.n, .slice p3 m3 c3], .int .i64 R.2]) (by simp [results, Tryz.results7, go_sem, y0, y1, y2]) rfl ?_
        obtain ⟨p6, c6, hv, hs6, hc6, _⟩ := own_sg o6
        cases hv
        exact RetGr.of (G' := R.1) (k' := R.2) HK.out hs6 hc6 x6
  · have HK : Hid (revA G = (⟨0, 0, []⟩, 1)) := by unfold Hid revA; rw [if_neg (by rw [hr]; exact hr0)]
    have hrb : (r == 0) = false := by simpa using hr0
    have HR := hidI hr
    clear hr
    go_enter Tryz.func7, Tryz.ntmps7
    go_wp2_with fail
    rw [← hw0]
    clear hw0
    refine (rCheck_r G p c _ r HR.out (HIN.out.below hB0) (by omega)).mono ?_
    rintro e w1 ⟨rfl, hB1⟩
    have x1 := hB0.trans (hB1.mono hB0.size)
    have c1 := b1.below hB1 b1.lt
    have j0 := c1.at 0 rfl; have j1 := c1.at 1 rfl; have j2 := c1.at 2 rfl
    have z0 := c1.frozen 0; have z1 := c1.frozen 1; have z2 := c1.frozen 2
    go_wp2
    have r6 := VRow.set (i := 2) (.slice none 0 0) (VRow.set (i := 1) (.int .i64 0) (VRow.set (i := 0) (.int .i64 0) c1))
    have y0 := r6.at 0 rfl; have y1 := r6.at 1 rfl; have y2 := r6.at 2 rfl
    have x6 : RowKit.Below w.heap.size w (((w1.setCell (⟨w.heap.size + 1, 0, none⟩ : Addr) (.int .i64 0)).setCell (⟨w.heap.size + 1, 1, none⟩ : Addr) (.int .i64 0)).setCell (⟨w.heap.size + 1, 2, none⟩ : Addr) (.slice none 0 0)) :=
      ((x1.setCell (show w.heap.size ≤ w.heap.size + 1 by omega) _).setCell (show w.heap.size ≤ w.heap.size + 1 by omega) _).setCell (show w.heap.size ≤ w.heap.size + 1 by omega) _
    refine bodyPost_ret (v := .tuple #[.agg #[.int .i64 0, .int .i64 0, .slice none 0 0], .int .i64 1]) (by simp [results, Tryz.results7, go_sem, y0, y1, y2]) rfl ?_
    exact RetGr.of (G' := ⟨0, 0, []⟩) HK.out (Sg.nil _ _ _ _) (by simp) x6
end Go.Proofs.YtcfmpplhghkagaaGreatDoor
namespace Go.Proofs.YtcfmpplhghkagaaGreatDoor
open Go.RowKit Go.Sort Go.Shelf Go.Lib

theorem infoNm : (Tryz.prog.info? 3).map (fun i => (i.zero, i.size, i.bytes)) = some (some (.int .i64 0), 1, 8) := by kernel_rfl
def natV (n : Nat) : Value := .int .i64 (n : Int)
/-- The numbers of a line, and whether it has them. -/
def RetNs (r : Option (List Nat)) (w : World) (e : Ending) (w' : World) : Prop :=
  match r with
  | some l => ∃ p c, e = .returned (.tuple #[.slice p l.length c, .bool true]) ∧ Sl w' natV p l ∧ l.length ≤ c ∧ RowKit.Below w.heap.size w w'
  | none => e = .returned (.tuple #[.slice none 0 0, .bool false]) ∧ RowKit.Below w.heap.size w w'
theorem RetNs.no {r : Option (List Nat)} {w w' : World} (h : r = none) (hB : RowKit.Below w.heap.size w w') : RetNs r w (.returned (.tuple #[.slice none 0 0, .bool false])) w' := by
  subst h; exact ⟨rfl, hB⟩
theorem RetNs.yes {r : Option (List Nat)} {l : List Nat} {w w' : World} {v : Value} {B : Nat} (h : r = some l) (ho : w'.ownsRow B 3 1 v l.length (l.map natV)) (hB : RowKit.Below w.heap.size w w') : RetNs r w (.returned (.tuple #[v, .bool true])) w' := by
  subst h
  obtain ⟨p, c, rfl, hs⟩ := own_sl ho
  exact ⟨p, c, rfl, hs, own_cap ho _ _ _ rfl, hB⟩
theorem pieces_sum : ∀ (c : UInt8) (s : List UInt8), ∀ p ∈ spl c s, p.length ≤ s.length
  | c, [], p, h => by
    simp only [spl, List.mem_singleton] at h
    subst h; simp
  | c, b :: r, p, h => by
    have ih := pieces_sum c r
    unfold spl at h
    split at h
    · rcases List.mem_cons.1 h with rfl | h
      · simp
      · have := ih p h; simp; omega
    · split at h
      · rename_i h0; exact absurd h0 (spl_ne c r)
      · rename_i p' q h0
        rw [h0] at ih
        rcases List.mem_cons.1 h with rfl | h
        · have := ih p' (by simp); simp; omega
        · have := ih p (List.mem_cons_of_mem _ h); simp; omega
theorem spl_len_le (c : UInt8) (s : List UInt8) : (spl c s).length ≤ s.length + 1 := by
  rw [spl_len]
  have := List.count_le_length (a := c) (l := s)
  omega
/-- What has been read of a line's words. -/
def numK (ls : List ByteArray) (k : Nat) : List Nat := (ls.take k).map (fun x => valD x.data.toList)
theorem numK_len {ls : List ByteArray} {k : Nat} (h : k ≤ ls.length) : (numK ls k).length = k := by unfold numK; rw [List.length_map, List.length_take]; omega
theorem numK_succ {ls : List ByteArray} {k : Nat} (h : k < ls.length) : numK ls (k + 1) = numK ls k ++ [valD ls[k].data.toList] := by
  unfold numK; rw [List.take_succ_eq_append_getElem h, List.map_append]; rfl
theorem nums_yes {ls : List ByteArray} {s : List UInt8} (hls : ls.map (·.data.toList) = spl 32 s) {n : Nat} (hn : ls.length = n) (h : ∀ i (hi : i < ls.length), wordN ls[i].data.toList = true) : numsP s n = some (numK ls ls.length) := by
  unfold numsP
  rw [← hls, if_pos]
  · unfold numK; rw [List.take_length, List.map_map]; rfl
  · refine ⟨by rw [List.length_map]; exact hn, ?_⟩
    rw [List.all_map, List.all_eq_true]
    intro x hx
    obtain ⟨i, hi, rfl⟩ := List.mem_iff_getElem.1 hx
    exact h i hi
theorem nums_no {ls : List ByteArray} {s : List UInt8} (hls : ls.map (·.data.toList) = spl 32 s) {n i : Nat} (hi : i < ls.length) (h : wordN ls[i].data.toList = false) : numsP s n = none := by
  unfold numsP
  rw [← hls, if_neg]
  rintro ⟨_, ha⟩
  rw [List.all_map, List.all_eq_true] at ha
  have := ha ls[i] (List.getElem_mem hi)
  simp [h] at this
theorem nums_short {ls : List ByteArray} {s : List UInt8} (hls : ls.map (·.data.toList) = spl 32 s) {n : Nat} (hn : ls.length ≠ n) : numsP s n = none := by
  unfold numsP
  rw [← hls, if_neg]
  rintro ⟨h, _⟩
  rw [List.length_map] at h
  exact hn h

set_option maxRecDepth 100000 in
set_option maxHeartbeats 2000000 in
theorem gNums_any (s : ByteArray) (n : Nat) (w : World) (hs : s.size ≤ 100000) (hn : n ≤ 1000) (hm : LM w) : Calls Tryz.prog 39 #[.string s, .int .i64 n] w (RetNs (numsP s.data.toList n) w) := by
  obtain ⟨i0, hi0, hz0, hz1, hz3⟩ := info_parts infoNm
  have HM := hidI hm
  clear hm
  obtain ⟨R, hR⟩ : ∃ R, numsP s.data.toList n = R := ⟨_, rfl⟩
  have HR := hidI hR
  rw [hR]
  clear hR
  go_enter Tryz.func39, Tryz.ntmps39
  go_wp2_with fail
  refine (split_any 32 s w (by omega) HM.out).mono ?_
  rintro e w1 ⟨ls, hls, rfl, hsl, hB1⟩
  have HLS := hidI hls
  have HSL := hidI hsl
  have hlen : ls.length ≤ 100001 := by
    have h1 := congrArg List.length hls
    rw [List.length_map] at h1
    have h2 := spl_len_le 32 s.data.toList
    have h3 : s.data.toList.length = s.size := by simp
    omega
  have HZ : Hid (∀ i (hi : i < ls.length), ls[i].size ≤ 100000) := fun i hi => by
    have hm : ls[i].data.toList ∈ spl 32 s.data.toList := by rw [← HLS.out]; exact List.mem_map_of_mem (List.getElem_mem hi)
    have h1 := pieces_sum 32 _ _ hm
    have h3 : s.data.toList.length = s.size := by simp
    have h4 : ls[i].data.toList.length = ls[i].size := by simp
    omega
  clear hls hsl
  by_cases hnl : ls.length = n
  · have hb : ((ls.length : Int) != (n : Int)) = false := by simp [hnl]
    have hb2 : ((ls.length : Int) == (n : Int)) = true := by simp [hnl]
    have HN := hidI hnl
    clear hnl
    have hz1' := hB1.size
    go_wp2
    go_loopw [7, 20] (fun ov iv wr => ∃ k : Nat, k ≤ ls.length ∧ iv = .int .i64 k ∧ wr.ownsRow w1.heap.size 3 1 ov k ((numK ls k).map natV) ∧ Hid (∀ i (hi : i < ls.length), i < k → wordN ls[i].data.toList = true) ∧ RowKit.Below w1.heap.size w1 wr) (fun _ iv _ => ls.length - (intOf iv).toNat)
    case atStart => exact ⟨0, by omega, rfl, World.ownsRow_nil _ _ _ _, fun i hi h => absurd h (by omega), RowKit.Below.refl _ _⟩
    case round =>
      obtain ⟨k, hk, rfl, hown, HW, hB⟩ := hrel
      have xr := hB1.trans (hB.mono hB1.size)
      by_cases hlt : k < ls.length
      · obtain ⟨b3, o3, hpo, hb3, hc3⟩ := (HSL.out.below hB).get k hlt
        cases hpo
        have e0 := hc3 k hlt
        rw [Nat.zero_add] at e0
        clear hc3
        have hxz := HZ.out k hlt
        have hm := HM.out.below xr
        have HMr := hidI hm
        clear hm
        have HN := hidI (numK_succ hlt)
        have HWK : Hid (wordN ls[k].data.toList = true → ∀ i (hi : i < ls.length), i < k + 1 → wordN ls[i].data.toList = true) := fun h i hi hik => by
          by_cases e : i = k
          · subst e; exact h
          · exact HW.out i hi (by omega)
        have HNO : Hid (wordN ls[k].data.toList = false → R = none) := fun h => HR.out.symm.trans (nums_no HLS.out hlt h)
        generalize ls[k] = x at *
        by_cases hw : wordN x.data.toList = true
        · have HA := hidI (atoi_yes x (by omega) hw wr)
          have hv : (valD x.data.toList : Int) ≤ 999999999 := (atoi_word hw).2
          have HB := hidI (word_back hw)
          have HWK2 := hidI (HWK.out hw)
          clear hw
          generalize valD x.data.toList = v at *
          have d1 : decide ((v : Int) < 0) = false := decide_eq_false (by omega)
          have d2 : decide (999999999 < (v : Int)) = false := decide_eq_false (by omega)
          have hown0 := hidI hown
          have HNN := hidI HN
          go_wp2_with fail
          refine HA.out.mono ?_
          rintro e w2 ⟨rfl, hB2⟩
          have e2 := (hB2.cell (World.block_lt_of_cell? wr _ e0)).trans e0
          have own2 := hown.below hB2
          have hB12 := hB.trans (hB2.mono hB.size)
          clear hown hown0 e0
          go_wp2_with fail
          refine (itoaG_any (v : Int) (by omega) w2 (HMr.out.below hB2)).mono ?_
          rintro e w3 ⟨rfl, hB3⟩
          have own3 := own2.below hB3
          have hB13 := hB12.trans (hB3.mono hB12.size)
          have hq : (⟨(Lib.itoa (v : Int)).toArray⟩ : ByteArray) = x := by rw [HB.out]
          rw [hq]
          have hbx : (x.toList == x.toList) = true := by simp
          have hbx2 : (x.toList != x.toList) = false := by simp
          clear hq own2
          have hnew := cell_one_at w3 (.int .i64 (v : Int)) 3 w3.heap.size rfl
          go_wp2_with (at_builtin; refine wpList_append_own _ rfl _ _ 30 rfl w1.heap.size 3 i0 (.int .i64 0) 1 8 Tryz.underlying30 hi0 hz0 hz1 hz3 rfl (by decide) _ _ _ rfl (own3.alloc _) ⟨w3.heap.size, 0, none⟩ 1 1 [.int .i64 (v : Int)] rfl rfl hnew (by simp [Value.oneCell']) (by simp [maxLen]; omega) (by omega) (by rw [World.size_alloc]; have := hB13.size; omega) ?_; intro v' w4 hown' hgrow _)
          go_roundw
          case rel => exact ⟨k + 1, by omega, by go_num, by rw [HNN.out.out, List.map_append]; exact hown', HWK2.out, (hB13.alloc hB13.size _).grown hgrow (Nat.le_trans hB13.size (by simp)) (fun j e => (own3.lt j e).1)⟩
          case measure => simp [intOf]; omega
        · have hwf : wordN x.data.toList = false := by simpa using hw
          have HA := hidI (atoi_no x (by omega) hwf wr HMr.out)
          have hr := HNO.out hwf
          have HRN := hidI hr
          clear hw hwf hr HNO HWK
          go_wp2_with fail
          refine HA.out.mono ?_
          rintro e w2 ⟨v, g, rfl, hg, hB2⟩
          have xr2 := xr.trans (hB2.mono xr.size)
          have e2 := (hB2.cell (World.block_lt_of_cell? wr _ e0)).trans e0
          clear e0 hown
          rcases hg with ⟨rfl, hgv⟩ | ⟨tt, pp, rfl⟩
          · have HG := hidI hgv
            clear hgv
            by_cases h0 : 0 ≤ v
            · have d1 : decide (v < 0) = false := decide_eq_false (by omega)
              by_cases h9 : v ≤ 999999999
              · have d2 : decide (999999999 < v) = false := decide_eq_false (by omega)
                have hne := HG.out h0 h9
                have hbx := bts_f hne
                have hbx2 : ((⟨(Lib.itoa v).toArray⟩ : ByteArray).toList != x.toList) = true := by unfold bne; rw [hbx]; rfl
                have HI := hidI (itoaG_any v ⟨h0, h9⟩ w2 (HMr.out.below hB2))
                generalize (⟨(Lib.itoa v).toArray⟩ : ByteArray) = y at *
                clear hne HG
                go_wp2_with fail
                refine HI.out.mono ?_
                rintro e w3 ⟨rfl, hB3⟩
                have xr3 := xr2.trans (hB3.mono xr2.size)
                go_wp2
                go_ret2
                exact RetNs.no HRN.out xr3
              · have d2 : decide (999999999 < v) = true := decide_eq_true (by omega)
                go_wp2
                go_ret2
                exact RetNs.no HRN.out xr2
            · have d1 : decide (v < 0) = true := decide_eq_true (by omega)
              go_wp2
              go_ret2
              exact RetNs.no HRN.out xr2
          · go_wp2
            go_ret2
            exact RetNs.no HRN.out xr2
      · obtain rfl : k = ls.length := by omega
        have HRY : Hid (R = some (numK ls ls.length)) := HR.out.symm.trans (nums_yes HLS.out HN.out (fun i hi => HW.out i hi hi))
        have HKL : Hid ((numK ls ls.length).length = ls.length) := numK_len (Nat.le_refl _)
        go_wp2
        go_ret2
        exact RetNs.yes HRY.out (by rw [HKL.out]; exact hown) xr
  · have hr : R = none := HR.out.symm.trans (nums_short HLS.out hnl)
    have hne : (ls.length : Int) ≠ (n : Int) := by omega
    have hb : ((ls.length : Int) != (n : Int)) = true := by simpa using hne
    have hb2 : ((ls.length : Int) == (n : Int)) = false := by simpa using hne
    clear hnl hne
    have HRN := hidI hr
    clear hr
    go_wp2
    go_ret2
    exact RetNs.no HRN.out hB1
end Go.Proofs.YtcfmpplhghkagaaGreatDoor
namespace Go.Proofs.YtcfmpplhghkagaaGreatDoor
open Go.RowKit Go.Sort Go.Shelf Go.Lib

theorem rNumber_32 (s : ByteArray) (w : World) (hs : s.size ≤ 1000000) (V : Int × ByteArray) (hV : numV s 32 = V) : Calls Tryz.prog 40 #[.string s, .int .u8 32] w fun en w' => en = .returned (.tuple #[.int .i64 V.1, .string V.2]) ∧ Dr w w' := by
  subst hV; exact rNumber_any s 32 w hs
theorem rNumber_10 (s : ByteArray) (w : World) (hs : s.size ≤ 1000000) (V : Int × ByteArray) (hV : numV s 10 = V) : Calls Tryz.prog 40 #[.string s, .int .u8 10] w fun en w' => en = .returned (.tuple #[.int .i64 V.1, .string V.2]) ∧ Dr w w' := by
  subst hV; exact rNumber_any s 10 w hs
theorem nil_of_size {r : ByteArray} (h : r.size = 0) : r.data.toList = [] := by
  have e : r.data.toList.length = r.size := by simp
  exact List.length_eq_zero_iff.1 (by omega)
theorem ne_of_size {r : ByteArray} (h : r.size ≠ 0) : r.data.toList ≠ [] := fun e => h (by
  have e1 : r.data.toList.length = r.size := by simp
  rw [e] at e1
  simpa using e1.symm)
def strZ : Value → Nat
  | .string s => s.size
  | _ => 0
theorem body_ge : ∀ es : List (Nat × Nat × Nat), es.length ≤ (bodyT es).length
  | [] => by simp
  | e :: es => by
    have h1 := body_ge es
    have h2 : 0 < (lineT e).length := List.length_pos_iff.2 (lineT_ne e)
    have e1 : bodyT (e :: es) = lineT e ++ bodyT es := by simp [bodyT]
    rw [e1, List.length_append, List.length_cons]; omega
theorem prT_ge (q n : Nat) (es : List (Nat × Nat × Nat)) : es.length ≤ (prT q n es).length := by
  have := body_ge es
  unfold prT
  simp only [List.length_append, List.length_cons]; omega
theorem rd_len {s : List UInt8} {q n : Nat} {es : List (Nat × Nat × Nat)} {r : List UInt8} (h : Rd s q n es r) : es.length ≤ s.length := by
  have := prT_ge q n es
  rw [h.1, List.length_append]; omega
theorem RetGr.of0 {x : Gr × Int} {k : Int} {w w' : World} (hr : x = (gr0, k)) (hB : RowKit.Below w.heap.size w w') : RetGr x.1 x.2 w (.returned (.tuple #[.agg #[.int .i64 0, .int .i64 0, .slice none 0 0], .int .i64 k])) w' :=
  RetGr.of (G' := gr0) hr (Sg.nil _ _ _ _) (Nat.le_refl _) hB
/-- What stands in memory while a graph is read. -/
structure PaM (w : World) (q n : Int) (l : List Ed) (p : Option Addr) (m c : Nat) (wr : World) : Prop where
  z : VRow wr w.heap.size 24 [.int .i64 0, .int .i64 0, .slice none 0 0]
  g : VRow wr (w.heap.size + 1) 24 [.int .i64 q, .int .i64 n, .slice p m c]
  o : wr.ownsRow (w.heap.size + 1 + 1) 44 3 (.slice p m c) l.length (cat l)
  b : RowKit.Below w.heap.size w wr
  s : w.heap.size + 1 + 1 ≤ wr.heap.size
theorem PaM.dr {w : World} {q n : Int} {l : List Ed} {p : Option Addr} {m c : Nat} {wr w' : World} (h : PaM w q n l p m c wr) (hD : Dr wr w') : PaM w q n l p m c w' :=
  ⟨h.z.dr hD, h.g.dr hD, h.o.dr hD, h.b.trans (hD.below _), by rw [hD.size]; exact h.s⟩
theorem PaM.below {w : World} {q n : Int} {l : List Ed} {p : Option Addr} {m c : Nat} {wr w' : World} (h : PaM w q n l p m c wr) (hB : RowKit.Below wr.heap.size wr w') : PaM w q n l p m c w' :=
  ⟨h.z.below hB h.z.lt, h.g.below hB h.g.lt, h.o.below hB, h.b.trans (hB.mono h.b.size), Nat.le_trans h.s hB.size⟩

set_option maxRecDepth 100000 in
set_option maxHeartbeats 2000000 in
theorem rParse_any (s : ByteArray) (w : World) (hs : s.size ≤ 9223372036854775807) :
    Calls Tryz.prog 13 #[.string s] w (RetGr (parA s.data.toList).1 (parA s.data.toList).2 w) := by
  obtain ⟨i0, hi0, hz0, hz1, hz2⟩ := info_parts infoE
  have hsl : s.data.toList.length = s.size := by simp
  have HSL := hidI hsl
  clear hsl
  obtain ⟨R, hR⟩ : ∃ R, parA s.data.toList = R := ⟨_, rfl⟩
  have HR := hidI hR
  rw [hR]
  clear hR
  by_cases hlong : 65536 < s.size
  · have HK : Hid (R = (gr0, 4)) := HR.out.symm.trans (parA_long (by rw [HSL.out]; exact hlong))
    have hb : decide ((65536 : Int) < (s.size : Int)) = true := decide_eq_true (by omega)
    have b0 : VRow (w.alloc (.cells #[.int .i64 0, .int .i64 0, .slice none 0 0] 24)) w.heap.size 24 [.int .i64 0, .int .i64 0, .slice none 0 0] := VRow.new w _ _
    have y0 := b0.at 0 rfl; have y1 := b0.at 1 rfl; have y2 := b0.at 2 rfl
    have z0 := b0.frozen 0; have z1 := b0.frozen 1; have z2 := b0.frozen 2
    go_enter Tryz.func13, Tryz.ntmps13
    go_wp2
    refine bodyPost_ret (v := .tuple #[.agg #[.int .i64 0, .int .i64 0, .slice none 0 0], .int .i64 4]) (by simp [results, Tryz.results13, go_sem, y0, y1, y2]) rfl ?_
    exact RetGr.of0 HK.out ((RowKit.Below.refl _ _).alloc (Nat.le_refl _) _)
  · have hb : decide ((65536 : Int) < (s.size : Int)) = false := decide_eq_false (by omega)
    have hs6 : s.data.toList.length ≤ 65536 := by rw [HSL.out]; omega
    have HS6 := hidI hs6
    clear hs6
    by_cases hpre : s.data.toList.take 6 = graphT
    · have h6 : 6 ≤ s.size := by
        have := congrArg List.length hpre
        rw [List.length_take, HSL.out] at this
        have e : graphT.length = 6 := rfl
        omega
      have h6f : decide ((s.size : Int) < 6) = false := decide_eq_false (by omega)
      have hx : (s.extract 0 6) = ⟨#[103, 114, 97, 112, 104, 32]⟩ := by
        apply ByteArray.ext
        apply Array.toList_inj.1
        rw [ByteArray.data_extract, Array.toList_extract, List.extract_eq_take_drop]
        exact hpre
      have hq1 : ((s.extract 0 6).toList == [103, 114, 97, 112, 104, 32]) = true := by rw [hx]; simp
      obtain ⟨t, ht⟩ : ∃ t, s.extract 6 s.size = t := ⟨_, rfl⟩
      have HT : Hid (s.data.toList = graphT ++ t.data.toList) := by
        unfold Hid
        rw [← ht, ext_drop, ← hpre, List.take_append_drop]
      have htz : t.size ≤ 65536 := by
        have := congrArg List.length HT.out
        rw [List.length_append, HSL.out] at this
        have e : t.data.toList.length = t.size := by simp
        omega
      have HTE := hidI ht
      clear hpre hx
      obtain ⟨w0, hw0⟩ : ∃ w0, w0 = (w.alloc (.cells #[.int .i64 0, .int .i64 0, .slice none 0 0] 24)).alloc (.cells #[.int .i64 0, .int .i64 0, .slice none 0 0] 24) := ⟨_, rfl⟩
      have b0 : VRow w0 w.heap.size 24 [.int .i64 0, .int .i64 0, .slice none 0 0] := by subst hw0; exact (VRow.new w _ _).alloc _
      have b1 : VRow w0 (w.heap.size + 1) 24 [.int .i64 0, .int .i64 0, .slice none 0 0] := by subst hw0; exact VRow.new1 w _ _ _
      have hB0 : RowKit.Below w.heap.size w w0 := by subst hw0; exact ((RowKit.Below.refl _ _).alloc (Nat.le_refl _) _).alloc (by simp) _
      have hz0' : w0.heap.size = w.heap.size + 1 + 1 := by subst hw0; simp
      obtain ⟨V1, hV1⟩ : ∃ V, numV t 32 = V := ⟨_, rfl⟩
      have HV1 := hidI hV1
      have HZ0 := hidI hz0'
      clear hV1 hz0' ht
      go_enter Tryz.func13, Tryz.ntmps13
      go_wp2_with fail
      rw [← hw0]
      clear hw0
      rw [HTE.out]
      refine (rNumber_32 t w0 (by omega) V1 HV1.out).mono ?_
      rintro e w1 ⟨rfl, hD1⟩
      have c0 := b0.dr hD1
      have c1 := b1.dr hD1
      have x1 := hB0.trans (hD1.below _)
      have hzw1 : w1.heap.size = w.heap.size + 1 + 1 := by rw [hD1.size, HZ0.out]
      have HZ1 := hidI hzw1
      have hsz := numV_size t 32
      rw [HV1.out] at hsz
      have hs1 : V1.2.size ≤ 65536 := by omega
      obtain ⟨V2, hV2⟩ : ∃ V, numV V1.2 10 = V := ⟨_, rfl⟩
      have HV2 := hidI hV2
      have hsz2 := numV_size V1.2 10
      rw [hV2] at hsz2
      have hs2 : V2.2.size ≤ 65536 := by omega
      have z0 := c1.frozen 0
      have k0 := c1.at 0 rfl
      clear hzw1 hV2 hsz hsz2 b0 b1
      have d0 := VRow.other (i := 0) (.int .i64 V1.1) c0 (C := w.heap.size + 1) (by omega)
      have d1 := VRow.set (i := 0) (.int .i64 V1.1) c1
      have x2 : RowKit.Below w.heap.size w (w1.setCell (⟨w.heap.size + 1, 0, none⟩ : Addr) (.int .i64 V1.1)) := x1.setCell (show w.heap.size ≤ w.heap.size + 1 by omega) _
      have HZ2 : Hid ((w1.setCell (⟨w.heap.size + 1, 0, none⟩ : Addr) (.int .i64 V1.1)).heap.size = w.heap.size + 1 + 1) := by unfold Hid; rw [World.size_setCell]; exact HZ1.out
      go_wp2_with fail
      generalize w1.setCell (⟨w.heap.size + 1, 0, none⟩ : Addr) (.int .i64 V1.1) = w2 at *
      clear k0 z0 c0 c1 x1 hD1 hB0
      refine (rNumber_10 V1.2 w2 (by omega) V2 HV2.out).mono ?_
      rintro e w3 ⟨rfl, hD3⟩
      have e0 := d0.dr hD3
      have e1 := d1.dr hD3
      have x3 := x2.trans (hD3.below _)
      have HZ3 : Hid (w3.heap.size = w.heap.size + 1 + 1) := by unfold Hid; rw [hD3.size]; exact HZ2.out
      have z1 := e1.frozen 1
      have k0 := e1.at 0 rfl
      have k1 := e1.at 1 rfl
      have d0 := VRow.other (i := 1) (.int .i64 V2.1) e0 (C := w.heap.size + 1) (by omega)
      have d1 := VRow.set (i := 1) (.int .i64 V2.1) e1
      have x4 : RowKit.Below w.heap.size w (w3.setCell (⟨w.heap.size + 1, 1, none⟩ : Addr) (.int .i64 V2.1)) := x3.setCell (show w.heap.size ≤ w.heap.size + 1 by omega) _
      have HZ4 : Hid ((w3.setCell (⟨w.heap.size + 1, 1, none⟩ : Addr) (.int .i64 V2.1)).heap.size = w.heap.size + 1 + 1) := by unfold Hid; rw [World.size_setCell]; exact HZ3.out
      have HD0 := hidI d0
      have HD1 := hidI d1
      clear d0 d1
      go_upto_region 8 with fail
      generalize w3.setCell (⟨w.heap.size + 1, 1, none⟩ : Addr) (.int .i64 V2.1) = w4 at *
      have d0 : VRow w4 w.heap.size 24 [.int .i64 0, .int .i64 0, .slice none 0 0] := HD0.out
      have d1 : VRow w4 (w.heap.size + 1) 24 [.int .i64 V1.1, .int .i64 V2.1, .slice none 0 0] := HD1.out
      clear k0 k1 z1 e0 e1 x3 hD3 x2 HD0 HD1
      have k0 := d1.at 0 rfl
      have k1 := d1.at 1 rfl
      have j0 := d0.at 0 rfl; have j1 := d0.at 1 rfl; have j2 := d0.at 2 rfl
      have z0 := d0.frozen 0; have z1 := d0.frozen 1; have z2 := d0.frozen 2
      have r6 := VRow.set (i := 2) (.slice none 0 0) (VRow.set (i := 1) (.int .i64 0) (VRow.set (i := 0) (.int .i64 0) d0))
      have HX6 : Hid (RowKit.Below w.heap.size w (((w4.setCell ⟨w.heap.size, 0, none⟩ (.int .i64 0)).setCell ⟨w.heap.size, 1, none⟩ (.int .i64 0)).setCell ⟨w.heap.size, 2, none⟩ (.slice none 0 0))) := ((x4.setCell (Nat.le_refl _) _).setCell (Nat.le_refl _) _).setCell (Nat.le_refl _) _
      have HR6 := hidI r6
      clear r6
      by_cases hn1 : V1.1 < 0
      · have HK : Hid (R = (gr0, 3)) := HR.out.symm.trans (parA_no HS6.out (by rw [HT.out]; exact no_first (numV_neg (by rw [HV1.out]; exact hn1))))
        have g1 : decide (V1.1 < 0) = true := decide_eq_true hn1
        clear hn1
        go_wp2
        have r6 := HR6.out
        have y0 := r6.at 0 rfl; have y1 := r6.at 1 rfl; have y2 := r6.at 2 rfl
        refine bodyPost_ret (v := .tuple #[.agg #[.int .i64 0, .int .i64 0, .slice none 0 0], .int .i64 3]) (by simp [results, Tryz.results13, go_sem, y0, y1, y2]) rfl ?_
        exact RetGr.of0 HK.out HX6.out
      · have g1 : decide (V1.1 < 0) = false := decide_eq_false hn1
        obtain ⟨q, hq, hnq⟩ := numV_pos (s := t) (e := 32) (by rw [HV1.out]; omega)
        rw [HV1.out] at hq hnq
        have HNQ := hidI hnq
        clear hnq
        by_cases hn2 : V2.1 < 0
        · have HK : Hid (R = (gr0, 3)) := HR.out.symm.trans (parA_no HS6.out (by rw [HT.out]; exact no_second HNQ.out (numV_neg (by rw [HV2.out]; exact hn2))))
          have g2 : decide (V2.1 < 0) = true := decide_eq_true hn2
          clear hn1 hn2 hq
          go_wp2
          have r6 := HR6.out
          have y0 := r6.at 0 rfl; have y1 := r6.at 1 rfl; have y2 := r6.at 2 rfl
          refine bodyPost_ret (v := .tuple #[.agg #[.int .i64 0, .int .i64 0, .slice none 0 0], .int .i64 3]) (by simp [results, Tryz.results13, go_sem, y0, y1, y2]) rfl ?_
          exact RetGr.of0 HK.out HX6.out
        · have g2 : decide (V2.1 < 0) = false := decide_eq_false hn2
          obtain ⟨n, hn, hnn⟩ := numV_pos (s := V1.2) (e := 10) (by rw [HV2.out]; omega)
          rw [HV2.out] at hn hnn
          have HRD : Hid (Rd s.data.toList q n [] V2.2.data.toList) := by unfold Hid; rw [HT.out]; exact rd_start HNQ.out hnn
          have HPA : Hid (PaM w q n [] none 0 0 w4) := ⟨d0, by rw [← hq, ← hn]; exact d1, World.ownsRow_nil _ _ _ _, x4, by rw [HZ4.out]; exact Nat.le_refl _⟩
          have hq0 : V1.1 = (q : Int) := hq
          have HQ := hidI hq
          have HN := hidI hn
          clear hn1 hn2 hnn HR6 HX6 HNQ hq hn hq0 d0 d1 x4 j0 j1 j2 z0 z1 z2
          go_wp2_with fail
          clear k0 k1 g1 g2 HZ0 HZ1 HZ2 HZ3 HZ4
          go_loopw [0] (fun sv wr => ∃ (es : List (Nat × Nat × Nat)) (L : List Ed) (r : ByteArray) (p : Option Addr) (m c : Nat), sv = .string r ∧ r.size ≤ 65536 ∧ Hid (Rd s.data.toList q n es r.data.toList) ∧ Hid (L = es.map edI) ∧ Hid (PaM w q n L p m c wr)) (fun sv _ => strZ sv)
          case atStart => exact ⟨[], [], V2.2, none, 0, 0, rfl, hs2, HRD, rfl, HPA⟩
          case round =>
            clear HRD HPA
            obtain ⟨es, L, r, p, m, c, rfl, hrz, HRD, HLE, HPA⟩ := hrel
            have HEL : Hid (es.length ≤ 65536) := Nat.le_trans (rd_len HRD.out) HS6.out
            by_cases hr0 : r.size = 0
            · have hnil : r.data.toList = [] := nil_of_size hr0
              have hIT : IsT s.data.toList q n es := rd_end (by rw [← hnil]; exact HRD.out)
              have HC : Hid (R = chkd ⟨q, n, L⟩) := by unfold Hid; rw [HLE.out]; exact HR.out.symm.trans (parA_is HS6.out hIT)
              have hg1 : decide ((0 : Int) < (r.size : Int)) = false := decide_eq_false (by omega)
              have hg2 : decide (0 < r.size) = false := decide_eq_false (by omega)
              have HR0 := hidI hr0
              clear hnil hIT hr0
              obtain ⟨rfl, hsg⟩ := sg_len (p' := none) HPA.out.o
              have HSG := hidI hsg
              have hg := HPA.out.g
              have k0 := hg.at 0 rfl; have k1 := hg.at 1 rfl; have k2 := hg.at 2 rfl
              have HG := hidI hg
              have HL2 : Hid (L.length ≤ 65536) := by unfold Hid; rw [HLE.out, List.length_map]; exact HEL.out
              obtain ⟨rc, hrc⟩ : ∃ rc, chkG ⟨q, n, L⟩ = rc := ⟨_, rfl⟩
              have HRC := hidI hrc
              have HCK : Hid (Calls Tryz.prog 22 #[.agg #[.int .i64 q, .int .i64 n, .slice p L.length c]] wr fun e w' => e = .returned (.int .i64 rc) ∧ RowKit.Below wr.heap.size wr w') :=
                rCheck_r ⟨q, n, L⟩ p c wr rc hrc hsg (by have := HL2.out; show L.length ≤ _; omega)
              clear hsg hg hrc
              go_wp2_with fail
              refine HCK.out.mono ?_
              rintro e w5 ⟨rfl, hB5⟩
              have HP5 := hidI (HPA.out.below hB5)
              clear k0 k1 k2 hB5
              have hg := HP5.out.g
              have k0 := hg.at 0 rfl; have k1 := hg.at 1 rfl; have k2 := hg.at 2 rfl
              have hz := HP5.out.z
              have j0 := hz.at 0 rfl; have j1 := hz.at 1 rfl; have j2 := hz.at 2 rfl
              have z0 := hz.frozen 0; have z1 := hz.frozen 1; have z2 := hz.frozen 2
              have HZZ := hidI hz
              clear hg hz
              by_cases hrc0 : rc = 0
              · have HC2 : Hid (R = (⟨q, n, L⟩, 0)) := HC.out.trans (chkd_ok (HRC.out.trans hrc0))
                have hrb : (rc == 0) = true := by simpa using hrc0
                have hrb2 : (rc != 0) = false := by simp [hrc0]
                clear hrc0
                go_wp2
                have r6 := VRow.set (i := 2) (.slice p L.length c) (VRow.set (i := 1) (.int .i64 n) (VRow.set (i := 0) (.int .i64 q) HZZ.out))
                have y0 := r6.at 0 rfl; have y1 := r6.at 1 rfl; have y2 := r6.at 2 rfl
                have hzl : w.heap.size < w.heap.size + 1 + 1 := by omega
                have o6 := ownsRow_setCell_below (a := ⟨w.heap.size, 2, none⟩) (ownsRow_setCell_below (a := ⟨w.heap.size, 1, none⟩) (ownsRow_setCell_below (a := ⟨w.heap.size, 0, none⟩) HP5.out.o hzl (.int .i64 q)) hzl (.int .i64 n)) hzl (.slice p L.length c)
                have x6 := ((HP5.out.b.setCell (p := ⟨w.heap.size, 0, none⟩) (Nat.le_refl _) (.int .i64 q)).setCell (p := ⟨w.heap.size, 1, none⟩) (Nat.le_refl _) (.int .i64 n)).setCell (p := ⟨w.heap.size, 2, none⟩) (Nat.le_refl _) (.slice p L.length c)
                refine bodyPost_ret (v := .tuple #[.agg #[.int .i64 q, .int .i64 n, .slice p L.length c], .int .i64 0]) (by simp [results, Tryz.results13, go_sem, y0, y1, y2]) rfl ?_
                obtain ⟨p6, c6, hv, hs6, hc6, _⟩ := own_sg o6
                cases hv
                exact RetGr.of (G' := ⟨q, n, L⟩) (k' := 0) HC2.out hs6 hc6 x6
              · have HC2 : Hid (R = (gr0, rc)) := by unfold Hid; rw [HC.out, chkd_bad (by rw [HRC.out]; exact hrc0), HRC.out]
                have hrb : (rc == 0) = false := by simpa using hrc0
                have hrb2 : (rc != 0) = true := by simpa using hrc0
                clear hrc0
                go_wp2
                have r6 := VRow.set (i := 2) (.slice none 0 0) (VRow.set (i := 1) (.int .i64 0) (VRow.set (i := 0) (.int .i64 0) HZZ.out))
                have y0 := r6.at 0 rfl; have y1 := r6.at 1 rfl; have y2 := r6.at 2 rfl
                have x6 := ((HP5.out.b.setCell (p := ⟨w.heap.size, 0, none⟩) (Nat.le_refl _) (.int .i64 0)).setCell (p := ⟨w.heap.size, 1, none⟩) (Nat.le_refl _) (.int .i64 0)).setCell (p := ⟨w.heap.size, 2, none⟩) (Nat.le_refl _) (.slice none 0 0)
                refine bodyPost_ret (v := .tuple #[.agg #[.int .i64 0, .int .i64 0, .slice none 0 0], .int .i64 rc]) (by simp [results, Tryz.results13, go_sem, y0, y1, y2]) rfl ?_
                exact RetGr.of0 HC2.out x6
            · have HNE : Hid (r.data.toList ≠ []) := ne_of_size hr0
              have hg1 : decide ((0 : Int) < (r.size : Int)) = true := decide_eq_true (by omega)
              have hg2 : decide (0 < r.size) = true := decide_eq_true (by omega)
              have HR0 := hidI hr0
              clear hr0
              obtain ⟨U1, hU1⟩ : ∃ V, numV r 32 = V := ⟨_, rfl⟩
              obtain ⟨U2, hU2⟩ : ∃ V, numV U1.2 32 = V := ⟨_, rfl⟩
              obtain ⟨U3, hU3⟩ : ∃ V, numV U2.2 10 = V := ⟨_, rfl⟩
              have s1 := numV_size r 32
              have s2 := numV_size U1.2 32
              have s3 := numV_size U2.2 10
              rw [hU1] at s1
              rw [hU2] at s2
              rw [hU3] at s3
              have HU1 := hidI hU1
              have HU2 := hidI hU2
              have HU3 := hidI hU3
              have HS3 := hidI (And.intro s1 (And.intro s2 s3))
              have hz1' : U1.2.size ≤ 65536 := by omega
              have hz2' : U2.2.size ≤ 65536 := by omega
              have hz3' : U3.2.size ≤ 65536 := by omega
              clear hU1 hU2 hU3 s1 s2 s3
              have n0 : VRow (wr.alloc (.cells #[.int .i64 0, .int .i64 0, .int .i64 0] 44)) wr.heap.size 44 [.int .i64 0, .int .i64 0, .int .i64 0] := VRow.new wr _ _
              have hB1 : RowKit.Below wr.heap.size wr (wr.alloc (.cells #[.int .i64 0, .int .i64 0, .int .i64 0] 44)) := (RowKit.Below.refl _ _).alloc (Nat.le_refl _) _
              go_wp2_with fail
              generalize wr.alloc (.cells #[.int .i64 0, .int .i64 0, .int .i64 0] 44) = wa at *
              refine (rNumber_32 r wa (by omega) U1 HU1.out).mono ?_
              rintro e wb ⟨rfl, hDb⟩
              have n1 := n0.dr hDb
              have hB2 := hB1.trans (hDb.below _)
              have k0 := n1.at 0 rfl
              have z0 := n1.frozen 0
              have n2 := hidI (VRow.set (i := 0) (.int .i64 U1.1) n1)
              have hB3 := hidI (hB2.setCell (p := ⟨wr.heap.size, 0, none⟩) (Nat.le_refl _) (.int .i64 U1.1))
              clear n0 hB1 hDb
              go_wp2_with fail
              generalize wb.setCell (⟨wr.heap.size, 0, none⟩ : Addr) (.int .i64 U1.1) = wc at *
              clear k0 z0 n1 hB2
              refine (rNumber_32 U1.2 wc (by omega) U2 HU2.out).mono ?_
              rintro e wd ⟨rfl, hDd⟩
              have n3 : VRow wd wr.heap.size 44 [.int .i64 U1.1, .int .i64 0, .int .i64 0] := n2.out.dr hDd
              have hB4 := hB3.out.trans (hDd.below _)
              have k1 := n3.at 1 rfl
              have z1 := n3.frozen 1
              have n4 := hidI (VRow.set (i := 1) (.int .i64 U2.1) n3)
              have hB5 := hidI (hB4.setCell (p := ⟨wr.heap.size, 1, none⟩) (Nat.le_refl _) (.int .i64 U2.1))
              clear n2 hB3 hDd
              go_wp2_with fail
              generalize wd.setCell (⟨wr.heap.size, 1, none⟩ : Addr) (.int .i64 U2.1) = we at *
              clear k1 z1 n3 hB4
              refine (rNumber_10 U2.2 we (by omega) U3 HU3.out).mono ?_
              rintro e wf ⟨rfl, hDf⟩
              have n5 : VRow wf wr.heap.size 44 [.int .i64 U1.1, .int .i64 U2.1, .int .i64 0] := n4.out.dr hDf
              have hB6 := hB5.out.trans (hDf.below _)
              have k2 := n5.at 2 rfl
              have z2 := n5.frozen 2
              have n6 := hidI (VRow.set (i := 2) (.int .i64 U3.1) n5)
              have hB7 := hidI (hB6.setCell (p := ⟨wr.heap.size, 2, none⟩) (Nat.le_refl _) (.int .i64 U3.1))
              clear n4 hB5 hDf
              go_upto_region 15 with fail
              generalize wf.setCell (⟨wr.heap.size, 2, none⟩ : Addr) (.int .i64 U3.1) = wg at *
              clear k2 z2 n5 hB6
              have n7 : VRow wg wr.heap.size 44 [.int .i64 U1.1, .int .i64 U2.1, .int .i64 U3.1] := n6.out
              have HPG := hidI (HPA.out.below hB7.out)
              have k0 := n7.at 0 rfl; have k1 := n7.at 1 rfl; have k2 := n7.at 2 rfl
              clear n6 hB7 HPA
              have hz := HPG.out.z
              have j0 := hz.at 0 rfl; have j1 := hz.at 1 rfl; have j2 := hz.at 2 rfl
              have z0 := hz.frozen 0; have z1 := hz.frozen 1; have z2 := hz.frozen 2
              have HZZ := hidI hz
              have HX6 : Hid (RowKit.Below w.heap.size w (((wg.setCell ⟨w.heap.size, 0, none⟩ (.int .i64 0)).setCell ⟨w.heap.size, 1, none⟩ (.int .i64 0)).setCell ⟨w.heap.size, 2, none⟩ (.slice none 0 0))) := ((HPG.out.b.setCell (Nat.le_refl _) _).setCell (Nat.le_refl _) _).setCell (Nat.le_refl _) _
              clear hz
              by_cases hn1 : U1.1 < 0
              · have HK : Hid (R = (gr0, 3)) := HR.out.symm.trans (parA_no HS6.out (rd_no1 HRD.out HNE.out (numV_neg (by rw [HU1.out]; exact hn1))))
                have g1 : decide (U1.1 < 0) = true := decide_eq_true hn1
                clear hn1
                go_wp2
                have r6 := VRow.set (i := 2) (.slice none 0 0) (VRow.set (i := 1) (.int .i64 0) (VRow.set (i := 0) (.int .i64 0) HZZ.out))
                have y0 := r6.at 0 rfl; have y1 := r6.at 1 rfl; have y2 := r6.at 2 rfl
                refine bodyPost_ret (v := .tuple #[.agg #[.int .i64 0, .int .i64 0, .slice none 0 0], .int .i64 3]) (by simp [results, Tryz.results13, go_sem, y0, y1, y2]) rfl ?_
                exact RetGr.of0 HK.out HX6.out
              · have g1 : decide (U1.1 < 0) = false := decide_eq_false hn1
                obtain ⟨a1, ha1, hna1⟩ := numV_pos (s := r) (e := 32) (by rw [HU1.out]; omega)
                rw [HU1.out] at ha1 hna1
                have HA1 := hidI ha1
                have HNA1 := hidI hna1
                clear hn1 ha1 hna1
                by_cases hn2 : U2.1 < 0
                · have HK : Hid (R = (gr0, 3)) := HR.out.symm.trans (parA_no HS6.out (rd_no2 HRD.out HNE.out HNA1.out (numV_neg (by rw [HU2.out]; exact hn2))))
                  have g2 : decide (U2.1 < 0) = true := decide_eq_true hn2
                  clear hn2
                  go_wp2
                  have r6 := VRow.set (i := 2) (.slice none 0 0) (VRow.set (i := 1) (.int .i64 0) (VRow.set (i := 0) (.int .i64 0) HZZ.out))
                  have y0 := r6.at 0 rfl; have y1 := r6.at 1 rfl; have y2 := r6.at 2 rfl
                  refine bodyPost_ret (v := .tuple #[.agg #[.int .i64 0, .int .i64 0, .slice none 0 0], .int .i64 3]) (by simp [results, Tryz.results13, go_sem, y0, y1, y2]) rfl ?_
                  exact RetGr.of0 HK.out HX6.out
                · have g2 : decide (U2.1 < 0) = false := decide_eq_false hn2
                  obtain ⟨a2, ha2, hna2⟩ := numV_pos (s := U1.2) (e := 32) (by rw [HU2.out]; omega)
                  rw [HU2.out] at ha2 hna2
                  have HA2 := hidI ha2
                  have HNA2 := hidI hna2
                  clear hn2 ha2 hna2
                  by_cases hn3 : U3.1 < 0
                  · have HK : Hid (R = (gr0, 3)) := HR.out.symm.trans (parA_no HS6.out (rd_no3 HRD.out HNE.out HNA1.out HNA2.out (numV_neg (by rw [HU3.out]; exact hn3))))
                    have g3 : decide (U3.1 < 0) = true := decide_eq_true hn3
                    clear hn3
                    go_wp2
                    have r6 := VRow.set (i := 2) (.slice none 0 0) (VRow.set (i := 1) (.int .i64 0) (VRow.set (i := 0) (.int .i64 0) HZZ.out))
                    have y0 := r6.at 0 rfl; have y1 := r6.at 1 rfl; have y2 := r6.at 2 rfl
                    refine bodyPost_ret (v := .tuple #[.agg #[.int .i64 0, .int .i64 0, .slice none 0 0], .int .i64 3]) (by simp [results, Tryz.results13, go_sem, y0, y1, y2]) rfl ?_
                    exact RetGr.of0 HK.out HX6.out
                  · have g3 : decide (U3.1 < 0) = false := decide_eq_false hn3
                    obtain ⟨a3, ha3, hna3⟩ := numV_pos (s := U2.2) (e := 10) (by rw [HU3.out]; omega)
                    rw [HU3.out] at ha3 hna3
                    have HRD2 : Hid (Rd s.data.toList q n (es ++ [(a1, a2, a3)]) U3.2.data.toList) := rd_step HRD.out HNA1.out HNA2.out hna3
                    have HLE2 : Hid (L ++ [⟨U1.1, U2.1, U3.1⟩] = (es ++ [(a1, a2, a3)]).map edI) := by
                      unfold Hid; rw [List.map_append, HLE.out, HA1.out, HA2.out, ha3]; rfl
                    have hmz : U3.2.size < r.size := by
                      have h1 := HS3.out.1.1
                      have h2 := HS3.out.2.1.1
                      have h3 := HS3.out.2.2.2 (by omega)
                      omega
                    have HMZ := hidI hmz
                    have hLL : L.length ≤ 65536 := by rw [HLE.out, List.length_map]; exact HEL.out
                    clear hn3 ha3 hna3 HNA1 HNA2 HA1 HA2 hmz HX6 HZZ j0 j1 j2 z0 z1 z2 HS3
                    have hg := HPG.out.g
                    have m2 := hg.at 2 rfl
                    have hfg := hg.frozen 2
                    have hszg := HPG.out.s
                    have hnew := cell_new3 wg ⟨U1.1, U2.1, U3.1⟩ 44 wg.heap.size rfl
                    have hownA := HPG.out.o.alloc (.cells (edE ⟨U1.1, U2.1, U3.1⟩).toArray 44)
                    have hBA := HPG.out.b.alloc HPG.out.b.size (.cells (edE ⟨U1.1, U2.1, U3.1⟩).toArray 44)
                    have p0 := HPG.out.z.alloc (.cells (edE ⟨U1.1, U2.1, U3.1⟩).toArray 44)
                    have p1 := hg.alloc (.cells (edE ⟨U1.1, U2.1, U3.1⟩).toArray 44)
                    have hne : ∀ j, (Value.slice p m c).ownBlock = some j → w.heap.size + 1 + 1 ≤ j := fun j e => (HPG.out.o.lt j e).1
                    have HNEo := hidI hne
                    have HP0 := hidI p0
                    have HP1 := hidI p1
                    have HBA := hidI hBA
                    clear hg hne p0 hBA
                    go_wp2_with (at_builtin; refine wpList_append_own _ rfl _ _ 22 rfl (w.heap.size + 1 + 1) 44 i0 _ 3 24 Tryz.underlying22 hi0 hz0 hz1 hz2 rfl (by decide) _ _ _ rfl hownA ⟨wg.heap.size, 0, none⟩ 1 1 (cat [⟨U1.1, U2.1, U3.1⟩]) rfl rfl hnew (cat_one _) (by simp [maxLen]; omega) (by omega) (by rw [World.size_alloc]; omega) ?_; intro v' wh hown' hgrow _; rw [← cat_app] at hown'; obtain ⟨pv, mv, cv, rfl⟩ := own_shape hown'; have r2 := VRow.grown HP1.out hgrow (fun e => by have := HNEo.out _ e.symm; omega); have zz2 := r2.frozen 2; have s2 := r2.at 2 rfl)
                    have HPN : Hid (PaM w q n (L ++ [⟨U1.1, U2.1, U3.1⟩]) pv mv cv (wh.setCell (⟨w.heap.size + 1, 2, none⟩ : Addr) (.slice pv mv cv))) := by
                      refine ⟨?_, VRow.set (i := 2) (.slice pv mv cv) r2, ?_, ?_, ?_⟩
                      · exact VRow.other (i := 2) (.slice pv mv cv) (HP0.out.grown hgrow (fun e => by have := HNEo.out _ e.symm; omega)) (C := w.heap.size + 1) (by omega)
                      · exact ownsRow_setCell_below (a := (⟨w.heap.size + 1, 2, none⟩ : Addr)) (own_conv hown' rfl (Nat.le_refl _)) (show w.heap.size + 1 < w.heap.size + 1 + 1 by omega) _
                      · exact (HBA.out.grown hgrow (Nat.le_trans HPG.out.b.size (by simp)) (fun j e => by have := HNEo.out _ e; omega)).setCell (show w.heap.size ≤ w.heap.size + 1 by omega) _
                      · rw [World.size_setCell]; have := hgrow.size; rw [World.size_alloc] at this; omega
                    go_roundw
                    case rel => exact ⟨es ++ [(a1, a2, a3)], _, U3.2, pv, mv, cv, rfl, hz3', HRD2, HLE2, HPN⟩
                    case measure => exact HMZ.out
    · have HK : Hid (R = (gr0, 3)) := HR.out.symm.trans (parA_no HS6.out (no_head hpre))
      have b0 : VRow (w.alloc (.cells #[.int .i64 0, .int .i64 0, .slice none 0 0] 24)) w.heap.size 24 [.int .i64 0, .int .i64 0, .slice none 0 0] := VRow.new w _ _
      have y0 := b0.at 0 rfl; have y1 := b0.at 1 rfl; have y2 := b0.at 2 rfl
      have z0 := b0.frozen 0; have z1 := b0.frozen 1; have z2 := b0.frozen 2
      by_cases h6 : s.size < 6
      · have h6t : decide ((s.size : Int) < 6) = true := decide_eq_true (by omega)
        go_enter Tryz.func13, Tryz.ntmps13
        go_wp2
        refine bodyPost_ret (v := .tuple #[.agg #[.int .i64 0, .int .i64 0, .slice none 0 0], .int .i64 3]) (by simp [results, Tryz.results13, go_sem, y0, y1, y2]) rfl ?_
        exact RetGr.of0 HK.out ((RowKit.Below.refl _ _).alloc (Nat.le_refl _) _)
      · have h6f : decide ((s.size : Int) < 6) = false := decide_eq_false (by omega)
        have hx : (s.extract 0 6) ≠ ⟨#[103, 114, 97, 112, 104, 32]⟩ := fun hx => by
          apply hpre
          have := congrArg (fun b : ByteArray => b.data.toList) hx
          rw [ByteArray.data_extract, Array.toList_extract, List.extract_eq_take_drop] at this
          exact this
        have hq1 : ((s.extract 0 6).toList == [103, 114, 97, 112, 104, 32]) = false := by
          have := bts_f hx
          simpa using this
        clear hx hpre
        go_enter Tryz.func13, Tryz.ntmps13
        go_wp2
        refine bodyPost_ret (v := .tuple #[.agg #[.int .i64 0, .int .i64 0, .slice none 0 0], .int .i64 3]) (by simp [results, Tryz.results13, go_sem, y0, y1, y2]) rfl ?_
        exact RetGr.of0 HK.out ((RowKit.Below.refl _ _).alloc (Nat.le_refl _) _)
end Go.Proofs.YtcfmpplhghkagaaGreatDoor
