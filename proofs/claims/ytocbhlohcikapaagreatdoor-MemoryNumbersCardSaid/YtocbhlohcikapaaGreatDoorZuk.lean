/-
  Words, plain lemmas and walks, merged: Im, Ml, Hg, Dd, Mn, Mo.
-/
import Derived.Test.YtocbhlohcikapaaGreatDoorZui
import Derived.Test.YtocbhlohcikapaaGreatDoorZuj
import Derived.Test.YtocbhlohcikapaaGreatDoorZud
import Derived.Test.YtocbhlohcikapaaGreatDoorZuh
import Derived.Test.YtocbhlohcikapaaGreatDoorZub
import Derived.Test.YtocbhlohcikapaaGreatDoorZue
import Derived.Test.YtocbhlohcikapaaGreatDoorZug
import Derived.Deep.AppendLies
import Derived.OneCell
import Derived.Lib.OwnKind
set_option linter.unusedVariables false
set_option linter.unusedSimpArgs false
namespace Go.Proofs.YtocbhlohcikapaaGreatDoor
section
open Go.RowKit Go.Sort Go.Shelf Go.Lib
theorem RetGr.zero {x : Gr × Int} {k : Int} {w w' : World} (hr : x = (⟨0, 0, []⟩, k)) (hB : RowKit.Below w.heap.size w w') : RetGr x.1 x.2 w (.returned (.tuple #[.agg #[.int .i64 0, .int .i64 0, .slice none 0 0], .int .i64 k])) w' := by
 subst hr; exact ⟨none, 0, rfl, .inl rfl, by simp, hB⟩
theorem sbGo_len {G : Gr} : ∀ (m i : Nat) (st r : Sst), sbGo G m i st = some r → st.1.length ≤ r.1.length
 | 0, _, _, _, h => by cases h
 | m + 1, i, st, r, h => by
  unfold sbGo at h
  cases hs : st.1[i]? with
  | none => rw [hs] at h; cases h; exact Nat.le_refl _
  | some set =>
   rw [hs] at h
   simp only at h
   split at h
   ·cases h
   ·exact Nat.le_trans (sbTo_len (G := G) (set := set) (i := i) (st := st) G.q.toNat) (sbGo_len m (i + 1) _ r h)
theorem sb_pos {G : Gr} (hv : Vg G) (hi : irrA G = true) (h : (sbA G).2.2 = 0) : 0 < (sbA G).1.n := by
 unfold irrA at hi
 rw [Bool.and_eq_true, decide_eq_true_eq, decide_eq_true_eq] at hi
 obtain ⟨x, hx⟩ := List.exists_mem_of_length_pos hi.2
 have hb := hv.ins x hx
 unfold sbA at h ⊢
 rw [if_pos (chkG_ok.2 hv), if_neg (by omega)] at h ⊢
 cases hg : sbGo G 66 0 ([upto G.n.toNat], []) with
 | none => rw [hg] at h; cases h
 | some r =>
  have := sbGo_len _ _ _ _ hg
  show (0 : Int) < (r.1.length : Int)
  simp at this; omega
theorem LLj.first {W : World} {p : Option Addr} {l : List Int} {ls : List (List Int)} (h : LLj W p (l :: ls)) : ∃ b o q d, p = some ⟨b, o, none⟩ ∧ b < W.heap.size ∧ W.cell? ⟨b, o, none⟩ = some (.slice q l.length d) ∧ SlJ W q l := by
 obtain ⟨b, o, q, d, h1, h2, h3, h4⟩ := h.get 0 (by simp)
 exact ⟨b, o, q, d, h1, h2, h3, h4⟩
def tupG (P : Gr) (r : Option Addr × Nat) : Value := .tuple #[(.agg #[.int .i64 P.q, .int .i64 P.n, .slice r.1 P.es.length r.2]), .int .i64 0]
structure KpS (w6 : World) (P : Gr) (d9 : Bool) (f72 f67 f73 f74 f11 f5 : Option Value) (W : World) : Prop where
 b : RowKit.Below w6.heap.size w6 W
 c : ∀ v, f72 = some v → ∃ r, v = tupG P r ∧ Sg 3 W edE r.1 P.es
 m : ∀ v, f67 = some v → f72 = some v
 x : ∀ v, f73 = some v → ∃ r, f72 = some (tupG P r) ∧ v = (.agg #[.int .i64 P.q, .int .i64 P.n, .slice r.1 P.es.length r.2])
 y : ∀ v, f74 = some v → v = .int .i64 0
 z : ∀ v, f5 = some v → v = .int .i64 0
 a : ∀ v, f11 = some v → ∃ b, v = .pointer (some ⟨b, 0, none⟩) ∧ w6.heap.size ≤ b ∧ (d9 = false → VRow W b 24 [.int .i64 0, .int .i64 0, .slice none 0 0]) ∧ (d9 = true → ∃ r : Option Addr × Nat, VRow W b 24 [.int .i64 P.q, .int .i64 P.n, .slice r.1 P.es.length r.2] ∧ Sg 3 W edE r.1 P.es)
section
variable {w6 : World} {P : Gr} {d9 : Bool} {f72 f67 f73 f74 f11 f5 : Option Value} {W W' : World}
theorem KpS.below (h : KpS w6 P d9 f72 f67 f73 f74 f11 f5 W) (hB : RowKit.Below W.heap.size W W') : KpS w6 P d9 f72 f67 f73 f74 f11 f5 W' where
 b := h.b.trans (hB.mono h.b.size)
 c := fun v hv => by obtain ⟨r, e, hs⟩ := h.c v hv; exact ⟨r, e, hs.below hB⟩
 m := h.m
 x := h.x
 y := h.y
 z := h.z
 a := fun v hv => by
  obtain ⟨b, e, h1, h2, h3⟩ := h.a v hv
  refine ⟨b, e, h1, fun e' => (h2 e').below hB (h2 e').lt, fun e' => ?_⟩
  obtain ⟨r, h4, h5⟩ := h3 e'
  exact ⟨r, h4.below hB h4.lt, h5.below hB⟩
theorem KpS.call {v : Value} {r : Option Addr × Nat} (h : KpS w6 P d9 none none none f74 f11 f5 W) (hv : v = tupG P r) (hs : Sg 3 W edE r.1 P.es) : KpS w6 P d9 (some v) none none f74 f11 f5 W :=
 ⟨h.b, fun u hu => ⟨r, by cases hu; exact hv, hs⟩, (fun _ e => by cases e), (fun _ e => by cases e), h.y, h.z, h.a⟩
theorem KpS.move {v : Value} (h : KpS w6 P d9 (some v) f67 f73 f74 f11 f5 W) : KpS w6 P d9 (some v) (some v) f73 f74 f11 f5 W := ⟨h.b, h.c, fun u hu => by cases hu; rfl, h.x, h.y, h.z, h.a⟩
theorem KpS.ext0 {r : Option Addr × Nat} (h : KpS w6 P d9 (some (tupG P r)) f67 f73 f74 f11 f5 W) : KpS w6 P d9 (some (tupG P r)) f67 (some (.agg #[.int .i64 P.q, .int .i64 P.n, .slice r.1 P.es.length r.2])) f74 f11 f5 W := ⟨h.b, h.c, h.m, fun u hu => ⟨r, rfl, by cases hu; rfl⟩, h.y, h.z, h.a⟩
theorem KpS.ext1 (h : KpS w6 P d9 f72 f67 f73 f74 f11 f5 W) : KpS w6 P d9 f72 f67 f73 (some (.int .i64 0)) f11 f5 W := ⟨h.b, h.c, h.m, h.x, fun u hu => by cases hu; rfl, h.z, h.a⟩
theorem KpS.asg (h : KpS w6 P d9 f72 f67 f73 f74 f11 f5 W) : KpS w6 P d9 f72 f67 f73 f74 f11 (some (.int .i64 0)) W := ⟨h.b, h.c, h.m, h.x, h.y, fun u hu => by cases hu; rfl, h.a⟩
theorem KpS.alloc (h : KpS w6 P false f72 f67 f73 f74 none f5 W) : KpS w6 P false f72 f67 f73 f74 (some (.pointer (some ⟨W.heap.size, 0, none⟩))) f5 (W.alloc (.cells #[.int .i64 0, .int .i64 0, .slice none 0 0] 24)) := by
 have h' := h.below ((RowKit.Below.refl W.heap.size W).alloc (Nat.le_refl _) (.cells #[.int .i64 0, .int .i64 0, .slice none 0 0] 24))
 exact ⟨h'.b, h'.c, h'.m, h'.x, h'.y, h'.z, fun v hv => ⟨W.heap.size, by cases hv; rfl, h.b.size, fun _ => VRow.new W _ _, fun e => by cases e⟩⟩
theorem KpS.store {b : Nat} {r : Option Addr × Nat} (h : KpS w6 P false f72 f67 (some (.agg #[.int .i64 P.q, .int .i64 P.n, .slice r.1 P.es.length r.2])) f74 (some (.pointer (some ⟨b, 0, none⟩))) f5 W) :
  KpS w6 P true f72 f67 (some (.agg #[.int .i64 P.q, .int .i64 P.n, .slice r.1 P.es.length r.2])) f74 (some (.pointer (some ⟨b, 0, none⟩))) f5 (((W.setCell ⟨b, 0, none⟩ (.int .i64 P.q)).setCell ⟨b, 1, none⟩ (.int .i64 P.n)).setCell ⟨b, 2, none⟩ (.slice r.1 P.es.length r.2)) := by
 obtain ⟨b', e, h1, h2, _⟩ := h.a _ rfl
 cases e
 have h2 := h2 rfl
 have r1 := VRow.set (i := 0) (.int .i64 P.q) h2
 have r2 := VRow.set (i := 1) (.int .i64 P.n) r1
 have r3 := VRow.set (i := 2) (.slice r.1 P.es.length r.2) r2
 have hsg : ∀ {p : Option Addr} {l : List Ed}, Sg 3 W edE p l → Sg 3 (((W.setCell ⟨b, 0, none⟩ (.int .i64 P.q)).setCell ⟨b, 1, none⟩ (.int .i64 P.n)).setCell ⟨b, 2, none⟩ (.slice r.1 P.es.length r.2)) edE p l := fun hs =>
  sg_boxN r2 (sg_boxN r1 (sg_boxN h2 hs _ _) _ _) _ _
 obtain ⟨r', hr', he⟩ := h.x _ rfl
 obtain ⟨r'', hr'', hs⟩ := h.c _ hr'
 have err : r = r'' := by
  unfold tupG at hr''
  cases r; cases r'; cases r''
  simp at he hr''
  simp [he, hr'']
 subst err
 refine ⟨((h.b.setCell (show w6.heap.size ≤ b from h1) _).setCell (show w6.heap.size ≤ b from h1) _).setCell (show w6.heap.size ≤ b from h1) _, fun v hv => ?_, h.m, h.x, h.y, h.z, fun v hv => ⟨b, by cases hv; rfl, h1, (fun e => by cases e), fun _ => ⟨r, r3, hsg hs⟩⟩⟩
 obtain ⟨q, e, hq⟩ := h.c v hv
 exact ⟨q, e, hsg hq⟩
end
theorem idxFrom_mem (x : Int) : ∀ (l : List Int) (i : Nat), x ∈ l → Lib.idxFrom l x i = ((i + l.idxOf x : Nat) : Int)
 | [], _, h => by cases h
 | z :: zs, i, h => by
  unfold Lib.idxFrom
  by_cases hz : z = x
  ·subst hz; simp
  ·have hz' : (z == x) = false := by simpa using hz
   rw [if_neg hz, idxFrom_mem x zs (i + 1) ((List.mem_cons.1 h).resolve_left (fun e => hz e.symm)), List.idxOf_cons, hz']
   simp; omega
theorem index_any (o : List Int) (b c : Nat) (x : Int) (W : World) (hx : x ∈ o) (hl : o.length ≤ 9223372036854775807) (hc : ∀ j (h : j < o.length), W.cell? ⟨b, j, none⟩ = some (.int .i64 o[j])) :
  Calls Tryz.prog 57 #[.slice (some ⟨b, 0, none⟩) o.length c, .int .i64 x] W fun e w' => e = .returned (.int .i64 ((o.idxOf x : Nat) : Int)) ∧ w' = W := by
 have h := Tryz.slices_Index_int b 0 o.length c o x W (Nat.le_refl _) hl (fun j hj => by rw [Nat.zero_add, hc j hj]; simp [List.getD, hj])
 rw [List.take_length, show Lib.idxOf o x = ((o.idxOf x : Nat) : Int) by unfold Lib.idxOf; rw [idxFrom_mem x o 0 hx, Nat.zero_add]] at h
 exact h
structure KpE (zz : Nat) (W0 : World) (ov : Value) (k : Nat) (M : List Ed) (y : Ed) (xb : Nat) (e : Ed) (d13 : Bool) (f134 f135 f17 : Option Value) (W : World) : Prop where
 b : RowKit.Below zz W0 W
 x : VRow W xb 44 [.int .i64 e.f, .int .i64 e.l, .int .i64 e.t]
 o : d13 = false → W.ownsRow zz 44 3 ov k (cat M)
 m : d13 = false → ∀ v, f134 = some v → ∃ c, v = .slice (some ⟨c, 0, none⟩) 1 1 ∧ VRow W c 44 [.int .i64 y.f, .int .i64 y.l, .int .i64 y.t]
 a : d13 = true → ∃ v, f135 = some v ∧ W.ownsRow zz 44 3 v (k + 1) (cat (M ++ [y]))
 z : ∀ v, f17 = some v → f135 = some v
section
variable {zz : Nat} {W0 : World} {ov : Value} {k : Nat} {M : List Ed} {y : Ed} {xb : Nat} {e : Ed} {d13 : Bool} {f134 f135 f17 : Option Value} {W W' : World}
theorem KpE.alloc (h : KpE zz W0 ov k M y xb e false none f135 f17 W) (hz : zz ≤ W.heap.size) :
  KpE zz W0 ov k M y xb e false (some (.slice (some ⟨W.heap.size, 0, none⟩) 1 1)) f135 f17 (W.alloc (.cells #[.int .i64 y.f, .int .i64 y.l, .int .i64 y.t] 44)) :=
 ⟨h.b.alloc hz _, h.x.alloc _, fun e => (h.o e).alloc _, fun _ v hv => ⟨W.heap.size, by cases hv; rfl, VRow.new W _ _⟩, (fun e => by cases e), h.z⟩
theorem KpE.app {v : Value} (h : KpE zz W0 ov k M y xb e false f134 none none W) (hz : zz ≤ W.heap.size) (hne : some xb ≠ ov.ownBlock) (hown : W'.ownsRow zz 44 3 v (k + 1) (cat (M ++ [y]))) (hg : W.grownBy W' ov.ownBlock) :
  KpE zz W0 ov k M y xb e true f134 (some v) none W' :=
 ⟨h.b.grown hg hz (fun j e => ((h.o rfl).lt j e).1), h.x.grown hg hne, (fun e => by cases e), (fun e => by cases e), fun _ => ⟨v, rfl, hown⟩, (fun _ e => by cases e)⟩
theorem KpE.asg {v : Value} (h : KpE zz W0 ov k M y xb e d13 f134 (some v) f17 W) : KpE zz W0 ov k M y xb e d13 f134 (some v) (some v) W := ⟨h.b, h.x, h.o, h.m, h.a, fun u hu => hu⟩
end
set_option maxRecDepth 100000 in
set_option maxHeartbeats 4000000 in
theorem mCover_any (G : Gr) (p : Option Addr) (c : Nat) (w : World) (hin : Sg 3 w edE p G.es) (hl : G.es.length ≤ 9223372036854775807) :
  Calls Tryz.prog 13 #[(.agg #[.int .i64 G.q, .int .i64 G.n, .slice p G.es.length c])] w (RetGr (covA G).1 (covA G).2 w) := by
 obtain ⟨i0, hi0, hz0, hz1, hz3⟩ := info_parts infoIg
 obtain ⟨i9, hi9, hx0, hx1, hx2⟩ := info_parts infoE
 obtain ⟨w0, hw0⟩ : ∃ w0, w0 = (w.alloc (.cells #[.int .i64 G.q, .int .i64 G.n, .slice p G.es.length c] 24)).alloc (.cells #[.int .i64 0, .int .i64 0, .slice none 0 0] 24) := ⟨_, rfl⟩
 have b0 : VRow w0 w.heap.size 24 [.int .i64 G.q, .int .i64 G.n, .slice p G.es.length c] := by subst hw0; exact (VRow.new w _ _).alloc _
 have b1 : VRow w0 (w.heap.size + 1) 24 [.int .i64 0, .int .i64 0, .slice none 0 0] := by subst hw0; exact VRow.new1 w _ _ _
 have hB0 : RowKit.Below w.heap.size w w0 := by subst hw0; exact ((RowKit.Below.refl _ _).alloc (Nat.le_refl _) _).alloc (by simp) _
 have HIN := hidI (hin.below hB0)
 have HIR := hidI (irr_any G p c w0 HIN.out hl)
 have f0 := b0.at 0 rfl; have f1 := b0.at 1 rfl; have f2 := b0.at 2 rfl
 by_cases hc : chkG G = 0
 case neg =>
  have HK : Hid (covA G = (⟨0, 0, []⟩, 1)) := if_pos hc
  have e1 : (ofA G).2 = 1 := by unfold ofA; rw [if_neg hc]
  rw [e1, decide_eq_false hc, Bool.false_and] at HIR
  clear hc hin e1
  go_enter Tryz.func13, Tryz.ntmps13
  go_upto_region 1 with fail
  rw [← hw0]
  clear hw0
  go_wp2_with fail
  refine HIR.out.mono ?_
  rintro e w1 ⟨rfl, hB1⟩
  have x1 := hB0.trans (hB1.mono hB0.size)
  have d1 := b1.below hB1 b1.lt
  clear f0 f1 f2 b0 b1
  (have j0 := (d1).at 0 rfl; have j1 := (d1).at 1 rfl; have j2 := (d1).at 2 rfl; have z0 := (d1).frozen 0; have z1 := (d1).frozen 1; have z2 := (d1).frozen 2; have HBZ := hidI d1; have HXZ := hidI x1)
  clear d1
  (go_wp2; have r6 := VRow.set (i := 2) (.slice none 0 0) (VRow.set (i := 1) (.int .i64 0) (VRow.set (i := 0) (.int .i64 0) HBZ.out)); have y0 := r6.at 0 rfl; have y1 := r6.at 1 rfl; have y2 := r6.at 2 rfl; refine bodyPost_ret (v := .tuple #[.agg #[.int .i64 0, .int .i64 0, .slice none 0 0], .int .i64 1]) (by simp [results, Tryz.results13, go_sem, y0, y1, y2]) rfl ?_; exact RetGr.zero HK.out (((HXZ.out.setCell (by simp) _).setCell (by simp) _).setCell (by simp) _))
 case pos =>
  have e1 : (ofA G).2 = 0 := by unfold ofA; rw [if_pos hc]
  rw [e1, decide_eq_true hc, Bool.true_and] at HIR
  have hv := chkG_ok.1 hc
  cases hir : irrA G
  ·have HK : Hid (covA G = (⟨0, 0, []⟩, 8)) := by unfold Hid covA; rw [if_neg (by simpa using hc), if_pos hir]
   rw [hir] at HIR
   clear hc hin e1 hir
   go_enter Tryz.func13, Tryz.ntmps13
   go_upto_region 1 with fail
   rw [← hw0]
   clear hw0
   go_wp2_with fail
   refine HIR.out.mono ?_
   rintro e w1 ⟨rfl, hB1⟩
   have x1 := hB0.trans (hB1.mono hB0.size)
   have d1 := b1.below hB1 b1.lt
   clear f0 f1 f2 b0 b1
   (have j0 := (d1).at 0 rfl; have j1 := (d1).at 1 rfl; have j2 := (d1).at 2 rfl; have z0 := (d1).frozen 0; have z1 := (d1).frozen 1; have z2 := (d1).frozen 2; have HBZ := hidI d1; have HXZ := hidI x1)
   clear d1
   (go_wp2; have r6 := VRow.set (i := 2) (.slice none 0 0) (VRow.set (i := 1) (.int .i64 0) (VRow.set (i := 0) (.int .i64 0) HBZ.out)); have y0 := r6.at 0 rfl; have y1 := r6.at 1 rfl; have y2 := r6.at 2 rfl; refine bodyPost_ret (v := .tuple #[.agg #[.int .i64 0, .int .i64 0, .slice none 0 0], .int .i64 8]) (by simp [results, Tryz.results13, go_sem, y0, y1, y2]) rfl ?_; exact RetGr.zero HK.out (((HXZ.out.setCell (by simp) _).setCell (by simp) _).setCell (by simp) _))
  ·rw [hir] at HIR
   have HSB := hidI (fun W (hW : RowKit.Below w0.heap.size w0 W) => sBuild_any G p c W (HIN.out.below hW) hl)
   have HE := hidI (sbA_err G hc)
   have HOK := hidI (fun h : (sbA G).2.2 = 0 => sbA_ok h)
   have HCV : Hid (covA G = if (sbA G).2.2 ≠ 0 then (⟨0, 0, []⟩, (sbA G).2.2) else (cov4 (mgG (sbA G).1), 0)) := by unfold Hid covA; rw [if_neg (by simpa using hc), if_neg (by simp [hir])]
   have HPOS : Hid ((sbA G).2.2 = 0 → 0 < (sbA G).1.n) := fun h => sb_pos hv hir h
   generalize sbA G = sb at *
   obtain ⟨D, sets, kd⟩ := sb
   clear hc hin e1 hir
   go_enter Tryz.func13, Tryz.ntmps13
   go_upto_region 1 with fail
   rw [← hw0]
   clear hw0
   go_wp2_with fail
   refine HIR.out.mono ?_
   rintro e w1 ⟨rfl, hB1⟩
   have c0 := b0.below hB1 b0.lt
   have c1 := b1.below hB1 b1.lt
   clear f0 f1 f2 b0 b1
   have f0 := c0.at 0 rfl; have f1 := c0.at 1 rfl; have f2 := c0.at 2 rfl
   go_wp2_with fail
   refine (HSB.out w1 hB1).mono ?_
   rintro e w2 ⟨pd, cd, ps, ms, cs, rfl, hod, hB2⟩
   replace hod : w2.ownsRow w1.heap.size 44 3 (.slice pd D.es.length cd) D.es.length (cat D.es) := hod
   have x1 := hB0.trans (hB1.mono hB0.size)
   have x2 := x1.trans (hB2.mono x1.size)
   have d1 := c1.below hB2 c1.lt
   clear f0 f1 f2 c0 c1 HIR HSB
   have hrD : VRow (w2.alloc (.cells #[.int .i64 D.q, .int .i64 D.n, .slice pd D.es.length cd] 24)) w2.heap.size 24 [.int .i64 D.q, .int .i64 D.n, .slice pd D.es.length cd] := VRow.new w2 _ _
   have hbD := (RowKit.Below.refl w2.heap.size w2).alloc (Nat.le_refl _) (.cells #[.int .i64 D.q, .int .i64 D.n, .slice pd D.es.length cd] 24)
   have x3 := x2.alloc x2.size (.cells #[.int .i64 D.q, .int .i64 D.n, .slice pd D.es.length cd] 24)
   have d3 := d1.alloc (.cells #[.int .i64 D.q, .int .i64 D.n, .slice pd D.es.length cd] 24)
   obtain ⟨w3, hw3⟩ : ∃ w3, w3 = w2.alloc (.cells #[.int .i64 D.q, .int .i64 D.n, .slice pd D.es.length cd] 24) := ⟨_, rfl⟩
   rw [← hw3] at hrD hbD x3 d3
   obtain ⟨pd', cd', hpe, hsD, _, _⟩ := own_sg hod
   cases hpe
   have hsD3 := hsD.below hbD
   replace HE : Hid (kd = 0 ∨ kd = 4) := HE
   replace HCV : Hid (covA G = if kd ≠ 0 then (⟨0, 0, []⟩, kd) else (cov4 (mgG D), 0)) := HCV
   replace HOK : Hid (kd = 0 → Vg D ∧ Uq D.es) := HOK
   replace HPOS : Hid (kd = 0 → 0 < D.n) := HPOS
   by_cases hk : kd = 0
   case neg =>
    have hkb : (kd != 0) = true := by simpa using hk
    have HK : Hid (covA G = (⟨0, 0, []⟩, kd)) := by rw [Hid, HCV.out, if_pos hk]
    clear hk
    go_upto_region 7 with fail
    rw [← hw3]
    clear hw3 d1
    (have j0 := (d3).at 0 rfl; have j1 := (d3).at 1 rfl; have j2 := (d3).at 2 rfl; have z0 := (d3).frozen 0; have z1 := (d3).frozen 1; have z2 := (d3).frozen 2; have HBZ := hidI d3; have HXZ := hidI x3)
    clear d3
    (go_wp2; have r6 := VRow.set (i := 2) (.slice none 0 0) (VRow.set (i := 1) (.int .i64 0) (VRow.set (i := 0) (.int .i64 0) HBZ.out)); have y0 := r6.at 0 rfl; have y1 := r6.at 1 rfl; have y2 := r6.at 2 rfl; refine bodyPost_ret (v := .tuple #[.agg #[.int .i64 0, .int .i64 0, .slice none 0 0], .int .i64 kd]) (by simp [results, Tryz.results13, go_sem, y0, y1, y2]) rfl ?_; exact RetGr.zero HK.out (((HXZ.out.setCell (by simp) _).setCell (by simp) _).setCell (by simp) _))
   case pos =>
    subst hk
    obtain ⟨hvD, huD⟩ := HOK.out (by first | rfl | trivial)
    have hnD := HPOS.out (by first | rfl | trivial)
    obtain ⟨l, ls, hsk, hst, hvP, huP, hnP, hall, hcv⟩ := cov4_ok (mg_vg hvD) (mg_uq' hvD huD) (by have e := cl_lt (G := D) (s := 0) (by omega); show 0 < mxC (clA D); omega)
    have HK : Hid (covA G = (renG (partA (mgG D) l), 0)) := by rw [Hid, HCV.out, if_neg (by simp), hcv]
    have HMM := hidI (mmerge_any D pd cd w3 hsD3 hvD huD)
    rw [mg_eq hvD] at HMM
    have hvM := mg_vg hvD
    obtain ⟨M, hM⟩ : ∃ M, mgG D = M := ⟨_, rfl⟩
    rw [hM] at HMM hvM hsk hst hvP huP hnP hall HK
    have hq0 := hrD.at 0 rfl; have hq1 := hrD.at 1 rfl; have hq2 := hrD.at 2 rfl
    clear HE HOK HPOS HCV hM hcv hvD huD hnD
    go_upto_region 7 with fail
    rw [← hw3]
    clear hw3 d1 hbD hsD hod
    go_wp2_with fail
    refine HMM.out.mono ?_
    rintro e w4 ⟨pm, cm, qc, dc, rfl, hsM, hcm, _, hB4⟩
    have x4 := x3.trans (hB4.mono x3.size)
    have d4 := d3.below hB4 d3.lt
    clear hq0 hq1 hq2 hrD d3 hsD3 HMM
    have hrM : VRow (w4.alloc (.cells #[.int .i64 M.q, .int .i64 M.n, .slice pm M.es.length cm] 24)) w4.heap.size 24 [.int .i64 M.q, .int .i64 M.n, .slice pm M.es.length cm] := VRow.new w4 _ _
    have hbM := (RowKit.Below.refl w4.heap.size w4).alloc (Nat.le_refl _) (.cells #[.int .i64 M.q, .int .i64 M.n, .slice pm M.es.length cm] 24)
    have x5 := x4.alloc x4.size (.cells #[.int .i64 M.q, .int .i64 M.n, .slice pm M.es.length cm] 24)
    have d5 := d4.alloc (.cells #[.int .i64 M.q, .int .i64 M.n, .slice pm M.es.length cm] 24)
    obtain ⟨w5, hw5⟩ : ∃ w5, w5 = w4.alloc (.cells #[.int .i64 M.q, .int .i64 M.n, .slice pm M.es.length cm] 24) := ⟨_, rfl⟩
    rw [← hw5] at hrM hbM x5 d5
    have hsM5 := hsM.below hbM
    have HSK := hidI (sinks_any M pm cm w5 hsM5 (by have := hvM.len; omega))
    have e1 : snkA M = (l :: ls, 0) := by unfold snkA; rw [if_pos (chkG_ok.2 hvM), hsk]
    rw [e1] at HSK
    obtain ⟨mb, hmb⟩ : ∃ mb, mb = w4.heap.size := ⟨_, rfl⟩
    rw [← hmb] at hrM
    have hq0 := hrM.at 0 rfl; have hq1 := hrM.at 1 rfl; have hq2 := hrM.at 2 rfl
    clear e1 hsk
    go_upto_region 10 with fail
    rw [← hw5, ← hmb]
    clear hw5 d4 hbM hsM hmb
    go_wp2_with fail
    refine HSK.out.mono ?_
    rintro e w6 ⟨qs, ds, rfl, hll, hB6⟩
    have x6 := x5.trans (hB6.mono x5.size)
    have d6 := d5.below hB6 d5.lt
    have hM6 := hrM.below hB6 hrM.lt
    have hsM6 := hsM5.below hB6
    obtain ⟨bs, os, q1, d1, rfl, hbs, hcl1, hsl1⟩ := hll.first
    clear hq0 hq1 hq2 d5 hrM hsM5 HSK
    have hlen1 : ¬ (((l :: ls).length : Int) == 0) = true := by simp; omega
    go_upto_region 15 with fail
    have HKP := hidI (fun W (hW : RowKit.Below w6.heap.size w6 W) => gKeep_any M pm cm l q1 d1 W (hsM6.below hW) (hsl1.1.below hW) (by have := hvM.len; omega) (by have := hst.len hvM.n1; have := hvM.n2; omega))
    have e2 : keepA M l = (partA M l, 0) := by unfold keepA; rw [if_pos (chkG_ok.2 hvM), if_pos hst.chk]
    rw [e2] at HKP
    obtain ⟨P, hP⟩ : ∃ P, partA M l = P := ⟨_, rfl⟩
    rw [hP] at HKP HK hvP huP hnP hall
    have hml := hM6.lt
    have g0 := hM6.at 0 rfl; have g1 := hM6.at 1 rfl; have g2 := hM6.at 2 rfl
    have hpv := hvP.len
    clear hP e2 hvM hst hll
    go_cut [11, 5] (fun s11 s5 wx => ∃ (b : Nat) (r : Option Addr × Nat), s11 = .pointer (some ⟨b, 0, none⟩) ∧ s5 = .int .i64 0 ∧ w6.heap.size ≤ b ∧ VRow wx b 24 [.int .i64 P.q, .int .i64 P.n, .slice r.1 P.es.length r.2] ∧ Sg 3 wx edE r.1 P.es ∧ RowKit.Below w6.heap.size w6 wx)
    case first =>
     obtain ⟨W0, rfl⟩ : ∃ W0 : World, W0 = w6 := ⟨_, rfl⟩
     refine region_detW (by kernel_rfl) 11 [(some 68, some (.agg #[.int .i64 M.q, .int .i64 M.n, .slice pm M.es.length cm])), (some 69, some (.slice (some ⟨bs, os, none⟩) (ls.length + 1) ds)), (some 70, some (.pointer (some ⟨bs, os, none⟩))), (some 71, some (.slice q1 l.length d1)), (some 72, none), (some 67, none), (some 73, none), (some 74, none), (some 11, none), (none, none), (some 5, none)]
      (fun d f W => KpS W0 P (d 9) (f 72) (f 67) (f 73) (f 74) (f 11) (f 5) W) (by kernel_rfl) (by kernel_rfl) (by kernel_rfl) (by kernel_rfl) ⟨below_dN (RowKit.Below.refl _ _) 1, (fun _ e => by cases e), (fun _ e => by cases e), (fun _ e => by cases e), (fun _ e => by cases e), (fun _ e => by cases e), (fun _ e => by cases e)⟩ ?_ ?_
     focus
      intro i o ho a d f W hS hdi hdn hnd hdep hout hold K hK
      have hil : i < 11 := (Array.getElem?_eq_some_iff.1 ho).1
      have hcases : i = 0 ∨ i = 1 ∨ i = 2 ∨ i = 3 ∨ i = 4 ∨ i = 5 ∨ i = 6 ∨ i = 7 ∨ i = 8 ∨ i = 9 ∨ i = 10 := by omega
      clear hil
      have u8 := hout 8 (by kernel_rfl)
      have u10 := hout 10 (by kernel_rfl)
      simp at u8 u10
      clear hout
      have hc0 := (hS.b.cell hml).trans g0
      have hc1 := (hS.b.cell (p := ⟨mb, 1, none⟩) hml).trans g1
      have hc2 := (hS.b.cell (p := ⟨mb, 2, none⟩) hml).trans g2
      have hc3 := (hS.b.cell (p := ⟨bs, os, none⟩) hbs).trans hcl1
      clear g0 g1 g2
      rcases hcases with rfl | rfl | rfl | rfl | rfl | rfl | rfl | rfl | rfl | rfl | rfl
      all_goals (simp only [List.getElem?_toArray, List.getElem?_cons_succ, List.getElem?_cons_zero, Option.some.injEq] at ho; subst ho; simp [Region.binds] at hdep; (try go_split_ands))
      all_goals first
       | (go_simp; exact hK _ _ (fun u hu => Option.some.inj hu) hS)
       | (have h72 := (hold 4 (by kernel_rfl) _ rfl 72 rfl).1
          have h67 := (hold 5 (by kernel_rfl) _ rfl 67 rfl).1
          have h73 := (hold 6 (by kernel_rfl) _ rfl 73 rfl).1
          go_simp
          refine (HKP.out W hS.b).mono ?_
          rintro e wk ⟨pp, cp, rfl, hsp, _, hBk⟩
          have h := hS.below hBk
          rw [h72, h67, h73] at h
          have hfin := KpS.call (r := (pp, cp)) h rfl hsp
          exact hK _ _ (fun u hu => by cases hu) (by
            show KpS _ _ (d 9) (some _) (f 67) (f 73) (f 74) (f 11) (f 5) wk
            rw [h67, h73]; exact hfin))
       | (obtain ⟨v, hv, hat⟩ : ∃ v, f 72 = some v ∧ a.tmps[72]? = some v := by assumption
          have h := hS
          rw [hv] at h
          have hfin := h.move
          go_simp
          exact hK _ _ (fun u hu => by cases hu) (by
            show KpS _ _ (d 9) (f 72) (some _) (f 73) (f 74) (f 11) (f 5) W
            rw [hv]; exact hfin))
       | (obtain ⟨v, hv, hat⟩ : ∃ v, f 67 = some v ∧ a.tmps[67]? = some v := by assumption
          have h72 := hS.m v hv
          obtain ⟨r, rfl, _⟩ := hS.c v h72
          have h := hS
          rw [h72] at h
          have hfin := h.ext0
          have hfin1 := h.ext1
          replace hat : a.tmps[67]? = some (.tuple #[(.agg #[.int .i64 P.q, .int .i64 P.n, .slice r.1 P.es.length r.2]), .int .i64 0]) := hat
          go_simp
          exact hK _ _ (fun u hu => by cases hu) (by
            first
              | (show KpS _ _ (d 9) (f 72) (f 67) (some _) (f 74) (f 11) (f 5) W
                 rw [h72]; exact hfin)
              | (show KpS _ _ (d 9) (f 72) (f 67) (f 73) (some _) (f 11) (f 5) W
                 rw [h72]; exact hfin1)))
       | (have h11 := (hold 8 (by kernel_rfl) _ rfl 11 rfl).1
          have e9 := hnd 9 (by kernel_rfl)
          have h := hS
          rw [e9, h11] at h
          have hfin := h.alloc
          go_simp
          exact hK _ _ (fun u hu => by cases hu) (by
            show KpS _ _ (d 9) (f 72) (f 67) (f 73) (f 74) (some _) (f 5) _
            rw [e9]; exact hfin))
       | (obtain ⟨v, hv, hat⟩ : ∃ v, f 11 = some v ∧ a.tmps[11]? = some v := by assumption
          obtain ⟨u, hu, hau⟩ : ∃ v, f 73 = some v ∧ a.tmps[73]? = some v := by assumption
          have e9 : d 9 = false := hdi
          have h := hS
          rw [e9, hv, hu] at h
          obtain ⟨b, rfl, hbl, hzr, _⟩ := h.a _ rfl
          obtain ⟨r, _, rfl⟩ := h.x _ rfl
          have hzr := hzr rfl
          have k0 := hzr.at 0 rfl; have k1 := hzr.at 1 rfl; have k2 := hzr.at 2 rfl
          have z0 := hzr.frozen 0; have z1 := hzr.frozen 1; have z2 := hzr.frozen 2
          have hfin := h.store
          have HV1 := hidI hv; have HU1 := hidI hu
          clear hzr h hv hu
          go_simp
          exact hK undef _ (fun u hu => by cases hu) (by
            show KpS _ _ true (f 72) (f 67) (f 73) (f 74) (f 11) (f 5) _
            rw [HV1.out, HU1.out]; exact hfin))
       | (obtain ⟨v, hv, hat⟩ : ∃ v, f 74 = some v ∧ a.tmps[74]? = some v := by assumption
          obtain rfl := hS.y v hv
          have hfin := hS.asg
          go_simp
          exact hK _ _ (fun u hu => by cases hu) hfin)
       | fail
     intro d f W9 hS hall hf
     have e9 : d 9 = true := hall 9 (by decide)
     obtain ⟨v11, hv11, -⟩ := hf (some 11, none) (by simp) 11 rfl
     obtain ⟨v5, hv5, -⟩ := hf (some 5, none) (by simp) 5 rfl
     obtain ⟨b, rfl, hbl, _, h3⟩ := hS.a _ hv11
     obtain ⟨r, hrow, hsg⟩ := h3 e9
     obtain rfl := hS.z _ hv5
     have hBl := hS.b
     simp only [putsD, List.filterMap_cons, List.filterMap_nil, Option.map_some, Option.map_none, Option.getD_some, Option.getD_none, List.foldl_cons, List.foldl_nil, Act.put, List.setIfInBounds_toArray, List.set_cons_zero, List.set_cons_succ]
     rw [hv11, hv5]
     simp only [Option.getD_some]
     generalize (f 72).getD undef = v72
     generalize (f 67).getD undef = v67
     generalize (f 73).getD undef = v73
     generalize (f 74).getD undef = v74
     clear hf hv11 hv5 hS
     go_wp2_with fail
     go_meet
     exact ⟨b, r, rfl, rfl, hbl, hrow, hsg, hBl⟩
    case rest =>
     obtain ⟨b, ⟨pp, cp⟩, rfl, rfl, hbl, hrP, hsP, hB7⟩ := hcut
     change VRow wc b 24 [.int .i64 P.q, .int .i64 P.n, .slice pp P.es.length cp] at hrP
     change Sg 3 wc edE pp P.es at hsP
     have x7 := x6.trans (hB7.mono x6.size)
     have d7 := d6.below hB7 d6.lt
     clear g0 g1 g2 hM6 hsM6 d6 hsl1 hcl1 HKP hB7
     obtain ⟨N, hN⟩ : ∃ N : Nat, P.n = N := ⟨P.n.toNat, by have := hvP.n1; omega⟩
     obtain ⟨Q, hQ⟩ : ∃ Q : Nat, P.q = Q := ⟨P.q.toNat, by have := hvP.q1; omega⟩
     have hN64 : N ≤ 64 := by have := hvP.n2; omega
     have hQ256 : Q ≤ 256 := by have := hvP.q2; omega
     have hNT : P.n.toNat = N := by omega
     have hQT : P.q.toNat = Q := by omega
     have HMO := hidI (mof_any P pp cp Q wc hsP hvP huP (by omega) hQ256)
     rw [hNT, hQ, hN] at HMO
     have g0 := hrP.at 0 rfl; have g1 := hrP.at 1 rfl; have g2 := hrP.at 2 rfl
     rw [hQ] at g0
     rw [hN] at g1
     have HQ := hidI hQ; have HN := hidI hN; have HVP := hidI hvP; have HALL := hidI hall; have HNP := hidI hnP
     have HO0 : Hid (Ord P 0 [0]) := ⟨by simp, fun x hx => by obtain rfl := List.mem_singleton.1 hx; omega, by simp, by simp, fun j _ h => by omega⟩
     have HOA : Hid (ordGo P.es Q (N + 1) 0 [0] = ordA P) := by unfold Hid ordA; rw [hNT, hQT]
     have HRV := hidI (fun (i : Nat) (o : List Int) (s : Int) (h : Ord P i o) (hs : o[i]? = some s) => (by have := h.row hvP hs; rw [hQT] at this; exact this : Ord P (i + 1) (ordT P.es s o Q)))
     have HTB := hidI (fun (s a : Int) => tgt_bd hvP s a)
     have HTO := hidI (fun (i : Nat) (o : List Int) (s : Int) (h : Ord P i o) (a : Nat) => ordT_ok hvP (s := s) h a)
     clear hvP hall hnP huP hNT hQT hN hQ
     go_wp2_with fail
     refine HMO.out.mono ?_
     rintro e wT ⟨tb, tbs, rfl, hTab, hBT⟩
     have x8 := x7.trans (hBT.mono x7.size)
     have d8 := d7.below hBT d7.lt
     have hrT := hrP.below hBT hrP.lt
     have hsT := hsP.below hBT
     have ho0 := (own_oneI wT 0)
     obtain ⟨wO, hwO⟩ : ∃ wO, wO = wT.alloc (.cells #[.int .i64 0] 3) := ⟨_, rfl⟩
     have hBO : RowKit.Below wT.heap.size wT wO := by rw [hwO]; exact (RowKit.Below.refl _ _).alloc (Nat.le_refl _) _
     rw [← hwO] at ho0
     have HTab := hidI hTab
     have HD8 := hidI d8; have HRT := hidI hrT; have HST := hidI hsT
     clear g0 g1 g2 d7 hrP hsP HMO hTab hsT hrT d8
     obtain ⟨zt, hzt⟩ : ∃ zt, zt = wT.heap.size := ⟨_, rfl⟩
     rw [← hzt] at ho0
     have HZT := hidI hzt
     go_upto_region 20 with fail
     rw [← hwO, ← hzt]
     clear hwO hzt
     go_wp2_with fail
     go_loopw [13, 14] (fun ov iv wr => ∃ (i : Nat) (o : List Int), iv = .int .i64 i ∧ Hid (ordGo P.es Q (N + 1 - i) i o = ordA P) ∧ Hid (Ord P i o) ∧ wr.ownsRow zt 3 1 ov o.length (o.map (Value.int .i64)) ∧ RowKit.Below wT.heap.size wT wr) (fun _ iv _ => N + 1 - (intOf iv).toNat)
     case atStart => exact ⟨0, [0], rfl, HOA.out, HO0.out, ho0, hBO⟩
     case round =>
      clear ho0 hBO
      obtain ⟨i, o, rfl, hgo, hO, hown, hB⟩ := hrel
      have holen := hO.out.len
      have hole := hO.out.le
      have hNP := HN.out
      have hoN : o.length ≤ N := by omega
      by_cases hlt : i < o.length
      ·have hltI : (i : Int) < (o.length : Int) := by omega
       have hgo2 : Hid (ordGo P.es Q (N + 1 - (i + 1)) (i + 1) (ordT P.es o[i] o Q) = ordA P) := by
        rw [Hid, ← hgo.out, show N + 1 - i = (N + 1 - (i + 1)) + 1 by omega]
        show _ = ordGo P.es Q ((N + 1 - (i + 1)) + 1) i o
        conv => rhs; unfold ordGo
        rw [List.getElem?_eq_getElem hlt]
       have hO2 := hidI (HRV.out i o o[i] hO.out (List.getElem?_eq_getElem hlt))
       have hbd := hO.out.bd _ (List.getElem_mem hlt)
       obtain ⟨ob, oc, rfl⟩ : ∃ g cap, u13 = .slice (some ⟨g, 0, none⟩) o.length cap := (own_forms hown).resolve_left (fun h => by omega)
       have e0 : wr.cell? ⟨ob, i, none⟩ = some (.int .i64 o[i]) := (hown.cellAt i (by omega)).trans (by simp [hlt])
       have HTL := hidI (fun a => HTO.out i o o[i] hO.out a)
       obtain ⟨s, hs⟩ : ∃ s : Nat, o[i] = s := ⟨o[i].toNat, by omega⟩
       rw [hs] at e0 hgo2 hO2 HTL
       have hsN : s < N := by omega
       have hsI : (s : Int) < (N : Int) := by omega
       have k1 := ((HTab.out.hd.below hB HTab.out.hd.lt).at s (map_range_get hsN))
       unfold hdV at k1
       have HRW := hidI (fun W (hW : RowKit.Below wT.heap.size wT W) (a : Nat) (ha : a < Q) => ((HTab.out.row s hsN).below hW (HTab.out.row s hsN).lt).at a (map_range_get ha))
       clear hs hbd hgo
       have hown0 : wr.ownsRow zt 3 1 (.slice (some ⟨ob, 0, none⟩) o.length oc) (ordT P.es s o 0).length ((ordT P.es s o 0).map (Value.int .i64)) := hown
       go_wp2_with fail
       clear e0 k1
       go_loopw [13, 16, 98] (fun ov _ av wx => ∃ a : Nat, a ≤ Q ∧ av = .int .i64 a ∧ wx.ownsRow zt 3 1 ov (ordT P.es s o a).length ((ordT P.es s o a).map (Value.int .i64)) ∧ RowKit.Below wT.heap.size wT wx) (fun _ _ av _ => Q - (intOf av).toNat)
       case atStart => exact ⟨0, by omega, rfl, hown0, hB⟩
       case round =>
        clear hown hown0 hB
        obtain ⟨a, ha, rfl, hown, hB⟩ := hrel
        have holen2 := (HTL.out a).len
        by_cases hlta : a < Q
        ·have hltaI : (a : Int) < (Q : Int) := by omega
         have k1 := HRW.out wr hB a hlta
         simp only [rowV] at k1
         have htb := HTB.out (s : Int) (a : Int)
         have HS := hidI (ordT_succ P.es s o a)
         have HOLD := hidI (@ord1_old P.es s (ordT P.es s o a) a)
         have HNEW := hidI (@ord1_new P.es s (ordT P.es s o a) a)
         have hoN2 : (ordT P.es s o a).length ≤ N := by omega
         generalize ordT P.es s o a = oa at *
         generalize tgt P.es s a = tv at *
         by_cases hto : tv = -1
         ·have hb : (tv != -1) = false := by simp [hto]
          have HX : Hid (ordT P.es s o (a + 1) = oa) := by rw [Hid, HS.out, HOLD.out (.inl hto)]
          clear hto HOLD HNEW HS htb
          go_wp2
          go_roundw
          case rel => exact ⟨a + 1, by omega, by go_num, by rw [HX.out]; exact hown, hB⟩
          case measure => simp [intOf]; omega
         ·have hb : (tv != -1) = true := by simpa using hto
          obtain ⟨pv, cv, rfl, hsl⟩ := own_sl hown
          have HCN := hidI (containsI_any oa pv cv tv wr hsl (by omega))
          by_cases hm : tv ∈ oa
          ·have HX : Hid (ordT P.es s o (a + 1) = oa) := by rw [Hid, HS.out, HOLD.out (.inr hm)]
           rw [decide_eq_true hm] at HCN
           clear hto HOLD HNEW HS htb hm hsl
           go_wp2_with fail
           refine HCN.out.mono ?_
           rintro e wc2 ⟨rfl, hwc⟩
           replace hwc := hwc.symm
           subst hwc
           go_wp2
           go_roundw
           case rel => exact ⟨a + 1, by omega, by go_num, by rw [HX.out]; exact hown, hB⟩
           case measure => simp [intOf]; omega
          ·have HX : Hid (ordT P.es s o (a + 1) = oa ++ [tv]) := by rw [Hid, HS.out, HNEW.out hto hm]
           rw [decide_eq_false hm] at HCN
           have hl1 : (oa ++ [tv]).length = oa.length + 1 := by simp
           have hnew := cell_one_at wr (.int .i64 tv) 3 wr.heap.size rfl
           have hzz : zt ≤ wr.heap.size := by have := hB.size; have := HZT.out; omega
           have hown3 := hown.alloc (.cells #[.int .i64 tv] 3)
           clear hto HOLD HNEW HS htb hm hsl
           go_wp2_with fail
           refine HCN.out.mono ?_
           rintro e wc2 ⟨rfl, hwc⟩
           replace hwc := hwc.symm
           subst hwc
           go_wp2_with (at_builtin; refine wpList_append_own _ rfl _ _ 30 rfl zt 3 i0 (.int .i64 0) 1 8 Tryz.underlying30 hi0 hz0 hz1 hz3 rfl (by decide) _ _ _ rfl hown3 ⟨wr.heap.size, 0, none⟩ 1 1 [.int .i64 tv] rfl rfl hnew (by simp [Value.oneCell']) (by simp [maxLen]; omega) (by omega) (by simp; omega) ?_; intro v' w9 hown' hgrow _)
           have hB9 : RowKit.Below wT.heap.size wT w9 := (hB.alloc hB.size _).grown hgrow (by have := hB.size; simp; omega) (fun j e => by have := (hown.lt j e).1; have := HZT.out; omega)
           go_roundw
           case rel => exact ⟨a + 1, by omega, by go_num, by rw [HX.out, hl1, List.map_append]; exact hown', hB9⟩
           case measure => simp [intOf]; omega
        ·obtain rfl : a = Q := by omega
         have hltaI : ¬ (a : Int) < (a : Int) := by omega
         go_wp2
         go_roundw
         case rel => exact ⟨i + 1, _, by go_num, hgo2, hO2, hown, hB⟩
         case measure => simp [intOf]; omega
      ·have hio : i = o.length := by omega
       subst hio
       rename World => wq
       have hoA : Hid (ordA P = o) := by
        have hn : o[o.length]? = none := List.getElem?_eq_none (Nat.le_refl _)
        rw [Hid, ← hgo.out, show N + 1 - o.length = (N - o.length) + 1 by omega]
        unfold ordGo
        simp only [hn]
       have hop : 0 < o.length := List.length_pos_of_mem hO.out.zero
       obtain ⟨ob, oc, rfl⟩ : ∃ g cap, u13 = .slice (some ⟨g, 0, none⟩) o.length cap := (own_forms hown).resolve_left (fun h => by omega)
       have hobl := (hown.lt ob rfl).2
       have hoc : ∀ j (h : j < o.length), wq.cell? ⟨ob, j, none⟩ = some (.int .i64 o[j]) := fun j h => (hown.cellAt j (by omega)).trans (by simp [h])
       have HIX := hidI (fun (x : Int) (hx : x ∈ o) (W : World) (hW : RowKit.Below wq.heap.size wq W) => index_any o ob oc x W hx (by omega) (fun j h => (hW.cell (p := ⟨ob, j, none⟩) hobl).trans (hoc j h)))
       have hBr := x8.trans (hB.mono x8.size)
       have hPr := HRT.out.below hB HRT.out.lt
       have HSR := hidI (HST.out.below hB)
       have d9 := HD8.out.below hB HD8.out.lt
       have HPR := hidI hPr
       have HD9 := hidI d9
       have hREN := ren_eq HVP.out HNP.out HALL.out
       rw [hoA.out, HQ.out, HN.out] at hREN
       have HREN := hidI hREN
       have HMEM : Hid (∀ x ∈ P.es, x.f ∈ o ∧ x.t ∈ o) := fun x hx => by
        have hb := HVP.out.ins x hx
        have h1 := HALL.out x.f hb.1 hb.2.2.2.1
        have h2 := HALL.out x.t hb.2.2.1 hb.2.2.2.2.1
        rw [hoA.out] at h1 h2
        exact ⟨h1, h2⟩
       have hpl := HVP.out.len
       have hltI : ¬ (o.length : Int) < (o.length : Int) := by omega
       have hRq : (renG P).q = Q := HQ.out
       have hRn : (renG P).n = N := HN.out
       have g0 := hPr.at 0 rfl; have g1 := hPr.at 1 rfl; have g2 := hPr.at 2 rfl
       rw [HQ.out] at g0
       rw [HN.out] at g1
       generalize renG P = R at *
       clear hNP hown hoc hB hgo hO hlt hole hoN hoA hREN hobl hPr d9
       have ho0 : wq.ownsRow wq.heap.size 44 3 (.slice none 0 0) 0 (cat []) := ⟨by simp [cat], .inl ⟨rfl, rfl⟩⟩
       go_wp2_with fail
       clear g0 g1 g2 hltI
       go_loopw [17, 118] (fun ov kv wx => ∃ k : Nat, k ≤ P.es.length ∧ kv = .int .i64 k ∧ wx.ownsRow wq.heap.size 44 3 ov k (cat ((P.es.take k).map (renE o))) ∧ RowKit.Below wq.heap.size wq wx) (fun _ kv _ => P.es.length - (intOf kv).toNat)
       case atStart => exact ⟨0, by omega, rfl, ho0, RowKit.Below.refl _ _⟩
       case round =>
        clear ho0
        obtain ⟨k, hk, rfl, hown, hB⟩ := hrel
        have hPr := HPR.out.below hB HPR.out.lt
        by_cases hlt : k < P.es.length
        ·have hltI : (k : Int) < (P.es.length : Int) := by omega
         obtain ⟨b3, o3, rfl, hb3, e0, e1, e2⟩ := (HSR.out.below hB).get3 k hlt rfl
         have hme := HMEM.out _ (List.getElem_mem hlt)
         have HNN : Hid ((P.es.take (k + 1)).map (renE o) = (P.es.take k).map (renE o) ++ [renE o P.es[k]]) := by rw [Hid, List.take_succ_eq_append_getElem hlt, List.map_append]; rfl
         generalize (P.es.take k).map (renE o) = M2 at *
         generalize P.es[k] = x at *
         obtain ⟨y, hy⟩ : ∃ y, renE o x = y := ⟨_, rfl⟩
         have hyf : ((o.idxOf x.f : Nat) : Int) = y.f := by rw [← hy]; rfl
         have HYL : Hid (y.l = x.l) := by rw [Hid, ← hy]; rfl
         have hyt : ((o.idxOf x.t : Nat) : Int) = y.t := by rw [← hy]; rfl
         have HF := hidI (fun W hW => HIX.out x.f hme.1 W hW)
         have HT := hidI (fun W hW => HIX.out x.t hme.2 W hW)
         rw [hyf] at HF
         rw [hyt] at HT
         rw [hy] at HNN
         obtain ⟨W0, hW0⟩ : ∃ W0, W0 = wr.alloc (.cells #[.int .i64 x.f, .int .i64 x.l, .int .i64 x.t] 44) := ⟨_, rfl⟩
         have bx : VRow W0 wr.heap.size 44 [.int .i64 x.f, .int .i64 x.l, .int .i64 x.t] := by subst hW0; exact VRow.new wr _ _
         have hBb : RowKit.Below wr.heap.size wr W0 := by subst hW0; exact (RowKit.Below.refl _ _).alloc (Nat.le_refl _) _
         have hownb : W0.ownsRow wq.heap.size 44 3 u17 k (cat M2) := by subst hW0; exact hown.alloc _
         have hBw := hB.trans (hBb.mono hB.size)
         have hnx : some wr.heap.size ≠ u17.ownBlock := fun h => by have := (hown.lt _ h.symm).2; omega
         have hzW : ∀ W, RowKit.Below wq.heap.size W0 W → wq.heap.size ≤ W.heap.size := fun W hW => by have := hW.size; have := hBw.size; omega
         obtain ⟨xb, hxb⟩ : ∃ xb, xb = wr.heap.size := ⟨_, rfl⟩
         rw [← hxb] at hnx bx
         have HZW := hidI hzW; have HBW := hidI hBw
         have hS0 : KpE wq.heap.size W0 u17 k M2 y xb x false none none none { W0 with drawn := W0.drawn + 1 } :=
          ⟨below_dN (RowKit.Below.refl _ _) 1, bx.dr ⟨1, rfl⟩, (fun _ => hownb.dr ⟨1, rfl⟩), (fun _ _ e => by cases e), (fun e => by cases e), (fun _ e => by cases e)⟩
         have e0 : wr.cell? ⟨b3, o3 + k * 3, none⟩ = some (.int .i64 x.f) := e0
         have e1 : wr.cell? ⟨b3, o3 + k * 3 + 1, none⟩ = some (.int .i64 x.l) := e1
         have e2 : wr.cell? ⟨b3, o3 + k * 3 + 2, none⟩ = some (.int .i64 x.t) := e2
         clear hme hy hzW hBw hBb bx hPr
         go_upto_region 33 with fail
         rw [← hW0, ← hxb]
         clear hW0 hxb e0 e1 e2 hyf hyt
         refine region_detW (by kernel_rfl) 15 [(some 122, some u17), (some 123, some (.slice (some ⟨ob, 0, none⟩) o.length oc)), (some 124, some (.pointer (some ⟨xb, 0, none⟩))), (some 125, some (.int .i64 x.f)), (some 126, some (.int .i64 y.f)), (some 127, some (.pointer (some ⟨xb, 1, none⟩))), (some 128, some (.int .i64 x.l)), (some 129, some (.slice (some ⟨ob, 0, none⟩) o.length oc)), (some 130, some (.pointer (some ⟨xb, 2, none⟩))), (some 131, some (.int .i64 x.t)), (some 132, some (.int .i64 y.t)), (some 133, some (.agg #[.int .i64 y.f, .int .i64 x.l, .int .i64 y.t])), (some 134, none), (some 135, none), (some 17, none)]
          (fun d f W => KpE wq.heap.size W0 u17 k M2 y xb x (d 13) (f 134) (f 135) (f 17) W) (by kernel_rfl) (by kernel_rfl) (by kernel_rfl) (by kernel_rfl) hS0 ?_ ?_
         focus
          intro i o' ho a d f W hS hdi hdn hnd hdep hout hold K hK
          have hil : i < 15 := (Array.getElem?_eq_some_iff.1 ho).1
          have hcases : i = 0 ∨ i = 1 ∨ i = 2 ∨ i = 3 ∨ i = 4 ∨ i = 5 ∨ i = 6 ∨ i = 7 ∨ i = 8 ∨ i = 9 ∨ i = 10 ∨ i = 11 ∨ i = 12 ∨ i = 13 ∨ i = 14 := by omega
          clear hil
          have u13' := hout 13 (by kernel_rfl)
          have u19' := hout 19 (by kernel_rfl)
          simp at u13' u19'
          clear hout
          have hc0 := hS.x.at 0 rfl
          have hc1 := hS.x.at 1 rfl
          have hc2 := hS.x.at 2 rfl
          rcases hcases with rfl | rfl | rfl | rfl | rfl | rfl | rfl | rfl | rfl | rfl | rfl | rfl | rfl | rfl | rfl
          ·have h17 := (hold 14 (by kernel_rfl) _ rfl 17 rfl).2
           simp at h17
           (simp only [List.getElem?_toArray, List.getElem?_cons_succ, List.getElem?_cons_zero, Option.some.injEq] at ho; subst ho; simp [Region.binds] at hdep; (try go_split_ands)); go_simp; exact hK _ _ (fun u hu => Option.some.inj hu) hS
          ·(simp only [List.getElem?_toArray, List.getElem?_cons_succ, List.getElem?_cons_zero, Option.some.injEq] at ho; subst ho; simp [Region.binds] at hdep; (try go_split_ands)); go_simp; exact hK _ _ (fun u hu => Option.some.inj hu) hS
          ·(simp only [List.getElem?_toArray, List.getElem?_cons_succ, List.getElem?_cons_zero, Option.some.injEq] at ho; subst ho; simp [Region.binds] at hdep; (try go_split_ands)); go_simp; exact hK _ _ (fun u hu => Option.some.inj hu) hS
          ·(simp only [List.getElem?_toArray, List.getElem?_cons_succ, List.getElem?_cons_zero, Option.some.injEq] at ho; subst ho; simp [Region.binds] at hdep; (try go_split_ands)); go_simp; exact hK _ _ (fun u hu => Option.some.inj hu) hS
          ·(simp only [List.getElem?_toArray, List.getElem?_cons_succ, List.getElem?_cons_zero, Option.some.injEq] at ho; subst ho; simp [Region.binds] at hdep; (try go_split_ands))
           go_simp
           refine (HF.out W (HBW.out.trans hS.b)).mono ?_
           rintro e wk ⟨rfl, hwk⟩
           replace hwk := hwk.symm
           subst hwk
           exact hK _ _ (fun u hu => Option.some.inj hu) hS
          ·(simp only [List.getElem?_toArray, List.getElem?_cons_succ, List.getElem?_cons_zero, Option.some.injEq] at ho; subst ho; simp [Region.binds] at hdep; (try go_split_ands)); go_simp; exact hK _ _ (fun u hu => Option.some.inj hu) hS
          ·(simp only [List.getElem?_toArray, List.getElem?_cons_succ, List.getElem?_cons_zero, Option.some.injEq] at ho; subst ho; simp [Region.binds] at hdep; (try go_split_ands)); go_simp; exact hK _ _ (fun u hu => Option.some.inj hu) hS
          ·(simp only [List.getElem?_toArray, List.getElem?_cons_succ, List.getElem?_cons_zero, Option.some.injEq] at ho; subst ho; simp [Region.binds] at hdep; (try go_split_ands)); go_simp; exact hK _ _ (fun u hu => Option.some.inj hu) hS
          ·(simp only [List.getElem?_toArray, List.getElem?_cons_succ, List.getElem?_cons_zero, Option.some.injEq] at ho; subst ho; simp [Region.binds] at hdep; (try go_split_ands)); go_simp; exact hK _ _ (fun u hu => Option.some.inj hu) hS
          ·(simp only [List.getElem?_toArray, List.getElem?_cons_succ, List.getElem?_cons_zero, Option.some.injEq] at ho; subst ho; simp [Region.binds] at hdep; (try go_split_ands)); go_simp; exact hK _ _ (fun u hu => Option.some.inj hu) hS
          ·(simp only [List.getElem?_toArray, List.getElem?_cons_succ, List.getElem?_cons_zero, Option.some.injEq] at ho; subst ho; simp [Region.binds] at hdep; (try go_split_ands))
           go_simp
           refine (HT.out W (HBW.out.trans hS.b)).mono ?_
           rintro e wk ⟨rfl, hwk⟩
           replace hwk := hwk.symm
           subst hwk
           exact hK _ _ (fun u hu => Option.some.inj hu) hS
          ·(simp only [List.getElem?_toArray, List.getElem?_cons_succ, List.getElem?_cons_zero, Option.some.injEq] at ho; subst ho; simp [Region.binds] at hdep; (try go_split_ands)); go_simp; exact hK _ _ (fun u hu => Option.some.inj hu) hS
          ·have e13 := hnd 13 (by kernel_rfl)
           have h134 := (hold 12 (by kernel_rfl) _ rfl 134 rfl).1
           have h := hS
           rw [e13, h134] at h
           have hfin := h.alloc (HZW.out W hS.b)
           rw [HYL.out] at hfin
           clear h
           (simp only [List.getElem?_toArray, List.getElem?_cons_succ, List.getElem?_cons_zero, Option.some.injEq] at ho; subst ho; simp [Region.binds] at hdep; (try go_split_ands))
           go_simp
           exact hK _ _ (fun u hu => by cases hu) (by
            show KpE _ _ _ _ _ _ _ _ (d 13) (some _) (f 135) (f 17) _
            rw [e13]; exact hfin)
          ·have h135 := (hold 13 (by kernel_rfl) _ rfl 135 rfl).1
           have h17 := (hold 14 (by kernel_rfl) _ rfl 17 rfl).1
           have e13 : d 13 = false := hdi
           (simp only [List.getElem?_toArray, List.getElem?_cons_succ, List.getElem?_cons_zero, Option.some.injEq] at ho; subst ho; simp [Region.binds] at hdep; (try go_split_ands))
           obtain ⟨v, hv, hat⟩ : ∃ v, f 134 = some v ∧ a.tmps[134]? = some v := by assumption
           have h := hS
           rw [e13, hv, h135, h17] at h
           obtain ⟨c, rfl, hc⟩ := h.m rfl _ rfl
           refine step_append_sg (by rfl) (.tmp 122) (.tmp 134) 22 (by rfl) u17 (some ⟨c, 0, none⟩) 1 1 (by simp [Act.eval, *]) (by simp [Act.eval, *]) wq.heap.size 44 i9 _ Tryz.underlying22 hi9 hx0 hx1 hx2 rfl M2 k [y] rfl (by omega) (h.o rfl) (Sg.of_row (l := [y]) hc) (HZW.out W h.b) ?_
           intro v' w' hown' hg'
           exact hK _ _ (fun u hu => by cases hu) (by
            show KpE _ _ _ _ _ _ _ _ true (f 134) (some _) (f 17) _
            rw [hv, h17]
            exact h.app (HZW.out W h.b) hnx hown' hg')
          ·(simp only [List.getElem?_toArray, List.getElem?_cons_succ, List.getElem?_cons_zero, Option.some.injEq] at ho; subst ho; simp [Region.binds] at hdep; (try go_split_ands))
           obtain ⟨v, hv, hat⟩ : ∃ v, f 135 = some v ∧ a.tmps[135]? = some v := by assumption
           have h := hS
           rw [hv] at h
           have hfin := h.asg
           go_simp
           exact hK _ _ (fun u hu => by cases hu) (by
            show KpE _ _ _ _ _ _ _ _ (d 13) (f 134) (f 135) (some _) W
            rw [hv]; exact hfin)
         intro d f W9 hS hall hf
         have e13 : d 13 = true := hall 13 (by decide)
         obtain ⟨v17, hv17, -⟩ := hf (some 17, none) (by simp) 17 rfl
         obtain ⟨v, hv, hown9⟩ := hS.a e13
         have hz17 := hS.z _ hv17
         rw [hv] at hz17
         cases hz17
         have hB9 := HBW.out.trans hS.b
         simp only [putsD, List.filterMap_cons, List.filterMap_nil, Option.map_some, Option.map_none, Option.getD_some, Option.getD_none, List.foldl_cons, List.foldl_nil, Act.put, List.setIfInBounds_toArray, List.set_cons_zero, List.set_cons_succ]
         rw [hv17]
         simp only [Option.getD_some]
         generalize (f 134).getD undef = v134
         generalize (f 135).getD undef = v135
         clear hf hv17 hv hS hown hownb hB
         go_wp2
         go_roundw
         case rel => exact ⟨k + 1, by omega, by go_num, by rw [HNN.out]; exact hown9, hB9⟩
         case measure => simp [intOf]; omega
        ·have hltI : ¬ (k : Int) < (P.es.length : Int) := by omega
         obtain rfl : k = P.es.length := by omega
         rw [List.take_length] at hown
         obtain ⟨pv, cv, rfl, hsv, _, _⟩ := own_sg hown
         have HM := hidI (gMake_own Q N (P.es.map (renE o)) pv cv wr hsv (by rw [List.length_map]; omega))
         rw [HREN.out, List.length_map] at HM
         have hBr2 := hBr.trans (hB.mono hBr.size)
         have d9 := HD9.out.below hB HD9.out.lt
         have g0 := hPr.at 0 rfl; have g1 := hPr.at 1 rfl
         rw [HQ.out] at g0
         rw [HN.out] at g1
         clear hown hsv hPr hB
         go_wp2_with fail
         refine HM.out.mono ?_
         rintro e w3 ⟨p3, m3, c3, rfl, hown3, hB3⟩
         have x9 := hBr2.trans (hB3.mono hBr2.size)
         have e1 := d9.below hB3 d9.lt
         obtain ⟨p4, c4, he4, hs3, hl3, _⟩ := own_sg hown3
         cases he4
         have j0 := e1.at 0 rfl; have j1 := e1.at 1 rfl; have j2 := e1.at 2 rfl
         have z0 := e1.frozen 0; have z1 := e1.frozen 1; have z2 := e1.frozen 2
         have r1 := VRow.set (i := 0) (.int .i64 R.q) e1
         have r2 := VRow.set (i := 1) (.int .i64 R.n) r1
         have r3 := VRow.set (i := 2) (.slice p3 R.es.length c3) r2
         have hs9 := sg_boxN r2 (sg_boxN r1 (sg_boxN e1 hs3 0 (.int .i64 R.q)) 1 (.int .i64 R.n)) 2 (.slice p3 R.es.length c3)
         have x10 := ((x9.setCell (p := ⟨w.heap.size + 1, 0, none⟩) (by simp) (.int .i64 R.q)).setCell (p := ⟨w.heap.size + 1, 1, none⟩) (by simp) (.int .i64 R.n)).setCell (p := ⟨w.heap.size + 1, 2, none⟩) (by simp) (.slice p3 R.es.length c3)
         have y0 := r3.at 0 rfl; have y1 := r3.at 1 rfl; have y2 := r3.at 2 rfl
         clear g0 g1 hown3 hRq hRn
         go_wp2
         refine bodyPost_ret (v := .tuple #[.agg #[.int .i64 R.q, .int .i64 R.n, .slice p3 R.es.length c3], .int .i64 0]) (by simp [results, Tryz.results13, go_sem, y0, y1, y2]) rfl ?_
         exact RetGr.of HK.out hs9 hl3 x10
end
section
open Go.RowKit Go.Sort Go.Shelf
def typA (G : Gr) : Int × Bool × Int := if chkG G ≠ 0 then (0, false, 1) else if irrA G = false then (0, false, 8) else if (covA G).2 ≠ 0 then (0, false, (covA G).2) else memA (covA G).1
theorem cov_vg {G : Gr} (hc : chkG G = 0) (hi : irrA G = true) (hk : (covA G).2 = 0) : Vg (covA G).1 := by
 have e : covA G = if (sbA G).2.2 ≠ 0 then (⟨0, 0, []⟩, (sbA G).2.2) else (cov4 (mgG (sbA G).1), 0) := by unfold covA; rw [if_neg (by simpa using hc), if_neg (by simp [hi])]
 by_cases hk0 : (sbA G).2.2 = 0
 ·rw [e, if_neg (by simpa using hk0)]
  obtain ⟨hvD, huD⟩ := sbA_ok hk0
  have hnD := sb_pos (chkG_ok.1 hc) hi hk0
  obtain ⟨l, ls, _, _, hvP, _, hnP, hall, hcv⟩ := cov4_ok (mg_vg hvD) (mg_uq' hvD huD) (by have e := cl_lt (G := (sbA G).1) (s := 0) (by omega); show 0 < mxC (clA (sbA G).1); omega)
  show Vg (cov4 (mgG (sbA G).1))
  rw [hcv]
  exact ren_vg hvP hnP hall
 ·rw [e, if_pos hk0] at hk
  exact absurd hk hk0
set_option maxRecDepth 100000 in
set_option maxHeartbeats 2000000 in
theorem mmType_any (G : Gr) (p : Option Addr) (c : Nat) (w : World) (hin : Sg 3 w edE p G.es) (hl : G.es.length ≤ 9223372036854775807) :
  Calls Tryz.prog 27 #[(.agg #[.int .i64 G.q, .int .i64 G.n, .slice p G.es.length c])] w fun e w' => e = .returned (.tuple #[.int .i64 (typA G).1, .bool (typA G).2.1, .int .i64 (typA G).2.2]) ∧ RowKit.Below w.heap.size w w' := by
 obtain ⟨w0, hw0⟩ : ∃ w0, w0 = w.alloc (.cells #[.int .i64 G.q, .int .i64 G.n, .slice p G.es.length c] 24) := ⟨_, rfl⟩
 have b0 : VRow w0 w.heap.size 24 [.int .i64 G.q, .int .i64 G.n, .slice p G.es.length c] := by subst hw0; exact VRow.new w _ _
 have hB0 : RowKit.Below w.heap.size w w0 := by subst hw0; exact (RowKit.Below.refl _ _).alloc (Nat.le_refl _) _
 have HIR := hidI (irr_any G p c w0 (hin.below hB0) hl)
 have HCV := hidI (fun W (hW : RowKit.Below w0.heap.size w0 W) => mCover_any G p c W ((hin.below hB0).below hW) hl)
 have f0 := b0.at 0 rfl; have f1 := b0.at 1 rfl; have f2 := b0.at 2 rfl
 by_cases hc : chkG G = 0
 ·have e1 : (ofA G).2 = 0 := by unfold ofA; rw [if_pos hc]
  rw [e1, decide_eq_true hc, Bool.true_and] at HIR
  cases hir : irrA G
  ·have HK : Hid (typA G = (0, false, 8)) := by unfold Hid typA; rw [if_neg (by simpa using hc), if_pos hir]
   rw [hir] at HIR
   clear hc hin e1 hir
   go_enter Tryz.func27, Tryz.ntmps27
   go_upto_region 1 with fail
   rw [← hw0]
   clear hw0
   go_wp2_with fail
   refine HIR.out.mono ?_
   rintro e w1 ⟨rfl, hB1⟩
   have x1 := hB0.trans (hB1.mono hB0.size)
   go_wp2
   go_ret3
   rw [HK.out]
   exact ⟨rfl, x1⟩
  ·have HT : Hid (typA G = if (covA G).2 ≠ 0 then (0, false, (covA G).2) else memA (covA G).1) := by unfold Hid typA; rw [if_neg (by simpa using hc), if_neg (by simp [hir])]
   have HVG := hidI (fun h => cov_vg hc hir h)
   rw [hir] at HIR
   generalize covA G = cv at *
   obtain ⟨A, k⟩ := cv
   replace HT : Hid (typA G = if k ≠ 0 then (0, false, k) else memA A) := HT
   replace HCV : Hid (∀ W, RowKit.Below w0.heap.size w0 W → Calls Tryz.prog 13 #[(.agg #[.int .i64 G.q, .int .i64 G.n, .slice p G.es.length c])] W (RetGr A k W)) := HCV
   replace HVG : Hid (k = 0 → Vg A) := HVG
   clear hc hin e1 hir
   go_enter Tryz.func27, Tryz.ntmps27
   go_upto_region 1 with fail
   rw [← hw0]
   clear hw0
   go_wp2_with fail
   refine HIR.out.mono ?_
   rintro e w1 ⟨rfl, hB1⟩
   have x1 := hB0.trans (hB1.mono hB0.size)
   have c0 := b0.below hB1 b0.lt
   clear f0 f1 f2 b0
   have f0 := c0.at 0 rfl; have f1 := c0.at 1 rfl; have f2 := c0.at 2 rfl
   go_wp2_with fail
   refine (HCV.out w1 hB1).mono ?_
   rintro e w2 ⟨pa, ca, rfl, sa, _, hB2⟩
   have x2 := x1.trans (hB2.mono x1.size)
   clear f0 f1 f2 c0 HIR HCV
   obtain ⟨w3, hw3⟩ : ∃ w3, w3 = w2.alloc (.cells #[.int .i64 A.q, .int .i64 A.n, .slice pa A.es.length ca] 24) := ⟨_, rfl⟩
   have ra : VRow w3 w2.heap.size 24 [.int .i64 A.q, .int .i64 A.n, .slice pa A.es.length ca] := by subst hw3; exact VRow.new w2 _ _
   have hB3 : RowKit.Below w2.heap.size w2 w3 := by subst hw3; exact (RowKit.Below.refl _ _).alloc (Nat.le_refl _) _
   have x3 := x2.trans (hB3.mono x2.size)
   have sa3 := sa.below hB3
   have g0 := ra.at 0 rfl; have g1 := ra.at 1 rfl; have g2 := ra.at 2 rfl
   go_upto_region 7 with fail
   rw [← hw3]
   clear hw3
   by_cases hk : k = 0
   ·have HV := hidI (HVG.out hk)
    have HM := hidI (mmMemory_any A pa ca w3 sa3 (by have := HV.out.len; omega))
    subst hk
    have HX : Hid (typA G = memA A) := by rw [Hid, HT.out, if_neg (by simp)]
    generalize memA A = R at *
    clear HT HVG
    go_wp2_with fail
    refine HM.out.mono ?_
    rintro e w4 ⟨rfl, hB4⟩
    have x4 := x3.trans (hB4.mono x3.size)
    go_wp2
    go_ret3
    rw [HX.out]
    exact ⟨rfl, x4⟩
   ·have HX : Hid (typA G = (0, false, k)) := by rw [Hid, HT.out, if_pos hk]
    have hkb : (k != 0) = true := by simpa using hk
    clear HT HVG hk
    go_wp2
    go_ret3
    rw [HX.out]
    exact ⟨rfl, x3⟩
 ·have HK : Hid (typA G = (0, false, 1)) := if_pos hc
  have e1 : (ofA G).2 = 1 := by unfold ofA; rw [if_neg hc]
  rw [e1, decide_eq_false hc, Bool.false_and] at HIR
  clear hc hin e1
  go_enter Tryz.func27, Tryz.ntmps27
  go_upto_region 1 with fail
  rw [← hw0]
  clear hw0
  go_wp2_with fail
  refine HIR.out.mono ?_
  rintro e w1 ⟨rfl, hB1⟩
  have x1 := hB0.trans (hB1.mono hB0.size)
  go_wp2
  go_ret3
  rw [HK.out]
  exact ⟨rfl, x1⟩
end
section
open Go.RowKit Go.Sort Go.Shelf Go.Lib
def goldG : Gr := ⟨2, 2, [⟨0, 0, 0⟩, ⟨0, 1, 1⟩, ⟨1, 0, 0⟩]⟩
end
section
open Go.RowKit
def evenG : Gr := ⟨2, 2, [⟨0, 0, 1⟩, ⟨0, 1, 0⟩, ⟨1, 0, 0⟩]⟩
theorem gold_mem : memA goldG = (1, true, 0) := by kernel_rfl
theorem gold_ant : antA goldG = (0, true, 0) := by kernel_rfl
theorem gold_typ : typA goldG = (1, true, 0) := by kernel_rfl
theorem even_mem : memA evenG = (0, false, 0) := by kernel_rfl
theorem even_typ : typA evenG = (0, false, 0) := by kernel_rfl
theorem even_wit : witA evenG = ([(0, 2), (2, 0)], true, 0) := by kernel_rfl
end
section
open Go.RowKit Go.Sort Go.Shelf
theorem infoTv : (Tryz.prog.info? 148).map (fun i => (i.zero, i.size, i.bytes)) = some (some (.slice none 0 0), 1, 24) := by kernel_rfl
theorem infoTp : (Tryz.prog.info? 149).map (fun i => (i.zero, i.size, i.bytes)) = some (some (.agg #[.int .i64 0, .int .i64 0]), 2, 16) := by kernel_rfl
def enc2 (p : Nat × Nat) : List Value := [.int .i64 p.1, .int .i64 p.2]
def encD (L : List (Nat × Nat)) : List Value := L.flatMap enc2
theorem encD_snoc (L : List (Nat × Nat)) (p : Nat × Nat) : encD (L ++ [p]) = encD L ++ enc2 p := by simp [encD]
theorem own_not2 {W : World} {B b e m : Nat} {v : Value} {n : Nat} {xs ys : List Value} {t : TypeId} (h : W.ownsRow B e m v n xs) (hb : VRow W b t ys) (hne : t ≠ e) : some b ≠ v.ownBlock := by
 intro e'
 obtain ⟨c', f', h'⟩ := Lib.ownsRow_kind h b e'.symm
 have hb : W.heap[b]? = _ := hb
 rw [hb] at h'; cases h'; exact hne rfl
structure DxR (W : World) (H bn n : Nat) (vs : List Value) (R : Nat → List (Nat × Nat)) (x : Nat) : Prop where
 hd : VRow W bn 148 vs
 len : vs.length = n
 own : ∀ s (h : s < vs.length), s ≠ x → W.ownsRow H 149 2 vs[s] (R s).length (encD (R s))
 ne : ∀ s t (hs : s < vs.length) (ht : t < vs.length), s ≠ t → NEI vs[s] vs[t]
theorem DxR.alloc {W : World} {H bn n : Nat} {vs : List Value} {R : Nat → List (Nat × Nat)} {x : Nat} (h : DxR W H bn n vs R x) (o : Obj) : DxR (W.alloc o) H bn n vs R x :=
 ⟨h.hd.alloc o, h.len, fun s hs hx => (h.own s hs hx).alloc o, h.ne⟩
theorem DxR.keep {W W' : World} {H bn n : Nat} {vs : List Value} {R : Nat → List (Nat × Nat)} {x : Nat} (h : DxR W H bn n vs R x) (hB : RowKit.Below W.heap.size W W') : DxR W' H bn n vs R x :=
 ⟨h.hd.below hB h.hd.lt, h.len, fun s hs hx => (h.own s hs hx).below hB, h.ne⟩
theorem DxR.grown {W W' : World} {H bn n : Nat} {vs : List Value} {R : Nat → List (Nat × Nat)} {x : Nat} (h : DxR W H bn n vs R n) (hx : x < vs.length) (hg : W.grownBy W' vs[x].ownBlock) : DxR W' H bn n vs R x where
 hd := h.hd.grown hg (own_not2 (h.own x hx (by have := h.len; omega)) h.hd (by decide))
 len := h.len
 own := fun s hs hsx => (h.own s hs (by have := h.len; omega)).kept hg ((h.ne x s hx hs (fun e => hsx e.symm)).kept)
 ne := h.ne
theorem DxR.set {W : World} {H bn n : Nat} {vs : List Value} {R R' : Nat → List (Nat × Nat)} {x : Nat} {v : Value} (h : DxR W H bn n vs R x) (hx : x < vs.length) (hv : W.ownsRow H 149 2 v (R' x).length (encD (R' x))) (hR : ∀ s, s ≠ x → R' s = R s)
  (h1 : ∀ s (hs : s < vs.length), s ≠ x → NEI v vs[s] ∧ NEI vs[s] v) : DxR (W.setCell ⟨bn, x, none⟩ v) H bn n (vs.set x v) R' n := by
 have hb : ∀ {u : Value} {k : Nat} {xs : List Value}, W.ownsRow H 149 2 u k xs → (W.setCell ⟨bn, x, none⟩ v).ownsRow H 149 2 u k xs := fun hu =>
  ownsRow_setCell_other hu (a := ⟨bn, x, none⟩) (fun e => own_not2 hu h.hd (by decide) e.symm) _
 refine ⟨h.hd.set (i := x) v, by rw [List.length_set]; exact h.len, fun s hs _ => ?_, fun s t hs ht hst => ?_⟩
 ·rw [List.length_set] at hs
  by_cases e : s = x
  ·subst e
   rw [List.getElem_set_self]; exact hb hv
  ·rw [List.getElem_set_ne (fun e' => e e'.symm), hR s e]
   exact hb (h.own s hs e)
 ·rw [List.length_set] at hs ht
  by_cases e : s = x
  ·subst e
   rw [List.getElem_set_self, List.getElem_set_ne hst]
   exact (h1 t (by simpa using ht) (fun e' => hst e'.symm)).1
  ·by_cases e2 : t = x
   ·subst e2
    rw [List.getElem_set_self, List.getElem_set_ne (fun e' => e e'.symm)]
    exact (h1 s (by simpa using hs) e).2
   ·rw [List.getElem_set_ne (fun e' => e e'.symm), List.getElem_set_ne (fun e' => e2 e'.symm)]
    exact h.ne s t (by simpa using hs) (by simpa using ht) hst
structure DxS (w1 W0 : World) (H bn B3 xb n : Nat) (dv xv : List Value) (vs : List Value) (R R' : Nat → List (Nat × Nat)) (x : Nat) (a : Nat × Nat) (d11 d12 d14 : Bool) (f72 : Option Value) (W : World) : Prop where
 b : RowKit.Below H w1 W
 bx : VRow W B3 103 dv
 ed : VRow W xb 44 xv
 sz : d11 = false → W.heap.size = W0.heap.size
 sz2 : W0.heap.size ≤ W.heap.size
 one : d11 = true → d12 = false → VRow W W0.heap.size 149 (enc2 a)
 pre : d12 = false → DxR W H bn n vs R n
 mid : d12 = true → d14 = false → ∃ g cap, f72 = some (.slice (some ⟨g, 0, none⟩) (R' x).length cap) ∧ DxR W H bn n vs R x ∧ W.ownsRow H 149 2 (.slice (some ⟨g, 0, none⟩) (R' x).length cap) (R' x).length (encD (R' x)) ∧ ∀ s (hs : s < vs.length), s ≠ x → NEI (.slice (some ⟨g, 0, none⟩) (R' x).length cap) vs[s] ∧ NEI vs[s] (.slice (some ⟨g, 0, none⟩) (R' x).length cap)
 fin : d14 = true → ∃ v, f72 = some v ∧ DxR W H bn n (vs.set x v) R' n
section
variable {w1 W0 : World} {H bn B3 xb n : Nat} {dv xv : List Value} {vs : List Value} {R R' : Nat → List (Nat × Nat)} {x : Nat} {a : Nat × Nat} {f72 : Option Value} {W : World}
theorem DxS.alloc (h : DxS w1 W0 H bn B3 xb n dv xv vs R R' x a false false false f72 W) (hbn : H ≤ W.heap.size) : DxS w1 W0 H bn B3 xb n dv xv vs R R' x a true false false f72 (W.alloc (.cells (enc2 a).toArray 149)) := by
 refine ⟨h.b.alloc hbn _, h.bx.alloc _, h.ed.alloc _, (fun e => by cases e), by rw [World.size_alloc]; have := h.sz2; omega, fun _ _ => ?_, fun e => (h.pre e).alloc _, (fun e => by cases e), (fun e => by cases e)⟩
 rw [← h.sz rfl]; exact VRow.new W _ _
theorem DxS.app {W' : World} {g cap : Nat} {d11 : Bool} (h : DxS w1 W0 H bn B3 xb n dv xv vs R R' x a d11 false false f72 W) (hx : x < vs.length) (hR : (R' x) = R x ++ [a])
  (hown : W'.ownsRow H 149 2 (.slice (some ⟨g, 0, none⟩) ((R x).length + 1) cap) ((R x).length + 1) (encD (R x) ++ enc2 a)) (hg : W.grownBy W' vs[x].ownBlock) (hgw : vs[x].ownBlock = some g ∨ g = W.heap.size) (hbn : H ≤ W.heap.size) :
  DxS w1 W0 H bn B3 xb n dv xv vs R R' x a true true false (some (.slice (some ⟨g, 0, none⟩) ((R x).length + 1) cap)) W' := by
 have hP := h.pre rfl
 have hxn : x ≠ n := by have := hP.len; omega
 have ho := hP.own x hx hxn
 have hR1 : (R' x).length = (R x).length + 1 := by rw [hR]; simp
 refine ⟨h.b.grown hg hbn (fun j e => (ho.lt j e).1), h.bx.grown hg (own_not2 ho h.bx (by decide)), h.ed.grown hg (own_not2 ho h.ed (by decide)), (fun e => by cases e), Nat.le_trans h.sz2 hg.size, (fun _ e => by cases e), (fun e => by cases e), fun _ _ => ?_, (fun e => by cases e)⟩
 refine ⟨g, cap, by rw [hR1], hP.grown hx hg, ?_, fun s hs hsx => ?_⟩
 ·rw [hR1, hR, encD_snoc]; exact hown
 ·have hos := hP.own s hs (by have := hP.len; omega)
  rcases hgw with e | e
  ·exact ⟨fun j hj => by
    have : vs[x].ownBlock = some j := by rw [e]; simpa [Value.ownBlock] using hj
    exact hP.ne x s hx hs (fun e' => hsx e'.symm) j this, fun j hj hj2 => by
    have hj3 : g = j := by simpa [Value.ownBlock] using hj2
    exact hP.ne s x hs hx hsx j hj (by rw [e, hj3])⟩
  ·exact ⟨fun j hj hj2 => by
    have hj3 : g = j := by simpa [Value.ownBlock] using hj
    have := (hos.lt j hj2).2; omega, fun j hj hj2 => by
    have hj3 : g = j := by simpa [Value.ownBlock] using hj2
    have := (hos.lt j hj).2; omega⟩
theorem DxS.store {d11 : Bool} {g cap : Nat} (h : DxS w1 W0 H bn B3 xb n dv xv vs R R' x a d11 true false (some (.slice (some ⟨g, 0, none⟩) (R' x).length cap)) W) (hH : H ≤ bn) (hx : x < vs.length) (hR : ∀ s, s ≠ x → R' s = R s) :
  DxS w1 W0 H bn B3 xb n dv xv vs R R' x a d11 true true (some (.slice (some ⟨g, 0, none⟩) (R' x).length cap)) (W.setCell ⟨bn, x, none⟩ (.slice (some ⟨g, 0, none⟩) (R' x).length cap)) := by
 obtain ⟨g', cap', hu, h1, h2, h3⟩ := h.mid rfl rfl
 cases hu
 refine ⟨h.b.setCell (p := ⟨bn, x, none⟩) hH _, h.bx.other _ (row_ne h.bx h1.hd (by decide)), h.ed.other _ (row_ne h.ed h1.hd (by decide)), fun e => by rw [World.size_setCell]; exact h.sz e, by rw [World.size_setCell]; exact h.sz2, (fun _ e => by cases e), (fun e => by cases e), (fun _ e => by cases e), fun _ => ⟨_, rfl, h1.set hx h2 hR h3⟩⟩
end
structure KD1 (W0 : World) (G : Gr) (p : Option Addr) (c M : Nat) (d9 : Bool) (f15 f16 f3 : Option Value) (W : World) : Prop where
 b : RowKit.Below W0.heap.size W0 W
 k : ∀ v, f15 = some v → ∃ b, v = .slice (some ⟨b, 0, none⟩) M M ∧ W0.heap.size ≤ b ∧ VRow W b 148 (List.replicate M (.slice none 0 0))
 g : ∀ v, f16 = some v → ∃ b, f15 = some (.slice (some ⟨b, 0, none⟩) M M) ∧ v = (.agg #[.int .i64 G.q, .int .i64 G.n, .slice p G.es.length c, .slice (some ⟨b, 0, none⟩) M M])
 a : ∀ v, f3 = some v → ∃ b3, v = .pointer (some ⟨b3, 0, none⟩) ∧ W0.heap.size ≤ b3 ∧ (d9 = false → VRow W b3 103 [.int .i64 0, .int .i64 0, .slice none 0 0, .slice none 0 0]) ∧ (d9 = true → ∃ b, f15 = some (.slice (some ⟨b, 0, none⟩) M M) ∧ VRow W b3 103 [.int .i64 G.q, .int .i64 G.n, .slice p G.es.length c, .slice (some ⟨b, 0, none⟩) M M])
section
variable {W0 : World} {G : Gr} {p : Option Addr} {c M : Nat} {d9 : Bool} {f15 f16 f3 : Option Value} {W : World}
theorem KD1.make {cs : Array Value} (h : KD1 W0 G p c M false none none f3 W) (hc : cs = (List.replicate M (Value.slice none 0 0)).toArray) : KD1 W0 G p c M false (some (.slice (some ⟨W.heap.size, 0, none⟩) M M)) none f3 (W.alloc (.cells cs 148)) := by
 subst hc
 refine ⟨h.b.alloc h.b.size _, fun v hv => ⟨W.heap.size, by cases hv; rfl, h.b.size, VRow.new W _ _⟩, (fun v hv => by cases hv), fun v hv => ?_⟩
 obtain ⟨b3, h1, h2, h3, _⟩ := h.a v hv
 exact ⟨b3, h1, h2, fun e => (h3 e).alloc _, (fun e => by cases e)⟩
theorem KD1.build {b : Nat} (h : KD1 W0 G p c M d9 (some (.slice (some ⟨b, 0, none⟩) M M)) none f3 W) : KD1 W0 G p c M d9 (some (.slice (some ⟨b, 0, none⟩) M M)) (some (.agg #[.int .i64 G.q, .int .i64 G.n, .slice p G.es.length c, .slice (some ⟨b, 0, none⟩) M M])) f3 W :=
 ⟨h.b, h.k, fun v hv => ⟨b, rfl, by cases hv; rfl⟩, h.a⟩
theorem KD1.alloc (h : KD1 W0 G p c M false f15 f16 none W) : KD1 W0 G p c M false f15 f16 (some (.pointer (some ⟨W.heap.size, 0, none⟩))) (W.alloc (.cells #[.int .i64 0, .int .i64 0, .slice none 0 0, .slice none 0 0] 103)) := by
 refine ⟨h.b.alloc h.b.size _, fun v hv => ?_, h.g, fun v hv => ⟨W.heap.size, by cases hv; rfl, h.b.size, fun _ => VRow.new W _ _, (fun e => by cases e)⟩⟩
 obtain ⟨b, h1, h2, h3⟩ := h.k v hv
 exact ⟨b, h1, h2, h3.alloc _⟩
theorem KD1.store {b3 b : Nat} (h : KD1 W0 G p c M false (some (.slice (some ⟨b, 0, none⟩) M M)) f16 (some (.pointer (some ⟨b3, 0, none⟩))) W) :
  KD1 W0 G p c M true (some (.slice (some ⟨b, 0, none⟩) M M)) f16 (some (.pointer (some ⟨b3, 0, none⟩))) ((((W.setCell ⟨b3, 0, none⟩ (.int .i64 G.q)).setCell ⟨b3, 1, none⟩ (.int .i64 G.n)).setCell ⟨b3, 2, none⟩ (.slice p G.es.length c)).setCell ⟨b3, 3, none⟩ (.slice (some ⟨b, 0, none⟩) M M)) := by
 obtain ⟨b3', e, h1, h2, _⟩ := h.a _ rfl
 cases e
 have h2 := h2 rfl
 have r4 := VRow.set (i := 3) (.slice (some ⟨b, 0, none⟩) M M) (VRow.set (i := 2) (.slice p G.es.length c) (VRow.set (i := 1) (.int .i64 G.n) (VRow.set (i := 0) (.int .i64 G.q) h2)))
 refine ⟨(((h.b.setCell (show W0.heap.size ≤ b3 from h1) _).setCell (show W0.heap.size ≤ b3 from h1) _).setCell (show W0.heap.size ≤ b3 from h1) _).setCell (show W0.heap.size ≤ b3 from h1) _, fun v hv => ?_, h.g, fun v hv => ⟨b3, by cases hv; rfl, h1, (fun e => by cases e), fun _ => ⟨b, rfl, r4⟩⟩⟩
 obtain ⟨b', h3, h4, h5⟩ := h.k v hv
 have hne := row_ne h5 h2 (by decide)
 exact ⟨b', h3, h4, (((h5.other _ hne).other _ hne).other _ hne).other _ hne⟩
end
end
section
open Go.RowKit Go.Sort Go.Shelf
def dxi (N : Nat) (es : List Ed) (i k : Nat) (n : Nat) : List (Nat × Nat) := dnxL N es (prsTo es i ++ prsR es i k) n
theorem dxi_zero (N : Nat) (es : List Ed) (i : Nat) : dxi N es i 0 = dnxL N es (prsTo es i) := by funext n; unfold dxi; rw [prsR_zero, List.append_nil]
theorem dxi_end (N : Nat) (es : List Ed) (i : Nat) : dxi N es i es.length = dnxL N es (prsTo es (i + 1)) := rfl
theorem dxi_no {N : Nat} {es : List Ed} {i k : Nat} (h : ¬ ((eget es i).l = (eget es k).l ∧ (eget es i).f ≠ (eget es k).f ∧ (eget es i).t ≠ (eget es k).t)) : dxi N es i (k + 1) = dxi N es i k := by
 funext n
 unfold dxi
 by_cases hl : (eget es i).l = (eget es k).l
 ·rw [prsR_yes hl, ← List.append_assoc]
  refine dnxL_no ?_ n
  unfold dif2
  by_cases h1 : (eget es i).f ≠ (eget es k).f
  ·by_cases h2 : (eget es i).t ≠ (eget es k).t
   ·exact absurd ⟨hl, h1, h2⟩ h
   ·simp at h2; simp [h2]
  ·simp at h1; simp [h1]
 ·rw [prsR_no hl]
theorem dxi_at {N : Nat} {es : List Ed} {i k : Nat} (h : (eget es i).l = (eget es k).l ∧ (eget es i).f ≠ (eget es k).f ∧ (eget es i).t ≠ (eget es k).t) :
  dxi N es i (k + 1) (pix N (eget es i).f (eget es k).f) = dxi N es i k (pix N (eget es i).f (eget es k).f) ++ [(i, k)] ∧ ∀ n, n ≠ pix N (eget es i).f (eget es k).f → dxi N es i (k + 1) n = dxi N es i k n := by
 have hd : dif2 es (i, k) = true := by unfold dif2; simp [h.2.1, h.2.2]
 unfold dxi
 rw [prsR_yes h.1, ← List.append_assoc]
 exact ⟨dnxL_at hd, fun n hn => dnxL_off hn⟩
theorem dxi_len (N : Nat) (es : List Ed) (i k n : Nat) (h : es.length ≤ 1024) (hi : i ≤ 1024) (hk : k ≤ 1024) : (dxi N es i k n).length ≤ 1049600 := by
 have h1 := dnxL_len N es (prsTo es i ++ prsR es i k) n
 have h2 := prsTo_len es i
 have h3 := prsR_len es i k
 have h4 : i * es.length ≤ 1024 * 1024 := Nat.mul_le_mul hi h
 rw [List.length_append] at h1
 unfold dxi; omega
theorem DxR.lower {W : World} {H H' bn n : Nat} {vs : List Value} {R : Nat → List (Nat × Nat)} {x : Nat} (h : DxR W H bn n vs R x) (hH : H' ≤ H) : DxR W H' bn n vs R x :=
 ⟨h.hd, h.len, fun s hs hx => let ⟨h1, h2⟩ := h.own s hs hx; ⟨h1, h2.imp id fun ⟨g, cap, cur, hv, hb, r⟩ => ⟨g, cap, cur, hv, Nat.le_trans hH hb, r⟩⟩, h.ne⟩
theorem DxR.other2 {W : World} {H bn n b i : Nat} {vs : List Value} {R : Nat → List (Nat × Nat)} {x : Nat} {l : List Value} (h : DxR W H bn n vs R x) (v : Value) (hb : VRow W b 103 l) : DxR (W.setCell ⟨b, i, none⟩ v) H bn n vs R x :=
 ⟨h.hd.other _ (row_ne h.hd hb (by decide)), h.len, fun s hs hx => ownsRow_setCell_other (h.own s hs hx) (a := ⟨b, i, none⟩) (fun e => own_not2 (h.own s hs hx) hb (by decide) e.symm) _, h.ne⟩
def RetDb (G : Gr) (p : Option Addr) (c M N : Nat) (w : World) (e : Ending) (w' : World) : Prop := ∃ bn vs, e = .returned (.agg #[.int .i64 G.q, .int .i64 G.n, .slice p G.es.length c, .slice (some ⟨bn, 0, none⟩) M M]) ∧ w.heap.size ≤ bn ∧ DxR w' w.heap.size bn M vs (dnx N G.es) M ∧ RowKit.Below w.heap.size w w'
set_option maxRecDepth 100000 in
set_option maxHeartbeats 4000000 in
theorem mmNewDouble_any (G : Gr) (p : Option Addr) (c M N : Nat) (hv : Vg G) (hN : G.n = N) (hM : M = N * N) (w : World) (hin : Sg 3 w edE p G.es) :
  Calls Tryz.prog 86 #[(.agg #[.int .i64 G.q, .int .i64 G.n, .slice p G.es.length c])] w (RetDb G p c M N w) := by
 obtain ⟨i1, hi1, hy0, hy1, hy3⟩ := info_parts infoTp
 have HV := hidI hv; have HNN := hidI hN; have HMM := hidI hM
 have hl := hv.len
 have hN64 : N ≤ 64 := by have := hv.n2; omega
 have hM4 : M ≤ 4096 := by rw [hM]; exact Nat.mul_le_mul hN64 hN64
 have hmk := run_make_row' (P := Tryz.prog) 101 148 (.slice none 0 0) 24 Tryz.underlying101 infoTv rfl .i64 .i64 M (by omega) (by omega)
 have q0 : IntKind.i64.wrap ((N : Int) * (N : Int)) = ((M : Nat) : Int) := by rw [hM, Int.natCast_mul]; exact IntWalk.i64_in _ (by have := hM4; rw [hM] at this; have h2 : ((N * N : Nat) : Int) = (N : Int) * N := Int.natCast_mul _ _; omega)
 obtain ⟨w0, hw0⟩ : ∃ w0, w0 = (w.alloc (.cells #[.int .i64 G.q, .int .i64 G.n, .slice p G.es.length c] 24)).alloc (.cells #[.int .i64 0, .int .i64 0, .slice none 0 0, .slice none 0 0] 103) := ⟨_, rfl⟩
 have b0 : VRow w0 w.heap.size 24 [.int .i64 G.q, .int .i64 G.n, .slice p G.es.length c] := by subst hw0; exact (VRow.new w _ _).alloc _
 have b1 : VRow w0 (w.heap.size + 1) 103 [.int .i64 0, .int .i64 0, .slice none 0 0, .slice none 0 0] := by subst hw0; exact VRow.new1 w _ _ _
 have hB0 : RowKit.Below w.heap.size w w0 := by subst hw0; exact ((RowKit.Below.refl _ _).alloc (Nat.le_refl _) _).alloc (by simp) _
 have HIN := hidI (hin.below hB0)
 have f0 := b0.at 0 rfl; have f1 := b0.at 1 rfl; have f2 := b0.at 2 rfl
 rw [hN] at f1
 clear hin hv hN hM
 go_enter Tryz.func86, Tryz.ntmps86
 go_upto_region 1 with fail
 rw [← hw0]
 clear hw0
 go_cut [3] from 9 to 16 (fun s3 wx => ∃ bn b3, s3 = .pointer (some ⟨b3, 0, none⟩) ∧ VRow wx b3 103 [.int .i64 G.q, .int .i64 G.n, .slice p G.es.length c, .slice (some ⟨bn, 0, none⟩) M M] ∧ VRow wx bn 148 (List.replicate M (.slice none 0 0)) ∧ w0.heap.size ≤ bn ∧ w0.heap.size ≤ b3 ∧ RowKit.Below w0.heap.size w0 wx)
 case first =>
  refine region_detW (by kernel_rfl) 10 [(some 9, some (.agg #[.int .i64 G.q, .int .i64 G.n, .slice p G.es.length c])), (some 10, some (.pointer (some ⟨w.heap.size, 1, none⟩))), (some 11, some (.int .i64 (N : Int))), (some 12, some (.pointer (some ⟨w.heap.size, 1, none⟩))), (some 13, some (.int .i64 (N : Int))), (some 14, some (.int .i64 (M : Int))), (some 15, none), (some 16, none), (some 3, none), (none, none)]
   (fun d f W => KD1 w0 G p c M (d 9) (f 15) (f 16) (f 3) W) (by kernel_rfl) (by kernel_rfl) (by kernel_rfl) (by kernel_rfl) ⟨below_dN (RowKit.Below.refl _ _) 1, (fun _ e => by cases e), (fun _ e => by cases e), (fun _ e => by cases e)⟩ ?_ ?_
  focus
   intro i o ho a d f W hS hdi hdn hnd hdep hout hold K hK
   have hil : i < 10 := (Array.getElem?_eq_some_iff.1 ho).1
   have hcases : i = 0 ∨ i = 1 ∨ i = 2 ∨ i = 3 ∨ i = 4 ∨ i = 5 ∨ i = 6 ∨ i = 7 ∨ i = 8 ∨ i = 9 := by omega
   clear hil
   have u1 := hout 1 (by kernel_rfl)
   simp at u1
   clear hout
   have hz := b0.lt
   have hc0 := (hS.b.cell hz).trans f0
   have hc1 := (hS.b.cell (p := ⟨w.heap.size, 1, none⟩) hz).trans f1
   have hc2 := (hS.b.cell (p := ⟨w.heap.size, 2, none⟩) hz).trans f2
   clear f0 f1 f2 b0 b1
   rcases hcases with rfl | rfl | rfl | rfl | rfl | rfl | rfl | rfl | rfl | rfl
   all_goals (simp only [List.getElem?_toArray, List.getElem?_cons_succ, List.getElem?_cons_zero, Option.some.injEq] at ho; subst ho; simp [Region.binds] at hdep; (try go_split_ands))
   ·go_simp; exact hK _ _ (fun u hu => by rw [← Option.some.inj hu, HNN.out]) hS
   ·go_simp; exact hK _ _ (fun u hu => Option.some.inj hu) hS
   ·go_simp; exact hK _ _ (fun u hu => Option.some.inj hu) hS
   ·go_simp; exact hK _ _ (fun u hu => Option.some.inj hu) hS
   ·go_simp; exact hK _ _ (fun u hu => Option.some.inj hu) hS
   ·go_simp; exact hK _ _ (fun u hu => Option.some.inj hu) hS
   ·have h15 := (hold 6 (by kernel_rfl) _ rfl 15 rfl).1
    have h16 := (hold 7 (by kernel_rfl) _ rfl 16 rfl).1
    have e9 := hnd 9 (by kernel_rfl)
    have h := hS
    rw [e9, h15, h16] at h
    have hfin := h.make (cs := madeCells #[.slice none 0 0] M) (by apply Array.toList_inj.1; rw [toList_madeCells_one])
    go_simp
    exact hK _ _ (fun u hu => by cases hu) (by
     show KD1 _ _ _ _ _ (d 9) (some _) (f 16) (f 3) _
     rw [e9, h16]; exact hfin)
   ·obtain ⟨v, hv, hat⟩ : ∃ v, f 15 = some v ∧ a.tmps[15]? = some v := by assumption
    obtain ⟨b, rfl, _⟩ := hS.k v hv
    have h16 := (hold 7 (by kernel_rfl) _ rfl 16 rfl).1
    have h := hS
    rw [hv, h16] at h
    have hfin := h.build
    go_simp
    exact hK _ _ (fun u hu => by cases hu) (by
     show KD1 _ _ _ _ _ (d 9) (f 15) (some _) (f 3) W
     rw [hv]; exact hfin)
   ·have h3 := (hold 8 (by kernel_rfl) _ rfl 3 rfl).1
    have e9 := hnd 9 (by kernel_rfl)
    have h := hS
    rw [e9, h3] at h
    have hfin := h.alloc
    go_simp
    exact hK _ _ (fun u hu => by cases hu) (by
     show KD1 _ _ _ _ _ (d 9) (f 15) (f 16) (some _) _
     rw [e9]; exact hfin)
   ·obtain ⟨v, hv, hat⟩ : ∃ v, f 3 = some v ∧ a.tmps[3]? = some v := by assumption
    obtain ⟨u, hu, hau⟩ : ∃ v, f 16 = some v ∧ a.tmps[16]? = some v := by assumption
    have e9 : d 9 = false := hdi
    obtain ⟨b, h15, rfl⟩ := hS.g u hu
    have h := hS
    rw [e9, hv, h15] at h
    obtain ⟨b3, rfl, hbl, hzr, _⟩ := h.a _ rfl
    have hzr := hzr rfl
    have k0 := hzr.at 0 rfl; have k1 := hzr.at 1 rfl; have k2 := hzr.at 2 rfl; have k3 := hzr.at 3 rfl
    have z0 := hzr.frozen 0; have z1 := hzr.frozen 1; have z2 := hzr.frozen 2; have z3 := hzr.frozen 3
    have hfin := h.store
    have HV1 := hidI hv; have HU1 := hidI h15
    clear hzr h hv hu h15
    go_simp
    exact hK undef _ (fun u hu => by cases hu) (by
     show KD1 _ _ _ _ _ true (f 15) (f 16) (f 3) _
     rw [HV1.out, HU1.out]; exact hfin)
  intro d f W9 hS hall hf
  have e9 : d 9 = true := hall 9 (by decide)
  obtain ⟨v3, hv3, -⟩ := hf (some 3, none) (by simp) 3 rfl
  obtain ⟨b3, rfl, hbl, _, h3⟩ := hS.a _ hv3
  obtain ⟨b, h15, hrow⟩ := h3 e9
  obtain ⟨b', e', hbb, hrb⟩ := hS.k _ h15
  cases e'
  have hBl := hS.b
  simp only [putsD, List.filterMap_cons, List.filterMap_nil, Option.map_some, Option.map_none, Option.getD_some, Option.getD_none, List.foldl_cons, List.foldl_nil, Act.put, List.setIfInBounds_toArray, List.set_cons_zero, List.set_cons_succ]
  rw [hv3, h15]
  simp only [Option.getD_some]
  generalize (f 16).getD undef = v16
  clear hf hv3 h15 hS
  go_wp2_with fail
  go_meet
  exact ⟨b, b3, rfl, hrow, hrb, hbb, hbl, hBl⟩
 case rest =>
  obtain ⟨bn, b3, rfl, hr3, hrn, hbn, hb3, hB1⟩ := hcut
  obtain ⟨w1, rfl⟩ : ∃ w1 : World, w1 = wc := ⟨_, rfl⟩
  have c0 := b0.below hB1 b0.lt; have c1 := b1.below hB1 b1.lt
  have hz0 := b0.lt; have hz1 := b1.lt
  have HE := hidI (fun W (h : RowKit.Below w0.heap.size w1 W) => HIN.out.below (hB1.trans h))
  have HX := hidI (fun W (h : RowKit.Below w0.heap.size w1 W) => hB0.trans ((hB1.trans h).mono hB0.size))
  have HC0 := hidI (fun W (h : RowKit.Below w0.heap.size w1 W) => c0.below h hz0)
  have HC1 := hidI (fun W (h : RowKit.Below w0.heap.size w1 W) => c1.below h hz1)
  have HH0 := hidI hB0.size
  have HHW := hidI (fun W (h : RowKit.Below w0.heap.size w1 W) => Nat.le_trans hB1.size h.size)
  have hP : DxR w1 w0.heap.size bn M (List.replicate M (.slice none 0 0)) (dnxL N G.es (prsTo G.es 0)) M := by
   refine ⟨hrn, by simp, fun t ht _ => ?_, fun t u ht hu _ => ?_⟩
   ·rw [List.getElem_replicate]; exact World.ownsRow_nil _ _ _ _
   ·rw [List.getElem_replicate]; exact fun j hj => by cases hj
  obtain ⟨H, hH⟩ : ∃ H, H = w0.heap.size := ⟨_, rfl⟩
  rw [← hH] at HE HX HC0 HC1 HHW hP hbn hb3 hz0 hz1 HH0
  have g2 := c0.at 2 rfl
  clear f0 f1 f2 b0 b1 hB1 hmk hrn HIN hB0 c0 c1 hH q0
  go_wp2
  clear g2
  go_loopw [20] (fun iv wr => ∃ (i : Nat) (vs : List Value), i ≤ G.es.length ∧ iv = .int .i64 i ∧ DxR wr H bn M vs (dnxL N G.es (prsTo G.es i)) M ∧ VRow wr b3 103 [.int .i64 G.q, .int .i64 G.n, .slice p G.es.length c, .slice (some ⟨bn, 0, none⟩) M M] ∧ RowKit.Below H w1 wr) (fun iv _ => G.es.length - (intOf iv).toNat)
  case atStart => exact ⟨0, _, by omega, rfl, hP, hr3, RowKit.Below.refl _ _⟩
  case round =>
   clear hP hr3
   obtain ⟨i, vs, hi, rfl, hP, hbx, hB⟩ := hrel
   by_cases hlt : i < G.es.length
   ·have hltI : (i : Int) < (G.es.length : Int) := by omega
    obtain ⟨b4, o4, rfl, hb4, e0, e1, e2⟩ := (HE.out wr hB).get3 i hlt rfl
    have vx := HV.out.ins _ (Gr.at_ hlt)
    have hxe := eget_eq G.es i hlt
    rw [← hxe] at e0 e1 e2
    have HZ := hidI (dxi_zero N G.es i)
    have HEN := hidI (dxi_end N G.es i)
    have HNO := hidI (fun k => @dxi_no N G.es i k)
    have HAT := hidI (fun k => @dxi_at N G.es i k)
    have HLN := hidI (fun k n hk => dxi_len N G.es i k n hl (by omega) hk)
    rw [← HZ.out] at hP
    obtain ⟨x, hx⟩ : ∃ x, x = eget G.es i := ⟨_, rfl⟩
    rw [← hx] at e0 e1 e2 vx
    have HXE := hidI hx
    clear hxe hx HZ
    rw [HNN.out] at vx
    obtain ⟨xb, hxb⟩ : ∃ xb, xb = wr.heap.size := ⟨_, rfl⟩
    obtain ⟨W0, hW0⟩ : ∃ W0, W0 = wr.alloc (.cells #[.int .i64 x.f, .int .i64 x.l, .int .i64 x.t] 44) := ⟨_, rfl⟩
    have hrow : VRow W0 xb 44 [.int .i64 x.f, .int .i64 x.l, .int .i64 x.t] := by rw [hW0, hxb]; exact VRow.new wr _ _
    have hB' : RowKit.Below H w1 W0 := by rw [hW0]; exact hB.alloc (HHW.out wr hB) _
    have hx' : VRow W0 b3 103 [.int .i64 G.q, .int .i64 G.n, .slice (some ⟨b4, o4, none⟩) G.es.length c, .slice (some ⟨bn, 0, none⟩) M M] := by rw [hW0]; exact hbx.alloc _
    have hP' : DxR W0 H bn M vs (dxi N G.es i 0) M := by rw [hW0]; exact hP.alloc _
    have g2 := (HC0.out W0 hB').at 2 rfl
    have HXI := hidI vx
    have HVS := hidI hP.len
    clear hP hbx hB hb4 vx
    go_upto_region 5 with fail
    rw [← hW0, ← hxb]
    clear hW0 hxb e0 e1 e2
    go_wp2_with fail
    clear g2
    go_loopw [28] (fun jv wx => ∃ (k : Nat) (vs : List Value), k ≤ G.es.length ∧ jv = .int .i64 k ∧ DxR wx H bn M vs (dxi N G.es i k) M ∧ VRow wx b3 103 [.int .i64 G.q, .int .i64 G.n, .slice (some ⟨b4, o4, none⟩) G.es.length c, .slice (some ⟨bn, 0, none⟩) M M] ∧ VRow wx xb 44 [.int .i64 x.f, .int .i64 x.l, .int .i64 x.t] ∧ RowKit.Below H w1 wx) (fun jv _ => G.es.length - (intOf jv).toNat)
    case atStart => exact ⟨0, vs, by omega, rfl, hP', hx', hrow, hB'⟩
    case round =>
     clear hP' hx' hrow hB'
     obtain ⟨k, vs, hk, rfl, hP, hbx, hrow, hB⟩ := hrel
     by_cases hlt2 : k < G.es.length
     ·have hlt2I : (k : Int) < (G.es.length : Int) := by omega
      obtain ⟨b5, o5, e', hb5, d0, d1, d2⟩ := (HE.out wr hB).get3 k hlt2 rfl
      cases e'
      have vy := HV.out.ins _ (Gr.at_ hlt2)
      have hye := eget_eq G.es k hlt2
      rw [← hye] at d0 d1 d2
      have HN1 := hidI (HNO.out k)
      have HA1 := hidI (HAT.out k)
      rw [← HXE.out] at HN1 HA1
      generalize eget G.es k = y at *
      clear hye
      rw [HNN.out] at vy
      obtain ⟨yb, hyb⟩ : ∃ yb, yb = wr.heap.size := ⟨_, rfl⟩
      obtain ⟨V0, hV0⟩ : ∃ V0, V0 = wr.alloc (.cells #[.int .i64 y.f, .int .i64 y.l, .int .i64 y.t] 44) := ⟨_, rfl⟩
      have hrow2 : VRow V0 yb 44 [.int .i64 y.f, .int .i64 y.l, .int .i64 y.t] := by rw [hV0, hyb]; exact VRow.new wr _ _
      have hB' : RowKit.Below H w1 V0 := by rw [hV0]; exact hB.alloc (HHW.out wr hB) _
      have hx' : VRow V0 b3 103 [.int .i64 G.q, .int .i64 G.n, .slice (some ⟨b4, o4, none⟩) G.es.length c, .slice (some ⟨bn, 0, none⟩) M M] := by rw [hV0]; exact hbx.alloc _
      have hr' : VRow V0 xb 44 [.int .i64 x.f, .int .i64 x.l, .int .i64 x.t] := by rw [hV0]; exact hrow.alloc _
      have hP' : DxR V0 H bn M vs (dxi N G.es i k) M := by rw [hV0]; exact hP.alloc _
      clear hP hbx hrow hB hb5
      go_upto_region 8 with fail
      rw [← hV0, ← hyb]
      clear hV0 hyb d0 d1 d2
      have p0 := hr'.at 0 rfl; have p1 := hr'.at 1 rfl; have p2 := hr'.at 2 rfl
      have r0 := hrow2.at 0 rfl; have r1 := hrow2.at 1 rfl; have r2 := hrow2.at 2 rfl
      by_cases hall : x.l = y.l ∧ x.f ≠ y.f ∧ x.t ≠ y.t
      ·obtain ⟨n, hn⟩ : ∃ n, n = pix N x.f y.f := ⟨_, rfl⟩
       have hnM : n < M := by rw [hn, HMM.out]; exact pix_lt (by have := HXI.out; omega) (by have := HXI.out; omega) (by omega) (by omega)
       have hnMI : (n : Int) < (M : Int) := by omega
       obtain ⟨hr1, hr2⟩ := HA1.out hall
       rw [← hn] at hr1 hr2
       have HR1 := hidI hr1; have HR2 := hidI hr2
       clear hr1 hr2
       have hbd := pix_bd hN64 (show 0 ≤ x.f by have := HXI.out; omega) (show x.f < N by have := HXI.out; omega) (show 0 ≤ y.f by omega) (show y.f < N by omega)
       have q0 : IntKind.i64.wrap (x.f * (N : Int)) = x.f * (N : Int) := IntWalk.i64_in _ (by omega)
       have q1 : IntKind.i64.wrap (x.f * (N : Int) + y.f) = ((n : Nat) : Int) := by
        rw [hn, pix_at (by have := HXI.out; omega) (by omega)]; exact IntWalk.i64_in _ (by omega)
       have hb1 : (x.l == y.l) = true := by simp [hall.1]
       have hb2 : (x.f != y.f) = true := by simpa using hall.2.1
       have hb3' : (x.t != y.t) = true := by simpa using hall.2.2
       have g1 := (HC0.out V0 hB').at 1 rfl
       rw [HNN.out] at g1
       have hln := HLN.out k n (by omega)
       have hnl : n < vs.length := by rw [hP'.len]; exact hnM
       have hbnl := hP'.hd.lt
       have HNL := hidI hnl
       clear hn hbd hall HN1 HA1 vy hnl hrow2
       go_upto_region 10 with fail
       clear p0 p1 p2 r0 r1 r2 g1 q0 q1 hb1 hb2 hb3'
       have HHB := hidI (fun W (h : RowKit.Below H w1 W) => HHW.out W h)
       have hnl := HNL.out
       refine region_detW (by kernel_rfl) 15 [(some 60, some (.pointer (some ⟨b3, 3, none⟩))), (some 61, some (.slice (some ⟨bn, 0, none⟩) M M)), (some 62, some (.int .i64 (n : Int))), (some 63, some (.pointer (some ⟨b3, 3, none⟩))), (some 64, some (.slice (some ⟨bn, 0, none⟩) M M)), (some 65, some (.int .i64 (n : Int))), (some 66, some (.pointer (some ⟨bn, n, none⟩))), (some 67, some (vs[n]'hnl)), (some 68, some (.int .i64 (i : Int))), (some 69, some (.int .i64 (k : Int))), (some 70, some (.agg #[.int .i64 (i : Int), .int .i64 (k : Int)])), (some 71, some (.slice (some ⟨V0.heap.size, 0, none⟩) 1 1)), (some 72, none), (some 73, some (.pointer (some ⟨bn, n, none⟩))), (none, none)]
        (fun d g W => DxS w1 V0 H bn b3 xb M [.int .i64 G.q, .int .i64 G.n, .slice (some ⟨b4, o4, none⟩) G.es.length c, .slice (some ⟨bn, 0, none⟩) M M] [.int .i64 x.f, .int .i64 x.l, .int .i64 x.t] vs (dxi N G.es i k) (dxi N G.es i (k + 1)) n (i, k) (d 11) (d 12) (d 14) (g 72) W) (by kernel_rfl) (by kernel_rfl) (by kernel_rfl) (by kernel_rfl)
        ⟨below_dN hB' 1, hx', hr', fun _ => rfl, Nat.le_refl _, (fun e => by cases e), fun _ => ⟨hP'.hd, hP'.len, hP'.own, hP'.ne⟩, (fun e => by cases e), (fun e => by cases e)⟩ ?_ ?_
       focus
        intro j o ho a d g W hS hdi hdn hnd hdep hout hold K hK
        have hil : j < 15 := (Array.getElem?_eq_some_iff.1 ho).1
        have hcases : j = 0 ∨ j = 1 ∨ j = 2 ∨ j = 3 ∨ j = 4 ∨ j = 5 ∨ j = 6 ∨ j = 7 ∨ j = 8 ∨ j = 9 ∨ j = 10 ∨ j = 11 ∨ j = 12 ∨ j = 13 ∨ j = 14 := by omega
        clear hil hP' hx' hr' hB'
        have u3 := hout 3 (by kernel_rfl)
        have u4 := hout 4 (by kernel_rfl)
        have u6 := hout 6 (by kernel_rfl)
        have u8 := hout 8 (by kernel_rfl)
        simp at u3 u4 u6 u8
        clear hout
        rcases hcases with rfl | rfl | rfl | rfl | rfl | rfl | rfl | rfl | rfl | rfl | rfl | rfl | rfl | rfl | rfl
        all_goals (simp only [List.getElem?_toArray, List.getElem?_cons_succ, List.getElem?_cons_zero, Option.some.injEq] at ho; subst ho; simp [Region.binds] at hdep; (try go_split_ands))
        ·go_simp; exact hK _ _ (fun u hu => Option.some.inj hu) hS
        ·have hc0 := hS.bx.at 3 rfl
         go_simp; exact hK _ _ (fun u hu => Option.some.inj hu) hS
        ·go_simp; exact hK _ _ (fun u hu => Option.some.inj hu) hS
        ·go_simp; exact hK _ _ (fun u hu => Option.some.inj hu) hS
        ·have hc0 := hS.bx.at 3 rfl
         go_simp; exact hK _ _ (fun u hu => Option.some.inj hu) hS
        ·go_simp; exact hK _ _ (fun u hu => Option.some.inj hu) hS
        ·go_simp; exact hK _ _ (fun u hu => Option.some.inj hu) hS
        ·have hP := hS.pre (hnd 12 (by kernel_rfl))
         have hc0 := hP.hd.at n (v := vs[n]'hnl) (List.getElem?_eq_getElem hnl)
         clear hP
         go_simp; exact hK _ _ (fun u hu => Option.some.inj hu) hS
        ·go_simp; exact hK _ _ (fun u hu => Option.some.inj hu) hS
        ·go_simp; exact hK _ _ (fun u hu => Option.some.inj hu) hS
        ·go_simp; exact hK _ _ (fun u hu => Option.some.inj hu) hS
        ·have e11 : d 11 = false := hdi
         have e12 := hnd 12 (by kernel_rfl)
         have e14 := hnd 14 (by kernel_rfl)
         have h := hS
         rw [e11, e12, e14] at h
         have hsz := h.sz rfl
         have hfin := h.alloc (HHB.out W h.b)
         clear h
         go_simp
         exact hK _ _ (fun u hu => by rw [← Option.some.inj hu]) (by
          show DxS _ _ _ _ _ _ _ _ _ _ _ _ _ _ true (d 12) (d 14) (g 72) _
          rw [e12, e14]; exact hfin)
        ·have e12 : d 12 = false := hdi
         have e14 := hnd 14 (by kernel_rfl)
         have e11 : d 11 = true := hdn ⟨11, .data⟩ (by simp) rfl
         have h := hS
         rw [e11, e12, e14] at h
         have hP := h.pre rfl
         refine step_append_lies W rfl (.tmp 67) (.tmp 71) 148 rfl H 149 i1 _ 2 16 Tryz.underlying148 hi1 hy0 hy1 hy3 rfl (by decide) (vs[n]'hnl) (dxi N G.es i k n).length (encD (dxi N G.es i k n)) (by simp [Act.eval, *]) (hP.own n hnl (by omega)) ⟨V0.heap.size, 0, none⟩ 1 1 (enc2 (i, k)) (by simp [Act.eval, *]) rfl (World.news_of_block (h.one rfl rfl)) (fun u hu => by simp [enc2] at hu; rcases hu with rfl | rfl <;> rfl) (by omega) (by simp [maxLen]; omega) (by omega) (HHB.out W h.b) _ rfl ?_
         intro g' cap w' hown' hgrow hgw _
         exact hK _ _ (fun u hu => by cases hu) (by
          show DxS _ _ _ _ _ _ _ _ _ _ _ _ _ _ (d 11) true (d 14) (some _) _
          rw [e11, e14]
          exact h.app hnl HR1.out hown' hgrow hgw (HHB.out W h.b))
        ·go_simp; exact hK _ _ (fun u hu => Option.some.inj hu) hS
        ·have e12 : d 12 = true := hdn ⟨12, .data⟩ (by simp) rfl
         have e14 : d 14 = false := hdi
         have h := hS
         rw [e12, e14] at h
         obtain ⟨g', cap, hf72, hP, _, _⟩ := h.mid rfl rfl
         obtain ⟨v72, hv72, hat⟩ : ∃ v, g 72 = some v ∧ a.tmps[72]? = some v := by assumption
         rw [hf72] at hv72
         cases hv72
         have hc0 := hP.hd.at n (v := vs[n]'hnl) (List.getElem?_eq_getElem hnl)
         have hz0' := hP.hd.frozen n
         rw [hf72] at h
         have hfin := h.store (by omega) hnl HR2.out
         have HF := hidI hf72
         clear hP hf72 h
         go_simp
         exact hK undef _ (fun u hu => by cases hu) (by
          show DxS _ _ _ _ _ _ _ _ _ _ _ _ _ _ (d 11) (d 12) true (g 72) _
          rw [e12, HF.out]; exact hfin)
       intro d g W9 hS hall hf
       have e11 : d 11 = true := hall 11 (by decide)
       have e12 : d 12 = true := hall 12 (by decide)
       have e14 : d 14 = true := hall 14 (by decide)
       rw [e11, e12, e14] at hS
       obtain ⟨v9, _, hP⟩ := hS.fin rfl
       have hbx9 := hS.bx; have hB9 := hS.b; have hr9 := hS.ed
       simp only [putsD, List.filterMap_cons, List.filterMap_nil, Option.map_some, Option.map_none, Option.getD_some, Option.getD_none, List.foldl_cons, List.foldl_nil, Act.put, List.setIfInBounds_toArray, List.set_cons_zero, List.set_cons_succ]
       generalize (g 72).getD undef = v72
       clear hf hall hS e11 e12 e14 hP' hx' hr' hB'
       go_wp2_with fail
       go_roundw
       case rel => exact ⟨k + 1, _, by omega, by go_num, hP, hbx9, hr9, hB9⟩
       case measure => simp [intOf]; omega
      ·have HQ : Hid (dxi N G.es i (k + 1) = dxi N G.es i k) := HN1.out hall
       rw [← HQ.out] at hP'
       clear HN1 HA1 hrow2
       by_cases hll : x.l = y.l
       ·have hb1 : (x.l == y.l) = true := by simp [hll]
        by_cases hff : x.f = y.f
        ·have hb2 : (x.f != y.f) = false := by simp [hff]
         clear hll hff hall
         go_wp2_with fail
         go_roundw
         case rel => exact ⟨k + 1, vs, by omega, by go_num, hP', hx', hr', hB'⟩
         case measure => simp [intOf]; omega
        ·have hb2 : (x.f != y.f) = true := by simpa using hff
         have hb3' : (x.t != y.t) = false := by
          by_cases htt : x.t = y.t
          ·simp [htt]
          ·exact absurd ⟨hll, hff, htt⟩ hall
         clear hll hff hall
         go_wp2_with fail
         go_roundw
         case rel => exact ⟨k + 1, vs, by omega, by go_num, hP', hx', hr', hB'⟩
         case measure => simp [intOf]; omega
       ·have hb1 : (x.l == y.l) = false := by simpa using hll
        clear hll hall
        go_wp2_with fail
        go_roundw
        case rel => exact ⟨k + 1, vs, by omega, by go_num, hP', hx', hr', hB'⟩
        case measure => simp [intOf]; omega
     ·obtain rfl : k = G.es.length := by omega
      have hlt2I : ¬ (G.es.length : Int) < (G.es.length : Int) := by omega
      rw [HEN.out] at hP
      go_wp2_with fail
      go_roundw
      case rel => exact ⟨i + 1, vs, by omega, by go_num, hP, hbx, hB⟩
      case measure => simp [intOf]; omega
   ·obtain rfl : i = G.es.length := by omega
    have hltI : ¬ (G.es.length : Int) < (G.es.length : Int) := by omega
    have g0 := hbx.at 0 rfl; have g1 := hbx.at 1 rfl; have g2 := hbx.at 2 rfl; have g3 := hbx.at 3 rfl
    have hc1 := HC1.out wr hB
    have k0 := hc1.at 0 rfl; have k1 := hc1.at 1 rfl; have k2 := hc1.at 2 rfl; have k3 := hc1.at 3 rfl
    have z0 := hc1.frozen 0; have z1 := hc1.frozen 1; have z2 := hc1.frozen 2; have z3 := hc1.frozen 3
    have HWL := hidI (HX.out wr hB)
    have HLE : Hid (w.heap.size ≤ bn) := by unfold Hid; omega
    have HP : Hid (DxR wr H bn M vs (dnx N G.es) M) := hP
    have HC := hidI hc1
    have HBN := hidI (row_ne hP.hd hc1 (by decide))
    have HHI := hidI HH0.out
    clear hP hbx hB hc1
    go_wp2_with fail
    have x0 := HP.out.other2 (i := 0) (.int .i64 G.q) HC.out
    have r0 := VRow.set (i := 0) (.int .i64 G.q) HC.out
    have x1 := x0.other2 (i := 1) (.int .i64 G.n) r0
    have r1 := VRow.set (i := 1) (.int .i64 G.n) r0
    have x2 := x1.other2 (i := 2) (.slice p G.es.length c) r1
    have r2 := VRow.set (i := 2) (.slice p G.es.length c) r1
    have x3 := x2.other2 (i := 3) (.slice (some ⟨bn, 0, none⟩) M M) r2
    have r3 := VRow.set (i := 3) (.slice (some ⟨bn, 0, none⟩) M M) r2
    have hB4 := (((HWL.out.setCell (show w.heap.size ≤ w.heap.size + 1 by omega) (.int .i64 G.q) (p := ⟨w.heap.size + 1, 0, none⟩)).setCell (show w.heap.size ≤ w.heap.size + 1 by omega) (.int .i64 G.n) (p := ⟨w.heap.size + 1, 1, none⟩)).setCell (show w.heap.size ≤ w.heap.size + 1 by omega) (.slice p G.es.length c) (p := ⟨w.heap.size + 1, 2, none⟩)).setCell (show w.heap.size ≤ w.heap.size + 1 by omega) (.slice (some ⟨bn, 0, none⟩) M M) (p := ⟨w.heap.size + 1, 3, none⟩)
    have hx := x3.lower HHI.out
    clear x0 x1 x2 x3 r0 r1 r2
    generalize (((wr.setCell ⟨w.heap.size + 1, 0, none⟩ (.int .i64 G.q)).setCell ⟨w.heap.size + 1, 1, none⟩ (.int .i64 G.n)).setCell ⟨w.heap.size + 1, 2, none⟩ (.slice p G.es.length c)).setCell ⟨w.heap.size + 1, 3, none⟩ (.slice (some ⟨bn, 0, none⟩) M M) = Wz at *
    have y0 := r3.at 0 rfl; have y1 := r3.at 1 rfl; have y2 := r3.at 2 rfl; have y3 := r3.at 3 rfl
    refine bodyPost_ret (v := (.agg #[.int .i64 G.q, .int .i64 G.n, .slice p G.es.length c, .slice (some ⟨bn, 0, none⟩) M M])) (by simp [results, Tryz.results86, go_sem, y0, y1, y2, y3]) rfl ?_
    exact ⟨bn, vs, rfl, HLE.out, hx, hB4⟩
end
end Go.Proofs.YtocbhlohcikapaaGreatDoor
