/-
  Words, plain lemmas and walks, merged: Md, Mg, Mh, Mi, Me.
-/
import Derived.Test.YtocbhlohcikapaaGreatDoorZuf
import Derived.Deep.OwnRows
import Derived.Test.YtocbhlohcikapaaGreatDoorZuc
set_option linter.unusedVariables false
set_option linter.unusedSimpArgs false
namespace Go.Proofs.YtocbhlohcikapaaGreatDoor
section
open Go.RowKit Go.Shelf
attribute [local go_sem] Oper.semAt_some
theorem infoBl : (Tryz.prog.info? 4).map (fun i => (i.zero, i.size, i.bytes)) = some (some (.bool false), 1, 1) := by kernel_rfl
def RetPs (G : Gr) (p : Option Addr) (c M : Nat) (F : List Bool) (w : World) (e : Ending) (w' : World) : Prop := ∃ b, e = .returned (.agg #[.int .i64 G.q, .int .i64 G.n, .slice p G.es.length c, .slice (some ⟨b, 0, none⟩) M M]) ∧ w.heap.size ≤ b ∧ VRow w' b 4 (F.map Value.bool) ∧ RowKit.Below w.heap.size w w'
theorem mmEdges_in (F : Fence) (n : Nat) (hf : F.fn 93) (hro : F.round = none) (g : Value) (q m : Int) (p : Option Addr) (k c : Nat) (vb : Value) (hg : g = .agg #[.int .i64 q, .int .i64 m, .slice p k c, vb]) (w : World) :
  CallsIn F n Tryz.prog 93 #[g] w fun e w' => e = .returned (.func (.func 149) #[] #[.pointer (some ⟨w.heap.size, 0, none⟩)]) ∧ w' = w.alloc (.cells #[.int .i64 q, .int .i64 m, .slice p k c, vb] 92) := by
 subst hg
 refine callsIn_of_wp Tryz.func93 rfl hf ?_ hro
 simp only [Tryz.ntmps93, List.size_toArray, List.length_cons, List.length_nil, Nat.reduceAdd, Nat.reduceSub, Array.replicate_succ, Array.replicate_zero, List.push_toArray, List.append_toArray, List.nil_append, List.cons_append]
 gi_wp2
 go_ret
 exact ⟨rfl, rfl⟩
theorem pedges_stops (F : Fence) (n : Nat) (hf : F.fn 149) (hro : F.round = none) (hn : 1 ≤ n) (m Bp : Nat) (G : Gr) (p : Option Addr) (c : Nat) (vb : Value) (hlen : G.es.length ≤ 1024) (w : World) (hm : m ≤ w.heap.size)
  (hg : VRow w Bp 92 [.int .i64 G.q, .int .i64 G.n, .slice p G.es.length c, vb]) (hin : SgB m w p G.es) :
  SeqStopsK F n Tryz.prog 149 #[.pointer (some ⟨Bp, 0, none⟩)] encPr (KPm m) (fun ys : List (PrE G.es) => ys.map Subtype.val = prs G.es) (fun _ => True) (1024 * 1024) w := fun l J Jx W hW hJ _ hY h0 =>
 pedges_in F n hf hro hn l m Bp G p c vb hlen J Jx (fun pre W o h => hJ pre W _ none h (World.grownBy_alloc W o none) (fun r e => by cases e)) hY W (Nat.le_trans hm hW.size) (hg.below hW hg.lt) (hin.kept (fun i hi => hW.block i (by omega))) h0
theorem KPm.below {m : Nat} {W W' : World} (hB : RowKit.Below W.heap.size W W') (hm : m ≤ W.heap.size) : KPm m W W' :=
 ⟨fun i hi => hB.block i (by omega), fun i c t f _ e => (hB.block i (Array.getElem?_eq_some_iff.1 e).1).trans e⟩
theorem KPm.set {m bo j : Nat} {W : World} {l : List Value} {v : Value} (h : VRow W bo 4 l) (hm : m ≤ bo) : KPm m W (W.setCell ⟨bo, j, none⟩ v) :=
 ⟨fun i hi => Below.heap_setCell _ _ _ _ (show i ≠ bo by omega), fun i c t f ht e => by
  have hne : i ≠ bo := by
   rintro rfl
   have e2 := Eq.trans (Eq.symm e) h
   cases e2
   rcases ht with h | h <;> cases h
  exact (Below.heap_setCell _ _ _ _ hne).trans e⟩
theorem KeepsFrom.below {B : Nat} {W W' : World} (hB : RowKit.Below W.heap.size W W') : KeepsFrom B W W' := ⟨hB.size, fun k o _ hk _ => (hB.block k (Array.getElem?_eq_some_iff.1 hk).1).trans hk⟩
def Kp3 (W2 : World) (bo j : Nat) (d9 : Bool) (W' : World) : Prop := ∃ W3, RowKit.Below W2.heap.size W2 W3 ∧ W' = if d9 = true then W3.setCell ⟨bo, j, none⟩ (.bool true) else W3
theorem row_ne {W : World} {a b s t : Nat} {l m : List Value} (h : VRow W a s l) (k : VRow W b t m) (hne : s ≠ t) : a ≠ b := by
 rintro rfl
 have e := Eq.trans (Eq.symm h) k
 simp at e
 exact hne e.2
structure Kp1 (W0 : World) (G : Gr) (p : Option Addr) (c M : Nat) (d8 : Bool) (f13 f14 f3 : Option Value) (W : World) : Prop where
 b : RowKit.Below W0.heap.size W0 W
 k : ∀ v, f13 = some v → ∃ b, v = .slice (some ⟨b, 0, none⟩) M M ∧ W0.heap.size ≤ b ∧ VRow W b 4 (List.replicate M (.bool false))
 g : ∀ v, f14 = some v → ∃ b, f13 = some (.slice (some ⟨b, 0, none⟩) M M) ∧ v = (.agg #[.int .i64 G.q, .int .i64 G.n, .slice p G.es.length c, .slice (some ⟨b, 0, none⟩) M M])
 a : ∀ v, f3 = some v → ∃ b3, v = .pointer (some ⟨b3, 0, none⟩) ∧ W0.heap.size ≤ b3 ∧ (d8 = false → VRow W b3 92 [.int .i64 0, .int .i64 0, .slice none 0 0, .slice none 0 0]) ∧ (d8 = true → ∃ b, f13 = some (.slice (some ⟨b, 0, none⟩) M M) ∧ VRow W b3 92 [.int .i64 G.q, .int .i64 G.n, .slice p G.es.length c, .slice (some ⟨b, 0, none⟩) M M])
section
variable {W0 : World} {G : Gr} {p : Option Addr} {c M : Nat} {d8 : Bool} {f13 f14 f3 : Option Value} {W : World}
theorem Kp1.make {cs : Array Value} (h : Kp1 W0 G p c M false none none f3 W) (hc : cs = (List.replicate M (Value.bool false)).toArray) : Kp1 W0 G p c M false (some (.slice (some ⟨W.heap.size, 0, none⟩) M M)) none f3 (W.alloc (.cells cs 4)) := by
 subst hc
 refine ⟨h.b.alloc h.b.size _, fun v hv => ⟨W.heap.size, by cases hv; rfl, h.b.size, VRow.new W _ _⟩, (fun v hv => by cases hv), fun v hv => ?_⟩
 obtain ⟨b3, h1, h2, h3, _⟩ := h.a v hv
 exact ⟨b3, h1, h2, fun e => (h3 e).alloc _, (fun e => by cases e)⟩
theorem Kp1.build {b : Nat} (h : Kp1 W0 G p c M d8 (some (.slice (some ⟨b, 0, none⟩) M M)) none f3 W) : Kp1 W0 G p c M d8 (some (.slice (some ⟨b, 0, none⟩) M M)) (some (.agg #[.int .i64 G.q, .int .i64 G.n, .slice p G.es.length c, .slice (some ⟨b, 0, none⟩) M M])) f3 W :=
 ⟨h.b, h.k, fun v hv => ⟨b, rfl, by cases hv; rfl⟩, h.a⟩
theorem Kp1.alloc (h : Kp1 W0 G p c M false f13 f14 none W) : Kp1 W0 G p c M false f13 f14 (some (.pointer (some ⟨W.heap.size, 0, none⟩))) (W.alloc (.cells #[.int .i64 0, .int .i64 0, .slice none 0 0, .slice none 0 0] 92)) := by
 refine ⟨h.b.alloc h.b.size _, fun v hv => ?_, h.g, fun v hv => ⟨W.heap.size, by cases hv; rfl, h.b.size, fun _ => VRow.new W _ _, (fun e => by cases e)⟩⟩
 obtain ⟨b, h1, h2, h3⟩ := h.k v hv
 exact ⟨b, h1, h2, h3.alloc _⟩
theorem Kp1.store {b3 b : Nat} (h : Kp1 W0 G p c M false (some (.slice (some ⟨b, 0, none⟩) M M)) f14 (some (.pointer (some ⟨b3, 0, none⟩))) W) :
  Kp1 W0 G p c M true (some (.slice (some ⟨b, 0, none⟩) M M)) f14 (some (.pointer (some ⟨b3, 0, none⟩))) ((((W.setCell ⟨b3, 0, none⟩ (.int .i64 G.q)).setCell ⟨b3, 1, none⟩ (.int .i64 G.n)).setCell ⟨b3, 2, none⟩ (.slice p G.es.length c)).setCell ⟨b3, 3, none⟩ (.slice (some ⟨b, 0, none⟩) M M)) := by
 obtain ⟨b3', e, h1, h2, _⟩ := h.a _ rfl
 cases e
 have h2 := h2 rfl
 have r4 := VRow.set (i := 3) (.slice (some ⟨b, 0, none⟩) M M) (VRow.set (i := 2) (.slice p G.es.length c) (VRow.set (i := 1) (.int .i64 G.n) (VRow.set (i := 0) (.int .i64 G.q) h2)))
 refine ⟨(((h.b.setCell (show W0.heap.size ≤ b3 from h1) _).setCell (show W0.heap.size ≤ b3 from h1) _).setCell (show W0.heap.size ≤ b3 from h1) _).setCell (show W0.heap.size ≤ b3 from h1) _, fun v hv => ?_, h.g, fun v hv => ⟨b3, by cases hv; rfl, h1, (fun e => by cases e), fun _ => ⟨b, rfl, r4⟩⟩⟩
 obtain ⟨b', h3, h4, h5⟩ := h.k v hv
 have hne := row_ne h5 h2 (by decide)
 exact ⟨b', h3, h4, (((h5.other _ hne).other _ hne).other _ hne).other _ hne⟩
end
def edV (x : Ed) : List Value := [.int .i64 x.f, .int .i64 x.l, .int .i64 x.t]
structure Kp2 (W0 : World) (x y : Ed) (d14 d15 : Bool) (f6 f7 : Option Value) (W : World) : Prop where
 b : RowKit.Below W0.heap.size W0 W
 a : ∀ v, f6 = some v → ∃ b, v = .pointer (some ⟨b, 0, none⟩) ∧ W0.heap.size ≤ b ∧ VRow W b 44 (if d14 = true then edV x else edV ⟨0, 0, 0⟩)
 c : ∀ v, f7 = some v → ∃ b, v = .pointer (some ⟨b, 0, none⟩) ∧ W0.heap.size ≤ b ∧ VRow W b 44 (if d15 = true then edV y else edV ⟨0, 0, 0⟩)
 n : ∀ b b', f6 = some (.pointer (some ⟨b, 0, none⟩)) → f7 = some (.pointer (some ⟨b', 0, none⟩)) → b ≠ b'
section
variable {W0 : World} {x y : Ed} {d14 d15 : Bool} {f6 f7 : Option Value} {W : World}
theorem Kp2.new6 (h : Kp2 W0 x y false d15 none f7 W) : Kp2 W0 x y false d15 (some (.pointer (some ⟨W.heap.size, 0, none⟩))) f7 (W.alloc (.cells #[.int .i64 0, .int .i64 0, .int .i64 0] 44)) := by
 refine ⟨h.b.alloc h.b.size _, fun v hv => ⟨W.heap.size, by cases hv; rfl, h.b.size, VRow.new W _ _⟩, fun v hv => ?_, fun b b' e e' => ?_⟩
 ·obtain ⟨b, h1, h2, h3⟩ := h.c v hv
  exact ⟨b, h1, h2, h3.alloc _⟩
 ·cases e
  obtain ⟨b2, h1, h2, h3⟩ := h.c _ e'
  cases h1
  have := h3.lt; omega
theorem Kp2.new7 (h : Kp2 W0 x y d14 false f6 none W) : Kp2 W0 x y d14 false f6 (some (.pointer (some ⟨W.heap.size, 0, none⟩))) (W.alloc (.cells #[.int .i64 0, .int .i64 0, .int .i64 0] 44)) := by
 refine ⟨h.b.alloc h.b.size _, fun v hv => ?_, fun v hv => ⟨W.heap.size, by cases hv; rfl, h.b.size, VRow.new W _ _⟩, fun b b' e e' => ?_⟩
 ·obtain ⟨b, h1, h2, h3⟩ := h.a v hv
  exact ⟨b, h1, h2, h3.alloc _⟩
 ·cases e'
  obtain ⟨b2, h1, h2, h3⟩ := h.a _ e
  cases h1
  have := h3.lt; omega
theorem Kp2.set6 {b : Nat} (h : Kp2 W0 x y false d15 (some (.pointer (some ⟨b, 0, none⟩))) f7 W) :
  Kp2 W0 x y true d15 (some (.pointer (some ⟨b, 0, none⟩))) f7 (((W.setCell ⟨b, 0, none⟩ (.int .i64 x.f)).setCell ⟨b, 1, none⟩ (.int .i64 x.l)).setCell ⟨b, 2, none⟩ (.int .i64 x.t)) := by
 obtain ⟨b1, e, h1, h2⟩ := h.a _ rfl
 cases e
 have r3 := VRow.set (i := 2) (.int .i64 x.t) (VRow.set (i := 1) (.int .i64 x.l) (VRow.set (i := 0) (.int .i64 x.f) h2))
 refine ⟨((h.b.setCell (show W0.heap.size ≤ b from h1) _).setCell (show W0.heap.size ≤ b from h1) _).setCell (show W0.heap.size ≤ b from h1) _, fun v hv => ⟨b, by cases hv; rfl, h1, r3⟩, fun v hv => ?_, h.n⟩
 obtain ⟨b2, h3, h4, h5⟩ := h.c v hv
 have hne : b2 ≠ b := fun e => by subst e; exact h.n _ _ rfl (by rw [hv, h3]) rfl
 exact ⟨b2, h3, h4, ((h5.other _ hne).other _ hne).other _ hne⟩
theorem Kp2.set7 {b : Nat} (h : Kp2 W0 x y d14 false f6 (some (.pointer (some ⟨b, 0, none⟩))) W) :
  Kp2 W0 x y d14 true f6 (some (.pointer (some ⟨b, 0, none⟩))) (((W.setCell ⟨b, 0, none⟩ (.int .i64 y.f)).setCell ⟨b, 1, none⟩ (.int .i64 y.l)).setCell ⟨b, 2, none⟩ (.int .i64 y.t)) := by
 obtain ⟨b1, e, h1, h2⟩ := h.c _ rfl
 cases e
 have r3 := VRow.set (i := 2) (.int .i64 y.t) (VRow.set (i := 1) (.int .i64 y.l) (VRow.set (i := 0) (.int .i64 y.f) h2))
 refine ⟨((h.b.setCell (show W0.heap.size ≤ b from h1) _).setCell (show W0.heap.size ≤ b from h1) _).setCell (show W0.heap.size ≤ b from h1) _, fun v hv => ?_, fun v hv => ⟨b, by cases hv; rfl, h1, r3⟩, h.n⟩
 obtain ⟨b2, h3, h4, h5⟩ := h.a v hv
 have hne : b2 ≠ b := fun e => by subst e; exact h.n _ _ (by rw [hv, h3]) rfl rfl
 exact ⟨b2, h3, h4, ((h5.other _ hne).other _ hne).other _ hne⟩
end
set_option maxRecDepth 100000 in
set_option maxHeartbeats 4000000 in
theorem mmAfter_in (G : Gr) (p : Option Addr) (c : Nat) (pb : Option Addr) (M cb : Nat) (F : List Bool) (N : Nat) (hv : Vg G) (hN : G.n = N) (hM : M = N * N) (hF : F.length = M) (w : World) (hin : Sg 3 w edE p G.es) (hs : SlB w.heap.size w pb F) :
  CallsIn Fence.wide 9 Tryz.prog 75 #[(.agg #[.int .i64 G.q, .int .i64 G.n, .slice p G.es.length c, .slice pb M cb])] w (RetPs G p c M (aftF N G.es F) w) := by
 have HIN := hidI hin; have HV := hidI hv; have HS := hidI hs; have HNN := hidI hN; have HMM := hidI hM; have HFL := hidI hF
 have hl := hv.len
 have hN64 : N ≤ 64 := by have := hv.n2; omega
 have hM4 : M ≤ 4096 := by rw [hM]; exact Nat.mul_le_mul hN64 hN64
 have hmk := run_make_row' (P := Tryz.prog) 90 4 (.bool false) 1 Tryz.underlying90 infoBl rfl .i64 .i64 M (by omega) (by omega)
 clear hin hv hs hN hM hF
 obtain ⟨w0, hw0⟩ : ∃ w0, w0 = (w.alloc (.cells #[.int .i64 G.q, .int .i64 G.n, .slice p G.es.length c, .slice pb M cb] 92)).alloc (.cells #[.int .i64 0, .int .i64 0, .slice none 0 0, .slice none 0 0] 92) := ⟨_, rfl⟩
 have b0 : VRow w0 w.heap.size 92 [.int .i64 G.q, .int .i64 G.n, .slice p G.es.length c, .slice pb M cb] := by subst hw0; exact (VRow.new w _ _).alloc _
 have b1 : VRow w0 (w.heap.size + 1) 92 [.int .i64 0, .int .i64 0, .slice none 0 0, .slice none 0 0] := by subst hw0; exact VRow.new1 w _ _ _
 have hB0 : RowKit.Below w.heap.size w w0 := by subst hw0; exact ((RowKit.Below.refl _ _).alloc (Nat.le_refl _) _).alloc (by simp) _
 have f0 := b0.at 0 rfl; have f1 := b0.at 1 rfl; have f2 := b0.at 2 rfl; have f3 := b0.at 3 rfl
 refine callsIn_of_wp_marks Tryz.func75 rfl trivial ?_ rfl
 simp only [Tryz.ntmps75, List.size_toArray, List.length_cons, List.length_nil, Nat.reduceAdd, Nat.reduceSub, Array.replicate_succ, Array.replicate_zero, List.push_toArray, List.append_toArray, List.nil_append, List.cons_append]
 rw [wpIn_wide]
 go_upto_region 1 with fail
 rw [← hw0]
 clear hw0
 go_cut [3] from 8 to 14 (fun s3 wx => ∃ bo b3, s3 = .pointer (some ⟨b3, 0, none⟩) ∧ VRow wx b3 92 [.int .i64 G.q, .int .i64 G.n, .slice p G.es.length c, .slice (some ⟨bo, 0, none⟩) M M] ∧ VRow wx bo 4 ((List.replicate M false).map Value.bool) ∧ w0.heap.size ≤ bo ∧ w0.heap.size ≤ b3 ∧ bo ≠ b3 ∧ RowKit.Below w0.heap.size w0 wx)
 case first =>
  refine region_detW (by kernel_rfl) 9 [(some 8, some (.pointer (some ⟨w.heap.size, 0, none⟩))), (some 9, some (.agg #[.int .i64 G.q, .int .i64 G.n, .slice p G.es.length c])), (some 10, some (.pointer (some ⟨w.heap.size, 3, none⟩))), (some 11, some (.slice pb M cb)), (some 12, some (.int .i64 (M : Int))), (some 13, none), (some 14, none), (some 3, none), (none, none)]
   (fun d f W => Kp1 w0 G p c M (d 8) (f 13) (f 14) (f 3) W) (by kernel_rfl) (by kernel_rfl) (by kernel_rfl) (by kernel_rfl) ⟨below_dN (RowKit.Below.refl _ _) 1, (fun _ e => by cases e), (fun _ e => by cases e), (fun _ e => by cases e)⟩ ?_ ?_
  focus
   intro i o ho a d f W hS hdi hdn hnd hdep hout hold K hK
   have hil : i < 9 := (Array.getElem?_eq_some_iff.1 ho).1
   have hcases : i = 0 ∨ i = 1 ∨ i = 2 ∨ i = 3 ∨ i = 4 ∨ i = 5 ∨ i = 6 ∨ i = 7 ∨ i = 8 := by omega
   clear hil
   have u1 := hout 1 (by kernel_rfl)
   simp at u1
   clear hout
   have hz := b0.lt
   have hc0 := (hS.b.cell hz).trans f0
   have hc1 := (hS.b.cell (p := ⟨w.heap.size, 1, none⟩) hz).trans f1
   have hc2 := (hS.b.cell (p := ⟨w.heap.size, 2, none⟩) hz).trans f2
   have hc3 := (hS.b.cell (p := ⟨w.heap.size, 3, none⟩) hz).trans f3
   clear f0 f1 f2 f3 b0 b1
   rcases hcases with rfl | rfl | rfl | rfl | rfl | rfl | rfl | rfl | rfl
   all_goals (simp only [List.getElem?_toArray, List.getElem?_cons_succ, List.getElem?_cons_zero, Option.some.injEq] at ho; subst ho; simp [Region.binds] at hdep; (try go_split_ands))
   ·go_simp; exact hK _ _ (fun u hu => Option.some.inj hu) hS
   ·go_simp; exact hK _ _ (fun u hu => Option.some.inj hu) hS
   ·go_simp; exact hK _ _ (fun u hu => Option.some.inj hu) hS
   ·go_simp; exact hK _ _ (fun u hu => Option.some.inj hu) hS
   ·go_simp; exact hK _ _ (fun u hu => Option.some.inj hu) hS
   ·have h13 := (hold 5 (by kernel_rfl) _ rfl 13 rfl).1
    have h14 := (hold 6 (by kernel_rfl) _ rfl 14 rfl).1
    have e8 := hnd 8 (by kernel_rfl)
    have h := hS
    rw [e8, h13, h14] at h
    have hfin := h.make (cs := madeCells #[.bool false] M) (by apply Array.toList_inj.1; rw [toList_madeCells_one])
    go_simp
    exact hK _ _ (fun u hu => by cases hu) (by
     show Kp1 _ _ _ _ _ (d 8) (some _) (f 14) (f 3) _
     rw [e8, h14]; exact hfin)
   ·obtain ⟨v, hv, hat⟩ : ∃ v, f 13 = some v ∧ a.tmps[13]? = some v := by assumption
    obtain ⟨b, rfl, _⟩ := hS.k v hv
    have h14 := (hold 6 (by kernel_rfl) _ rfl 14 rfl).1
    have h := hS
    rw [hv, h14] at h
    have hfin := h.build
    go_simp
    exact hK _ _ (fun u hu => by cases hu) (by
     show Kp1 _ _ _ _ _ (d 8) (f 13) (some _) (f 3) W
     rw [hv]; exact hfin)
   ·have h3 := (hold 7 (by kernel_rfl) _ rfl 3 rfl).1
    have e8 := hnd 8 (by kernel_rfl)
    have h := hS
    rw [e8, h3] at h
    have hfin := h.alloc
    go_simp
    exact hK _ _ (fun u hu => by cases hu) (by
     show Kp1 _ _ _ _ _ (d 8) (f 13) (f 14) (some _) _
     rw [e8]; exact hfin)
   ·obtain ⟨v, hv, hat⟩ : ∃ v, f 3 = some v ∧ a.tmps[3]? = some v := by assumption
    obtain ⟨u, hu, hau⟩ : ∃ v, f 14 = some v ∧ a.tmps[14]? = some v := by assumption
    have e8 : d 8 = false := hdi
    obtain ⟨b, h13, rfl⟩ := hS.g u hu
    have h := hS
    rw [e8, hv, h13] at h
    obtain ⟨b3, rfl, hbl, hzr, _⟩ := h.a _ rfl
    have hzr := hzr rfl
    have k0 := hzr.at 0 rfl; have k1 := hzr.at 1 rfl; have k2 := hzr.at 2 rfl; have k3 := hzr.at 3 rfl
    have z0 := hzr.frozen 0; have z1 := hzr.frozen 1; have z2 := hzr.frozen 2; have z3 := hzr.frozen 3
    have hfin := h.store
    have HV1 := hidI hv; have HU1 := hidI h13
    clear hzr h hv hu h13
    go_simp
    exact hK undef _ (fun u hu => by cases hu) (by
     show Kp1 _ _ _ _ _ true (f 13) (f 14) (f 3) _
     rw [HV1.out, HU1.out]; exact hfin)
  intro d f W9 hS hall hf
  have e8 : d 8 = true := hall 8 (by decide)
  obtain ⟨v3, hv3, -⟩ := hf (some 3, none) (by simp) 3 rfl
  obtain ⟨b3, rfl, hbl, _, h3⟩ := hS.a _ hv3
  obtain ⟨b, h13, hrow⟩ := h3 e8
  obtain ⟨b', e', hbb, hrb⟩ := hS.k _ h13
  cases e'
  have hne := row_ne hrb hrow (by decide)
  have hBl := hS.b
  simp only [putsD, List.filterMap_cons, List.filterMap_nil, Option.map_some, Option.map_none, Option.getD_some, Option.getD_none, List.foldl_cons, List.foldl_nil, Act.put, List.setIfInBounds_toArray, List.set_cons_zero, List.set_cons_succ]
  rw [hv3, h13]
  simp only [Option.getD_some]
  generalize (f 14).getD undef = v14
  clear hf hv3 h13 hS
  go_wp2_with fail
  go_meet
  exact ⟨b, b3, rfl, hrow, by rw [List.map_replicate]; exact hrb, hbb, hbl, hne, hBl⟩
 case rest =>
  rename_i KK hKK
  obtain ⟨bo, b3, rfl, hr3, hro, hbo, hb3, hne, hB1⟩ := hcut
  obtain ⟨w1, rfl⟩ : ∃ w1 : World, w1 = wc := ⟨_, rfl⟩
  have c0 := b0.below hB1 b0.lt; have c1 := b1.below hB1 b1.lt
  have x1 := hB0.trans (hB1.mono hB0.size)
  have hz1 := b1.lt
  clear f0 f1 f2 f3 b0 b1 hB1 hmk
  have f0 := c0.at 0 rfl; have f1 := c0.at 1 rfl; have f2 := c0.at 2 rfl; have f3 := c0.at 3 rfl
  refine hKK _ _ ((wpIn_wide (n := 9)).1 ?_)
  gi_wp2_with (refine ⟨trivial, ?_⟩; gi_at_call 93)
  refine (mmEdges_in Fence.wide 8 trivial rfl _ G.q G.n p G.es.length c (.slice pb M cb) rfl _).mono ?_
  rintro e w' ⟨rfl, rfl⟩
  clear f0 f1 f2 f3
  gi_wp2
  obtain ⟨W0, hW0⟩ : ∃ W0, W0 = w1.alloc (.cells #[.int .i64 G.q, .int .i64 G.n, .slice p G.es.length c, .slice pb M cb] 92) := ⟨_, rfl⟩
  have a0 : VRow W0 w.heap.size 92 [.int .i64 G.q, .int .i64 G.n, .slice p G.es.length c, .slice pb M cb] := by subst hW0; exact c0.alloc _
  have a1 : VRow W0 (w.heap.size + 1) 92 [.int .i64 0, .int .i64 0, .slice none 0 0, .slice none 0 0] := by subst hW0; exact c1.alloc _
  have a3 : VRow W0 b3 92 [.int .i64 G.q, .int .i64 G.n, .slice p G.es.length c, .slice (some ⟨bo, 0, none⟩) M M] := by subst hW0; exact hr3.alloc _
  have ao : VRow W0 bo 4 ((List.replicate M false).map Value.bool) := by subst hW0; exact hro.alloc _
  have ae : VRow W0 w1.heap.size 92 [.int .i64 G.q, .int .i64 G.n, .slice p G.es.length c, .slice pb M cb] := by subst hW0; exact VRow.new w1 _ _
  have x0 : RowKit.Below w.heap.size w W0 := by subst hW0; exact x1.alloc x1.size _
  rw [← hW0]
  clear hW0 c0 c1 hr3 hro x1
  refine' wpIn_rangeFunc_ownG rfl (by omega) (gf := 149) (lb := #[.pointer (some ⟨w1.heap.size, 0, none⟩)]) rfl trivial (enters_of Tryz.func149 (by kernel_rfl) rfl)
   (pedges_stops Fence.wide 8 trivial rfl (by omega) w.heap.size w1.heap.size G p c (.slice pb M cb) hl W0 x0.size ae ((SgB.of HIN.out (Nat.le_refl _)).kept (fun i hi => x0.block i hi))) KPm.trans (KPm.put x0.size) (RowKit.Below.refl _ _) (fun _ => rfl)
   (fun pre W => (((VRow W bo 4 ((pTo N G.es Ed.f Ed.t F (pre.map Subtype.val)).map Value.bool) ∧ VRow W w.heap.size 92 [.int .i64 G.q, .int .i64 G.n, .slice p G.es.length c, .slice pb M cb]) ∧ VRow W b3 92 [.int .i64 G.q, .int .i64 G.n, .slice p G.es.length c, .slice (some ⟨bo, 0, none⟩) M M]) ∧ VRow W (w.heap.size + 1) 92 [.int .i64 0, .int .i64 0, .slice none 0 0, .slice none 0 0]) ∧ RowKit.Below w.heap.size w W)
   (fun _ _ _ => False)
   (OwnFrom.and (OwnFrom.and (OwnFrom.and (OwnFrom.and ((VRow.own bo 4 (fun pre : List (PrE G.es) => (pTo N G.es Ed.f Ed.t F (pre.map Subtype.val)).map Value.bool)).from _) ((VRow.own w.heap.size 92 (fun _ => [.int .i64 G.q, .int .i64 G.n, .slice p G.es.length c, .slice pb M cb])).from _)) ((VRow.own b3 92 (fun _ => [.int .i64 G.q, .int .i64 G.n, .slice p G.es.length c, .slice (some ⟨bo, 0, none⟩) M M])).from _)) ((VRow.own (w.heap.size + 1) 92 (fun _ => [.int .i64 0, .int .i64 0, .slice none 0 0, .slice none 0 0])).from _)) (ownFrom_below (Nat.le_refl _) x0.size))
   (fun _ _ _ _ _ hs _ _ => hs)
   ⟨⟨⟨⟨by rw [List.map_nil, pTo_nil, ← HMM.out]; exact ao, a0⟩, a3⟩, a1⟩, x0⟩
   _ ?assign ?body ?done ?stop
  case assign =>
   intro l x W K hK
   unfold encPr
   gi_wp2
   exact hK
  case body =>
   rintro l pre ⟨⟨i, k⟩, hik⟩ W ⟨⟨⟨⟨ko, kp⟩, k3⟩, k1⟩, hB⟩ hlen
   obtain ⟨hi, hk, -⟩ := mem_prs.1 hik
   replace hi : i < G.es.length := hi
   replace hk : k < G.es.length := hk
   have HSN : Hid (pTo N G.es Ed.f Ed.t F ((pre ++ [(⟨(i, k), hik⟩ : PrE G.es)]).map Subtype.val) = pst N G.es Ed.f Ed.t F (pTo N G.es Ed.f Ed.t F (pre.map Subtype.val)) (i, k)) := by
    rw [Hid, List.map_append]; exact pTo_snoc _ _ _ _ _ _ _
   have HLO := hidI (pTo_len N G.es Ed.f Ed.t F (pre.map Subtype.val))
   generalize pTo N G.es Ed.f Ed.t F (pre.map Subtype.val) = out at *
   have vx := HV.out.ins _ (Gr.at_ hi); have vy := HV.out.ins _ (Gr.at_ hk)
   have hxe := eget_eq G.es i hi; have hye := eget_eq G.es k hk
   obtain ⟨b4, o4, rfl, hb4, e0, e1, e2⟩ := (HIN.out.below hB).get3 i hi rfl
   obtain ⟨b5, o5, e', hb5, d0, d1, d2⟩ := (HIN.out.below hB).get3 k hk rfl
   cases e'
   rw [← hxe] at e0 e1 e2
   rw [← hye] at d0 d1 d2
   unfold pst at HSN
   simp only at HSN
   generalize eget G.es i = x at *
   generalize eget G.es k = y at *
   clear hxe hye
   have hnI := HNN.out
   have hxf : 0 ≤ x.f ∧ x.f < (N : Int) ∧ 0 ≤ y.f ∧ y.f < (N : Int) := by omega
   have hxt : 0 ≤ x.t ∧ x.t < (N : Int) ∧ 0 ≤ y.t ∧ y.t < (N : Int) := by omega
   have HHAS := hidI (fun W' (h : RowKit.Below w.heap.size w W') => mmHas_any G (some ⟨b4, o4, none⟩) c w.heap.size pb M cb F N HNN.out hN64 HMM.out HFL.out x.f y.f hxf.1 hxf.2.1 hxf.2.2.1 hxf.2.2.2 W' (HS.out.below h))
   have HIDX := hidI (fun W' => mmIndex_any G (some ⟨b4, o4, none⟩) c (.slice pb M cb) N HNN.out hN64 x.t y.t hxt.1 hxt.2.1 hxt.2.2.1 hxt.2.2.2 W')
   have hjM : pix N x.t y.t < M := by rw [HMM.out]; exact pix_lt hxt.1 hxt.2.1 hxt.2.2.1 hxt.2.2.2
   clear hnI hxf hxt vx vy
   generalize lkB F (pix N x.f y.f) = hh at *
   generalize pix N x.t y.t = j at *
   have f2 := kp.at 2 rfl
   refine wpIn_block ?_
   refine wpIn_seq_k (fun KK hKK => ?_)
   refine region_inW (by kernel_rfl) (by kernel_rfl) 16 [(some 19, some (.pointer (some ⟨w.heap.size, 0, none⟩))), (some 20, some (.pointer (some ⟨w.heap.size, 2, none⟩))), (some 21, some (.slice (some ⟨b4, o4, none⟩) G.es.length c)), (some 22, some (.int .i64 (i : Int))), (some 23, some (.pointer (some ⟨b4, o4 + i * 3, none⟩))), (some 24, some (.agg #[.int .i64 x.f, .int .i64 x.l, .int .i64 x.t])),
     (some 25, some (.pointer (some ⟨w.heap.size, 0, none⟩))), (some 26, some (.pointer (some ⟨w.heap.size, 2, none⟩))), (some 27, some (.slice (some ⟨b4, o4, none⟩) G.es.length c)), (some 28, some (.int .i64 (k : Int))), (some 29, some (.pointer (some ⟨b4, o4 + k * 3, none⟩))), (some 30, some (.agg #[.int .i64 y.f, .int .i64 y.l, .int .i64 y.t])), (some 6, none), (some 7, none), (none, none), (none, none)]
    (fun d f W' => Kp2 W x y (d 14) (d 15) (f 6) (f 7) W') (by kernel_rfl) (by kernel_rfl) (by kernel_rfl) (by kernel_rfl) ⟨below_dN (RowKit.Below.refl _ _) 1, (fun _ e => by cases e), (fun _ e => by cases e), (fun _ _ e => by cases e)⟩ ?_ ?_
   focus
    intro i' o ho a d f W' hS hdi hdn hnd hdep hout hold K hK
    have hil : i' < 16 := (Array.getElem?_eq_some_iff.1 ho).1
    have hcases : i' = 0 ∨ i' = 1 ∨ i' = 2 ∨ i' = 3 ∨ i' = 4 ∨ i' = 5 ∨ i' = 6 ∨ i' = 7 ∨ i' = 8 ∨ i' = 9 ∨ i' = 10 ∨ i' = 11 ∨ i' = 12 ∨ i' = 13 ∨ i' = 14 ∨ i' = 15 := by omega
    clear hil
    have u1 := hout 1 (by kernel_rfl)
    have u4 := hout 4 (by kernel_rfl)
    have u5 := hout 5 (by kernel_rfl)
    simp at u1 u4 u5
    clear hout
    have hc2 := (hS.b.cell (p := ⟨w.heap.size, 2, none⟩) kp.lt).trans f2
    have g0 := (hS.b.cell (p := ⟨b4, o4 + i * 3, none⟩) hb4).trans e0
    have g1 := (hS.b.cell (p := ⟨b4, o4 + i * 3 + 1, none⟩) hb4).trans e1
    have g2 := (hS.b.cell (p := ⟨b4, o4 + i * 3 + 2, none⟩) hb4).trans e2
    have h0 := (hS.b.cell (p := ⟨b4, o4 + k * 3, none⟩) hb4).trans d0
    have h1 := (hS.b.cell (p := ⟨b4, o4 + k * 3 + 1, none⟩) hb4).trans d1
    have h2 := (hS.b.cell (p := ⟨b4, o4 + k * 3 + 2, none⟩) hb4).trans d2
    have hiI : (i : Int) < (G.es.length : Int) := by omega
    have hkI : (k : Int) < (G.es.length : Int) := by omega
    clear e0 e1 e2 d0 d1 d2 f2
    rcases hcases with rfl | rfl | rfl | rfl | rfl | rfl | rfl | rfl | rfl | rfl | rfl | rfl | rfl | rfl | rfl | rfl
    all_goals (simp only [List.getElem?_toArray, List.getElem?_cons_succ, List.getElem?_cons_zero, Option.some.injEq] at ho; subst ho; simp [Region.binds] at hdep; (try go_split_ands))
    ·go_simp; exact hK _ _ (fun u hu => Option.some.inj hu) hS
    ·go_simp; exact hK _ _ (fun u hu => Option.some.inj hu) hS
    ·go_simp; exact hK _ _ (fun u hu => Option.some.inj hu) hS
    ·go_simp; exact hK _ _ (fun u hu => Option.some.inj hu) hS
    ·go_simp; exact hK _ _ (fun u hu => Option.some.inj hu) hS
    ·go_simp; exact hK _ _ (fun u hu => Option.some.inj hu) hS
    ·go_simp; exact hK _ _ (fun u hu => Option.some.inj hu) hS
    ·go_simp; exact hK _ _ (fun u hu => Option.some.inj hu) hS
    ·go_simp; exact hK _ _ (fun u hu => Option.some.inj hu) hS
    ·go_simp; exact hK _ _ (fun u hu => Option.some.inj hu) hS
    ·go_simp; exact hK _ _ (fun u hu => Option.some.inj hu) hS
    ·go_simp; exact hK _ _ (fun u hu => Option.some.inj hu) hS
    ·have h6 := (hold 12 (by kernel_rfl) _ rfl 6 rfl).1
     have e14 := hnd 14 (by kernel_rfl)
     have h := hS
     rw [e14, h6] at h
     have hfin := h.new6
     go_simp
     exact hK _ _ (fun u hu => by cases hu) (by
      show Kp2 _ _ _ (d 14) (d 15) (some _) (f 7) _
      rw [e14]; exact hfin)
    ·have h7 := (hold 13 (by kernel_rfl) _ rfl 7 rfl).1
     have e15 := hnd 15 (by kernel_rfl)
     have h := hS
     rw [e15, h7] at h
     have hfin := h.new7
     go_simp
     exact hK _ _ (fun u hu => by cases hu) (by
      show Kp2 _ _ _ (d 14) (d 15) (f 6) (some _) _
      rw [e15]; exact hfin)
    ·obtain ⟨v, hv, hat⟩ : ∃ v, f 6 = some v ∧ a.tmps[6]? = some v := by assumption
     have e14 : d 14 = false := hdi
     have h := hS
     rw [e14, hv] at h
     obtain ⟨b, rfl, hbl, hzr⟩ := h.a _ rfl
     have k0 := hzr.at 0 rfl; have k1 := hzr.at 1 rfl; have k2 := hzr.at 2 rfl
     have z0 := hzr.frozen 0; have z1 := hzr.frozen 1; have z2 := hzr.frozen 2
     have hfin := h.set6
     have HV1 := hidI hv
     clear hzr h hv
     go_simp
     exact hK undef _ (fun u hu => by cases hu) (by
      show Kp2 _ _ _ true (d 15) (f 6) (f 7) _
      rw [HV1.out]; exact hfin)
    ·obtain ⟨v, hv, hat⟩ : ∃ v, f 7 = some v ∧ a.tmps[7]? = some v := by assumption
     have e15 : d 15 = false := hdi
     have h := hS
     rw [e15, hv] at h
     obtain ⟨b, rfl, hbl, hzr⟩ := h.c _ rfl
     have k0 := hzr.at 0 rfl; have k1 := hzr.at 1 rfl; have k2 := hzr.at 2 rfl
     have z0 := hzr.frozen 0; have z1 := hzr.frozen 1; have z2 := hzr.frozen 2
     have hfin := h.set7
     have HV1 := hidI hv
     clear hzr h hv
     go_simp
     exact hK undef _ (fun u hu => by cases hu) (by
      show Kp2 _ _ _ (d 14) true (f 6) (f 7) _
      rw [HV1.out]; exact hfin)
   intro d f W2 hS hall hf
   have e14 : d 14 = true := hall 14 (by decide)
   have e15 : d 15 = true := hall 15 (by decide)
   obtain ⟨v6, hv6, -⟩ := hf (some 6, none) (by simp) 6 rfl
   obtain ⟨v7, hv7, -⟩ := hf (some 7, none) (by simp) 7 rfl
   obtain ⟨b6, rfl, hb6, r6⟩ := hS.a _ hv6
   obtain ⟨b7, rfl, hb7, r7⟩ := hS.c _ hv7
   rw [e14, if_pos rfl] at r6
   rw [e15, if_pos rfl] at r7
   have hBS := hS.b
   simp only [putsD, List.filterMap_cons, List.filterMap_nil, Option.map_some, Option.map_none, Option.getD_some, Option.getD_none, List.foldl_cons, List.foldl_nil, Act.put, List.setIfInBounds_toArray, List.set_cons_zero, List.set_cons_succ]
   rw [hv6, hv7]
   simp only [Option.getD_some]
   clear hf hv6 hv7 hS hall e14 e15 e0 e1 e2 d0 d1 d2 f2
   have kp2 := kp.below hBS kp.lt
   have k32 := k3.below hBS k3.lt
   have p0 := kp2.at 0 rfl; have p1 := kp2.at 1 rfl; have p2 := kp2.at 2 rfl; have p3 := kp2.at 3 rfl
   have g0 := r6.at 0 rfl; have g2 := r6.at 2 rfl
   have h0 := r7.at 0 rfl; have h2 := r7.at 2 rfl
   have hB2 := hB.trans (hBS.mono hB.size)
   refine hKK _ _ ?_
   gi_wp2_with fail
   refine ⟨trivial, ?_⟩
   refine ((callsIn_wide.2 (HHAS.out W2 hB2)).inRound l).mono ?_
   rintro e W3 ⟨rfl, hB3⟩
   have hBS3 := hBS.trans (hB3.mono hBS.size)
   have kp3 := kp2.below hB3 kp2.lt; have k33 := k32.below hB3 k32.lt
   have r63 := r6.below hB3 r6.lt; have r73 := r7.below hB3 r7.lt
   have ko3 := ko.below hBS3 ko.lt; have k13 := k1.below hBS3 k1.lt
   have hB3w := hB2.trans (hB3.mono hB2.size)
   have hbow : w.heap.size ≤ bo := Nat.le_trans hB0.size hbo
   clear p0 p1 p2 p3 g0 g2 h0 h2 kp2 k32 r6 r7 kp k3 k1 ko hBS hB3 hB2
   cases hh
   ·have HSN := hidI (HSN.out.trans (if_neg (by decide)))
    gi_wp2
    exact ⟨KeepsFrom.below hBS3, KPm.below hBS3 hB.size, ⟨⟨⟨by rw [HSN.out]; exact ko3, kp3⟩, k33⟩, k13⟩, hB3w⟩
   ·have HSN := hidI (HSN.out.trans (if_pos rfl))
    have p0 := kp3.at 0 rfl; have p1 := kp3.at 1 rfl; have p2 := kp3.at 2 rfl; have p3 := kp3.at 3 rfl
    have q3 := k33.at 3 rfl
    have g2 := r63.at 2 rfl; have h2 := r73.at 2 rfl
    have lp := kp3.lt; have l3 := k33.lt; have l6 := r63.lt; have l7 := r73.lt; have lo := ko3.lt
    have hjO : j < out.length := by rw [HLO.out, ← HMM.out]; exact hjM
    have hjI : (j : Int) < (M : Int) := by omega
    have HKV := hidI (fun V (hV : RowKit.Below W3.heap.size W3 V) => ko3.below hV lo)
    have HKP := hidI (fun V (hV : RowKit.Below W3.heap.size W3 V) => kp3.below hV lp)
    have HK3 := hidI (fun V (hV : RowKit.Below W3.heap.size W3 V) => k33.below hV l3)
    have HK1 := hidI (fun V (hV : RowKit.Below W3.heap.size W3 V) => k13.below hV k13.lt)
    clear HHAS kp3 k33 r63 r73 ko3 k13
    gi_wp2
    refine region_inW (by kernel_rfl) (by kernel_rfl) 10 [(some 37, some (.pointer (some ⟨b3, 3, none⟩))), (some 38, some (.slice (some ⟨bo, 0, none⟩) M M)), (some 39, some (.agg #[.int .i64 G.q, .int .i64 G.n, .slice (some ⟨b4, o4, none⟩) G.es.length c, .slice pb M cb])), (some 40, some (.pointer (some ⟨b6, 2, none⟩))), (some 41, some (.int .i64 x.t)), (some 42, some (.pointer (some ⟨b7, 2, none⟩))), (some 43, some (.int .i64 y.t)), (some 44, some (.int .i64 (j : Int))), (some 45, some (.pointer (some ⟨bo, j, none⟩))), (none, none)]
     (fun d f W' => Kp3 W3 bo j (d 9) W') (by kernel_rfl) (by kernel_rfl) (by kernel_rfl) (by kernel_rfl) ⟨_, below_dN (RowKit.Below.refl _ _) 1, (if_neg (by decide)).symm⟩ ?_ ?_
    focus
     intro i' o ho a d f W' hS hdi hdn hnd hdep hout hold K hK
     have hil : i' < 10 := (Array.getElem?_eq_some_iff.1 ho).1
     have hcases : i' = 0 ∨ i' = 1 ∨ i' = 2 ∨ i' = 3 ∨ i' = 4 ∨ i' = 5 ∨ i' = 6 ∨ i' = 7 ∨ i' = 8 ∨ i' = 9 := by omega
     clear hil
     have u1 := hout 1 (by kernel_rfl)
     have u3 := hout 3 (by kernel_rfl)
     have u6 := hout 6 (by kernel_rfl)
     have u7 := hout 7 (by kernel_rfl)
     simp at u1 u3 u6 u7
     clear hout
     have e9 : d 9 = false := by
      rcases hcases with rfl | rfl | rfl | rfl | rfl | rfl | rfl | rfl | rfl | rfl
      all_goals first | exact hdi | exact hnd 9 (by kernel_rfl)
     have hS1 := hidI hS
     obtain ⟨V, hV, hVe⟩ := hS
     rw [e9, if_neg (by decide)] at hVe
     subst hVe
     have m0 := (hV.cell (p := ⟨w.heap.size, 0, none⟩) lp).trans p0
     have m1 := (hV.cell (p := ⟨w.heap.size, 1, none⟩) lp).trans p1
     have m2 := (hV.cell (p := ⟨w.heap.size, 2, none⟩) lp).trans p2
     have m3 := (hV.cell (p := ⟨w.heap.size, 3, none⟩) lp).trans p3
     have m4 := (hV.cell (p := ⟨b3, 3, none⟩) l3).trans q3
     have m5 := (hV.cell (p := ⟨b6, 2, none⟩) l6).trans g2
     have m6 := (hV.cell (p := ⟨b7, 2, none⟩) l7).trans h2
     have kV := HKV.out W' hV
     have kj : W'.cell? ⟨bo, j, none⟩ = some (.bool out[j]) := by rw [kV.cell]; simp [hjO]
     have kz := kV.frozen j
     clear p0 p1 p2 p3 q3 g2 h2 kV
     rcases hcases with rfl | rfl | rfl | rfl | rfl | rfl | rfl | rfl | rfl | rfl
     all_goals (simp only [List.getElem?_toArray, List.getElem?_cons_succ, List.getElem?_cons_zero, Option.some.injEq] at ho; subst ho; simp [Region.binds] at hdep; (try go_split_ands))
     ·go_simp; exact hK _ _ (fun u hu => Option.some.inj hu) hS1.out
     ·go_simp; exact hK _ _ (fun u hu => Option.some.inj hu) hS1.out
     ·go_simp; exact hK _ _ (fun u hu => Option.some.inj hu) hS1.out
     ·go_simp; exact hK _ _ (fun u hu => Option.some.inj hu) hS1.out
     ·go_simp; exact hK _ _ (fun u hu => Option.some.inj hu) hS1.out
     ·go_simp; exact hK _ _ (fun u hu => Option.some.inj hu) hS1.out
     ·go_simp; exact hK _ _ (fun u hu => Option.some.inj hu) hS1.out
     ·go_simp
      refine (HIDX.out W').mono ?_
      rintro e w' ⟨rfl, rfl⟩
      exact hK _ _ (fun u hu => Option.some.inj hu) (by
       show Kp3 _ _ _ (d 9) _
       rw [e9]; exact ⟨_, hV.alloc hV.size _, (if_neg (by decide)).symm⟩)
     ·go_simp; exact hK _ _ (fun u hu => Option.some.inj hu) hS1.out
     ·have hfin : Kp3 W3 bo j true (W'.setCell ⟨bo, j, none⟩ (.bool true)) := ⟨W', hV, (if_pos rfl).symm⟩
      go_simp
      exact hK undef _ (fun u hu => by cases hu) hfin
    intro d f W4 hS hall hf
    have e9 : d 9 = true := hall 9 (by decide)
    obtain ⟨V, hV, hVe⟩ := hS
    rw [e9, if_pos rfl] at hVe
    subst hVe
    have kV := HKV.out V hV
    have hBV := hBS3.trans (hV.mono hBS3.size)
    have hBVw := hB3w.trans (hV.mono hB3w.size)
    show KeepsFrom W0.heap.size W _ ∧ KPm w.heap.size W _ ∧ _
    refine ⟨(KeepsFrom.below hBV).trans ((KeepsOthers.setCell _ _ _).from _), (KPm.below hBV hB.size).trans (KPm.set kV hbow), ⟨⟨⟨?_, (HKP.out V hV).other _ (by omega)⟩, (HK3.out V hV).other _ (fun e => hne e.symm)⟩, (HK1.out V hV).other _ (by omega)⟩, hBVw.setCell hbow _⟩
    rw [HSN.out]
    simp only [if_true, List.map_set]
    exact VRow.set (i := j) (.bool true) kV
  case done =>
   rintro D ys W hD' hys ⟨⟨⟨⟨ko, kp⟩, k3⟩, k1⟩, hB⟩ hK
   rw [hys] at ko
   have p0 := k3.at 0 rfl; have p1 := k3.at 1 rfl; have p2 := k3.at 2 rfl; have p3 := k3.at 3 rfl
   have j0 := k1.at 0 rfl; have j1 := k1.at 1 rfl; have j2 := k1.at 2 rfl; have j3 := k1.at 3 rfl
   have z0 := k1.frozen 0; have z1 := k1.frozen 1; have z2 := k1.frozen 2; have z3 := k1.frozen 3
   have hne1 : b3 ≠ w.heap.size + 1 := by omega
   have hneD : D ≠ w.heap.size + 1 := fun e => by
    subst e
    rw [show W.heap[w.heap.size + 1]? = _ from k1] at hK; cases hK
   have r4 := VRow.set (i := 3) (.slice (some ⟨bo, 0, none⟩) M M) (VRow.set (i := 2) (.slice p G.es.length c) (VRow.set (i := 1) (.int .i64 G.n) (VRow.set (i := 0) (.int .i64 G.q) k1)))
   have hbo1 : bo ≠ w.heap.size + 1 := by omega
   have ko4 := (((ko.other (i := 0) (.int .i64 G.q) hbo1).other (i := 1) (.int .i64 G.n) hbo1).other (i := 2) (.slice p G.es.length c) hbo1).other (i := 3) (.slice (some ⟨bo, 0, none⟩) M M) hbo1
   have hK4 : ((((W.setCell ⟨w.heap.size + 1, 0, none⟩ (.int .i64 G.q)).setCell ⟨w.heap.size + 1, 1, none⟩ (.int .i64 G.n)).setCell ⟨w.heap.size + 1, 2, none⟩ (.slice p G.es.length c)).setCell ⟨w.heap.size + 1, 3, none⟩ (.slice (some ⟨bo, 0, none⟩) M M)).heap[D]? = some (.deferred (some [])) :=
    (Below.heap_setCell _ _ _ _ hneD).trans ((Below.heap_setCell _ _ _ _ hneD).trans ((Below.heap_setCell _ _ _ _ hneD).trans ((Below.heap_setCell _ _ _ _ hneD).trans hK)))
   have hB4 := (((hB.setCell (show w.heap.size ≤ w.heap.size + 1 by omega) (.int .i64 G.q) (p := ⟨w.heap.size + 1, 0, none⟩)).setCell (show w.heap.size ≤ w.heap.size + 1 by omega) (.int .i64 G.n) (p := ⟨w.heap.size + 1, 1, none⟩)).setCell (show w.heap.size ≤ w.heap.size + 1 by omega) (.slice p G.es.length c) (p := ⟨w.heap.size + 1, 2, none⟩)).setCell (show w.heap.size ≤ w.heap.size + 1 by omega) (.slice (some ⟨bo, 0, none⟩) M M) (p := ⟨w.heap.size + 1, 3, none⟩)
   have hDw : w.heap.size ≤ D := Nat.le_trans x0.size hD'
   have hbow : w.heap.size ≤ bo := Nat.le_trans hB0.size hbo
   gi_wp2
   clear k1 k3 kp ko hB hK p0 p1 p2 p3 j0 j1 j2 j3 z0 z1 z2 z3
   generalize (((W.setCell ⟨w.heap.size + 1, 0, none⟩ (.int .i64 G.q)).setCell ⟨w.heap.size + 1, 1, none⟩ (.int .i64 G.n)).setCell ⟨w.heap.size + 1, 2, none⟩ (.slice p G.es.length c)).setCell ⟨w.heap.size + 1, 3, none⟩ (.slice (some ⟨bo, 0, none⟩) M M) = Wz at *
   have ry := r4.put (.deferred none) hK4 rfl
   have y0 := ry.at 0 rfl; have y1 := ry.at 1 rfl; have y2 := ry.at 2 rfl; have y3 := ry.at 3 rfl
   refine ⟨by simp, .inl ⟨_, _, rfl, run_takeDeferred hK4, ?_⟩⟩
   refine ⟨(.agg #[.int .i64 G.q, .int .i64 G.n, .slice p G.es.length c, .slice (some ⟨bo, 0, none⟩) M M]), by simp [results, Tryz.results75, go_sem, y0, y1, y2, y3], ?_⟩
   exact ⟨bo, rfl, hbow, ko4.put _ hK4 rfl, below_put hB4 hDw hK4 _⟩
  case stop =>
   rintro D c pre W _ _ h _
   exact h.elim
set_option maxRecDepth 100000 in
set_option maxHeartbeats 4000000 in
theorem mmBefore_in (G : Gr) (p : Option Addr) (c : Nat) (pb : Option Addr) (M cb : Nat) (F : List Bool) (N : Nat) (hv : Vg G) (hN : G.n = N) (hM : M = N * N) (hF : F.length = M) (w : World) (hin : Sg 3 w edE p G.es) (hs : SlB w.heap.size w pb F) :
  CallsIn Fence.wide 9 Tryz.prog 81 #[(.agg #[.int .i64 G.q, .int .i64 G.n, .slice p G.es.length c, .slice pb M cb])] w (RetPs G p c M (befF N G.es F) w) := by
 have HIN := hidI hin; have HV := hidI hv; have HS := hidI hs; have HNN := hidI hN; have HMM := hidI hM; have HFL := hidI hF
 have hl := hv.len
 have hN64 : N ≤ 64 := by have := hv.n2; omega
 have hM4 : M ≤ 4096 := by rw [hM]; exact Nat.mul_le_mul hN64 hN64
 have hmk := run_make_row' (P := Tryz.prog) 90 4 (.bool false) 1 Tryz.underlying90 infoBl rfl .i64 .i64 M (by omega) (by omega)
 clear hin hv hs hN hM hF
 obtain ⟨w0, hw0⟩ : ∃ w0, w0 = (w.alloc (.cells #[.int .i64 G.q, .int .i64 G.n, .slice p G.es.length c, .slice pb M cb] 92)).alloc (.cells #[.int .i64 0, .int .i64 0, .slice none 0 0, .slice none 0 0] 92) := ⟨_, rfl⟩
 have b0 : VRow w0 w.heap.size 92 [.int .i64 G.q, .int .i64 G.n, .slice p G.es.length c, .slice pb M cb] := by subst hw0; exact (VRow.new w _ _).alloc _
 have b1 : VRow w0 (w.heap.size + 1) 92 [.int .i64 0, .int .i64 0, .slice none 0 0, .slice none 0 0] := by subst hw0; exact VRow.new1 w _ _ _
 have hB0 : RowKit.Below w.heap.size w w0 := by subst hw0; exact ((RowKit.Below.refl _ _).alloc (Nat.le_refl _) _).alloc (by simp) _
 have f0 := b0.at 0 rfl; have f1 := b0.at 1 rfl; have f2 := b0.at 2 rfl; have f3 := b0.at 3 rfl
 refine callsIn_of_wp_marks Tryz.func81 rfl trivial ?_ rfl
 simp only [Tryz.ntmps81, List.size_toArray, List.length_cons, List.length_nil, Nat.reduceAdd, Nat.reduceSub, Array.replicate_succ, Array.replicate_zero, List.push_toArray, List.append_toArray, List.nil_append, List.cons_append]
 rw [wpIn_wide]
 go_upto_region 1 with fail
 rw [← hw0]
 clear hw0
 go_cut [3] from 8 to 14 (fun s3 wx => ∃ bo b3, s3 = .pointer (some ⟨b3, 0, none⟩) ∧ VRow wx b3 92 [.int .i64 G.q, .int .i64 G.n, .slice p G.es.length c, .slice (some ⟨bo, 0, none⟩) M M] ∧ VRow wx bo 4 ((List.replicate M false).map Value.bool) ∧ w0.heap.size ≤ bo ∧ w0.heap.size ≤ b3 ∧ bo ≠ b3 ∧ RowKit.Below w0.heap.size w0 wx)
 case first =>
  refine region_detW (by kernel_rfl) 9 [(some 8, some (.pointer (some ⟨w.heap.size, 0, none⟩))), (some 9, some (.agg #[.int .i64 G.q, .int .i64 G.n, .slice p G.es.length c])), (some 10, some (.pointer (some ⟨w.heap.size, 3, none⟩))), (some 11, some (.slice pb M cb)), (some 12, some (.int .i64 (M : Int))), (some 13, none), (some 14, none), (some 3, none), (none, none)]
   (fun d f W => Kp1 w0 G p c M (d 8) (f 13) (f 14) (f 3) W) (by kernel_rfl) (by kernel_rfl) (by kernel_rfl) (by kernel_rfl) ⟨below_dN (RowKit.Below.refl _ _) 1, (fun _ e => by cases e), (fun _ e => by cases e), (fun _ e => by cases e)⟩ ?_ ?_
  focus
   intro i o ho a d f W hS hdi hdn hnd hdep hout hold K hK
   have hil : i < 9 := (Array.getElem?_eq_some_iff.1 ho).1
   have hcases : i = 0 ∨ i = 1 ∨ i = 2 ∨ i = 3 ∨ i = 4 ∨ i = 5 ∨ i = 6 ∨ i = 7 ∨ i = 8 := by omega
   clear hil
   have u1 := hout 1 (by kernel_rfl)
   simp at u1
   clear hout
   have hz := b0.lt
   have hc0 := (hS.b.cell hz).trans f0
   have hc1 := (hS.b.cell (p := ⟨w.heap.size, 1, none⟩) hz).trans f1
   have hc2 := (hS.b.cell (p := ⟨w.heap.size, 2, none⟩) hz).trans f2
   have hc3 := (hS.b.cell (p := ⟨w.heap.size, 3, none⟩) hz).trans f3
   clear f0 f1 f2 f3 b0 b1
   rcases hcases with rfl | rfl | rfl | rfl | rfl | rfl | rfl | rfl | rfl
   all_goals (simp only [List.getElem?_toArray, List.getElem?_cons_succ, List.getElem?_cons_zero, Option.some.injEq] at ho; subst ho; simp [Region.binds] at hdep; (try go_split_ands))
   ·go_simp; exact hK _ _ (fun u hu => Option.some.inj hu) hS
   ·go_simp; exact hK _ _ (fun u hu => Option.some.inj hu) hS
   ·go_simp; exact hK _ _ (fun u hu => Option.some.inj hu) hS
   ·go_simp; exact hK _ _ (fun u hu => Option.some.inj hu) hS
   ·go_simp; exact hK _ _ (fun u hu => Option.some.inj hu) hS
   ·have h13 := (hold 5 (by kernel_rfl) _ rfl 13 rfl).1
    have h14 := (hold 6 (by kernel_rfl) _ rfl 14 rfl).1
    have e8 := hnd 8 (by kernel_rfl)
    have h := hS
    rw [e8, h13, h14] at h
    have hfin := h.make (cs := madeCells #[.bool false] M) (by apply Array.toList_inj.1; rw [toList_madeCells_one])
    go_simp
    exact hK _ _ (fun u hu => by cases hu) (by
     show Kp1 _ _ _ _ _ (d 8) (some _) (f 14) (f 3) _
     rw [e8, h14]; exact hfin)
   ·obtain ⟨v, hv, hat⟩ : ∃ v, f 13 = some v ∧ a.tmps[13]? = some v := by assumption
    obtain ⟨b, rfl, _⟩ := hS.k v hv
    have h14 := (hold 6 (by kernel_rfl) _ rfl 14 rfl).1
    have h := hS
    rw [hv, h14] at h
    have hfin := h.build
    go_simp
    exact hK _ _ (fun u hu => by cases hu) (by
     show Kp1 _ _ _ _ _ (d 8) (f 13) (some _) (f 3) W
     rw [hv]; exact hfin)
   ·have h3 := (hold 7 (by kernel_rfl) _ rfl 3 rfl).1
    have e8 := hnd 8 (by kernel_rfl)
    have h := hS
    rw [e8, h3] at h
    have hfin := h.alloc
    go_simp
    exact hK _ _ (fun u hu => by cases hu) (by
     show Kp1 _ _ _ _ _ (d 8) (f 13) (f 14) (some _) _
     rw [e8]; exact hfin)
   ·obtain ⟨v, hv, hat⟩ : ∃ v, f 3 = some v ∧ a.tmps[3]? = some v := by assumption
    obtain ⟨u, hu, hau⟩ : ∃ v, f 14 = some v ∧ a.tmps[14]? = some v := by assumption
    have e8 : d 8 = false := hdi
    obtain ⟨b, h13, rfl⟩ := hS.g u hu
    have h := hS
    rw [e8, hv, h13] at h
    obtain ⟨b3, rfl, hbl, hzr, _⟩ := h.a _ rfl
    have hzr := hzr rfl
    have k0 := hzr.at 0 rfl; have k1 := hzr.at 1 rfl; have k2 := hzr.at 2 rfl; have k3 := hzr.at 3 rfl
    have z0 := hzr.frozen 0; have z1 := hzr.frozen 1; have z2 := hzr.frozen 2; have z3 := hzr.frozen 3
    have hfin := h.store
    have HV1 := hidI hv; have HU1 := hidI h13
    clear hzr h hv hu h13
    go_simp
    exact hK undef _ (fun u hu => by cases hu) (by
     show Kp1 _ _ _ _ _ true (f 13) (f 14) (f 3) _
     rw [HV1.out, HU1.out]; exact hfin)
  intro d f W9 hS hall hf
  have e8 : d 8 = true := hall 8 (by decide)
  obtain ⟨v3, hv3, -⟩ := hf (some 3, none) (by simp) 3 rfl
  obtain ⟨b3, rfl, hbl, _, h3⟩ := hS.a _ hv3
  obtain ⟨b, h13, hrow⟩ := h3 e8
  obtain ⟨b', e', hbb, hrb⟩ := hS.k _ h13
  cases e'
  have hne := row_ne hrb hrow (by decide)
  have hBl := hS.b
  simp only [putsD, List.filterMap_cons, List.filterMap_nil, Option.map_some, Option.map_none, Option.getD_some, Option.getD_none, List.foldl_cons, List.foldl_nil, Act.put, List.setIfInBounds_toArray, List.set_cons_zero, List.set_cons_succ]
  rw [hv3, h13]
  simp only [Option.getD_some]
  generalize (f 14).getD undef = v14
  clear hf hv3 h13 hS
  go_wp2_with fail
  go_meet
  exact ⟨b, b3, rfl, hrow, by rw [List.map_replicate]; exact hrb, hbb, hbl, hne, hBl⟩
 case rest =>
  rename_i KK hKK
  obtain ⟨bo, b3, rfl, hr3, hro, hbo, hb3, hne, hB1⟩ := hcut
  obtain ⟨w1, rfl⟩ : ∃ w1 : World, w1 = wc := ⟨_, rfl⟩
  have c0 := b0.below hB1 b0.lt; have c1 := b1.below hB1 b1.lt
  have x1 := hB0.trans (hB1.mono hB0.size)
  have hz1 := b1.lt
  clear f0 f1 f2 f3 b0 b1 hB1 hmk
  have f0 := c0.at 0 rfl; have f1 := c0.at 1 rfl; have f2 := c0.at 2 rfl; have f3 := c0.at 3 rfl
  refine hKK _ _ ((wpIn_wide (n := 9)).1 ?_)
  gi_wp2_with (refine ⟨trivial, ?_⟩; gi_at_call 93)
  refine (mmEdges_in Fence.wide 8 trivial rfl _ G.q G.n p G.es.length c (.slice pb M cb) rfl _).mono ?_
  rintro e w' ⟨rfl, rfl⟩
  clear f0 f1 f2 f3
  gi_wp2
  obtain ⟨W0, hW0⟩ : ∃ W0, W0 = w1.alloc (.cells #[.int .i64 G.q, .int .i64 G.n, .slice p G.es.length c, .slice pb M cb] 92) := ⟨_, rfl⟩
  have a0 : VRow W0 w.heap.size 92 [.int .i64 G.q, .int .i64 G.n, .slice p G.es.length c, .slice pb M cb] := by subst hW0; exact c0.alloc _
  have a1 : VRow W0 (w.heap.size + 1) 92 [.int .i64 0, .int .i64 0, .slice none 0 0, .slice none 0 0] := by subst hW0; exact c1.alloc _
  have a3 : VRow W0 b3 92 [.int .i64 G.q, .int .i64 G.n, .slice p G.es.length c, .slice (some ⟨bo, 0, none⟩) M M] := by subst hW0; exact hr3.alloc _
  have ao : VRow W0 bo 4 ((List.replicate M false).map Value.bool) := by subst hW0; exact hro.alloc _
  have ae : VRow W0 w1.heap.size 92 [.int .i64 G.q, .int .i64 G.n, .slice p G.es.length c, .slice pb M cb] := by subst hW0; exact VRow.new w1 _ _
  have x0 : RowKit.Below w.heap.size w W0 := by subst hW0; exact x1.alloc x1.size _
  rw [← hW0]
  clear hW0 c0 c1 hr3 hro x1
  refine' wpIn_rangeFunc_ownG rfl (by omega) (gf := 149) (lb := #[.pointer (some ⟨w1.heap.size, 0, none⟩)]) rfl trivial (enters_of Tryz.func149 (by kernel_rfl) rfl)
   (pedges_stops Fence.wide 8 trivial rfl (by omega) w.heap.size w1.heap.size G p c (.slice pb M cb) hl W0 x0.size ae ((SgB.of HIN.out (Nat.le_refl _)).kept (fun i hi => x0.block i hi))) KPm.trans (KPm.put x0.size) (RowKit.Below.refl _ _) (fun _ => rfl)
   (fun pre W => (((VRow W bo 4 ((pTo N G.es Ed.t Ed.f F (pre.map Subtype.val)).map Value.bool) ∧ VRow W w.heap.size 92 [.int .i64 G.q, .int .i64 G.n, .slice p G.es.length c, .slice pb M cb]) ∧ VRow W b3 92 [.int .i64 G.q, .int .i64 G.n, .slice p G.es.length c, .slice (some ⟨bo, 0, none⟩) M M]) ∧ VRow W (w.heap.size + 1) 92 [.int .i64 0, .int .i64 0, .slice none 0 0, .slice none 0 0]) ∧ RowKit.Below w.heap.size w W)
   (fun _ _ _ => False)
   (OwnFrom.and (OwnFrom.and (OwnFrom.and (OwnFrom.and ((VRow.own bo 4 (fun pre : List (PrE G.es) => (pTo N G.es Ed.t Ed.f F (pre.map Subtype.val)).map Value.bool)).from _) ((VRow.own w.heap.size 92 (fun _ => [.int .i64 G.q, .int .i64 G.n, .slice p G.es.length c, .slice pb M cb])).from _)) ((VRow.own b3 92 (fun _ => [.int .i64 G.q, .int .i64 G.n, .slice p G.es.length c, .slice (some ⟨bo, 0, none⟩) M M])).from _)) ((VRow.own (w.heap.size + 1) 92 (fun _ => [.int .i64 0, .int .i64 0, .slice none 0 0, .slice none 0 0])).from _)) (ownFrom_below (Nat.le_refl _) x0.size))
   (fun _ _ _ _ _ hs _ _ => hs)
   ⟨⟨⟨⟨by rw [List.map_nil, pTo_nil, ← HMM.out]; exact ao, a0⟩, a3⟩, a1⟩, x0⟩
   _ ?assign ?body ?done ?stop
  case assign =>
   intro l x W K hK
   unfold encPr
   gi_wp2
   exact hK
  case body =>
   rintro l pre ⟨⟨i, k⟩, hik⟩ W ⟨⟨⟨⟨ko, kp⟩, k3⟩, k1⟩, hB⟩ hlen
   obtain ⟨hi, hk, -⟩ := mem_prs.1 hik
   replace hi : i < G.es.length := hi
   replace hk : k < G.es.length := hk
   have HSN : Hid (pTo N G.es Ed.t Ed.f F ((pre ++ [(⟨(i, k), hik⟩ : PrE G.es)]).map Subtype.val) = pst N G.es Ed.t Ed.f F (pTo N G.es Ed.t Ed.f F (pre.map Subtype.val)) (i, k)) := by
    rw [Hid, List.map_append]; exact pTo_snoc _ _ _ _ _ _ _
   have HLO := hidI (pTo_len N G.es Ed.t Ed.f F (pre.map Subtype.val))
   generalize pTo N G.es Ed.t Ed.f F (pre.map Subtype.val) = out at *
   have vx := HV.out.ins _ (Gr.at_ hi); have vy := HV.out.ins _ (Gr.at_ hk)
   have hxe := eget_eq G.es i hi; have hye := eget_eq G.es k hk
   obtain ⟨b4, o4, rfl, hb4, e0, e1, e2⟩ := (HIN.out.below hB).get3 i hi rfl
   obtain ⟨b5, o5, e', hb5, d0, d1, d2⟩ := (HIN.out.below hB).get3 k hk rfl
   cases e'
   rw [← hxe] at e0 e1 e2
   rw [← hye] at d0 d1 d2
   unfold pst at HSN
   simp only at HSN
   generalize eget G.es i = x at *
   generalize eget G.es k = y at *
   clear hxe hye
   have hnI := HNN.out
   have hxf : 0 ≤ x.t ∧ x.t < (N : Int) ∧ 0 ≤ y.t ∧ y.t < (N : Int) := by omega
   have hxt : 0 ≤ x.f ∧ x.f < (N : Int) ∧ 0 ≤ y.f ∧ y.f < (N : Int) := by omega
   have HHAS := hidI (fun W' (h : RowKit.Below w.heap.size w W') => mmHas_any G (some ⟨b4, o4, none⟩) c w.heap.size pb M cb F N HNN.out hN64 HMM.out HFL.out x.t y.t hxf.1 hxf.2.1 hxf.2.2.1 hxf.2.2.2 W' (HS.out.below h))
   have HIDX := hidI (fun W' => mmIndex_any G (some ⟨b4, o4, none⟩) c (.slice pb M cb) N HNN.out hN64 x.f y.f hxt.1 hxt.2.1 hxt.2.2.1 hxt.2.2.2 W')
   have hjM : pix N x.f y.f < M := by rw [HMM.out]; exact pix_lt hxt.1 hxt.2.1 hxt.2.2.1 hxt.2.2.2
   clear hnI hxf hxt vx vy
   generalize lkB F (pix N x.t y.t) = hh at *
   generalize pix N x.f y.f = j at *
   have f2 := kp.at 2 rfl
   refine wpIn_block ?_
   refine wpIn_seq_k (fun KK hKK => ?_)
   refine region_inW (by kernel_rfl) (by kernel_rfl) 16 [(some 19, some (.pointer (some ⟨w.heap.size, 0, none⟩))), (some 20, some (.pointer (some ⟨w.heap.size, 2, none⟩))), (some 21, some (.slice (some ⟨b4, o4, none⟩) G.es.length c)), (some 22, some (.int .i64 (i : Int))), (some 23, some (.pointer (some ⟨b4, o4 + i * 3, none⟩))), (some 24, some (.agg #[.int .i64 x.f, .int .i64 x.l, .int .i64 x.t])),
     (some 25, some (.pointer (some ⟨w.heap.size, 0, none⟩))), (some 26, some (.pointer (some ⟨w.heap.size, 2, none⟩))), (some 27, some (.slice (some ⟨b4, o4, none⟩) G.es.length c)), (some 28, some (.int .i64 (k : Int))), (some 29, some (.pointer (some ⟨b4, o4 + k * 3, none⟩))), (some 30, some (.agg #[.int .i64 y.f, .int .i64 y.l, .int .i64 y.t])), (some 6, none), (some 7, none), (none, none), (none, none)]
    (fun d f W' => Kp2 W x y (d 14) (d 15) (f 6) (f 7) W') (by kernel_rfl) (by kernel_rfl) (by kernel_rfl) (by kernel_rfl) ⟨below_dN (RowKit.Below.refl _ _) 1, (fun _ e => by cases e), (fun _ e => by cases e), (fun _ _ e => by cases e)⟩ ?_ ?_
   focus
    intro i' o ho a d f W' hS hdi hdn hnd hdep hout hold K hK
    have hil : i' < 16 := (Array.getElem?_eq_some_iff.1 ho).1
    have hcases : i' = 0 ∨ i' = 1 ∨ i' = 2 ∨ i' = 3 ∨ i' = 4 ∨ i' = 5 ∨ i' = 6 ∨ i' = 7 ∨ i' = 8 ∨ i' = 9 ∨ i' = 10 ∨ i' = 11 ∨ i' = 12 ∨ i' = 13 ∨ i' = 14 ∨ i' = 15 := by omega
    clear hil
    have u1 := hout 1 (by kernel_rfl)
    have u4 := hout 4 (by kernel_rfl)
    have u5 := hout 5 (by kernel_rfl)
    simp at u1 u4 u5
    clear hout
    have hc2 := (hS.b.cell (p := ⟨w.heap.size, 2, none⟩) kp.lt).trans f2
    have g0 := (hS.b.cell (p := ⟨b4, o4 + i * 3, none⟩) hb4).trans e0
    have g1 := (hS.b.cell (p := ⟨b4, o4 + i * 3 + 1, none⟩) hb4).trans e1
    have g2 := (hS.b.cell (p := ⟨b4, o4 + i * 3 + 2, none⟩) hb4).trans e2
    have h0 := (hS.b.cell (p := ⟨b4, o4 + k * 3, none⟩) hb4).trans d0
    have h1 := (hS.b.cell (p := ⟨b4, o4 + k * 3 + 1, none⟩) hb4).trans d1
    have h2 := (hS.b.cell (p := ⟨b4, o4 + k * 3 + 2, none⟩) hb4).trans d2
    have hiI : (i : Int) < (G.es.length : Int) := by omega
    have hkI : (k : Int) < (G.es.length : Int) := by omega
    clear e0 e1 e2 d0 d1 d2 f2
    rcases hcases with rfl | rfl | rfl | rfl | rfl | rfl | rfl | rfl | rfl | rfl | rfl | rfl | rfl | rfl | rfl | rfl
    all_goals (simp only [List.getElem?_toArray, List.getElem?_cons_succ, List.getElem?_cons_zero, Option.some.injEq] at ho; subst ho; simp [Region.binds] at hdep; (try go_split_ands))
    ·go_simp; exact hK _ _ (fun u hu => Option.some.inj hu) hS
    ·go_simp; exact hK _ _ (fun u hu => Option.some.inj hu) hS
    ·go_simp; exact hK _ _ (fun u hu => Option.some.inj hu) hS
    ·go_simp; exact hK _ _ (fun u hu => Option.some.inj hu) hS
    ·go_simp; exact hK _ _ (fun u hu => Option.some.inj hu) hS
    ·go_simp; exact hK _ _ (fun u hu => Option.some.inj hu) hS
    ·go_simp; exact hK _ _ (fun u hu => Option.some.inj hu) hS
    ·go_simp; exact hK _ _ (fun u hu => Option.some.inj hu) hS
    ·go_simp; exact hK _ _ (fun u hu => Option.some.inj hu) hS
    ·go_simp; exact hK _ _ (fun u hu => Option.some.inj hu) hS
    ·go_simp; exact hK _ _ (fun u hu => Option.some.inj hu) hS
    ·go_simp; exact hK _ _ (fun u hu => Option.some.inj hu) hS
    ·have h6 := (hold 12 (by kernel_rfl) _ rfl 6 rfl).1
     have e14 := hnd 14 (by kernel_rfl)
     have h := hS
     rw [e14, h6] at h
     have hfin := h.new6
     go_simp
     exact hK _ _ (fun u hu => by cases hu) (by
      show Kp2 _ _ _ (d 14) (d 15) (some _) (f 7) _
      rw [e14]; exact hfin)
    ·have h7 := (hold 13 (by kernel_rfl) _ rfl 7 rfl).1
     have e15 := hnd 15 (by kernel_rfl)
     have h := hS
     rw [e15, h7] at h
     have hfin := h.new7
     go_simp
     exact hK _ _ (fun u hu => by cases hu) (by
      show Kp2 _ _ _ (d 14) (d 15) (f 6) (some _) _
      rw [e15]; exact hfin)
    ·obtain ⟨v, hv, hat⟩ : ∃ v, f 6 = some v ∧ a.tmps[6]? = some v := by assumption
     have e14 : d 14 = false := hdi
     have h := hS
     rw [e14, hv] at h
     obtain ⟨b, rfl, hbl, hzr⟩ := h.a _ rfl
     have k0 := hzr.at 0 rfl; have k1 := hzr.at 1 rfl; have k2 := hzr.at 2 rfl
     have z0 := hzr.frozen 0; have z1 := hzr.frozen 1; have z2 := hzr.frozen 2
     have hfin := h.set6
     have HV1 := hidI hv
     clear hzr h hv
     go_simp
     exact hK undef _ (fun u hu => by cases hu) (by
      show Kp2 _ _ _ true (d 15) (f 6) (f 7) _
      rw [HV1.out]; exact hfin)
    ·obtain ⟨v, hv, hat⟩ : ∃ v, f 7 = some v ∧ a.tmps[7]? = some v := by assumption
     have e15 : d 15 = false := hdi
     have h := hS
     rw [e15, hv] at h
     obtain ⟨b, rfl, hbl, hzr⟩ := h.c _ rfl
     have k0 := hzr.at 0 rfl; have k1 := hzr.at 1 rfl; have k2 := hzr.at 2 rfl
     have z0 := hzr.frozen 0; have z1 := hzr.frozen 1; have z2 := hzr.frozen 2
     have hfin := h.set7
     have HV1 := hidI hv
     clear hzr h hv
     go_simp
     exact hK undef _ (fun u hu => by cases hu) (by
      show Kp2 _ _ _ (d 14) true (f 6) (f 7) _
      rw [HV1.out]; exact hfin)
   intro d f W2 hS hall hf
   have e14 : d 14 = true := hall 14 (by decide)
   have e15 : d 15 = true := hall 15 (by decide)
   obtain ⟨v6, hv6, -⟩ := hf (some 6, none) (by simp) 6 rfl
   obtain ⟨v7, hv7, -⟩ := hf (some 7, none) (by simp) 7 rfl
   obtain ⟨b6, rfl, hb6, r6⟩ := hS.a _ hv6
   obtain ⟨b7, rfl, hb7, r7⟩ := hS.c _ hv7
   rw [e14, if_pos rfl] at r6
   rw [e15, if_pos rfl] at r7
   have hBS := hS.b
   simp only [putsD, List.filterMap_cons, List.filterMap_nil, Option.map_some, Option.map_none, Option.getD_some, Option.getD_none, List.foldl_cons, List.foldl_nil, Act.put, List.setIfInBounds_toArray, List.set_cons_zero, List.set_cons_succ]
   rw [hv6, hv7]
   simp only [Option.getD_some]
   clear hf hv6 hv7 hS hall e14 e15 e0 e1 e2 d0 d1 d2 f2
   have kp2 := kp.below hBS kp.lt
   have k32 := k3.below hBS k3.lt
   have p0 := kp2.at 0 rfl; have p1 := kp2.at 1 rfl; have p2 := kp2.at 2 rfl; have p3 := kp2.at 3 rfl
   have g0 := r6.at 0 rfl; have g2 := r6.at 2 rfl
   have h0 := r7.at 0 rfl; have h2 := r7.at 2 rfl
   have hB2 := hB.trans (hBS.mono hB.size)
   refine hKK _ _ ?_
   gi_wp2_with fail
   refine ⟨trivial, ?_⟩
   refine ((callsIn_wide.2 (HHAS.out W2 hB2)).inRound l).mono ?_
   rintro e W3 ⟨rfl, hB3⟩
   have hBS3 := hBS.trans (hB3.mono hBS.size)
   have kp3 := kp2.below hB3 kp2.lt; have k33 := k32.below hB3 k32.lt
   have r63 := r6.below hB3 r6.lt; have r73 := r7.below hB3 r7.lt
   have ko3 := ko.below hBS3 ko.lt; have k13 := k1.below hBS3 k1.lt
   have hB3w := hB2.trans (hB3.mono hB2.size)
   have hbow : w.heap.size ≤ bo := Nat.le_trans hB0.size hbo
   clear p0 p1 p2 p3 g0 g2 h0 h2 kp2 k32 r6 r7 kp k3 k1 ko hBS hB3 hB2
   cases hh
   ·have HSN := hidI (HSN.out.trans (if_neg (by decide)))
    gi_wp2
    exact ⟨KeepsFrom.below hBS3, KPm.below hBS3 hB.size, ⟨⟨⟨by rw [HSN.out]; exact ko3, kp3⟩, k33⟩, k13⟩, hB3w⟩
   ·have HSN := hidI (HSN.out.trans (if_pos rfl))
    have p0 := kp3.at 0 rfl; have p1 := kp3.at 1 rfl; have p2 := kp3.at 2 rfl; have p3 := kp3.at 3 rfl
    have q3 := k33.at 3 rfl
    have g2 := r63.at 0 rfl; have h2 := r73.at 0 rfl
    have lp := kp3.lt; have l3 := k33.lt; have l6 := r63.lt; have l7 := r73.lt; have lo := ko3.lt
    have hjO : j < out.length := by rw [HLO.out, ← HMM.out]; exact hjM
    have hjI : (j : Int) < (M : Int) := by omega
    have HKV := hidI (fun V (hV : RowKit.Below W3.heap.size W3 V) => ko3.below hV lo)
    have HKP := hidI (fun V (hV : RowKit.Below W3.heap.size W3 V) => kp3.below hV lp)
    have HK3 := hidI (fun V (hV : RowKit.Below W3.heap.size W3 V) => k33.below hV l3)
    have HK1 := hidI (fun V (hV : RowKit.Below W3.heap.size W3 V) => k13.below hV k13.lt)
    clear HHAS kp3 k33 r63 r73 ko3 k13
    gi_wp2
    refine region_inW (by kernel_rfl) (by kernel_rfl) 10 [(some 37, some (.pointer (some ⟨b3, 3, none⟩))), (some 38, some (.slice (some ⟨bo, 0, none⟩) M M)), (some 39, some (.agg #[.int .i64 G.q, .int .i64 G.n, .slice (some ⟨b4, o4, none⟩) G.es.length c, .slice pb M cb])), (some 40, some (.pointer (some ⟨b6, 0, none⟩))), (some 41, some (.int .i64 x.f)), (some 42, some (.pointer (some ⟨b7, 0, none⟩))), (some 43, some (.int .i64 y.f)), (some 44, some (.int .i64 (j : Int))), (some 45, some (.pointer (some ⟨bo, j, none⟩))), (none, none)]
     (fun d f W' => Kp3 W3 bo j (d 9) W') (by kernel_rfl) (by kernel_rfl) (by kernel_rfl) (by kernel_rfl) ⟨_, below_dN (RowKit.Below.refl _ _) 1, (if_neg (by decide)).symm⟩ ?_ ?_
    focus
     intro i' o ho a d f W' hS hdi hdn hnd hdep hout hold K hK
     have hil : i' < 10 := (Array.getElem?_eq_some_iff.1 ho).1
     have hcases : i' = 0 ∨ i' = 1 ∨ i' = 2 ∨ i' = 3 ∨ i' = 4 ∨ i' = 5 ∨ i' = 6 ∨ i' = 7 ∨ i' = 8 ∨ i' = 9 := by omega
     clear hil
     have u1 := hout 1 (by kernel_rfl)
     have u3 := hout 3 (by kernel_rfl)
     have u6 := hout 6 (by kernel_rfl)
     have u7 := hout 7 (by kernel_rfl)
     simp at u1 u3 u6 u7
     clear hout
     have e9 : d 9 = false := by
      rcases hcases with rfl | rfl | rfl | rfl | rfl | rfl | rfl | rfl | rfl | rfl
      all_goals first | exact hdi | exact hnd 9 (by kernel_rfl)
     have hS1 := hidI hS
     obtain ⟨V, hV, hVe⟩ := hS
     rw [e9, if_neg (by decide)] at hVe
     subst hVe
     have m0 := (hV.cell (p := ⟨w.heap.size, 0, none⟩) lp).trans p0
     have m1 := (hV.cell (p := ⟨w.heap.size, 1, none⟩) lp).trans p1
     have m2 := (hV.cell (p := ⟨w.heap.size, 2, none⟩) lp).trans p2
     have m3 := (hV.cell (p := ⟨w.heap.size, 3, none⟩) lp).trans p3
     have m4 := (hV.cell (p := ⟨b3, 3, none⟩) l3).trans q3
     have m5 := (hV.cell (p := ⟨b6, 0, none⟩) l6).trans g2
     have m6 := (hV.cell (p := ⟨b7, 0, none⟩) l7).trans h2
     have kV := HKV.out W' hV
     have kj : W'.cell? ⟨bo, j, none⟩ = some (.bool out[j]) := by rw [kV.cell]; simp [hjO]
     have kz := kV.frozen j
     clear p0 p1 p2 p3 q3 g2 h2 kV
     rcases hcases with rfl | rfl | rfl | rfl | rfl | rfl | rfl | rfl | rfl | rfl
     all_goals (simp only [List.getElem?_toArray, List.getElem?_cons_succ, List.getElem?_cons_zero, Option.some.injEq] at ho; subst ho; simp [Region.binds] at hdep; (try go_split_ands))
     ·go_simp; exact hK _ _ (fun u hu => Option.some.inj hu) hS1.out
     ·go_simp; exact hK _ _ (fun u hu => Option.some.inj hu) hS1.out
     ·go_simp; exact hK _ _ (fun u hu => Option.some.inj hu) hS1.out
     ·go_simp; exact hK _ _ (fun u hu => Option.some.inj hu) hS1.out
     ·go_simp; exact hK _ _ (fun u hu => Option.some.inj hu) hS1.out
     ·go_simp; exact hK _ _ (fun u hu => Option.some.inj hu) hS1.out
     ·go_simp; exact hK _ _ (fun u hu => Option.some.inj hu) hS1.out
     ·go_simp
      refine (HIDX.out W').mono ?_
      rintro e w' ⟨rfl, rfl⟩
      exact hK _ _ (fun u hu => Option.some.inj hu) (by
       show Kp3 _ _ _ (d 9) _
       rw [e9]; exact ⟨_, hV.alloc hV.size _, (if_neg (by decide)).symm⟩)
     ·go_simp; exact hK _ _ (fun u hu => Option.some.inj hu) hS1.out
     ·have hfin : Kp3 W3 bo j true (W'.setCell ⟨bo, j, none⟩ (.bool true)) := ⟨W', hV, (if_pos rfl).symm⟩
      go_simp
      exact hK undef _ (fun u hu => by cases hu) hfin
    intro d f W4 hS hall hf
    have e9 : d 9 = true := hall 9 (by decide)
    obtain ⟨V, hV, hVe⟩ := hS
    rw [e9, if_pos rfl] at hVe
    subst hVe
    have kV := HKV.out V hV
    have hBV := hBS3.trans (hV.mono hBS3.size)
    have hBVw := hB3w.trans (hV.mono hB3w.size)
    show KeepsFrom W0.heap.size W _ ∧ KPm w.heap.size W _ ∧ _
    refine ⟨(KeepsFrom.below hBV).trans ((KeepsOthers.setCell _ _ _).from _), (KPm.below hBV hB.size).trans (KPm.set kV hbow), ⟨⟨⟨?_, (HKP.out V hV).other _ (by omega)⟩, (HK3.out V hV).other _ (fun e => hne e.symm)⟩, (HK1.out V hV).other _ (by omega)⟩, hBVw.setCell hbow _⟩
    rw [HSN.out]
    simp only [if_true, List.map_set]
    exact VRow.set (i := j) (.bool true) kV
  case done =>
   rintro D ys W hD' hys ⟨⟨⟨⟨ko, kp⟩, k3⟩, k1⟩, hB⟩ hK
   rw [hys] at ko
   have p0 := k3.at 0 rfl; have p1 := k3.at 1 rfl; have p2 := k3.at 2 rfl; have p3 := k3.at 3 rfl
   have j0 := k1.at 0 rfl; have j1 := k1.at 1 rfl; have j2 := k1.at 2 rfl; have j3 := k1.at 3 rfl
   have z0 := k1.frozen 0; have z1 := k1.frozen 1; have z2 := k1.frozen 2; have z3 := k1.frozen 3
   have hne1 : b3 ≠ w.heap.size + 1 := by omega
   have hneD : D ≠ w.heap.size + 1 := fun e => by
    subst e
    rw [show W.heap[w.heap.size + 1]? = _ from k1] at hK; cases hK
   have r4 := VRow.set (i := 3) (.slice (some ⟨bo, 0, none⟩) M M) (VRow.set (i := 2) (.slice p G.es.length c) (VRow.set (i := 1) (.int .i64 G.n) (VRow.set (i := 0) (.int .i64 G.q) k1)))
   have hbo1 : bo ≠ w.heap.size + 1 := by omega
   have ko4 := (((ko.other (i := 0) (.int .i64 G.q) hbo1).other (i := 1) (.int .i64 G.n) hbo1).other (i := 2) (.slice p G.es.length c) hbo1).other (i := 3) (.slice (some ⟨bo, 0, none⟩) M M) hbo1
   have hK4 : ((((W.setCell ⟨w.heap.size + 1, 0, none⟩ (.int .i64 G.q)).setCell ⟨w.heap.size + 1, 1, none⟩ (.int .i64 G.n)).setCell ⟨w.heap.size + 1, 2, none⟩ (.slice p G.es.length c)).setCell ⟨w.heap.size + 1, 3, none⟩ (.slice (some ⟨bo, 0, none⟩) M M)).heap[D]? = some (.deferred (some [])) :=
    (Below.heap_setCell _ _ _ _ hneD).trans ((Below.heap_setCell _ _ _ _ hneD).trans ((Below.heap_setCell _ _ _ _ hneD).trans ((Below.heap_setCell _ _ _ _ hneD).trans hK)))
   have hB4 := (((hB.setCell (show w.heap.size ≤ w.heap.size + 1 by omega) (.int .i64 G.q) (p := ⟨w.heap.size + 1, 0, none⟩)).setCell (show w.heap.size ≤ w.heap.size + 1 by omega) (.int .i64 G.n) (p := ⟨w.heap.size + 1, 1, none⟩)).setCell (show w.heap.size ≤ w.heap.size + 1 by omega) (.slice p G.es.length c) (p := ⟨w.heap.size + 1, 2, none⟩)).setCell (show w.heap.size ≤ w.heap.size + 1 by omega) (.slice (some ⟨bo, 0, none⟩) M M) (p := ⟨w.heap.size + 1, 3, none⟩)
   have hDw : w.heap.size ≤ D := Nat.le_trans x0.size hD'
   have hbow : w.heap.size ≤ bo := Nat.le_trans hB0.size hbo
   gi_wp2
   clear k1 k3 kp ko hB hK p0 p1 p2 p3 j0 j1 j2 j3 z0 z1 z2 z3
   generalize (((W.setCell ⟨w.heap.size + 1, 0, none⟩ (.int .i64 G.q)).setCell ⟨w.heap.size + 1, 1, none⟩ (.int .i64 G.n)).setCell ⟨w.heap.size + 1, 2, none⟩ (.slice p G.es.length c)).setCell ⟨w.heap.size + 1, 3, none⟩ (.slice (some ⟨bo, 0, none⟩) M M) = Wz at *
   have ry := r4.put (.deferred none) hK4 rfl
   have y0 := ry.at 0 rfl; have y1 := ry.at 1 rfl; have y2 := ry.at 2 rfl; have y3 := ry.at 3 rfl
   refine ⟨by simp, .inl ⟨_, _, rfl, run_takeDeferred hK4, ?_⟩⟩
   refine ⟨(.agg #[.int .i64 G.q, .int .i64 G.n, .slice p G.es.length c, .slice (some ⟨bo, 0, none⟩) M M]), by simp [results, Tryz.results81, go_sem, y0, y1, y2, y3], ?_⟩
   exact ⟨bo, rfl, hbow, ko4.put _ hK4 rfl, below_put hB4 hDw hK4 _⟩
  case stop =>
   rintro D c pre W _ _ h _
   exact h.elim
end
section
open Go.RowKit Go.Sort
theorem made_rowB {w : World} {B e g n : Nat} (h : w.ownsRow B e 1 (.slice (some ⟨g, 0, none⟩) n n) n (madeCells (Value.bool false).cells (n * 1)).toList) : VRow w g e (List.replicate n (.bool false)) := by
 have := own_vrowJ h
 rw [show (Value.bool false).cells = #[Value.bool false] from rfl, toList_madeCells_one, Nat.mul_one] at this
 exact this
def RetRpB (v : Bool) (m : Nat) (w : World) (e : Ending) (w' : World) : Prop :=
 ∃ g, e = .returned (.slice (some ⟨g, 0, none⟩) m m) ∧ w.heap.size ≤ g ∧ VRow w' g 4 (List.replicate m (.bool v)) ∧ RowKit.Below w.heap.size w w'
theorem copy_toB {w w1 : World} {B off n m c : Nat} {sp : Addr} {R cs : List Value} (hs : Option.map (fun x => x.size) (Tryz.prog.info? 4) = some 1) (hr : VRow w1 B 4 R) (hB : RowKit.Below w.heap.size w w1) (hb : w.heap.size ≤ B)
  (hn : cs.length = min m n) (hsrc : ∀ (j : Nat) (v : Value), cs[j]? = some v → w1.cell? (sp.add j) = some v) (hfit : off + cs.length ≤ R.length) (h1 : ∀ v ∈ cs, v.oneCell' = true) (d : Nat) :
  ∃ w2, (Builtin.copy_ #[90, 90] 3 #[.slice (some ⟨B, off, none⟩) n d, .slice (some sp) m c]).run Tryz.prog w1 = .ok (goInt cs.length) w2 ∧ VRow w2 B 4 (splice R off cs) ∧ RowKit.Below w.heap.size w w2 := by
 have h := run_copy_row Tryz.prog w1 90 90 3 4 B off n d sp m c R.toArray 4 cs Tryz.underlying90 hs hr hn hsrc (by simpa using hfit) h1
 refine ⟨_, h, ?_, below_setRow hB hb _⟩
 have hh := setRow_heap w1 B R.toArray (R.toArray.toList.take off ++ cs ++ R.toArray.toList.drop (off + cs.length)).toArray 4 (0, 0) hr
 unfold VRow
 refine hh.trans ?_
 unfold splice
 rw [List.append_assoc]
theorem rep_firstB (x : Bool) (b o c m : Nat) (w w1 : World) (hs : Option.map (fun x => x.size) (Tryz.prog.info? 4) = some 1) (hx : w1.cell? ⟨b, o, none⟩ = some (.bool x)) (hr : VRow w1 w.heap.size 4 (List.replicate m (.bool false))) (hB : RowKit.Below w.heap.size w w1) :
  ∃ w2, (Builtin.copy_ #[90, 90] 3 #[.slice (some ⟨w.heap.size, 0, none⟩) m m, .slice (some ⟨b, o, none⟩) 1 c]).run Tryz.prog w1 = .ok (goInt (min 1 m : Nat)) w2 ∧ VRow w2 w.heap.size 4 (List.replicate (min 1 m) (.bool x) ++ List.replicate (m - min 1 m) (.bool false)) ∧ RowKit.Below w.heap.size w w2 := by
 have hk : min 1 m = 0 ∨ min 1 m = 1 := by omega
 have hkm : min 1 m ≤ m := by omega
 generalize hke : min 1 m = k at *
 obtain ⟨w2, h2, h3, h4⟩ := copy_toB (c := c) (n := m) (m := 1) (off := 0) (cs := List.replicate k (.bool x)) hs hr hB (Nat.le_refl _) (by rw [List.length_replicate]; omega) (fun j v hv => one_src hx j v (by
  rcases hk with e | e
  ·subst e; simp at hv
  ·subst e; exact hv)) (by rw [List.length_replicate, List.length_replicate]; omega) (by intro v hv; rw [List.eq_of_mem_replicate hv]; rfl) m
 rw [List.length_replicate] at h2
 refine ⟨w2, h2, ?_, h4⟩
 have e := rep_splice (.bool x) (.bool false) 0 m k (by omega)
 rw [Nat.zero_add, List.replicate_zero, List.nil_append, Nat.sub_zero] at e
 rw [← e]; exact h3
theorem rep_nextB (x : Bool) (n m : Nat) (w w1 : World) (hs : Option.map (fun x => x.size) (Tryz.prog.info? 4) = some 1) (hr : VRow w1 w.heap.size 4 (List.replicate n (.bool x) ++ List.replicate (m - n) (.bool false))) (hB : RowKit.Below w.heap.size w w1) (h1 : 1 ≤ n) (h2 : n < m) :
  ∃ w2 k, 1 ≤ k ∧ n + k ≤ m ∧ (Builtin.copy_ #[90, 90] 3 #[.slice (some ⟨w.heap.size, n, none⟩) (m - n) (m - n), .slice (some ⟨w.heap.size, 0, none⟩) n m]).run Tryz.prog w1 = .ok (goInt k) w2 ∧ VRow w2 w.heap.size 4 (List.replicate (n + k) (.bool x) ++ List.replicate (m - (n + k)) (.bool false)) ∧ RowKit.Below w.heap.size w w2 := by
 obtain ⟨k, hk⟩ : ∃ k, k = min n (m - n) := ⟨_, rfl⟩
 have hk1 : 1 ≤ k ∧ n + k ≤ m ∧ k ≤ n := by omega
 obtain ⟨w2, h5, h3, h4⟩ := copy_toB (c := m) (n := m - n) (m := n) (off := n) (sp := ⟨w.heap.size, 0, none⟩) (cs := List.replicate k (.bool x)) hs hr hB (Nat.le_refl _) (by rw [List.length_replicate, hk]) (by
  intro j v hv
  rw [List.getElem?_replicate] at hv
  split at hv
  ·cases hv
   rw [show (⟨w.heap.size, 0, none⟩ : Addr).add j = ⟨w.heap.size, 0 + j, none⟩ by unfold Addr.add; split <;> simp_all, Nat.zero_add, hr.cell, List.getElem?_append_left (by simp; omega), List.getElem?_replicate, if_pos (by omega)]
  ·cases hv) (by simp; omega) (by intro v hv; rw [List.eq_of_mem_replicate hv]; rfl) (m - n)
 rw [List.length_replicate] at h5
 refine ⟨w2, k, hk1.1, hk1.2.1, h5, ?_, h4⟩
 rw [← rep_splice (.bool x) (.bool false) n m k hk1.2.1]; exact h3
set_option maxRecDepth 100000 in
set_option maxHeartbeats 1000000 in
theorem repeatB_any (x : Bool) (b o c m : Nat) (w : World) (hx : w.cell? ⟨b, o, none⟩ = some (.bool x)) (h2 : m ≤ 100000) :
  Calls Tryz.prog 183 #[.slice (some ⟨b, o, none⟩) 1 c, .int .i64 m] w (RetRpB x m w) := by
 obtain ⟨i0, hi0, hz0, hz1, hz3⟩ := info_parts infoBl
 have hb : b < w.heap.size := World.block_lt_of_cell? w _ hx
 have hsz1 : Option.map (fun x => x.size) (Tryz.prog.info? 4) = some 1 := by rw [hi0]; simp [hz1]
 have hmn : ¬ (m : Int) < 0 := by omega
 have e1 : ((1 : Nat) * m / 18446744073709551616 : Nat) = 0 := by omega
 have e2 : ((1 : Nat) * m % 18446744073709551616 : Nat) = m := by omega
 have HM : Hid (∀ W, Calls Tryz.prog 174 #[.int .u64 1, .int .u64 m] W fun e w' => e = .returned (.tuple #[.int .u64 0, .int .u64 m]) ∧ w' = W) := fun W => by
  have := Tryz.bits_Mul 1 m (by omega) (by omega) W
  rw [e1, e2] at this
  exact this
 have hwi : IntKind.i64.wrap (m : Int) = m := by rw [IntKind.wrap_i64]; omega
 have hwu : IntKind.u64.wrap (m : Int) = m := by rw [IntKind.wrap_u64]; omega
 clear e1 e2
 go_enter Tryz.func183, Tryz.ntmps183
 go_wp2_with fail
 refine (HM.out _).mono ?_
 rintro e w2 ⟨rfl, hw2⟩
 have hw2 := hw2.symm
 subst hw2
 have hms : ¬ (9223372036854775807 : Int) < (m : Int) := by omega
 go_wp2_with (at_make; refine wpList_make_full _ rfl _ _ 90 rfl w.heap.size 4 i0 (.bool false) 1 Tryz.underlying90 hi0 hz0 hz1 .i64 .i64 _ _ m rfl rfl (by omega) (by omega) (by rw [hz3]; omega) (by unfold maxLen; omega) (Nat.le_refl _) ?_; intro w1 hown hgrow)
 obtain ⟨w2, hrun, hr2, hB2⟩ := rep_firstB x b o c m w w1 hsz1 (hgrow.cell hx (by simp)) (made_rowB hown) ((RowKit.Below.refl w.heap.size w).grown hgrow (Nat.le_refl _) (by simp))
 rw [hrun]
 clear hown hgrow hrun hx
 go_wp2
 go_loopw [8] (fun iv wr => ∃ n : Nat, (1 ≤ n ∨ m = 0) ∧ n ≤ m ∧ iv = .int .i64 n ∧ VRow wr w.heap.size 4 (List.replicate n (.bool x) ++ List.replicate (m - n) (.bool false)) ∧ RowKit.Below w.heap.size w wr) (fun iv _ => m - (intOf iv).toNat)
 case atStart => exact ⟨min 1 m, by omega, by omega, by simp, hr2, hB2⟩
 case round =>
  clear hr2 hB2
  obtain ⟨n, hn1, hnm, rfl, hr, hB⟩ := hrel
  by_cases hlt : n < m
  ·replace hn1 : 1 ≤ n := by omega
   have hltI : (n : Int) < (m : Int) := by omega
   go_upto_region 9 with fail
   obtain ⟨w3, k, hk1, hk2, hrun, hr3, hB3⟩ := rep_nextB x n m w wr.drew hsz1 (hr.dr ⟨1, rfl⟩) (hB.trans ((show Dr wr wr.drew from ⟨1, rfl⟩).below _)) hn1 hlt
   clear hr hB
   have hwk : IntKind.i64.wrap ((n : Int) + (k : Int)) = (n : Int) + k := by rw [IntKind.wrap_i64]; omega
   have hle0 : (0 : Int) ≤ n := by omega
   have hmne : ¬ m = n := by omega
   have hle1 : (n : Int) ≤ m := by omega
   go_region_law (refine step_copy_run rfl (.tmp 41) (.tmp 44) 90 90 rfl (.slice (some ⟨w.heap.size, n, none⟩) (m - n) (m - n)) (.slice (some ⟨w.heap.size, 0, none⟩) n m) (by simp [Act.eval, Act.put, hmne]) (by simp [Act.eval, Act.put, hmne]) (.int .i64 (k : Int)) w3 hrun ?_)
   go_wp2
   go_roundw
   case rel => (repeat apply Exists.intro); exact ⟨⟨n + k, by omega, hk2, by go_num, hr3, hB3⟩, rfl⟩
   case measure => simp [intOf, Act.put]; omega
  ·obtain rfl : n = m := by omega
   have hltI : ¬ (n : Int) < (n : Int) := by omega
   go_wp2
   go_ret
   rw [Nat.sub_self, List.replicate_zero, List.append_nil] at hr
   exact ⟨w.heap.size, rfl, Nat.le_refl _, hr, hB⟩
end
section
open Go.RowKit Go.Sort Go.Shelf
theorem allEq_bool : ∀ l m : List Bool, Lib.allEq (fun x y => x == y) l m = decide (l = m)
 | [], [] => rfl
 | [], _ :: _ => rfl
 | _ :: _, [] => rfl
 | x :: xs, y :: ys => by
  have h := allEq_bool xs ys
  unfold Lib.allEq
  rw [h]
  by_cases e : x = y
  ·subst e; simp
  ·simp [e]
theorem equalB_any (F H : List Bool) (b1 b2 c d : Nat) (w : World) (h1 : VRow w b1 4 (F.map Value.bool)) (h2 : VRow w b2 4 (H.map Value.bool)) (hl : F.length ≤ 100000) (hm : H.length ≤ 100000) :
  Calls Tryz.prog 140 #[.slice (some ⟨b1, 0, none⟩) F.length c, .slice (some ⟨b2, 0, none⟩) H.length d] w fun e w' => e = .returned (.bool (decide (F = H))) ∧ Dr w w' := by
 refine (Tryz.slices_Equal_f140 Value.bool (fun x y => x == y) (NeqAt.bool 4 Tryz.underlying4) b1 0 F.length c b2 0 H.length d F H w (Nat.le_refl _) (Nat.le_refl _) (by omega) (by omega)
  (fun j hj => by rw [Nat.zero_add, h1.cell]; simp [hj]) (fun j hj => by rw [Nat.zero_add, h2.cell]; simp [hj])).mono ?_
 rintro e w' ⟨rfl, hD⟩
 rw [List.take_length, List.take_length, allEq_bool]
 exact ⟨rfl, hD⟩
structure KpA (w : World) (G : Gr) (p : Option Addr) (c M : Nat) (d9 : Bool) (f4 f10 f11 : Option Value) (W : World) : Prop where
 b : RowKit.Below w.heap.size w W
 g : VRow W w.heap.size 24 [.int .i64 G.q, .int .i64 G.n, .slice p G.es.length c]
 s : ∀ v, f4 = some v → ∃ b, v = .slice (some ⟨b, 0, none⟩) 1 1 ∧ VRow W b 4 [.bool true]
 k : ∀ v, f10 = some v → ∃ b, v = .slice (some ⟨b, 0, none⟩) M M ∧ w.heap.size ≤ b ∧ VRow W b 4 (List.replicate M (.bool true))
 x : ∀ v, f11 = some v → ∃ b, f10 = some (.slice (some ⟨b, 0, none⟩) M M) ∧ v = (.agg #[.int .i64 G.q, .int .i64 G.n, .slice p G.es.length c, .slice (some ⟨b, 0, none⟩) M M])
 r0 : d9 = false → VRow W (w.heap.size + 1) 92 [.int .i64 0, .int .i64 0, .slice none 0 0, .slice none 0 0]
 r1 : d9 = true → ∃ b, f10 = some (.slice (some ⟨b, 0, none⟩) M M) ∧ VRow W (w.heap.size + 1) 92 [.int .i64 G.q, .int .i64 G.n, .slice p G.es.length c, .slice (some ⟨b, 0, none⟩) M M]
section
variable {w : World} {G : Gr} {p : Option Addr} {c M : Nat} {d9 : Bool} {f4 f10 f11 : Option Value} {W W' : World} {b : Nat}
theorem KpA.below (h : KpA w G p c M d9 f4 f10 f11 W) (hB : RowKit.Below W.heap.size W W') : KpA w G p c M d9 f4 f10 f11 W' where
 b := h.b.trans (hB.mono h.b.size)
 g := h.g.below hB h.g.lt
 s := fun v hv => by obtain ⟨b, e, r⟩ := h.s v hv; exact ⟨b, e, r.below hB r.lt⟩
 k := fun v hv => by obtain ⟨b, e, h1, r⟩ := h.k v hv; exact ⟨b, e, h1, r.below hB r.lt⟩
 x := h.x
 r0 := fun e => (h.r0 e).below hB (h.r0 e).lt
 r1 := fun e => by obtain ⟨b, e1, r⟩ := h.r1 e; exact ⟨b, e1, r.below hB r.lt⟩
theorem KpA.one (h : KpA w G p c M d9 none f10 f11 W) : KpA w G p c M d9 (some (.slice (some ⟨W.heap.size, 0, none⟩) 1 1)) f10 f11 (W.alloc (.cells #[.bool true] 4)) :=
 { h.below ((RowKit.Below.refl W.heap.size W).alloc (Nat.le_refl _) _) with s := fun v hv => ⟨W.heap.size, by cases hv; rfl, VRow.new W _ _⟩ }
theorem KpA.rep {v : Value} (h : KpA w G p c M false f4 none none W) (hB : RowKit.Below W.heap.size W W') (hv : v = .slice (some ⟨b, 0, none⟩) M M) (hb : W.heap.size ≤ b) (hr : VRow W' b 4 (List.replicate M (.bool true))) : KpA w G p c M false f4 (some v) none W' :=
 { h.below hB with k := fun u hu => ⟨b, by cases hu; exact hv, Nat.le_trans h.b.size hb, hr⟩, x := (fun _ e => by cases e), r1 := (fun e => by cases e) }
theorem KpA.build (h : KpA w G p c M d9 f4 (some (.slice (some ⟨b, 0, none⟩) M M)) none W) : KpA w G p c M d9 f4 (some (.slice (some ⟨b, 0, none⟩) M M)) (some (.agg #[.int .i64 G.q, .int .i64 G.n, .slice p G.es.length c, .slice (some ⟨b, 0, none⟩) M M])) W :=
 { h with x := fun u hu => ⟨b, rfl, by cases hu; rfl⟩ }
theorem KpA.store (h : KpA w G p c M false f4 (some (.slice (some ⟨b, 0, none⟩) M M)) f11 W) :
  KpA w G p c M true f4 (some (.slice (some ⟨b, 0, none⟩) M M)) f11 ((((W.setCell ⟨w.heap.size + 1, 0, none⟩ (.int .i64 G.q)).setCell ⟨w.heap.size + 1, 1, none⟩ (.int .i64 G.n)).setCell ⟨w.heap.size + 1, 2, none⟩ (.slice p G.es.length c)).setCell ⟨w.heap.size + 1, 3, none⟩ (.slice (some ⟨b, 0, none⟩) M M)) := by
 have r0 := h.r0 rfl
 have r4 := VRow.set (i := 3) (.slice (some ⟨b, 0, none⟩) M M) (VRow.set (i := 2) (.slice p G.es.length c) (VRow.set (i := 1) (.int .i64 G.n) (VRow.set (i := 0) (.int .i64 G.q) r0)))
 exact { h with
  b := (((h.b.setCell (p := ⟨w.heap.size + 1, 0, none⟩) (by simp) _).setCell (p := ⟨w.heap.size + 1, 1, none⟩) (by simp) _).setCell (p := ⟨w.heap.size + 1, 2, none⟩) (by simp) _).setCell (p := ⟨w.heap.size + 1, 3, none⟩) (by simp) _
  g := (((h.g.other _ (by omega)).other _ (by omega)).other _ (by omega)).other _ (by omega)
  s := fun v hv => by
   obtain ⟨b', e, r⟩ := h.s v hv
   have hne := row_ne r r0 (by decide)
   exact ⟨b', e, (((r.other _ hne).other _ hne).other _ hne).other _ hne⟩
  k := fun v hv => by
   obtain ⟨b', e, h1, r⟩ := h.k v hv
   have hne := row_ne r r0 (by decide)
   exact ⟨b', e, h1, (((r.other _ hne).other _ hne).other _ hne).other _ hne⟩
  r0 := (fun e => by cases e)
  r1 := fun _ => ⟨b, rfl, r4⟩ }
end
set_option maxRecDepth 100000 in
set_option maxHeartbeats 2000000 in
theorem mmAll_any (G : Gr) (p : Option Addr) (c N : Nat) (w : World) (hN : G.n = N) (hN64 : N ≤ 64) :
  Calls Tryz.prog 139 #[(.agg #[.int .i64 G.q, .int .i64 G.n, .slice p G.es.length c])] w (RetPs G p c (N * N) (allF2 N) w) := by
 obtain ⟨M, hM⟩ : ∃ M, M = N * N := ⟨_, rfl⟩
 have hM4 : M ≤ 4096 := by rw [hM]; exact Nat.mul_le_mul hN64 hN64
 have hMI : (N : Int) * (N : Int) = (M : Int) := by rw [hM]; simp
 have HA : Hid (allF2 N = List.replicate M true) := by rw [Hid, hM]; rfl
 rw [← hM]
 obtain ⟨w0, hw0⟩ : ∃ w0, w0 = (w.alloc (.cells #[.int .i64 G.q, .int .i64 G.n, .slice p G.es.length c] 24)).alloc (.cells #[.int .i64 0, .int .i64 0, .slice none 0 0, .slice none 0 0] 92) := ⟨_, rfl⟩
 have b0 : VRow w0 w.heap.size 24 [.int .i64 G.q, .int .i64 G.n, .slice p G.es.length c] := by subst hw0; exact (VRow.new w _ _).alloc _
 have b1 : VRow w0 (w.heap.size + 1) 92 [.int .i64 0, .int .i64 0, .slice none 0 0, .slice none 0 0] := by subst hw0; exact VRow.new1 w _ _ _
 have hB0 : RowKit.Below w.heap.size w w0 := by subst hw0; exact ((RowKit.Below.refl _ _).alloc (Nat.le_refl _) _).alloc (by simp) _
 have q1 : IntKind.i64.wrap ((N : Int) * (N : Int)) = (M : Int) := by rw [hMI]; exact IntWalk.i64_in _ (by omega)
 have HN := hidI hN
 clear hN hM hMI
 go_enter Tryz.func139, Tryz.ntmps139
 go_upto_region 1 with fail
 rw [← hw0]
 clear hw0
 refine region_detW (by kernel_rfl) 10 [(some 3, some (.agg #[.int .i64 G.q, .int .i64 G.n, .slice p G.es.length c])), (some 4, none), (some 5, some (.pointer (some ⟨w.heap.size, 1, none⟩))), (some 6, some (.int .i64 (N : Int))), (some 7, some (.pointer (some ⟨w.heap.size, 1, none⟩))), (some 8, some (.int .i64 (N : Int))), (some 9, some (.int .i64 (M : Int))), (some 10, none), (some 11, none), (none, none)]
  (fun d f W => KpA w G p c M (d 9) (f 4) (f 10) (f 11) W) (by kernel_rfl) (by kernel_rfl) (by kernel_rfl) (by kernel_rfl)
  ⟨below_dN hB0 1, b0, (fun _ e => by cases e), (fun _ e => by cases e), (fun _ e => by cases e), fun _ => b1, (fun e => by cases e)⟩ ?_ ?_
 focus
  intro i o ho a d f W hS hdi hdn hnd hdep hout hold K hK
  have hil : i < 10 := (Array.getElem?_eq_some_iff.1 ho).1
  have hcases : i = 0 ∨ i = 1 ∨ i = 2 ∨ i = 3 ∨ i = 4 ∨ i = 5 ∨ i = 6 ∨ i = 7 ∨ i = 8 ∨ i = 9 := by omega
  clear hil
  have u1 := hout 1 (by kernel_rfl)
  have u2 := hout 2 (by kernel_rfl)
  simp at u1 u2
  clear hout
  have f0 := hS.g.at 0 rfl; have f2 := hS.g.at 2 rfl
  rcases hcases with rfl | rfl | rfl | rfl | rfl | rfl | rfl | rfl | rfl | rfl
  all_goals (simp only [List.getElem?_toArray, List.getElem?_cons_succ, List.getElem?_cons_zero, Option.some.injEq] at ho; subst ho; simp [Region.binds] at hdep; (try go_split_ands))
  ·have f1 := hS.g.at 1 rfl
   go_simp; exact hK _ _ (fun u hu => Option.some.inj hu) hS
  ·have h4 := (hold 1 (by kernel_rfl) _ rfl 4 rfl).1
   have h := hS
   rw [h4] at h
   have hfin := h.one
   go_simp
   exact hK _ _ (fun u hu => by cases hu) hfin
  ·go_simp; exact hK _ _ (fun u hu => Option.some.inj hu) hS
  ·have f1 := hS.g.at 1 rfl
   rw [HN.out] at f1
   go_simp; exact hK _ _ (fun u hu => Option.some.inj hu) hS
  ·go_simp; exact hK _ _ (fun u hu => Option.some.inj hu) hS
  ·have f1 := hS.g.at 1 rfl
   rw [HN.out] at f1
   go_simp; exact hK _ _ (fun u hu => Option.some.inj hu) hS
  ·go_simp; exact hK _ _ (fun u hu => Option.some.inj hu) hS
  ·obtain ⟨v, hv, hat⟩ : ∃ v, f 4 = some v ∧ a.tmps[4]? = some v := by assumption
   obtain ⟨b, rfl, hr⟩ := hS.s v hv
   have h10 := (hold 7 (by kernel_rfl) _ rfl 10 rfl).1
   have h11 := (hold 8 (by kernel_rfl) _ rfl 11 rfl).1
   have e9 := hnd 9 (by kernel_rfl)
   have HR := hidI (repeatB_any true b 0 1 M W (hr.at 0 rfl) (by omega))
   clear hv hr
   go_simp
   refine HR.out.mono ?_
   rintro e wk ⟨g, rfl, hg, hrow, hBk⟩
   have h := hS
   rw [e9, h10, h11] at h
   have hfin := h.rep hBk rfl hg hrow
   exact hK _ _ (fun u hu => by cases hu) (by
    show KpA _ _ _ _ _ (d 9) (f 4) (some _) (f 11) wk
    rw [e9, h11]; exact hfin)
  ·obtain ⟨v, hv, hat⟩ : ∃ v, f 10 = some v ∧ a.tmps[10]? = some v := by assumption
   obtain ⟨b, rfl, _⟩ := hS.k v hv
   have h11 := (hold 8 (by kernel_rfl) _ rfl 11 rfl).1
   have h := hS
   rw [hv, h11] at h
   have hfin := h.build
   have HV1 := hidI hv
   clear hv
   go_simp
   exact hK _ _ (fun u hu => by cases hu) (by
    show KpA _ _ _ _ _ (d 9) (f 4) (f 10) (some _) W
    rw [HV1.out]; exact hfin)
  ·obtain ⟨u, hu, hau⟩ : ∃ v, f 11 = some v ∧ a.tmps[11]? = some v := by assumption
   have e9 : d 9 = false := hdi
   obtain ⟨b, h10, rfl⟩ := hS.x u hu
   have h := hS
   rw [e9, h10] at h
   have hzr := h.r0 rfl
   have k0 := hzr.at 0 rfl; have k1 := hzr.at 1 rfl; have k2 := hzr.at 2 rfl; have k3 := hzr.at 3 rfl
   have z0 := hzr.frozen 0; have z1 := hzr.frozen 1; have z2 := hzr.frozen 2; have z3 := hzr.frozen 3
   have hfin := h.store
   have HU1 := hidI h10
   clear hzr h hu h10
   go_simp
   exact hK undef _ (fun u hu => by cases hu) (by
    show KpA _ _ _ _ _ true (f 4) (f 10) (f 11) _
    rw [HU1.out]; exact hfin)
 intro d f W9 hS hall hf
 obtain ⟨b, h10, hrow⟩ := hS.r1 (hall 9 (by decide))
 obtain ⟨b', e', hbb, hrb⟩ := hS.k _ h10
 cases e'
 have y0 := hrow.at 0 rfl; have y1 := hrow.at 1 rfl; have y2 := hrow.at 2 rfl; have y3 := hrow.at 3 rfl
 have hBl := hS.b
 simp only [putsD, List.filterMap_cons, List.filterMap_nil, Option.map_some, Option.map_none, Option.getD_some, Option.getD_none, List.foldl_cons, List.foldl_nil, Act.put, List.setIfInBounds_toArray, List.set_cons_zero, List.set_cons_succ]
 generalize (f 4).getD undef = v4
 generalize (f 10).getD undef = v10
 generalize (f 11).getD undef = v11
 clear hf hS h10
 go_wp2
 refine bodyPost_ret (v := (.agg #[.int .i64 G.q, .int .i64 G.n, .slice p G.es.length c, .slice (some ⟨b, 0, none⟩) M M])) (by simp [results, Tryz.results139, go_sem, y0, y1, y2, y3]) rfl ?_
 exact ⟨b, rfl, hbb, by rw [HA.out, List.map_replicate]; exact hrb, hBl⟩
end
section
open Go.RowKit Go.Sort Go.Shelf
theorem lstA_hit {st : List Bool → List Bool} {pr : List Bool → Bool} {f n : Nat} {F : List Bool} (h : pr F = false) : lstA st pr (f + 1) n F = ((n : Int), true) := by unfold lstA; rw [if_pos h]
theorem lstA_stay {st : List Bool → List Bool} {pr : List Bool → Bool} {f n : Nat} {F : List Bool} (h : pr F = true) (h2 : st F = F) : lstA st pr (f + 1) n F = (0, false) := by unfold lstA; rw [if_neg (by simp [h]), if_pos h2]
theorem lstA_next {st : List Bool → List Bool} {pr : List Bool → Bool} {f n : Nat} {F : List Bool} (h : pr F = true) (h2 : st F ≠ F) : lstA st pr (f + 1) n F = lstA st pr f (n + 1) (st F) := by rw [lstA, if_neg (by simp [h]), if_neg h2]
def StepAt (G : Gr) (p : Option Addr) (c M : Nat) (stF : List Bool → List Bool) (st : Nat) (w : World) : Prop := ∀ (F : List Bool) (b : Nat) (W : World), F.length = M → RowKit.Below w.heap.size w W → VRow W b 4 (F.map Value.bool) → Calls Tryz.prog st #[(.agg #[.int .i64 G.q, .int .i64 G.n, .slice p G.es.length c, (.slice (some ⟨b, 0, none⟩) M M)])] W (RetPs G p c M (stF F) W)
def PropAt (G : Gr) (p : Option Addr) (c M : Nat) (prF : List Bool → Bool) (pr : Nat) (w : World) : Prop := ∀ (F : List Bool) (b : Nat) (W : World), F.length = M → RowKit.Below w.heap.size w W → VRow W b 4 (F.map Value.bool) → Calls Tryz.prog pr #[(.agg #[.int .i64 G.q, .int .i64 G.n, .slice p G.es.length c, (.slice (some ⟨b, 0, none⟩) M M)])] W fun e w' => e = .returned (.bool (prF F)) ∧ RowKit.Below W.heap.size W w'
set_option maxRecDepth 100000 in
set_option maxHeartbeats 2000000 in
theorem mmLeast_any (G : Gr) (p : Option Addr) (c N M : Nat) (stF : List Bool → List Bool) (prF : List Bool → Bool) (st pr : Nat) (w : World) (hN : G.n = N) (hN64 : N ≤ 64) (hM : M = N * N)
  (e1 : ∀ args w, (callFunc st args).run Tryz.prog w = .ok (.enter st args) w) (e2 : ∀ args w, (callFunc pr args).run Tryz.prog w = .ok (.enter pr args) w)
  (hst : StepAt G p c M stF st w) (hpr : PropAt G p c M prF pr w) (hmon : MonF M stF) :
  Calls Tryz.prog 74 #[(.agg #[.int .i64 G.q, .int .i64 G.n, .slice p G.es.length c]), .func (.func st) #[] #[], .func (.func pr) #[] #[]] w fun e w' => e = .returned (.tuple #[.int .i64 (lstA stF prF (M + 1) 0 (allF2 N)).1, .bool (lstA stF prF (M + 1) 0 (allF2 N)).2]) ∧ RowKit.Below w.heap.size w w' := by
 have hM4 : M ≤ 4096 := by rw [hM]; exact Nat.mul_le_mul hN64 hN64
 obtain ⟨w0, hw0⟩ : ∃ w0, w0 = w.alloc (.cells #[.int .i64 G.q, .int .i64 G.n, .slice p G.es.length c] 24) := ⟨_, rfl⟩
 have b0 : VRow w0 w.heap.size 24 [.int .i64 G.q, .int .i64 G.n, .slice p G.es.length c] := by subst hw0; exact VRow.new w _ _
 have hB0 : RowKit.Below w.heap.size w w0 := by subst hw0; exact (RowKit.Below.refl _ _).alloc (Nat.le_refl _) _
 have HAL := hidI (mmAll_any G p c N w0 hN hN64)
 rw [← hM] at HAL
 have hcn : cntB (allF2 N) ≤ M := by have := cnt_le (allF2 N); rw [hM]; simpa [allF2] using this
 have hch : Hid (Chn M stF (allF2 N)) := by rw [Hid, hM]; exact Chn.all (by rw [← hM]; exact hmon)
 have HST := hidI hst; have HPR := hidI hpr; have HMO := hidI hmon
 obtain ⟨R, hR⟩ : ∃ R, lstA stF prF (M + 1) 0 (allF2 N) = R := ⟨_, rfl⟩
 have HR := hidI hR
 rw [hR]
 have f0 := b0.at 0 rfl; have f1 := b0.at 1 rfl; have f2 := b0.at 2 rfl
 clear hst hpr hmon hR hN hM
 go_enter Tryz.func74, Tryz.ntmps74
 go_upto_region 1 with fail
 rw [← hw0]
 clear hw0
 go_wp2_with fail
 refine HAL.out.mono ?_
 rintro e w1 ⟨ba, rfl, hba, hra, hB1⟩
 have x1 := hB0.trans (hB1.mono hB0.size)
 clear f0 f1 f2 b0 HAL
 obtain ⟨w2, hw2⟩ : ∃ w2, w2 = w1.alloc (.cells #[.int .i64 G.q, .int .i64 G.n, .slice p G.es.length c, (.slice (some ⟨ba, 0, none⟩) M M)] 92) := ⟨_, rfl⟩
 have rx : VRow w2 w1.heap.size 92 [.int .i64 G.q, .int .i64 G.n, .slice p G.es.length c, (.slice (some ⟨ba, 0, none⟩) M M)] := by subst hw2; exact VRow.new w1 _ _
 have hB2 : RowKit.Below w1.heap.size w1 w2 := by subst hw2; exact (RowKit.Below.refl _ _).alloc (Nat.le_refl _) _
 have x2 := x1.trans (hB2.mono x1.size)
 have hra2 := hra.below hB2 hra.lt
 obtain ⟨bx, hbx⟩ : ∃ bx, bx = w1.heap.size := ⟨_, rfl⟩
 have hbxw : w.heap.size ≤ bx := by rw [hbx]; exact x1.size
 rw [← hbx] at rx
 go_upto_region 2 with fail
 rw [← hw2, ← hbx]
 clear hw2 hbx hra hB2 hB1 x1
 go_wp2_with fail
 go_loopw [9] (fun iv wr => ∃ (n : Nat) (F : List Bool) (b : Nat), iv = .int .i64 n ∧ VRow wr bx 92 [.int .i64 G.q, .int .i64 G.n, .slice p G.es.length c, (.slice (some ⟨b, 0, none⟩) M M)] ∧ VRow wr b 4 (F.map Value.bool) ∧ Hid (Chn M stF F) ∧ Hid (lstA stF prF (M + 1 - n) n F = R) ∧ n + cntB F ≤ M ∧ RowKit.Below w.heap.size w wr) (fun iv _ => M + 1 - (intOf iv).toNat)
 case atStart => exact ⟨0, _, ba, rfl, rx, hra2, hch, HR.out, by omega, x2⟩
 case round =>
  clear rx hra2 hch hcn x2
  obtain ⟨n, F, b, rfl, rx, rb, hc, hl, hnc, hB⟩ := hrel
  have hFl := hc.out.len
  have HP := hidI (HPR.out F b wr hFl hB rb)
  have hl' : Hid (lstA stF prF ((M - n) + 1) n F = R) := by rw [Hid, ← hl.out, show M + 1 - n = (M - n) + 1 by omega]
  have g0 := rx.at 0 rfl; have g1 := rx.at 1 rfl; have g2 := rx.at 2 rfl; have g3 := rx.at 3 rfl
  have hnM : n ≤ M := by omega
  by_cases hp : prF F = false
  ·have HX : Hid (R = ((n : Int), true)) := by rw [Hid, ← hl'.out]; exact lstA_hit hp
   rw [hp] at HP
   clear hl hp hFl
   go_wp2_with fail
   refine HP.out.mono ?_
   rintro e w3 ⟨rfl, hB3⟩
   have x3 := hB.trans (hB3.mono hB.size)
   go_wp2
   go_ret2
   rw [HX.out]
   exact ⟨rfl, x3⟩
  ·have hpt : prF F = true := by simpa using hp
   rw [hpt] at HP
   have HSY := hidI (fun h => @lstA_stay stF prF (M - n) n F hpt h)
   have HNX := hidI (fun h => @lstA_next stF prF (M - n) n F hpt h)
   have HS := hidI (fun W (hW : RowKit.Below w.heap.size w W) (r : VRow W b 4 (F.map Value.bool)) => HST.out F b W hFl hW r)
   have HFL := hidI hFl
   have HSL := hidI (HMO.out.len F)
   have HCH := hidI (hc.out.next HMO.out)
   have HLT := hidI (fun h => hc.out.lt h)
   clear hl hp hpt hFl
   go_wp2_with fail
   refine HP.out.mono ?_
   rintro e w3 ⟨rfl, hB3⟩
   have x3 := hB.trans (hB3.mono hB.size)
   have rx3 := rx.below hB3 rx.lt; have rb3 := rb.below hB3 rb.lt
   clear g0 g1 g2 g3 rx rb HP hB hB3
   have g0 := rx3.at 0 rfl; have g1 := rx3.at 1 rfl; have g2 := rx3.at 2 rfl; have g3 := rx3.at 3 rfl
   go_wp2_with fail
   refine (HS.out w3 x3 rb3).mono ?_
   rintro e w4 ⟨b4, rfl, hb4, rb4, hB4⟩
   have x4 := x3.trans (hB4.mono x3.size)
   have rx4 := rx3.below hB4 rx3.lt; have rf4 := rb3.below hB4 rb3.lt
   clear g0 g1 g2 g3 rx3 rb3 hB4 x3 HS
   obtain ⟨w5, hw5⟩ : ∃ w5, w5 = w4.alloc (.cells #[.int .i64 G.q, .int .i64 G.n, .slice p G.es.length c, (.slice (some ⟨b4, 0, none⟩) M M)] 92) := ⟨_, rfl⟩
   have ry : VRow w5 w4.heap.size 92 [.int .i64 G.q, .int .i64 G.n, .slice p G.es.length c, (.slice (some ⟨b4, 0, none⟩) M M)] := by subst hw5; exact VRow.new w4 _ _
   have hB5 : RowKit.Below w4.heap.size w4 w5 := by subst hw5; exact (RowKit.Below.refl _ _).alloc (Nat.le_refl _) _
   have x5 := x4.trans (hB5.mono x4.size)
   have rx5 := rx4.below hB5 rx4.lt; have rf5 := rf4.below hB5 rf4.lt; have rb5 := rb4.below hB5 rb4.lt
   have hbxl : bx < w4.heap.size := rx4.lt
   obtain ⟨by_, hby⟩ : ∃ by_, by_ = w4.heap.size := ⟨_, rfl⟩
   rw [← hby] at ry hbxl
   go_upto_region 7 with fail
   rw [← hw5, ← hby]
   clear hw5 hby rx4 rf4 rb4 hB5 x4
   have HEQ := hidI (equalB_any (stF F) F b4 b M M w5 rb5 rf5 (by have := HSL.out; omega) (by have := HFL.out; omega))
   rw [HSL.out, HFL.out] at HEQ
   have g3 := rx5.at 3 rfl; have k3 := ry.at 3 rfl
   generalize hF2 : stF F = F2 at *
   by_cases heq : F2 = F
   ·have HX : Hid (R = (0, false)) := by rw [Hid, ← hl'.out]; exact HSY.out heq
    rw [decide_eq_true heq] at HEQ
    clear HSY HNX heq hF2
    go_wp2_with fail
    refine HEQ.out.mono ?_
    rintro e w6 ⟨rfl, hD6⟩
    have x6 := x5.trans ((hD6.below _).mono x5.size)
    go_wp2
    go_ret2
    rw [HX.out]
    exact ⟨rfl, x6⟩
   ·have HX : Hid (lstA stF prF (M + 1 - (n + 1)) (n + 1) F2 = R) := by rw [Hid, ← hl'.out, HNX.out heq, show M + 1 - (n + 1) = M - n by omega]
    have hlt := HLT.out heq
    rw [decide_eq_false heq] at HEQ
    clear HSY HNX HLT heq hF2
    go_wp2_with fail
    refine HEQ.out.mono ?_
    rintro e w6 ⟨rfl, hD6⟩
    have x6 := x5.trans ((hD6.below _).mono x5.size)
    have rx6 := rx5.dr hD6; have ry6 := ry.dr hD6; have rb6 := rb5.dr hD6
    clear g3 k3 rx5 ry rb5 rf5 HEQ x5
    have g0 := rx6.at 0 rfl; have g1 := rx6.at 1 rfl; have g2 := rx6.at 2 rfl; have g3 := rx6.at 3 rfl
    have k0 := ry6.at 0 rfl; have k1 := ry6.at 1 rfl; have k2 := ry6.at 2 rfl; have k3 := ry6.at 3 rfl
    have z0 := rx6.frozen 0; have z1 := rx6.frozen 1; have z2 := rx6.frozen 2; have z3 := rx6.frozen 3
    have r4 := VRow.set (i := 3) (.slice (some ⟨b4, 0, none⟩) M M) (VRow.set (i := 2) (.slice p G.es.length c) (VRow.set (i := 1) (.int .i64 G.n) (VRow.set (i := 0) (.int .i64 G.q) rx6)))
    have hne := row_ne rb6 rx6 (by decide)
    have rb7 := (((rb6.other (i := 0) (.int .i64 G.q) hne).other (i := 1) (.int .i64 G.n) hne).other (i := 2) (.slice p G.es.length c) hne).other (i := 3) (.slice (some ⟨b4, 0, none⟩) M M) hne
    have x7 := (((x6.setCell hbxw (.int .i64 G.q) (p := ⟨bx, 0, none⟩)).setCell hbxw (.int .i64 G.n) (p := ⟨bx, 1, none⟩)).setCell hbxw (.slice p G.es.length c) (p := ⟨bx, 2, none⟩)).setCell hbxw (.slice (some ⟨b4, 0, none⟩) M M) (p := ⟨bx, 3, none⟩)
    clear rx6 ry6 rb6
    go_wp2
    go_roundw
    case rel => exact ⟨n + 1, F2, b4, by go_num, r4, rb7, HCH, HX, by omega, x7⟩
    case measure => simp [intOf]; omega
end
section
open Go.RowKit Go.Shelf
theorem difB_no {N : Nat} {F : List Bool} (h : ∀ s : Nat, s < N → ∀ t : Nat, t < N → s ≠ t → lkB F (pix N s t) = false) : difB N F = false := by
 unfold difB
 rw [List.any_eq_false]
 intro s hs
 rw [Bool.not_eq_true, List.any_eq_false]
 intro t ht
 by_cases e : s = t
 ·simp [e]
 ·simp [h s (List.mem_range.1 hs) t (List.mem_range.1 ht) e]
theorem difB_yes {N s t : Nat} {F : List Bool} (hs : s < N) (ht : t < N) (hne : s ≠ t) (h : lkB F (pix N s t) = true) : difB N F = true := by
 unfold difB
 exact List.any_eq_true.2 ⟨s, List.mem_range.2 hs, List.any_eq_true.2 ⟨t, List.mem_range.2 ht, by simp [hne, h]⟩⟩
set_option maxRecDepth 100000 in
set_option maxHeartbeats 1000000 in
theorem mmDiffers_any (G : Gr) (p : Option Addr) (c : Nat) (n : Nat) (pb : Option Addr) (M cb : Nat) (F : List Bool) (N : Nat) (hN : G.n = N) (hN64 : N ≤ 64) (hM : M = N * N) (hF : F.length = M) (w : World) (hs : SlB n w pb F) :
  Calls Tryz.prog 76 #[(.agg #[.int .i64 G.q, .int .i64 G.n, .slice p G.es.length c, .slice pb M cb])] w fun e w' => e = .returned (.bool (difB N F)) ∧ RowKit.Below w.heap.size w w' := by
 obtain ⟨w0, hw0⟩ : ∃ w0, w0 = w.alloc (.cells #[.int .i64 G.q, .int .i64 G.n, .slice p G.es.length c, .slice pb M cb] 92) := ⟨_, rfl⟩
 have b0 : VRow w0 w.heap.size 92 [.int .i64 G.q, .int .i64 G.n, .slice p G.es.length c, .slice pb M cb] := by subst hw0; exact VRow.new w _ _
 have hB0 : RowKit.Below w.heap.size w w0 := by subst hw0; exact (RowKit.Below.refl _ _).alloc (Nat.le_refl _) _
 have HH := hidI (fun (s t : Nat) W (hs' : s < N) (ht : t < N) (hB : RowKit.Below w0.heap.size w0 W) => mmHas_any G p c n pb M cb F N hN hN64 hM hF s t (by omega) (by omega) (by omega) (by omega) W ((hs.below hB0).below hB))
 have eg : ∀ args w, (callFunc 94 args).run Tryz.prog w = .ok (.enter 94 args) w := enters_of Tryz.func94 (by kernel_rfl) rfl
 have f0 := b0.at 0 rfl; have f1 := b0.at 1 rfl; have f2 := b0.at 2 rfl; have f3 := b0.at 3 rfl
 have HN := hidI hN
 have HNO := hidI (@difB_no N F)
 have HYES := hidI (fun s t h1 h2 h3 h4 => @difB_yes N s t F h1 h2 h3 h4)
 generalize difB N F = D at *
 clear hs hF hN hM
 go_enter Tryz.func76, Tryz.ntmps76
 go_upto_region 1 with fail
 rw [← hw0]
 clear hw0
 go_upto_region 2 with fail
 clear f0 f1 f2 f3
 have f1 := b0.at 1 rfl
 rw [HN.out] at f1
 go_wp2_with fail
 clear f1
 go_loopw [11] (fun iv wr => ∃ s : Nat, s ≤ N ∧ iv = .int .i64 s ∧ Hid (∀ s' : Nat, s' < s → ∀ t : Nat, t < N → s' ≠ t → lkB F (pix N s' t) = false) ∧ RowKit.Below w0.heap.size w0 wr) (fun iv _ => N - (intOf iv).toNat)
 case atStart => exact ⟨0, by omega, rfl, fun _ h => absurd h (by omega), RowKit.Below.refl _ _⟩
 case round =>
  obtain ⟨s, hsl, rfl, hno, hB⟩ := hrel
  by_cases hlt : s < N
  ·have hltI : (s : Int) < (N : Int) := by omega
   have f1 := (b0.below hB b0.lt).at 1 rfl
   rw [HN.out] at f1
   go_wp2_with fail
   clear f1
   obtain ⟨wo, rfl⟩ : ∃ wo : World, wo = wr := ⟨_, rfl⟩
   go_loopw [17] (fun jv wx => ∃ t : Nat, t ≤ N ∧ jv = .int .i64 t ∧ Hid (∀ t' : Nat, t' < t → s ≠ t' → lkB F (pix N s t') = false) ∧ RowKit.Below w0.heap.size w0 wx) (fun jv _ => N - (intOf jv).toNat)
   case atStart => exact ⟨0, by omega, rfl, fun _ h => absurd h (by omega), hB⟩
   case round =>
    clear hB
    obtain ⟨t, htl, rfl, hno2, hB⟩ := hrel
    by_cases hlt2 : t < N
    ·have hlt2I : (t : Int) < (N : Int) := by omega
     by_cases hst : s = t
     ·have hb : ((s : Int) != (t : Int)) = false := by simp [hst]
      have HNX : Hid (∀ t' : Nat, t' < t + 1 → s ≠ t' → lkB F (pix N s t') = false) := fun t' h1 h2 => hno2.out t' (by omega) h2
      clear hst
      go_wp2_with fail
      go_roundw
      case rel => exact ⟨t + 1, by omega, by go_num, HNX, hB⟩
      case measure => simp [intOf]; omega
     ·have hb : ((s : Int) != (t : Int)) = true := by simp; omega
      have HC := hidI (HH.out s t wr hlt hlt2 hB)
      have HNX : Hid (lkB F (pix N s t) = false → ∀ t' : Nat, t' < t + 1 → s ≠ t' → lkB F (pix N s t') = false) := fun h t' h1 h2 => by
       by_cases e : t' = t
       ·subst e; exact h
       ·exact hno2.out t' (by omega) h2
      have HY := hidI (fun h => HYES.out s t hlt hlt2 hst h)
      generalize lkB F (pix N s t) = v at *
      clear hst
      go_wp2_with fail
      refine HC.out.mono ?_
      rintro e w2 ⟨rfl, hB2⟩
      have x2 := hB.trans (hB2.mono hB.size)
      cases v
      ·have HNY := hidI (HNX.out (by trivial))
       clear HNX HY
       go_wp2_with fail
       go_roundw
       case rel => exact ⟨t + 1, by omega, by go_num, HNY, x2⟩
       case measure => simp [intOf]; omega
      ·have HD := hidI (HY.out (by trivial))
       clear HNX HY
       go_wp2
       go_ret
       exact ⟨ret_bool HD.out.symm, hB0.trans (x2.mono hB0.size)⟩
    ·obtain rfl : t = N := by omega
     have hlt2I : ¬ (t : Int) < (t : Int) := by omega
     have HNX : Hid (∀ s' : Nat, s' < s + 1 → ∀ t' : Nat, t' < t → s' ≠ t' → lkB F (pix t s' t') = false) := fun s' h1 t' h2 h3 => by
      by_cases e : s' = s
      ·subst e; exact hno2.out t' h2 h3
      ·exact hno.out s' (by omega) t' h2 h3
     go_wp2_with fail
     go_roundw
     case rel => exact ⟨s + 1, by omega, by go_num, HNX, hB⟩
     case measure => simp [intOf]; omega
  ·obtain rfl : s = N := by omega
   have hltI : ¬ (s : Int) < (s : Int) := by omega
   have HD := hidI (HNO.out hno.out)
   go_wp2
   go_ret
   exact ⟨ret_bool HD.out.symm, hB0.trans (hB.mono hB0.size)⟩
end
end Go.Proofs.YtocbhlohcikapaaGreatDoor
