/-
  Words, plain lemmas and walks, merged: Base, Gr, Ga, ShelfQ, Gc, Gd, Ge, Gb, Gf, Gg.
-/
import Derived.Below
import Derived.Lib.Slices
import Derived.Lib.SlicesS
import Derived.Lib.Bytealg
import Derived.Deep.QuietTactic
import Derived.WalkKit
import Derived.StillTailTactics
import Derived.WalkSpells
import Derived.RangeFuncBox
import Derived.RangeFuncNested
import Derived.Test.YtocbhlohcikapaaGreatDoorProg
import Derived.Outline
import Derived.BigQuiet
import Derived.Deep.RegionHeld3
import Derived.Deep.DeepCutAuto
import Derived.Sort.Grow
import Derived.Sort.Row
import Derived.Ground.SlgnProg
import Derived.Ground.SlsfProg
import Derived.Ground.SlgqProg
import Derived.Ground.SlgfProg
import Derived.Shelf.SlicesE.Clone
import Derived.Shelf.SlicesQ.Equal
import Derived.Shelf.SlicesQ.IndexFunc
import Derived.Shelf.SlSortCmp.NoneTotal
import Derived.Shelf.SlicesE.Equal
import Derived.Laws.StructEq
import Derived.Laws.CopyRow
set_option linter.unusedVariables false
set_option linter.unusedSimpArgs false
namespace Go.Proofs.YtocbhlohcikapaaGreatDoor
section
open Go.RowKit
theorem hidI {p : Prop} (h : p) : Hid p := h
theorem ret_int {k : IntKind} {a b : Int} (h : a = b) : Ending.returned (.int k a) = .returned (.int k b) := by rw [h]
theorem ret_bool {a b : Bool} (h : a = b) : Ending.returned (.bool a) = .returned (.bool b) := by rw [h]
def Dr (w w' : World) : Prop := ∃ n, w' = w.drewN n
theorem Dr.refl (w : World) : Dr w w := ⟨0, rfl⟩
theorem Dr.one {w w' : World} (h : Dr w w') (n : Nat) : Dr w (w'.drewN n) := by
 obtain ⟨k, rfl⟩ := h; exact ⟨k + n, by simp [World.drewN, Nat.add_assoc]⟩
theorem Dr.trans {a b c : World} (h : Dr a b) (k : Dr b c) : Dr a c := by
 obtain ⟨n, rfl⟩ := k; exact h.one n
theorem Dr.below {w w' : World} (h : Dr w w') (B : Nat) : Below B w w' := by
 obtain ⟨k, rfl⟩ := h; exact ⟨rfl, rfl, rfl, Nat.le_refl _, fun _ _ => rfl⟩
theorem Dr.cell {w w' : World} (h : Dr w w') (p : Addr) : w'.cell? p = w.cell? p := by obtain ⟨k, rfl⟩ := h; rfl
def KH (B : Nat) (W W' : World) : Prop := W'.heap[B]? = W.heap[B]?
theorem KH.refl (B : Nat) (W : World) : KH B W W := rfl
theorem KH.trans {B : Nat} {X Y Z : World} (h : KH B X Y) (k : KH B Y Z) : KH B X Z := Eq.trans k h
theorem KH.of_below {B n : Nat} {X Y : World} (h : Below n X Y) (hn : B < n) : KH B X Y := h.block B hn
theorem KH.boxed {B : Nat} {t : TypeId} {v : Value} {W W' : World} (h : KH B W W') (hb : Boxed W B t v) : Boxed W' B t v := Eq.trans h hb
theorem KH.set {B C i : Nat} (W : World) (v : Value) (h : B ≠ C) : KH B W (W.setCell ⟨C, i, none⟩ v) := Below.heap_setCell _ _ _ _ h
theorem below_put {w W : World} {D : Nat} (hB : Below w.heap.size w W) (hD : w.heap.size ≤ D) (hK : W.heap[D]? = some (.deferred (some []))) (o : Obj) : Below w.heap.size w (W.putObj D o) :=
 hB.trans (belowK_b (w := w) (Nat.le_refl _) W D _ o hD hK rfl rfl)
def VRow (W : World) (B t : Nat) (l : List Value) : Prop := W.heap[B]? = some (.cells l.toArray t (0, 0))
theorem VRow.lt {W : World} {B t : Nat} {l : List Value} (h : VRow W B t l) : B < W.heap.size := (Array.getElem?_eq_some_iff.1 h).1
theorem VRow.cell {W : World} {B t : Nat} {l : List Value} (h : VRow W B t l) (i : Nat) : W.cell? ⟨B, i, none⟩ = l[i]? := by
 simp [World.cell?, show W.heap[B]? = _ from h]
theorem VRow.frozen {W : World} {B t : Nat} {l : List Value} (h : VRow W B t l) (i : Nat) : W.frozen? ⟨B, i, none⟩ = false := by
 simp [World.frozen?, show W.heap[B]? = _ from h]
theorem VRow.new (W : World) (t : Nat) (l : List Value) : VRow (W.alloc (.cells l.toArray t)) W.heap.size t l := World.alloc_heap_new W _
theorem VRow.alloc {W : World} {B t : Nat} {l : List Value} (h : VRow W B t l) (o : Obj) : VRow (W.alloc o) B t l := (Below.heap_alloc W o B h.lt).trans h
theorem VRow.below {W W' : World} {B t n : Nat} {l : List Value} (h : VRow W B t l) (k : Below n W W') (hn : B < n) : VRow W' B t l := (k.block B hn).trans h
theorem VRow.other {W : World} {B C t i : Nat} {l : List Value} (v : Value) (h : VRow W B t l) (hn : B ≠ C) : VRow (W.setCell ⟨C, i, none⟩ v) B t l := (Below.heap_setCell _ _ _ _ hn).trans h
theorem VRow.set {W : World} {B t i : Nat} {l : List Value} (v : Value) (h : VRow W B t l) : VRow (W.setCell ⟨B, i, none⟩ v) B t (l.set i v) := by
 obtain ⟨hlt, hk⟩ := Array.getElem?_eq_some_iff.1 h
 show (W.heap.modify B _)[B]? = _
 rw [Array.getElem?_eq_getElem (by rw [Array.size_modify]; exact hlt), Array.getElem_modify_self, hk]
 simp
theorem VRow.own {β : Type} (B t : Nat) (f : β → List Value) : Own (fun s W => VRow W B t (f s)) := fun s X Y row hs hg hrow =>
 (hg.block B (VRow.lt hs) (fun e => by
  obtain ⟨o, ho, hc⟩ := hrow B e.symm
  rw [show X.heap[B]? = _ from hs] at ho; cases ho; cases hc)).trans hs
theorem VRow.put {W : World} {B t l : Nat} {o : Obj} {r : List Value} (o' : Obj) (h : VRow W B t r) (hl : W.heap[l]? = some o) (ho : o.isCells = false) : VRow (W.putObj l o') B t r :=
 (World.putObj_heap_other (fun e => by subst e; rw [show W.heap[B]? = _ from h] at hl; cases hl; cases ho)).trans h
theorem VRow.at {W : World} {B t : Nat} {l : List Value} (h : VRow W B t l) (i : Nat) {v : Value} (hi : l[i]? = some v) : W.cell? ⟨B, i, none⟩ = some v := (h.cell i).trans hi
theorem VRow.dr {W W' : World} {B t : Nat} {l : List Value} (h : VRow W B t l) (hD : Dr W W') : VRow W' B t l := by obtain ⟨k, rfl⟩ := hD; exact h
theorem VRow.grown {W W' : World} {B t : Nat} {l : List Value} {row : Option Nat} (h : VRow W B t l) (hg : W.grownBy W' row) (hne : some B ≠ row) : VRow W' B t l := (hg.block B h.lt hne).trans h
theorem VRow.new1 (w : World) (o : Obj) (t : Nat) (l : List Value) : VRow ((w.alloc o).alloc (.cells l.toArray t)) (w.heap.size + 1) t l := by
 have h := VRow.new (w.alloc o) t l; rwa [World.size_alloc] at h
theorem VRow.new2 (w : World) (o o' : Obj) (t : Nat) (l : List Value) : VRow (((w.alloc o).alloc o').alloc (.cells l.toArray t)) (w.heap.size + 1 + 1) t l := by
 have h := VRow.new ((w.alloc o).alloc o') t l; rwa [World.size_alloc, World.size_alloc] at h
theorem Dr.frozen {w w' : World} (h : Dr w w') (p : Addr) : w'.frozen? p = w.frozen? p := by obtain ⟨k, rfl⟩ := h; rfl
theorem Dr.size {w w' : World} (h : Dr w w') : w'.heap.size = w.heap.size := by obtain ⟨k, rfl⟩ := h; rfl
theorem region_tail {P : Program} {id : Nat} {Q : Exit → Act → World → Prop} {a : Act} {w : World} {l : List Oper} (n : Nat) (hm : P.follows .mixedOrders = true) (hB : Region.lexTailB .any l.toArray n = true)
  (h : ∀ W, Dr w W → wpStill P l.toArray W (fun a' => wpList P l.toArray Q (l.drop n) a' W) (l.take n) a) : (Code.region id l.toArray true).wp P Q a w :=
 wp_region_still_tail n hm hB (h _ ⟨1, rfl⟩)
theorem own_new (w : World) (B : Nat) (xs : List Value) (e : TypeId) (hB : B ≤ w.heap.size) (hm : xs.length ≤ maxLen) :
  (w.alloc (.cells xs.toArray e)).ownsRow B e 1 (.slice (some ⟨w.heap.size, 0, none⟩) xs.length xs.length) xs.length xs :=
 ⟨by simp, .inr ⟨w.heap.size, _, _, rfl, hB, heap_alloc_new w _, Nat.le_refl _, hm, by simp, by simp⟩⟩
theorem cell_one_at (W : World) (v : Value) (t : TypeId) (n : Nat) (hn : W.heap.size = n) : ∀ (j : Nat) (u : Value), ([v] : List Value)[j]? = some u → (W.alloc (.cells #[v] t)).cell? ((⟨n, 0, none⟩ : Addr).add j) = some u := by
 subst hn; exact cell_one_new W v t
theorem _root_.Go.World.ownsRow.dr {W W' : World} {base e size n : Nat} {v : Value} {xs : List Value} (h : W.ownsRow base e size v n xs) (hD : Dr W W') : W'.ownsRow base e size v n xs := by
 obtain ⟨k, rfl⟩ := hD; exact h
theorem below_grown {W W' : World} (h : Below W.heap.size W W') : W.grownBy W' none := ⟨h.os, h.tape, h.output, h.size, fun i hi _ => h.block i hi⟩
theorem _root_.Go.World.ownsRow.below {W W' : World} {base e size n : Nat} {v : Value} {xs : List Value} (h : W.ownsRow base e size v n xs) (hB : Below W.heap.size W W') : W'.ownsRow base e size v n xs :=
 h.kept (below_grown hB) (by cases v.ownBlock <;> simp)
theorem own_cap {w : World} {B e n size : Nat} {v : Value} {xs : List Value} (h : w.ownsRow B e size v n xs) : ∀ p m c, v = .slice p m c → n ≤ c := by
 intro p m c hv
 rcases h.2 with ⟨rfl, h0⟩ | ⟨g, cap, cur, rfl, hg, hh, hc, _⟩
 ·omega
 ·cases hv; exact hc
def Sl {α : Type} (w : World) (enc : α → Value) (p : Option Addr) (l : List α) : Prop :=
 l = [] ∨ ∃ b off, p = some ⟨b, off, none⟩ ∧ b < w.heap.size ∧ ∀ i (h : i < l.length), w.cell? ⟨b, off + i, none⟩ = some (enc l[i])
theorem Sl.nil {α : Type} (w : World) (enc : α → Value) (p : Option Addr) : Sl w enc p ([] : List α) := .inl rfl
theorem Sl.below {α : Type} {w w' : World} {enc : α → Value} {p : Option Addr} {l : List α} (h : Sl w enc p l) (hB : Below w.heap.size w w') : Sl w' enc p l := by
 rcases h with h | ⟨b, off, hp, hb, hc⟩
 ·exact .inl h
 ·exact .inr ⟨b, off, hp, Nat.lt_of_lt_of_le hb hB.size, fun i hi => (hB.cell (p := ⟨b, off + i, none⟩) hb).trans (hc i hi)⟩
theorem Sl.dr {α : Type} {w w' : World} {enc : α → Value} {p : Option Addr} {l : List α} (h : Sl w enc p l) (hD : Dr w w') : Sl w' enc p l := h.below (hD.below _)
theorem Sl.get {α : Type} {w : World} {enc : α → Value} {p : Option Addr} {l : List α} (h : Sl w enc p l) (k : Nat) (hk : k < l.length) :
  ∃ b off, p = some ⟨b, off, none⟩ ∧ b < w.heap.size ∧ ∀ i (h : i < l.length), w.cell? ⟨b, off + i, none⟩ = some (enc l[i]) := by
 rcases h with h | h
 ·subst h; simp at hk
 ·exact h
theorem own_sl {α : Type} {w : World} {B e n : Nat} {v : Value} {enc : α → Value} {l : List α} (h : w.ownsRow B e 1 v n (l.map enc)) :
  ∃ p cap, v = .slice p l.length cap ∧ Sl w enc p l := by
 have hn : l.length = n := by have := h.1; simpa using this
 rcases h.2 with ⟨rfl, h0⟩ | ⟨g, cap, cur, rfl, hg, hh, _⟩
 ·subst h0
  have : l = [] := List.length_eq_zero_iff.1 hn
  subst this
  exact ⟨none, 0, rfl, Sl.nil _ _ _⟩
 ·refine ⟨some ⟨g, 0, none⟩, cap, by rw [hn], ?_⟩
  refine .inr ⟨g, 0, rfl, (Array.getElem?_eq_some_iff.1 hh).1, fun i hi => ?_⟩
  rw [Nat.zero_add, h.cellAt i (by omega)]
  simp [hi]
theorem Sl.take {α : Type} {w : World} {enc : α → Value} {p : Option Addr} {l : List α} (h : Sl w enc p l) (k : Nat) : Sl w enc p (l.take k) := by
 rcases h with h | ⟨b, off, hp, hb, hc⟩
 ·subst h; exact .inl (by simp)
 ·exact .inr ⟨b, off, hp, hb, fun i hi => by rw [List.getElem_take]; exact hc i (by rw [List.length_take] at hi; omega)⟩
theorem Sl.of_vrow {α : Type} {w : World} {B t : Nat} {enc : α → Value} {l : List α} (h : VRow w B t (l.map enc)) : Sl w enc (some ⟨B, 0, none⟩) l :=
 .inr ⟨B, 0, rfl, h.lt, fun i hi => by rw [Nat.zero_add]; exact h.at i (by simp [hi])⟩
def Sg {α : Type} (m : Nat) (w : World) (enc : α → List Value) (p : Option Addr) (l : List α) : Prop :=
 l = [] ∨ ∃ b off, p = some ⟨b, off, none⟩ ∧ b < w.heap.size ∧ ∀ i (h : i < l.length) j, j < m → w.cell? ⟨b, off + i * m + j, none⟩ = (enc l[i])[j]?
section
variable {α : Type} {m : Nat} {w w' : World} {enc : α → List Value} {p : Option Addr} {l : List α}
theorem Sg.nil (m : Nat) (w : World) (enc : α → List Value) (p : Option Addr) : Sg m w enc p ([] : List α) := .inl rfl
theorem Sg.below (h : Sg m w enc p l) (hB : Below w.heap.size w w') : Sg m w' enc p l := by
 rcases h with h | ⟨b, off, hp, hb, hc⟩
 ·exact .inl h
 ·exact .inr ⟨b, off, hp, Nat.lt_of_lt_of_le hb hB.size, fun i hi j hj => (hB.cell (p := ⟨b, off + i * m + j, none⟩) hb).trans (hc i hi j hj)⟩
theorem Sg.dr (h : Sg m w enc p l) (hD : Dr w w') : Sg m w' enc p l := h.below (hD.below _)
theorem Sg.get (h : Sg m w enc p l) (k : Nat) (hk : k < l.length) :
  ∃ b off, p = some ⟨b, off, none⟩ ∧ b < w.heap.size ∧ ∀ i (h : i < l.length) j, j < m → w.cell? ⟨b, off + i * m + j, none⟩ = (enc l[i])[j]? := by
 rcases h with h | h
 ·subst h; simp at hk
 ·exact h
theorem Sg.get3 (h : Sg 3 w enc p l) (k : Nat) (hk : k < l.length) {x y z : Value} (he : enc l[k] = [x, y, z]) :
  ∃ b off, p = some ⟨b, off, none⟩ ∧ b < w.heap.size ∧ w.cell? ⟨b, off + k * 3, none⟩ = some x ∧ w.cell? ⟨b, off + k * 3 + 1, none⟩ = some y ∧ w.cell? ⟨b, off + k * 3 + 2, none⟩ = some z := by
 obtain ⟨b, off, hp, hb, hc⟩ := h.get k hk
 have e0 := hc k hk 0 (by omega)
 have e1 := hc k hk 1 (by omega)
 have e2 := hc k hk 2 (by omega)
 rw [he] at e0 e1 e2
 exact ⟨b, off, hp, hb, by simpa using e0, by simpa using e1, by simpa using e2⟩
end
end
section
open Go.RowKit
def c3 (a b : Int) : Int := if a < b then -1 else if b < a then 1 else 0
theorem c3_neg {a b : Int} : c3 a b < 0 ↔ a < b := by unfold c3; split <;> (try split) <;> omega
theorem c3_zero {a b : Int} : c3 a b = 0 ↔ a = b := by unfold c3; split <;> (try split) <;> omega
def cmpL : List Int → List Int → Int
 | [], [] => 0
 | [], _ :: _ => -1
 | _ :: _, [] => 1
 | x :: a, y :: b => if c3 x y = 0 then cmpL a b else c3 x y
structure Ed where
 f : Int
 l : Int
 t : Int
instance : DecidableEq Ed := fun a b =>
 decidable_of_iff (a.f = b.f ∧ a.l = b.l ∧ a.t = b.t) ⟨fun ⟨h1, h2, h3⟩ => by cases a; cases b; simp_all, fun h => by subst h; exact ⟨rfl, rfl, rfl⟩⟩
instance : Inhabited Ed := ⟨⟨0, 0, 0⟩⟩
def edL (x : Ed) : List Int := [x.f, x.l, x.t]
def edE (x : Ed) : List Value := [.int .i64 x.f, .int .i64 x.l, .int .i64 x.t]
def cmpE (a b : Ed) : Int := cmpL (edL a) (edL b)
theorem cmpE_eq (a b : Ed) : cmpE a b = if c3 a.f b.f = 0 then (if c3 a.l b.l = 0 then c3 a.t b.t else c3 a.l b.l) else c3 a.f b.f := by
 unfold cmpE edL cmpL cmpL cmpL cmpL
 split
 ·split
  ·split
   ·rename_i h; exact h.symm
   ·rfl
  ·rfl
 ·rfl
def ltE (a b : Ed) : Bool := decide (a.f < b.f) || (decide (a.f = b.f) && (decide (a.l < b.l) || (decide (a.l = b.l) && decide (a.t < b.t))))
theorem ltE_iff {a b : Ed} : ltE a b = true ↔ a.f < b.f ∨ (a.f = b.f ∧ (a.l < b.l ∨ (a.l = b.l ∧ a.t < b.t))) := by simp [ltE]
theorem cmpE_neg (a b : Ed) : decide (cmpE a b < 0) = ltE a b := by
 rw [Bool.eq_iff_iff, ltE_iff, decide_eq_true_iff, cmpE_eq]
 have h1 := @c3_neg a.f b.f; have h2 := @c3_neg a.l b.l; have h3 := @c3_neg a.t b.t
 have z1 := @c3_zero a.f b.f; have z2 := @c3_zero a.l b.l
 split
 ·rename_i e
  have e1 := z1.1 e
  split
  ·rename_i e'
   have e2 := z2.1 e'
   rw [h3]; omega
  ·rename_i e'
   have : a.l ≠ b.l := fun h => e' (z2.2 h)
   rw [h2]; omega
 ·rename_i e
  have : a.f ≠ b.f := fun h => e (z1.2 h)
  rw [h1]; omega
theorem ltE_irrefl (a : Ed) : ltE a a = false := by rw [Bool.eq_false_iff]; intro h; rw [ltE_iff] at h; omega
theorem ltE_trans {a b c : Ed} (h : ltE a b = true) (k : ltE b c = true) : ltE a c = true := by rw [ltE_iff] at *; omega
theorem ltE_total {a b : Ed} (h : ltE a b = false) (k : ltE b a = false) : a = b := by
 rw [Bool.eq_false_iff, ne_eq, ltE_iff] at h k
 cases a; cases b; simp_all; omega
theorem ltE_asymm {a b : Ed} (h : ltE a b = true) : ltE b a = false := by
 rw [Bool.eq_false_iff]; intro k; have := ltE_trans h k; rw [ltE_irrefl] at this; cases this
theorem cmpE_ge (a b : Ed) : decide (0 ≤ cmpE a b) = !ltE a b := by
 rw [← cmpE_neg]; by_cases h : cmpE a b < 0
 ·simp [h]
 ·simp [h]; omega
structure Gr where
 q : Int
 n : Int
 es : List Ed
def eget (l : List Ed) (k : Nat) : Ed := l.getD k ⟨0, 0, 0⟩
theorem eget_eq (l : List Ed) (k : Nat) (h : k < l.length) : eget l k = l[k] := by simp [eget, h]
def outE (q n : Int) (x : Ed) : Bool := decide (x.f < 0) || (decide (x.l < 0) || (decide (x.t < 0) || (decide (n ≤ x.f) || (decide (n ≤ x.t) || decide (q ≤ x.l)))))
theorem outE_iff {q n : Int} {x : Ed} : outE q n x = true ↔ x.f < 0 ∨ x.l < 0 ∨ x.t < 0 ∨ n ≤ x.f ∨ n ≤ x.t ∨ q ≤ x.l := by simp [outE]
theorem outE_no {q n : Int} {x : Ed} : outE q n x = false ↔ 0 ≤ x.f ∧ 0 ≤ x.l ∧ 0 ≤ x.t ∧ x.f < n ∧ x.t < n ∧ x.l < q := by
 rw [Bool.eq_false_iff, ne_eq, outE_iff]; omega
def errAt (q n : Int) (l : List Ed) (k : Nat) : Int := if outE q n (eget l k) = true then 2 else if 0 < k ∧ 0 ≤ cmpE (eget l (k - 1)) (eget l k) then 10 else 0
def errTo (q n : Int) (l : List Ed) : Nat → Int
 | 0 => 0
 | k + 1 => if errTo q n l k = 0 then errAt q n l k else errTo q n l k
theorem errTo_stay {q n : Int} {l : List Ed} {k : Nat} (h : errTo q n l k ≠ 0) : ∀ m, k ≤ m → errTo q n l m = errTo q n l k := by
 intro m
 induction m with
 | zero => intro hm; obtain rfl : k = 0 := by omega
           rfl
 | succ m ih =>
  intro hm
  by_cases e : k = m + 1
  ·subst e; rfl
  ·have := ih (by omega)
   rw [errTo, this, if_neg h]
theorem errTo_hit {q n : Int} {l : List Ed} {k m : Nat} (h0 : errTo q n l k = 0) (h : errAt q n l k ≠ 0) (hm : k < m) : errTo q n l m = errAt q n l k := by
 have h1 : errTo q n l (k + 1) = errAt q n l k := by rw [errTo, if_pos h0]
 rw [errTo_stay (k := k + 1) (by rw [h1]; exact h) m hm, h1]
theorem errTo_next {q n : Int} {l : List Ed} {k : Nat} (h0 : errTo q n l k = 0) (h : errAt q n l k = 0) : errTo q n l (k + 1) = 0 := by rw [errTo, if_pos h0, h]
theorem errAt_out {q n : Int} {l : List Ed} {k : Nat} (hk : k < l.length) (h : outE q n l[k] = true) : errAt q n l k = 2 := by
 unfold errAt; rw [eget_eq l k hk, if_pos h]
theorem errAt_first {q n : Int} {l : List Ed} (hk : 0 < l.length) (h : outE q n l[0] = false) : errAt q n l 0 = 0 := by
 unfold errAt; rw [eget_eq l 0 hk, if_neg (by simp [h]), if_neg (by omega)]
theorem errAt_succ {q n : Int} {l : List Ed} {m : Nat} (hk : m + 1 < l.length) (h : outE q n l[m + 1] = false) : errAt q n l (m + 1) = if 0 ≤ cmpE l[m] l[m + 1] then 10 else 0 := by
 unfold errAt
 rw [eget_eq l (m + 1) hk, if_neg (by simp [h]), Nat.add_sub_cancel, eget_eq l m (by omega)]
 by_cases e : 0 ≤ cmpE l[m] l[m + 1]
 ·rw [if_pos ⟨by omega, e⟩, if_pos e]
 ·rw [if_neg (fun h => e h.2), if_neg e]
def chkG (G : Gr) : Int := if G.q < 1 ∨ 256 < G.q then 12 else if G.n < 0 then 2 else if 64 < G.n ∨ 1024 < G.es.length then 4 else errTo G.q G.n G.es G.es.length
theorem chkG_q {G : Gr} (h : G.q < 1 ∨ 256 < G.q) : chkG G = 12 := by unfold chkG; rw [if_pos h]
theorem chkG_n {G : Gr} (h : 1 ≤ G.q) (h2 : G.q ≤ 256) (h3 : G.n < 0) : chkG G = 2 := by unfold chkG; rw [if_neg (by omega), if_pos h3]
theorem chkG_l {G : Gr} (h : 1 ≤ G.q) (h2 : G.q ≤ 256) (h3 : 0 ≤ G.n) (h4 : 64 < G.n ∨ 1024 < G.es.length) : chkG G = 4 := by
 unfold chkG; rw [if_neg (by omega), if_neg (by omega), if_pos h4]
theorem chkG_e {G : Gr} (h : 1 ≤ G.q) (h2 : G.q ≤ 256) (h3 : 0 ≤ G.n) (h4 : G.n ≤ 64) (h5 : G.es.length ≤ 1024) : chkG G = errTo G.q G.n G.es G.es.length := by
 unfold chkG; rw [if_neg (by omega), if_neg (by omega), if_neg (by omega)]
theorem errTo_zero_iff {q n : Int} {l : List Ed} : ∀ {k : Nat}, k ≤ l.length → (errTo q n l k = 0 ↔ (∀ m (hm : m < l.length), m < k → outE q n l[m] = false) ∧ (∀ m (hm : m + 1 < l.length), m + 1 < k → ltE l[m] l[m + 1] = true)) := by
 intro k
 induction k with
 | zero => intro _; simp [errTo]
 | succ k ih =>
  intro hk
  have ih := ih (by omega)
  have hkl : k < l.length := by omega
  constructor
  ·intro h
   by_cases h0 : errTo q n l k = 0
   ·rw [errTo, if_pos h0] at h
    obtain ⟨i1, i2⟩ := ih.1 h0
    have ho : outE q n l[k] = false := by
     rw [Bool.eq_false_iff]; intro hc; rw [errAt_out hkl hc] at h; omega
    refine ⟨fun m hm hlt => ?_, fun m hm hlt => ?_⟩
    ·by_cases e : m = k
     ·subst e; exact ho
     ·exact i1 m hm (by omega)
    ·by_cases e : m + 1 = k
     ·subst e
      rw [errAt_succ hkl ho] at h
      by_cases e2 : 0 ≤ cmpE l[m] l[m + 1]
      ·rw [if_pos e2] at h; omega
      ·have := cmpE_ge l[m] l[m + 1]; rw [decide_eq_false e2] at this; simpa using this.symm
     ·exact i2 m hm (by omega)
   ·rw [errTo, if_neg h0] at h; exact absurd h h0
  ·rintro ⟨i1, i2⟩
   have h0 := ih.2 ⟨fun m hm hlt => i1 m hm (by omega), fun m hm hlt => i2 m hm (by omega)⟩
   rw [errTo, if_pos h0]
   have ho := i1 k hkl (by omega)
   cases k with
   | zero => exact errAt_first hkl ho
   | succ m =>
    rw [errAt_succ hkl ho, if_neg]
    have := i2 m hkl (by omega)
    intro hc
    have h2 := cmpE_ge l[m] l[m + 1]
    rw [decide_eq_true hc, this] at h2; cases h2
theorem sorted_of_steps {l : List Ed} (h : ∀ m (hm : m + 1 < l.length), ltE l[m] l[m + 1] = true) : l.Pairwise (fun a b => ltE a b = true) := by
 rw [List.pairwise_iff_getElem]
 intro i j hi hj hij
 induction j with
 | zero => omega
 | succ j ih =>
  by_cases e : i = j
  ·subst e; exact h i hj
  ·exact ltE_trans (ih (by omega) (by omega)) (h j hj)
structure Vg (G : Gr) : Prop where
 q1 : 1 ≤ G.q
 q2 : G.q ≤ 256
 n1 : 0 ≤ G.n
 n2 : G.n ≤ 64
 len : G.es.length ≤ 1024
 ins : ∀ x ∈ G.es, 0 ≤ x.f ∧ 0 ≤ x.l ∧ 0 ≤ x.t ∧ x.f < G.n ∧ x.t < G.n ∧ x.l < G.q
 srt : G.es.Pairwise (fun a b => ltE a b = true)
theorem chkG_ok {G : Gr} : chkG G = 0 ↔ Vg G := by
 constructor
 ·intro h
  unfold chkG at h
  split at h
  ·omega
  split at h
  ·omega
  split at h
  ·omega
  rename_i h1 h2 h3
  obtain ⟨i1, i2⟩ := (errTo_zero_iff (Nat.le_refl _)).1 h
  refine ⟨by omega, by omega, by omega, by omega, by omega, fun x hx => ?_, sorted_of_steps (fun m hm => i2 m hm hm)⟩
  obtain ⟨m, hm, rfl⟩ := List.mem_iff_getElem.1 hx
  exact outE_no.1 (i1 m hm hm)
 ·intro V
  rw [chkG_e V.q1 V.q2 V.n1 V.n2 V.len, errTo_zero_iff (Nat.le_refl _)]
  exact ⟨fun m hm _ => outE_no.2 (V.ins _ (List.getElem_mem hm)), fun m hm _ => List.pairwise_iff_getElem.1 V.srt m (m + 1) (by omega) hm (by omega)⟩
theorem norm_unique : ∀ {a b : List Ed}, a.Pairwise (fun x y => ltE x y = true) → b.Pairwise (fun x y => ltE x y = true) → (∀ x, x ∈ a ↔ x ∈ b) → a = b
 | [], [], _, _, _ => rfl
 | [], y :: b, _, _, h => by have := (h y).2 (by simp); simp at this
 | x :: a, [], _, _, h => by have := (h x).1 (by simp); simp at this
 | x :: a, y :: b, ha, hb, h => by
  have hx := List.pairwise_cons.1 ha
  have hy := List.pairwise_cons.1 hb
  have e : x = y := by
   rcases List.mem_cons.1 ((h x).1 (by simp)) with h1 | h1
   ·exact h1
   ·rcases List.mem_cons.1 ((h y).2 (by simp)) with h2 | h2
    ·exact h2.symm
    ·have := ltE_trans (hx.1 y h2) (hy.1 x h1); rw [ltE_irrefl] at this; cases this
  subst e
  congr 1
  refine norm_unique hx.2 hy.2 (fun z => ?_)
  constructor
  ·intro hz
   rcases List.mem_cons.1 ((h z).1 (by simp [hz])) with h1 | h1
   ·subst h1; have := hx.1 z hz; rw [ltE_irrefl] at this; cases this
   ·exact h1
  ·intro hz
   rcases List.mem_cons.1 ((h z).2 (by simp [hz])) with h1 | h1
   ·subst h1; have := hy.1 z hz; rw [ltE_irrefl] at this; cases this
   ·exact h1
def insE (x : Ed) : List Ed → List Ed
 | [] => [x]
 | y :: l => if ltE x y = true then x :: y :: l else if x = y then y :: l else y :: insE x l
theorem mem_insE {x z : Ed} : ∀ {l : List Ed}, z ∈ insE x l ↔ z = x ∨ z ∈ l
 | [] => by simp [insE]
 | y :: l => by
  unfold insE
  split
  ·simp
  ·split
   ·rename_i h; subst h; simp
   ·rw [List.mem_cons, mem_insE, List.mem_cons]
    constructor
    ·rintro (h | h | h)
     ·exact .inr (.inl h)
     ·exact .inl h
     ·exact .inr (.inr h)
    ·rintro (h | h | h)
     ·exact .inr (.inl h)
     ·exact .inl h
     ·exact .inr (.inr h)
theorem insE_srt {x : Ed} : ∀ {l : List Ed}, l.Pairwise (fun a b => ltE a b = true) → (insE x l).Pairwise (fun a b => ltE a b = true)
 | [], _ => by simp [insE]
 | y :: l, h => by
  have hy := List.pairwise_cons.1 h
  unfold insE
  split
  ·rename_i hlt
   refine List.pairwise_cons.2 ⟨fun z hz => ?_, h⟩
   rcases List.mem_cons.1 hz with e | e
   ·subst e; exact hlt
   ·exact ltE_trans hlt (hy.1 z e)
  ·split
   ·exact h
   ·rename_i h1 h2
    refine List.pairwise_cons.2 ⟨fun z hz => ?_, insE_srt hy.2⟩
    rcases mem_insE.1 hz with e | e
    ·subst e
     cases hb : ltE y z
     ·exact absurd (ltE_total (by simpa using h1) hb) h2
     ·rfl
    ·exact hy.1 z e
def norm (l : List Ed) : List Ed := l.foldl (fun a x => insE x a) []
theorem norm_gen : ∀ (l a : List Ed), a.Pairwise (fun a b => ltE a b = true) → (l.foldl (fun a x => insE x a) a).Pairwise (fun a b => ltE a b = true) ∧ ∀ x, x ∈ l.foldl (fun a x => insE x a) a ↔ x ∈ a ∨ x ∈ l
 | [], a, h => ⟨h, fun x => by simp⟩
 | y :: l, a, h => by
  obtain ⟨h1, h2⟩ := norm_gen l (insE y a) (insE_srt h)
  refine ⟨h1, fun x => ?_⟩
  rw [List.foldl_cons, h2 x, mem_insE, List.mem_cons]
  constructor
  ·rintro ((h | h) | h)
   ·exact .inr (.inl h)
   ·exact .inl h
   ·exact .inr (.inr h)
  ·rintro (h | h | h)
   ·exact .inl (.inr h)
   ·exact .inl (.inl h)
   ·exact .inr h
theorem norm_srt (l : List Ed) : (norm l).Pairwise (fun a b => ltE a b = true) := (norm_gen l [] List.Pairwise.nil).1
theorem mem_norm {l : List Ed} {x : Ed} : x ∈ norm l ↔ x ∈ l := by rw [norm, (norm_gen l [] List.Pairwise.nil).2 x]; simp
theorem norm_eq {l a : List Ed} (h : a.Pairwise (fun a b => ltE a b = true)) (hm : ∀ x, x ∈ a ↔ x ∈ l) : a = norm l :=
 norm_unique h (norm_srt l) (fun x => (hm x).trans mem_norm.symm)
theorem norm_snoc (l : List Ed) (x : Ed) : norm (l ++ [x]) = insE x (norm l) := by simp [norm, List.foldl_append]
def makeA (q n : Int) (l : List Ed) : Gr × Int := if chkG ⟨q, n, norm l⟩ = 0 then (⟨q, n, norm l⟩, 0) else (⟨0, 0, []⟩, chkG ⟨q, n, norm l⟩)
theorem makeA_ok {q n : Int} {l : List Ed} (h : chkG ⟨q, n, norm l⟩ = 0) : makeA q n l = (⟨q, n, norm l⟩, 0) := by unfold makeA; rw [if_pos h]
theorem makeA_bad {q n : Int} {l : List Ed} (h : chkG ⟨q, n, norm l⟩ ≠ 0) : makeA q n l = (⟨0, 0, []⟩, chkG ⟨q, n, norm l⟩) := by unfold makeA; rw [if_neg h]
def compact {α : Type} [DecidableEq α] : List α → List α
 | [] => []
 | [x] => [x]
 | x :: y :: l => if x = y then compact (y :: l) else x :: compact (y :: l)
section
variable {α : Type} [DecidableEq α]
theorem compact_snoc (x y : α) : ∀ l : List α, compact (l ++ [x, y]) = if x = y then compact (l ++ [x]) else compact (l ++ [x]) ++ [y]
 | [] => by simp only [List.nil_append, compact]; split <;> simp_all
 | [z] => by
  have ih := compact_snoc x y []
  simp only [List.nil_append] at ih
  simp only [List.cons_append, List.nil_append, compact] at ih ⊢
  split <;> split <;> simp_all
 | z :: u :: l => by
  have ih := compact_snoc x y (u :: l)
  simp only [List.cons_append] at ih ⊢
  rw [compact, compact]
  split
  ·exact ih
  ·rw [ih]; split <;> rfl
theorem compact_take (l : List α) (m : Nat) (h0 : 0 < m) (h : m < l.length) : compact (l.take (m + 1)) = if l[m - 1] = l[m] then compact (l.take m) else compact (l.take m) ++ [l[m]] := by
 obtain ⟨k, rfl⟩ : ∃ k, m = k + 1 := ⟨m - 1, by omega⟩
 rw [List.take_succ_eq_append_getElem h, List.take_succ_eq_append_getElem (by omega : k < l.length), List.append_assoc]
 exact compact_snoc _ _ _
theorem compact_succ (l : List α) (m : Nat) (h : m + 1 < l.length) : compact (l.take (m + 1 + 1)) = if l[m] = l[m + 1] then compact (l.take (m + 1)) else compact (l.take (m + 1)) ++ [l[m + 1]] := compact_take l (m + 1) (by omega) h
theorem compact_len : ∀ l : List α, (compact l).length ≤ l.length
 | [] => by simp [compact]
 | [_] => by simp [compact]
 | x :: y :: l => by
  have := compact_len (y :: l)
  unfold compact; split
  ·simp at *; omega
  ·simp at *; omega
theorem compact_same (l : List α) (h : ∀ m (hm : m + 1 < l.length), l[m] ≠ l[m + 1]) : compact l = l := by
 induction l with
 | nil => rfl
 | cons x l ih =>
  cases l with
  | nil => rfl
  | cons y l =>
   have h0 := h 0 (by simp)
   simp only [List.getElem_cons_zero, List.getElem_cons_succ] at h0
   rw [compact, if_neg h0, ih (fun m hm => by have := h (m + 1) (by simpa using hm); simpa using this)]
theorem mem_compact {z : α} : ∀ {l : List α}, z ∈ compact l ↔ z ∈ l
 | [] => Iff.rfl
 | [_] => Iff.rfl
 | x :: y :: l => by
  have ih := mem_compact (z := z) (l := y :: l)
  unfold compact; split
  ·rename_i e; subst e; rw [ih]; simp
  ·rw [List.mem_cons, ih, List.mem_cons (l := y :: l)]
end
theorem compact_srt : ∀ {l : List Ed}, l.Pairwise (fun a b => ltE b a = false) → (compact l).Pairwise (fun a b => ltE a b = true)
 | [], _ => List.Pairwise.nil
 | [_], _ => by simp [compact]
 | x :: y :: l, h => by
  have hx := List.pairwise_cons.1 h
  have ih := compact_srt hx.2
  unfold compact; split
  ·exact ih
  ·rename_i hne
   refine List.pairwise_cons.2 ⟨fun z hz => ?_, ih⟩
   have hxy : ltE x y = true := by
    cases hb : ltE x y
    ·exact absurd (ltE_total hb (hx.1 y (by simp))) hne
    ·rfl
   rcases List.mem_cons.1 (mem_compact.1 hz) with e | e
   ·subst e; exact hxy
   ·have := (List.pairwise_cons.1 hx.2).1 z e
    cases hb : ltE x z
    ·have e1 : ltE y z = true := by
      cases hc : ltE y z
      ·have e2 := ltE_total hc this
       subst e2; rw [hxy] at hb; cases hb
      ·rfl
     have := ltE_trans hxy e1; rw [hb] at this; cases this
    ·rfl
theorem norm_sort (l : List Ed) : compact (l.mergeSort (fun x y => !ltE y x)) = norm l := by
 have hp : (l.mergeSort (fun x y => !ltE y x)).Pairwise (fun a b => (!ltE b a) = true) :=
  List.pairwise_mergeSort (le := fun x y => !ltE y x) (fun a b c h1 h2 => by
   simp only [Bool.not_eq_true'] at *
   cases hc : ltE c a
   ·rfl
   ·cases hb : ltE a b
    ·have := ltE_total hb h1; subst this; rw [hc] at h2; cases h2
    ·have := ltE_trans hc hb; rw [h2] at this; cases this) (fun a b => by
   cases h : ltE a b
   ·simp
   ·simp [ltE_asymm h]) l
 refine norm_eq (compact_srt (hp.imp (fun h => by simpa using h))) (fun x => ?_)
 rw [mem_compact]; exact List.mem_mergeSort
end
section
open Go.RowKit Go.Sort
theorem below_dN {B : Nat} {a w : World} (h : Below B a w) (n : Nat) : Below B a (w.drewN n) := h.trans (Dr.below ⟨n, rfl⟩ B)
theorem isNaNI_any (x : Int) (w : World) : Calls Tryz.prog 184 #[.int .i64 x] w fun e w' => e = .returned (.bool false) ∧ w = w' := by
 go_enter Tryz.func184, Tryz.ntmps184
 go_wp2
 go_ret
 exact ⟨by simp, rfl⟩
theorem cmpc_any (x y : Int) (w : World) : Calls Tryz.prog 148 #[.int .i64 x, .int .i64 y] w fun e w' => e = .returned (.int .i64 (c3 x y)) ∧ w = w' := by
 by_cases h1 : x < y
 ·have HR : Hid (c3 x y = -1) := by unfold Hid c3; rw [if_pos h1]
  go_enter Tryz.func148, Tryz.ntmps148
  go_wp2_with (go_at_call 184; refine (isNaNI_any _ _).mono ?_; rintro e w' ⟨rfl, rfl⟩)
  go_ret
  exact ⟨ret_int HR.out.symm, rfl⟩
 ·by_cases h2 : y < x
  ·have HR : Hid (c3 x y = 1) := by unfold Hid c3; rw [if_neg h1, if_pos h2]
   go_enter Tryz.func148, Tryz.ntmps148
   go_wp2_with (go_at_call 184; refine (isNaNI_any _ _).mono ?_; rintro e w' ⟨rfl, rfl⟩)
   go_ret
   exact ⟨ret_int HR.out.symm, rfl⟩
  ·have HR : Hid (c3 x y = 0) := by unfold Hid c3; rw [if_neg h1, if_neg h2]
   go_enter Tryz.func148, Tryz.ntmps148
   go_wp2_with (go_at_call 184; refine (isNaNI_any _ _).mono ?_; rintro e w' ⟨rfl, rfl⟩)
   go_ret
   exact ⟨ret_int HR.out.symm, rfl⟩
theorem cmpL_same {a b : List Int} (k : Nat) (ha : k < a.length) (hb : k < b.length) (h : a[k] = b[k]) : cmpL (a.drop k) (b.drop k) = cmpL (a.drop (k + 1)) (b.drop (k + 1)) := by
 rw [List.drop_eq_getElem_cons ha, List.drop_eq_getElem_cons hb, cmpL, if_pos (c3_zero.2 h)]
theorem cmpL_diff {a b : List Int} (k : Nat) (ha : k < a.length) (hb : k < b.length) (h : c3 a[k] b[k] ≠ 0) : cmpL (a.drop k) (b.drop k) = c3 a[k] b[k] := by
 rw [List.drop_eq_getElem_cons ha, List.drop_eq_getElem_cons hb, cmpL, if_neg h]
theorem cmpL_longer {a b : List Int} (k : Nat) (ha : k < a.length) (hb : b.length ≤ k) : cmpL (a.drop k) (b.drop k) = 1 := by
 rw [List.drop_eq_getElem_cons ha, List.drop_eq_nil_of_le hb, cmpL]
theorem cmpL_shorter {a b : List Int} (k : Nat) (ha : a.length ≤ k) (hb : k < b.length) : cmpL (a.drop k) (b.drop k) = -1 := by
 rw [List.drop_eq_getElem_cons hb, List.drop_eq_nil_of_le ha, cmpL]
theorem cmpL_ends {a b : List Int} (k : Nat) (ha : a.length ≤ k) (hb : b.length ≤ k) : cmpL (a.drop k) (b.drop k) = 0 := by
 rw [List.drop_eq_nil_of_le hb, List.drop_eq_nil_of_le ha, cmpL]
set_option maxHeartbeats 400000 in
theorem compareI_any (a b : List Int) (p q : Option Addr) (c d : Nat) (w : World) (hp : Sl w (Value.int .i64) p a) (hq : Sl w (Value.int .i64) q b) (ha : a.length ≤ 9223372036854775807) (hb : b.length ≤ 9223372036854775807) :
  Calls Tryz.prog 89 #[.slice p a.length c, .slice q b.length d] w fun e w' => e = .returned (.int .i64 (cmpL a b)) ∧ w = w' := by
 go_enter Tryz.func89, Tryz.ntmps89
 go_wp2
 go_loop [11] (fun i => ∃ k : Nat, k ≤ a.length ∧ k ≤ b.length ∧ i = .int .i64 k ∧ Hid (cmpL a b = cmpL (a.drop k) (b.drop k))) (fun i => a.length - (intOf i).toNat)
 case atStart => exact ⟨0, by omega, by omega, rfl, rfl⟩
 case round =>
  obtain ⟨k, hk, hk2, rfl, hj⟩ := hrel
  by_cases hlt : k < a.length
  ·obtain ⟨b1, o1, rfl, hb1, hc1⟩ := hp.get k hlt
   have e1 := hc1 k hlt
   clear hc1
   by_cases hlt2 : k < b.length
   ·obtain ⟨b2, o2, rfl, hb2, hc2⟩ := hq.get k hlt2
    have e2 := hc2 k hlt2
    have h2' : (k : Int) < (b.length : Int) := by omega
    clear hc2
    by_cases he : a[k] = b[k]
    ·have HE : Hid (cmpL a b = cmpL (a.drop (k + 1)) (b.drop (k + 1))) := hj.out.trans (cmpL_same k hlt hlt2 he)
     have hz : c3 a[k] b[k] = 0 := c3_zero.2 he
     have hzb : (c3 a[k] b[k] != 0) = false := by simpa using hz
     clear he hz
     go_wp2_with (go_at_call 148; refine (cmpc_any _ _ _).mono ?_; rintro e w' ⟨rfl, rfl⟩)
     go_round
     case rel => exact ⟨k + 1, by omega, by omega, by go_num, HE⟩
     case measure => simp [intOf]; omega
    ·have hz : c3 a[k] b[k] ≠ 0 := fun h => he (c3_zero.1 h)
     have HE : Hid (cmpL a b = c3 a[k] b[k]) := hj.out.trans (cmpL_diff k hlt hlt2 hz)
     have hzb : (c3 a[k] b[k] != 0) = true := by simpa using hz
     clear he hz
     go_wp2_with (go_at_call 148; refine (cmpc_any _ _ _).mono ?_; rintro e w' ⟨rfl, rfl⟩)
     go_ret
     exact ⟨ret_int HE.out.symm, rfl⟩
   ·have HE : Hid (cmpL a b = 1) := hj.out.trans (cmpL_longer k hlt (by omega))
    have h2' : ¬ ((k : Int) < (b.length : Int)) := by omega
    go_wp2
    go_ret
    exact ⟨ret_int HE.out.symm, rfl⟩
  ·obtain rfl : k = a.length := by omega
   by_cases hlt2 : a.length < b.length
   ·have HE : Hid (cmpL a b = -1) := hj.out.trans (cmpL_shorter _ (Nat.le_refl _) hlt2)
    have h2' : (a.length : Int) < (b.length : Int) := by omega
    go_wp2
    go_ret
    exact ⟨ret_int HE.out.symm, rfl⟩
   ·have HE : Hid (cmpL a b = 0) := hj.out.trans (cmpL_ends _ (Nat.le_refl _) (by omega))
    have h2' : ¬ ((a.length : Int) < (b.length : Int)) := by omega
    go_wp2
    go_ret
    exact ⟨ret_int HE.out.symm, rfl⟩
theorem gList_any (x : Ed) (w : World) :
  Calls Tryz.prog 124 #[(.agg #[.int .i64 x.f, .int .i64 x.l, .int .i64 x.t])] w fun e w' => e = .returned (.slice (some ⟨w.heap.size + 1, 0, none⟩) 3 3) ∧ (w.alloc (.cells #[.int .i64 x.f, .int .i64 x.l, .int .i64 x.t] 44)).alloc (.cells #[.int .i64 x.f, .int .i64 x.l, .int .i64 x.t] 3) = w' := by
 go_enter Tryz.func124, Tryz.ntmps124
 go_wp2
 go_ret
 exact ⟨rfl, rfl⟩
def Up (w w' : World) : Prop := ∃ q os, w' = grow (w.drewN q) os
theorem Up.refl (w : World) : Up w w := ⟨0, #[], by simp [World.drewN]⟩
theorem Up.of_dr {w w' : World} (h : Dr w w') : Up w w' := by obtain ⟨k, rfl⟩ := h; exact ⟨k, #[], by simp⟩
theorem Up.drew (w : World) : Up w w.drew := Up.of_dr ⟨1, rfl⟩
theorem Up.alloc (w : World) (o : Obj) : Up w (w.alloc o) := ⟨0, #[o], by rw [alloc_eq_grow]; simp [World.drewN]⟩
theorem Up.trans {a b c : World} (h : Up a b) (k : Up b c) : Up a c := by
 obtain ⟨q, os, rfl⟩ := h
 obtain ⟨q', os', rfl⟩ := k
 refine ⟨q + q', os ++ os', ?_⟩
 simp [grow, World.drewN, Nat.add_assoc, Array.append_assoc]
theorem Up.below {w w' : World} (h : Up w w') : Below w.heap.size w w' := by
 obtain ⟨q, os, rfl⟩ := h
 refine ⟨rfl, rfl, rfl, by simp [grow, World.drewN], fun k hk => ?_⟩
 simp [grow, World.drewN, Array.getElem?_append, hk]
theorem Up.cell {w w' : World} (h : Up w w') {b o : Nat} {v : Value} (hc : w.cell? ⟨b, o, none⟩ = some v) : w'.cell? ⟨b, o, none⟩ = some v :=
 (h.below.cell (p := ⟨b, o, none⟩) (World.block_lt_of_cell? w _ hc)).trans hc
theorem Up.vrow {w w' : World} (h : Up w w') {B t : Nat} {l : List Value} (hr : VRow w B t l) : VRow w' B t l := hr.below h.below hr.lt
def RetList (x : Ed) (w : World) (e : Ending) (w' : World) : Prop := ∃ g, e = .returned (.slice (some ⟨g, 0, none⟩) 3 3) ∧ VRow w' g 3 ((edL x).map (Value.int .i64)) ∧ Up w w'
theorem gList_up (x : Ed) (w : World) : Calls Tryz.prog 124 #[(.agg #[.int .i64 x.f, .int .i64 x.l, .int .i64 x.t])] w (RetList x w) :=
 (gList_any x w).mono fun e w' ⟨he, hw⟩ => by
  subst hw
  exact ⟨_, he, VRow.new1 w _ 3 [.int .i64 x.f, .int .i64 x.l, .int .i64 x.t], (Up.alloc w _).trans (Up.alloc _ _)⟩
theorem compare_edges (a b : Ed) (g h : Nat) (w : World) (ha : VRow w g 3 ((edL a).map (Value.int .i64))) (hb : VRow w h 3 ((edL b).map (Value.int .i64))) :
  Calls Tryz.prog 89 #[.slice (some ⟨g, 0, none⟩) 3 3, .slice (some ⟨h, 0, none⟩) 3 3] w fun e w' => e = .returned (.int .i64 (cmpE a b)) ∧ w = w' :=
 compareI_any (edL a) (edL b) (some ⟨g, 0, none⟩) (some ⟨h, 0, none⟩) 3 3 w (Sl.of_vrow ha) (Sl.of_vrow hb) (by simp [edL]) (by simp [edL])
set_option maxRecDepth 100000 in
set_option maxHeartbeats 1000000 in
theorem gByc_up (a b : Ed) (bf : Nat) (w : World) (hf : w.cell? ⟨bf, 0, none⟩ = some (.func (.func 124) #[] #[])) :
  Calls Tryz.prog 176 #[(.agg #[.int .i64 a.f, .int .i64 a.l, .int .i64 a.t]), (.agg #[.int .i64 b.f, .int .i64 b.l, .int .i64 b.t]), .pointer (some ⟨bf, 0, none⟩)] w fun e w' => e = .returned (.int .i64 (cmpE a b)) ∧ Up w w' := by
 have hU0 : Up w ((w.alloc (.cells #[.int .i64 a.f, .int .i64 a.l, .int .i64 a.t] 44)).alloc (.cells #[.int .i64 b.f, .int .i64 b.l, .int .i64 b.t] 44)) := (Up.alloc w _).trans (Up.alloc _ _)
 have ha0 : VRow ((w.alloc (.cells #[.int .i64 a.f, .int .i64 a.l, .int .i64 a.t] 44)).alloc (.cells #[.int .i64 b.f, .int .i64 b.l, .int .i64 b.t] 44)) w.heap.size 44 [.int .i64 a.f, .int .i64 a.l, .int .i64 a.t] := (VRow.new w 44 _).alloc _
 have hb0 : VRow ((w.alloc (.cells #[.int .i64 a.f, .int .i64 a.l, .int .i64 a.t] 44)).alloc (.cells #[.int .i64 b.f, .int .i64 b.l, .int .i64 b.t] 44)) (w.heap.size + 1) 44 [.int .i64 b.f, .int .i64 b.l, .int .i64 b.t] := VRow.new1 w _ 44 [.int .i64 b.f, .int .i64 b.l, .int .i64 b.t]
 go_enter Tryz.func176, Tryz.ntmps176
 go_wp2_with fail
 have hf0 := hU0.cell hf
 generalize (w.alloc (.cells #[.int .i64 a.f, .int .i64 a.l, .int .i64 a.t] 44)).alloc (.cells #[.int .i64 b.f, .int .i64 b.l, .int .i64 b.t] 44) = w0 at *
 have a0 := ha0.at 0 rfl; have a1 := ha0.at 1 rfl; have a2 := ha0.at 2 rfl
 have b0 := hb0.at 0 rfl; have b1 := hb0.at 1 rfl; have b2 := hb0.at 2 rfl
 go_region_held3 (fun w' => w'.cell? ⟨bf, 0, none⟩ = some (.func (.func 124) #[] #[]) ∧ w'.cell? ⟨w.heap.size, 0, none⟩ = some (.int .i64 a.f) ∧ w'.cell? ⟨w.heap.size, 1, none⟩ = some (.int .i64 a.l) ∧ w'.cell? ⟨w.heap.size, 2, none⟩ = some (.int .i64 a.t) ∧
   w'.cell? ⟨w.heap.size + 1, 0, none⟩ = some (.int .i64 b.f) ∧ w'.cell? ⟨w.heap.size + 1, 1, none⟩ = some (.int .i64 b.l) ∧ w'.cell? ⟨w.heap.size + 1, 2, none⟩ = some (.int .i64 b.t) ∧ Up w0 w')
  (first | (go_split_ands; refine ⟨?_, ?_, ?_, ?_, ?_, ?_, ?_, ?_⟩ <;> first | assumption | (go_keep; done) | exact Up.drew _ | exact hUA.cell (by assumption) | exact hUB.cell (by assumption) | exact Up.trans (by assumption) hUA | exact Up.trans (by assumption) hUB))
  (first
   | (go_at_call_of 124 (Value.agg #[.int .i64 a.f, .int .i64 a.l, .int .i64 a.t]); refine (gList_up a _).mono ?_; rintro e wA ⟨ga, rfl, hra, hUA⟩)
   | (go_at_call_of 124 (Value.agg #[.int .i64 b.f, .int .i64 b.l, .int .i64 b.t]); refine (gList_up b _).mono ?_; rintro e wB ⟨gb, rfl, hrb, hUB⟩)
   | (go_at_call 89; refine (compare_edges a b ga gb _ (hUB.vrow hra) hrb).mono ?_; rintro e wC ⟨rfl, rfl⟩))
 go_split_ands
 have hUZ : Up w0 wB := by assumption
 go_wp2
 go_ret
 exact ⟨rfl, hU0.trans hUZ⟩
end
end Go.Proofs.YtocbhlohcikapaaGreatDoor
namespace Go.Proofs
open Go.Shelf
def Tryz.laySortE_ren : Go.Shelf.Ren := ⟨fun | 6 => 122 | 15 => 155 | 14 => 175 | 28 => 194 | 29 => 195 | 20 => 209 | 21 => 210 | 22 => 211 | 23 => 212 | 24 => 213 | 25 => 214 | 26 => 215 | 27 => 216 | 46 => 230 | 47 => 220 | 48 => 221 | 49 => 231 | 50 => 232 | 57 => 249 | n => n, fun | 22 => 22 | 24 => 44 | 25 => 140 | 3 => 3 | 39 => 158 | 0 => 0 | 53 => 203 | 55 => 205 | 4 => 4 | 46 => 197 | 45 => 196 | 50 => 86 | 5 => 5 | 9 => 9 | 66 => 228 | 70 => 232 | 76 => 240 | 77 => 241 | n => n, fun | n => n⟩
theorem Tryz.laySortE : Go.Proofs.SlLaysF0.n6 Tryz.prog Tryz.laySortE_ren := {
 mixed := by kernel_rfl
 f6 := ⟨Tryz.f122.name, by decide, Tryz.func122.trans (congrArg some (by kernel_rfl))⟩
 f14 := ⟨Tryz.f175.name, by decide, Tryz.func175.trans (congrArg some (by kernel_rfl))⟩
 f15 := Tryz.func155.trans (congrArg some (by kernel_rfl))
 f20 := ⟨Tryz.f209.name, by decide, Tryz.func209.trans (congrArg some (by kernel_rfl))⟩
 f21 := ⟨Tryz.f210.name, by decide, Tryz.func210.trans (congrArg some (by kernel_rfl))⟩
 f22 := ⟨Tryz.f211.name, by decide, Tryz.func211.trans (congrArg some (by kernel_rfl))⟩
 f23 := ⟨Tryz.f212.name, by decide, Tryz.func212.trans (congrArg some (by kernel_rfl))⟩
 f24 := ⟨Tryz.f213.name, by decide, Tryz.func213.trans (congrArg some (by kernel_rfl))⟩
 f25 := ⟨Tryz.f214.name, by decide, Tryz.func214.trans (congrArg some (by kernel_rfl))⟩
 f26 := ⟨Tryz.f215.name, by decide, Tryz.func215.trans (congrArg some (by kernel_rfl))⟩
 f27 := ⟨Tryz.f216.name, by decide, Tryz.func216.trans (congrArg some (by kernel_rfl))⟩
 f28 := Tryz.func194.trans (congrArg some (by kernel_rfl))
 f29 := Tryz.func195.trans (congrArg some (by kernel_rfl))
 f46 := ⟨Tryz.f230.name, by decide, Tryz.func230.trans (congrArg some (by kernel_rfl))⟩
 f47 := Tryz.func220.trans (congrArg some (by kernel_rfl))
 f48 := Tryz.func221.trans (congrArg some (by kernel_rfl))
 f49 := ⟨Tryz.f231.name, by decide, Tryz.func231.trans (congrArg some (by kernel_rfl))⟩
 f50 := ⟨Tryz.f232.name, by decide, Tryz.func232.trans (congrArg some (by kernel_rfl))⟩
 f57 := ⟨Tryz.f249.name, by decide, Tryz.func249.trans (congrArg some (by kernel_rfl))⟩
 t0 := Tryz.underlying0
 a0 := Tryz.isAgg0
 z0 := Tryz.sizeOf0
 v0 := Tryz.zeroValue0
 t3 := Tryz.underlying3
 a3 := Tryz.isAgg3
 z3 := Tryz.sizeOf3
 v3 := Tryz.zeroValue3
 t4 := Tryz.underlying4
 a4 := Tryz.isAgg4
 z4 := Tryz.sizeOf4
 v4 := Tryz.zeroValue4
 t5 := Tryz.underlying5
 a5 := Tryz.isAgg5
 z5 := Tryz.sizeOf5
 v5 := Tryz.zeroValue5
 t9 := Tryz.underlying9
 a9 := Tryz.isAgg9
 z9 := Tryz.sizeOf9
 v9 := Tryz.zeroValue9
 t22 := Tryz.underlying22
 a22 := Tryz.isAgg22
 z22 := Tryz.sizeOf22
 v22 := Tryz.zeroValue22
 t25 := Tryz.underlying140
 a25 := Tryz.isAgg140
 z25 := Tryz.sizeOf140
 v25 := Tryz.zeroValue140
 t39 := Tryz.underlying158
 a39 := Tryz.isAgg158
 z39 := Tryz.sizeOf158
 v39 := Tryz.zeroValue158
 t45 := Tryz.underlying196
 a45 := Tryz.isAgg196
 z45 := Tryz.sizeOf196
 v45 := Tryz.zeroValue196
 t46 := Tryz.underlying197
 a46 := Tryz.isAgg197
 z46 := Tryz.sizeOf197
 v46 := Tryz.zeroValue197
 t50 := Tryz.underlying86
 a50 := Tryz.isAgg86
 z50 := Tryz.sizeOf86
 v50 := Tryz.zeroValue86
 t53 := Tryz.underlying203
 a53 := Tryz.isAgg203
 z53 := Tryz.sizeOf203
 v53 := Tryz.zeroValue203
 t55 := Tryz.underlying205
 a55 := Tryz.isAgg205
 z55 := Tryz.sizeOf205
 v55 := Tryz.zeroValue205
 t66 := Tryz.underlying228
 a66 := Tryz.isAgg228
 z66 := Tryz.sizeOf228
 v66 := Tryz.zeroValue228
 t70 := Tryz.underlying232
 a70 := Tryz.isAgg232
 z70 := Tryz.sizeOf232
 v70 := Tryz.zeroValue232
 t76 := Tryz.underlying240
 a76 := Tryz.isAgg240
 z76 := Tryz.sizeOf240
 v76 := Tryz.zeroValue240
 t77 := Tryz.underlying241
 a77 := Tryz.isAgg241
 z77 := Tryz.sizeOf241
 v77 := Tryz.zeroValue241 }
def Tryz.layCloneE_ren : Go.Shelf.Ren := ⟨fun | 41 => 121 | n => n, fun | 22 => 22 | 23 => 44 | 4 => 4 | n => n, fun | n => n⟩
theorem Tryz.layCloneE : Go.Proofs.SlLaysE0.n41 Tryz.prog Tryz.layCloneE_ren := {
 mixed := by kernel_rfl
 f41 := ⟨Tryz.f121.name, by decide, Tryz.func121.trans (congrArg some (by kernel_rfl))⟩
 t4 := Tryz.underlying4
 a4 := Tryz.isAgg4
 z4 := Tryz.sizeOf4
 v4 := Tryz.zeroValue4
 t22 := Tryz.underlying22
 a22 := Tryz.isAgg22
 z22 := Tryz.sizeOf22
 v22 := Tryz.zeroValue22 }
end Go.Proofs
namespace Go.Proofs.YtocbhlohcikapaaGreatDoor
section
open Go.RowKit Go.Sort Go.Shelf Go.Lib
def cat (l : List Ed) : List Value := l.flatMap edE
theorem cat_len (l : List Ed) : (cat l).length = l.length * 3 := by
 induction l with
 | nil => rfl
 | cons x l ih => simp only [cat, List.flatMap_cons, List.length_append, List.length_cons] at *; rw [ih]; simp [edE]; omega
theorem flat_at {α β : Type} {enc : α → List β} {m : Nat} (hm : ∀ x, (enc x).length = m) : ∀ (l : List α) (i : Nat) (hi : i < l.length) (j : Nat), j < m → (l.flatMap enc)[i * m + j]? = (enc l[i])[j]?
 | [], i, hi, _, _ => by simp at hi
 | x :: l, 0, _, j, hj => by
  rw [List.flatMap_cons, Nat.zero_mul, Nat.zero_add, List.getElem?_append_left (by rw [hm]; exact hj)]; rfl
 | x :: l, i + 1, hi, j, hj => by
  rw [List.flatMap_cons, List.getElem?_append_right (by rw [hm, Nat.succ_mul]; omega), hm, show (i + 1) * m + j - m = i * m + j by rw [Nat.succ_mul]; omega]
  exact flat_at hm l i (by simpa using hi) j hj
theorem cat_get (l : List Ed) (i : Nat) (hi : i < l.length) (j : Nat) (hj : j < 3) : (cat l)[i * 3 + j]? = (edE l[i])[j]? := flat_at (enc := edE) (m := 3) (fun _ => rfl) l i hi j hj
theorem cat_app (l m : List Ed) : cat (l ++ m) = cat l ++ cat m := by simp [cat, List.flatMap_append]
theorem cat_one (l : List Ed) : ∀ u ∈ cat l, u.oneCell' = true := by
 intro u hu
 obtain ⟨x, _, hx⟩ := List.mem_flatMap.1 hu
 simp only [edE, List.mem_cons, List.not_mem_nil, or_false] at hx
 rcases hx with rfl | rfl | rfl <;> rfl
theorem Sg.of_row {w : World} {B t : Nat} {l : List Ed} (h : VRow w B t (cat l)) : Sg 3 w edE (some ⟨B, 0, none⟩) l :=
 .inr ⟨B, 0, rfl, h.lt, fun i hi j hj => by rw [Nat.zero_add, h.cell, cat_get l i hi j hj]⟩
theorem own_sg {B e n : Nat} {w : World} {v : Value} {l : List Ed} (h : w.ownsRow B e 3 v n (cat l)) : ∃ p cap, v = .slice p l.length cap ∧ Sg 3 w edE p l ∧ l.length ≤ cap ∧ l.length = n := by
 have hn : l.length = n := by have := h.1; rw [cat_len] at this; omega
 rcases h.2 with ⟨rfl, h0⟩ | ⟨g, cap, cur, rfl, hg, hh, hc, hm, hs, ht⟩
 ·subst h0
  have : l = [] := List.length_eq_zero_iff.1 hn
  subst this
  exact ⟨none, 0, rfl, Sg.nil _ _ _ _, by simp, rfl⟩
 ·refine ⟨some ⟨g, 0, none⟩, cap, by rw [hn], .inr ⟨g, 0, rfl, (Array.getElem?_eq_some_iff.1 hh).1, fun i hi j hj => ?_⟩, by omega, hn⟩
  have hij : i * 3 + j < n * 3 := by omega
  rw [Nat.zero_add, ← cat_get l i hi j hj, ← ht, List.getElem?_take, if_pos hij]
  simp [World.cell?, hh]
theorem flatK_cat (l : List Ed) : (flatK edE 3 l.toArray).toList = cat l := by
 apply List.ext_getElem?
 intro t
 by_cases h : t < l.length * 3
 ·have h3 : t / 3 < l.length := by omega
  have e1 := cat_get l (t / 3) h3 (t % 3) (by omega)
  rw [show t / 3 * 3 + t % 3 = t by omega] at e1
  rw [e1, Array.getElem?_toList]
  have hlt : t < (flatK edE 3 l.toArray).size := by simp; omega
  rw [Array.getElem?_eq_getElem hlt, ← getElem!_pos (flatK edE 3 l.toArray) t hlt, get_flatK edE 3 l.toArray t (by simpa using h)]
  rw [getElem!_pos l.toArray (t / 3) (by simpa using h3)]
  have : t % 3 < (edE l.toArray[t / 3]).length := by simp [edE]; omega
  rw [getElem!_pos (edE l.toArray[t / 3]) (t % 3) this, ← List.getElem?_eq_getElem this]
  simp
 ·rw [List.getElem?_eq_none (by simp; omega), List.getElem?_eq_none (by rw [cat_len]; omega)]
theorem holds_own {w : World} {B e g n cap : Nat} {l : List Ed} (h : w.ownsRow B e 3 (.slice (some ⟨g, 0, none⟩) n cap) n (cat l)) : HoldsK edE 3 w g 0 l.toArray ∧ g < w.heap.size ∧ B ≤ g ∧ l.length = n := by
 have hn : l.length = n := by have := h.1; rw [cat_len] at this; omega
 rcases h.2 with ⟨e0, _⟩ | ⟨g', cap', cur, e0, hg, hh, hc, hm, hs, ht⟩
 ·cases e0
 ·cases e0
  refine ⟨fun j hj => ?_, (Array.getElem?_eq_some_iff.1 hh).1, hg, hn⟩
  have hj' : j < n * 3 := by simp at hj; omega
  refine ⟨?_, by simp [World.frozen?, hh]⟩
  have e1 : (flatK edE 3 l.toArray).toList[j]? = cur.toList[j]? := by
   rw [flatK_cat, ← ht, List.getElem?_take, if_pos hj']
  rw [Array.getElem?_toList, Array.getElem?_eq_getElem hj] at e1
  rw [getElem!_pos (flatK edE 3 l.toArray) j hj]
  simp [World.cell?, hh]
  rw [Array.getElem?_toList] at e1; exact e1.symm
theorem own_sorted {w : World} {B e g n cap q : Nat} {os : Array Obj} {l m : List Ed} (h : w.ownsRow B e 3 (.slice (some ⟨g, 0, none⟩) n cap) n (cat l)) (hm : m.length = n) :
  (sortWorldK edE 3 w g 0 q m.toArray os).ownsRow B e 3 (.slice (some ⟨g, 0, none⟩) n cap) n (cat m) := by
 rcases h.2 with ⟨e0, _⟩ | ⟨g', cap', cur, e0, hg, hh, hc, hcm, hs, ht⟩
 ·cases e0
 ·cases e0
  have hlt : g < w.heap.size := (Array.getElem?_eq_some_iff.1 hh).1
  refine ⟨by rw [cat_len, hm], .inr ⟨g, cap, putCells id 0 (flatK edE 3 m.toArray) cur, rfl, hg, ?_, hc, hcm, by simpa [putCells] using hs, ?_⟩⟩
  ·have hg' : w.heap[g] = .cells cur e (0, 0) := by have := Array.getElem?_eq_some_iff.1 hh; exact this.2
   simp [sortWorldK, grow, putRowK, putRow, mapBlock, Sort.ahead, Array.getElem?_append, hlt, Array.getElem_modify, hg', onCells]
  ·apply List.ext_getElem?
   intro j
   rw [List.getElem?_take, Array.getElem?_toList]
   by_cases hj : j < n * 3
   ·have hjc : j < cur.size := by
     have : n * 3 ≤ cap * 3 := Nat.mul_le_mul_right _ hc
     omega
    have hjf : j < (flatK edE 3 m.toArray).size := by simp; omega
    rw [if_pos hj, ← flatK_cat, Array.getElem?_toList, Array.getElem?_eq_getElem hjf]
    simp only [putCells, Array.getElem?_mapIdx, Array.getElem?_eq_getElem hjc, Option.map_some]
    rw [if_pos (by simp; omega)]
    simp only [Nat.sub_zero]
    rw [getElem!_pos (flatK edE 3 m.toArray) j hjf]; rfl
   ·rw [if_neg hj, List.getElem?_eq_none (by rw [cat_len]; omega)]
theorem grown_sorted {w : World} {g q : Nat} {os : Array Obj} (d : Array Ed) : w.grownBy (sortWorldK edE 3 w g 0 q d os) (some g) := by
 refine ⟨rfl, rfl, rfl, by simp [sortWorldK, grow, putRowK, putRow, mapBlock, Sort.ahead], fun i hi hne => ?_⟩
 have hne' : g ≠ i := fun e => hne (by rw [e])
 simp [sortWorldK, grow, putRowK, putRow, mapBlock, Sort.ahead, Array.getElem?_append, hi, Array.getElem_modify, hne']
theorem swoE : SWO (ltOf cmpE) where
 irrefl x := by unfold ltOf; rw [cmpE_neg]; exact ltE_irrefl x
 trans x y z h1 h2 := by unfold ltOf at *; rw [cmpE_neg] at *; exact ltE_trans h1 h2
 ntrans x y z h1 h2 := by
  unfold ltOf at *; rw [cmpE_neg] at *
  cases h : ltE x z
  ·rfl
  ·cases hb : ltE y x
   ·have := ltE_total h1 hb; subst this; rw [h2] at h; cases h
   ·have := ltE_trans hb h; rw [h2] at this; cases this
theorem totE (x y : Ed) (h1 : ltOf cmpE x y = false) (h2 : ltOf cmpE y x = false) : x = y := by
 unfold ltOf at *; rw [cmpE_neg] at *; exact ltE_total h1 h2
theorem isAggE (w : World) : (isAgg 44).run Tryz.prog w = .ok true w := by kernel_rfl
theorem sizeOfE (w : World) : (Go.sizeOf 44).run Tryz.prog w = .ok 3 w := by kernel_rfl
theorem infoE : (Tryz.prog.info? 44).map (fun i => (i.zero, i.size, i.bytes)) = some (some (.agg #[.int .i64 0, .int .i64 0, .int .i64 0]), 3, 24) := by kernel_rfl
def srtE (l : List Ed) : List Ed := l.mergeSort (fun x y => !ltE y x)
theorem srtE_len (l : List Ed) : (srtE l).length = l.length := List.length_mergeSort l
theorem srtE_eq (l : List Ed) : l.mergeSort (fun x y => !(ltOf cmpE) y x) = srtE l := by
 unfold srtE; congr 1; funext x y; unfold ltOf; rw [cmpE_neg]
theorem sortE_own (l : List Ed) (B e g n cap bf : Nat) (w : World) (h : w.ownsRow B e 3 (.slice (some ⟨g, 0, none⟩) n cap) n (cat l)) (hf : w.cell? ⟨bf, 0, none⟩ = some (.func (.func 124) #[] #[])) (hne : bf ≠ g) (hn : n ≤ 100000) :
  Calls Tryz.prog 122 #[.slice (some ⟨g, 0, none⟩) n cap, .func (.func 176) #[] #[.pointer (some ⟨bf, 0, none⟩)]] w fun e' w' => e' = .returned (.tuple #[]) ∧ w'.ownsRow B e 3 (.slice (some ⟨g, 0, none⟩) n cap) n (cat (srtE l)) ∧ w.grownBy w' (some g) := by
 obtain ⟨hH, hlt, hBg, hl⟩ := holds_own h
 have eg : ∀ args w, (callFunc 176 args).run Tryz.prog w = .ok (.enter 176 args) w := enters_of Tryz.func176 (by kernel_rfl) rfl
 have hcmp : CmpLays Tryz.prog 176 #[.pointer (some ⟨bf, 0, none⟩)] edE 3 cmpE g 0 l.toArray.size w := fun m os dk hs x y => by
  have hc : (sortWorldK edE 3 w g 0 m dk os).cell? ⟨bf, 0, none⟩ = some (.func (.func 124) #[] #[]) := by
   have hb := World.block_lt_of_cell? w _ hf
   have := (grown_sorted (w := w) (g := g) (q := m) (os := os) dk).block bf hb (fun e => hne (Option.some.inj e))
   simp only [World.cell?] at hf ⊢
   rw [this]; exact hf
  exact gByc_up x y bf _ hc
 have hcon := AnyQ.slices_SortFunc_total Tryz.laySortE 3 isAggE sizeOfE edE (fun _ => rfl) (fun x v hv => cat_one [x] v (by simpa [cat] using hv)) cmpE swoE 176 #[.pointer (some ⟨bf, 0, none⟩)] g 0 cap l.toArray w eg hcmp hH hlt (by simp; omega) totE
 have hcon' : Calls Tryz.prog 122 #[.slice (some ⟨g, 0, none⟩) l.toArray.size cap, .func (.func 176) #[] #[.pointer (some ⟨bf, 0, none⟩)]] w _ := hcon
 rw [show l.toArray.size = n by simpa using hl] at hcon'
 refine hcon'.mono ?_
 rintro e' w' ⟨rfl, q, os, rfl⟩
 rw [srtE_eq]
 exact ⟨rfl, own_sorted h (by rw [srtE_len]; exact hl), grown_sorted _⟩
def RetOwnE (l : List Ed) (w : World) (e : Ending) (w' : World) : Prop := ∃ v, e = .returned v ∧ w'.ownsRow w.heap.size 44 3 v l.length (cat l) ∧ Below w.heap.size w w'
theorem sg_cells {w : World} {b off : Nat} {l : List Ed} (hc : ∀ i (h : i < l.length) j, j < 3 → w.cell? ⟨b, off + i * 3 + j, none⟩ = (edE l[i])[j]?) : ∀ (j : Nat) (u : Value), (cat l)[j]? = some u → w.cell? ⟨b, off + j, none⟩ = some u := by
 intro j u hu
 have hj : j < (cat l).length := (List.getElem?_eq_some_iff.1 hu).1
 rw [cat_len] at hj
 have h1 := hc (j / 3) (by omega) (j % 3) (by omega)
 have h2 := cat_get l (j / 3) (by omega) (j % 3) (by omega)
 rw [show j / 3 * 3 + j % 3 = j by omega] at h2
 rw [show off + j / 3 * 3 + j % 3 = off + j by omega] at h1
 rw [h1, ← h2, hu]
set_option maxRecDepth 100000 in
theorem cloneE_any (l : List Ed) (p : Option Addr) (c : Nat) (w : World) (hin : Sg 3 w edE p l) (hl : l.length ≤ 100000) :
  Calls Tryz.prog 121 #[.slice p l.length c] w (RetOwnE l w) := by
 obtain ⟨i0, hi0, hz0, hz1, hz2⟩ := info_parts infoE
 rcases Nat.eq_zero_or_pos l.length with h0 | h0
 ·have : l = [] := List.length_eq_zero_iff.1 h0
  subst this
  clear hin
  cases p with
  | none =>
   refine (AnyE.slices_Clone_nil Tryz.layCloneE 0 c w).mono ?_
   rintro e w' ⟨rfl, rfl⟩
   exact ⟨_, rfl, World.ownsRow_nil _ _ _ _, Below.refl _ _⟩
  | some ad =>
   have q22 : ∀ (w : World) (a : Option Addr) (n c n' c' : Nat), (binOp .eql 22 (.slice a n c) (.slice none n' c')).run Tryz.prog w = .ok (.bool a.isNone) w := fun w a n c n' c' => Lib.run_eql_slice_nil w _ _ a n c n' c' Tryz.underlying22
   have hown0 : (w.alloc (.cells #[] 44)).ownsRow w.heap.size 44 3 (.slice (some ⟨w.heap.size, 0, none⟩) 0 0) 0 [] := ⟨rfl, .inr ⟨w.heap.size, _, _, rfl, Nat.le_refl _, heap_alloc_new w _, Nat.le_refl _, by simp, rfl, rfl⟩⟩
   go_enter Tryz.func121, Tryz.ntmps121
   go_wp2_with (at_builtin; refine wpList_append_own _ rfl _ _ 22 rfl w.heap.size 44 i0 _ 3 24 Tryz.underlying22 hi0 hz0 hz1 hz2 rfl (by decide) _ _ _ rfl hown0 ad 0 c [] rfl rfl (by simp) (by simp) (by simp) (by simp) (by simp) ?_; intro v' w1 hown' hgrow _)
   go_ret
   exact ⟨_, rfl, hown', ((Below.refl _ _).alloc (Nat.le_refl _) _).grown hgrow (by simp) (fun j e => by cases e; exact Nat.le_refl _)⟩
 ·obtain ⟨b, off, rfl, hb, hc⟩ := hin.get 0 h0
  have hcon := AnyE.slices_Clone Tryz.layCloneE i0 _ 3 24 hi0 hz0 hz1 hz2 rfl (by decide) sizeOfE b off l.length c (cat l) w (cat_len l) (by simp [maxLen]; omega) (by omega) (sg_cells hc) (cat_one l)
  refine Calls.mono hcon ?_
  rintro e w' ⟨v, rfl, hown, _, hB⟩
  exact ⟨v, rfl, hown, hB⟩
end
section
open Go.RowKit Go.Sort Go.Shelf Go.Lib
theorem own_setCell {w : World} {B e size g n cap i : Nat} {xs : List Value} (h : w.ownsRow B e size (.slice (some ⟨g, 0, none⟩) n cap) n xs) (u : Value) :
  (w.setCell ⟨g, i, none⟩ u).ownsRow B e size (.slice (some ⟨g, 0, none⟩) n cap) n (xs.set i u) := by
 rcases h.2 with ⟨e0, _⟩ | ⟨g', cap', cur, e0, hg, hh, hc, hm, hs, ht⟩
 ·cases e0
 ·cases e0
  have hlt : g < w.heap.size := (Array.getElem?_eq_some_iff.1 hh).1
  have hgv : w.heap[g] = .cells cur e (0, 0) := (Array.getElem?_eq_some_iff.1 hh).2
  refine ⟨by rw [List.length_set]; exact h.1, .inr ⟨g, cap, cur.setIfInBounds i u, rfl, hg, ?_, hc, hm, by simpa using hs, ?_⟩⟩
  ·rw [setCell_eq]; simp [mapBlock, hlt, Array.getElem_modify, hgv, onCells]
  ·rw [Array.toList_setIfInBounds, List.take_set, ht]
theorem cat_set (d : List Ed) (x : Ed) : ∀ k, (((cat d).set (k * 3) (.int .i64 x.f)).set (k * 3 + 1) (.int .i64 x.l)).set (k * 3 + 2) (.int .i64 x.t) = cat (d.set k x) := by
 induction d with
 | nil => intro k; rfl
 | cons y d ih =>
  intro k
  cases k with
  | zero => simp [cat, edE]
  | succ k =>
   have := ih k
   simp only [cat, List.flatMap_cons, List.set_cons_succ] at *
   rw [← this]
   simp [edE, Nat.succ_mul]
theorem own_set3 {w : World} {B e g n cap k : Nat} {d : List Ed} (h : w.ownsRow B e 3 (.slice (some ⟨g, 0, none⟩) n cap) n (cat d)) (x : Ed) :
  (((w.setCell ⟨g, k * 3, none⟩ (.int .i64 x.f)).setCell ⟨g, k * 3 + 1, none⟩ (.int .i64 x.l)).setCell ⟨g, k * 3 + 2, none⟩ (.int .i64 x.t)).ownsRow B e 3 (.slice (some ⟨g, 0, none⟩) n cap) n (cat (d.set k x)) := by
 rw [← cat_set]
 exact own_setCell (own_setCell (own_setCell h _) _) _
theorem eqlE (a b : Ed) (w : World) : (binOp .eql 44 (.agg #[.int .i64 a.f, .int .i64 a.l, .int .i64 a.t]) (.agg #[.int .i64 b.f, .int .i64 b.l, .int .i64 b.t])).run Tryz.prog w = .ok (.bool (decide (a = b))) w := by
 have hS : Tryz.prog.underlying 44 = some (.struct (Tryz.prog.fieldsOf 44)) := by kernel_rfl
 have hp : Tryz.prog.stoodInHeld 44 = false := by kernel_rfl
 have hr : (Op.eqFields 9999 #[.int .i64 a.f, .int .i64 a.l, .int .i64 a.t] #[.int .i64 b.f, .int .i64 b.l, .int .i64 b.t] (Tryz.prog.fieldsOf 44).toList).run Tryz.prog w = .ok (decide (a = b)) w := by
  simp only [Program.fieldsOf, Tryz.underlying44]
  have u3 := Tryz.underlying3
  have a3 := Tryz.isAgg3
  have z3 := Tryz.sizeOf3
  go_simp
  have he : a = b ↔ a.f = b.f ∧ a.l = b.l ∧ a.t = b.t := ⟨fun h => by subst h; exact ⟨rfl, rfl, rfl⟩, fun ⟨h1, h2, h3⟩ => by cases a; cases b; simp_all⟩
  by_cases h1 : a.f = b.f <;> by_cases h2 : a.l = b.l <;> by_cases h3 : a.t = b.t <;> simp [he, h1, h2, h3]
 rw [run_eql_struct, show (10000 : Nat) = 9999 + 1 from rfl, run_equalIn_agg w 9999 44 _ _ hS hp, hr]
 rfl
theorem neqE (a b : Ed) (w : World) : (binOp .neq 44 (.agg #[.int .i64 a.f, .int .i64 a.l, .int .i64 a.t]) (.agg #[.int .i64 b.f, .int .i64 b.l, .int .i64 b.t])).run Tryz.prog w = .ok (.bool (!decide (a = b))) w := by
 have h := eqlE a b w
 rw [run_eql_struct] at h
 rw [run_neq_struct]
 cases hq : (Op.equalIn 10000 44 (.agg #[.int .i64 a.f, .int .i64 a.l, .int .i64 a.t]) (.agg #[.int .i64 b.f, .int .i64 b.l, .int .i64 b.t])).run Tryz.prog w with
 | ok v w' => rw [hq] at h; simp [Result.andThen] at h ⊢; exact ⟨h.1, h.2⟩
 | _ => rw [hq] at h; cases h
theorem guardE (op : BinOp) (a b : Operand) (x y : Ed) (w : World) : (eqGuard op 44 a b (.agg #[.int .i64 x.f, .int .i64 x.l, .int .i64 x.t]) (.agg #[.int .i64 y.f, .int .i64 y.l, .int .i64 y.t])).run Tryz.prog w = .ok () w :=
 GuardAt.agg (P := Tryz.prog) (T := 44) (fun x : Ed => #[.int .i64 x.f, .int .i64 x.l, .int .i64 x.t]) (by kernel_rfl) op a b x y w
theorem cat_take : ∀ (d : List Ed) (k : Nat), cat (d.take k) = (cat d).take (k * 3)
 | [], k => by simp [cat]
 | x :: d, 0 => by simp [cat]
 | x :: d, k + 1 => by
  have ih := cat_take d k
  simp only [cat, List.take_succ_cons, List.flatMap_cons] at *
  rw [ih]; simp [edE, Nat.succ_mul]
theorem own_clear {w : World} {B g n cap : Nat} {d : List Ed} (h : w.ownsRow B 44 3 (.slice (some ⟨g, 0, none⟩) n cap) n (cat d)) (kk : Nat) (hk : kk < n) :
  ∃ W', (∀ ty, (Builtin.clear_ #[22] ty #[.slice (some ⟨g, kk * 3, none⟩) (n - kk) (cap - kk)]).run Tryz.prog w = .ok (.tuple #[]) W') ∧
   W'.ownsRow B 44 3 (.slice (some ⟨g, 0, none⟩) kk cap) kk (cat (d.take kk)) ∧ w.grownBy W' (some g) := by
 have hn : d.length = n := by have := h.1; rw [cat_len] at this; omega
 rcases h.2 with ⟨e0, _⟩ | ⟨g', cap', cur, e0, hg, hh, hc, hm, hs, ht⟩
 ·cases e0
 ·cases e0
  have hlt : g < w.heap.size := (Array.getElem?_eq_some_iff.1 hh).1
  have hgv : w.heap[g] = .cells cur 44 (0, 0) := (Array.getElem?_eq_some_iff.1 hh).2
  obtain ⟨zs, hzs⟩ : ∃ zs, (Builtin.zeroCells #[.int .i64 0, .int .i64 0, .int .i64 0] (n - kk)).toList = zs := ⟨_, rfl⟩
  have hzl : zs.length = (n - kk) * 3 := by rw [← hzs]; simp [Builtin.zeroCells]
  have hz1 : ∀ v ∈ zs, v.oneCell' = true := by
   intro v hv
   rw [← hzs, Builtin.zeroCells] at hv
   simp at hv
   obtain ⟨i, _, rfl⟩ := hv
   have : i % 3 = 0 ∨ i % 3 = 1 ∨ i % 3 = 2 := by omega
   rcases this with e | e | e <;> simp [e, Value.oneCell']
  have hb : n * 3 ≤ cap * 3 := Nat.mul_le_mul_right _ hc
  have hst := run_storeCells_at (P := Tryz.prog) g (kk * 3) 44 zs 0 cur w hh (by rw [hzl, Nat.sub_mul, hs]; omega) hz1
  rw [Nat.add_zero] at hst
  refine ⟨w.setRow g (cur.toList.take (kk * 3) ++ zs ++ cur.toList.drop (kk * 3 + zs.length)).toArray, fun ty => ?_, ⟨by rw [cat_len, List.length_take]; omega, .inr ⟨g, cap, _, rfl, hg, setRow_heap w g cur _ 44 (0, 0) hh, by omega, hm, ?_, ?_⟩⟩, ?_⟩
  ·obtain ⟨m, hm1⟩ : ∃ m, n - kk = m + 1 := ⟨n - kk - 1, by omega⟩
   have hv : (zeroValue 44).run Tryz.prog w = .ok (.agg #[.int .i64 0, .int .i64 0, .int .i64 0]) w := by kernel_rfl
   rw [hm1] at hzs ⊢
   simp [Builtin.clear_, run_underlying Tryz.underlying22, hv, Value.cells, hzs, hst]
  ·simp [hzl, hs, Nat.sub_mul]; omega
  ·simp only [List.take_append, List.length_take]
   have : kk * 3 ≤ cur.toList.length := by simp [hs]; omega
   rw [Nat.min_eq_left this, Nat.sub_self, List.take_zero, List.append_nil, List.take_take, Nat.min_self,
    show kk * 3 - (cur.toList.take (kk * 3) ++ zs).length = 0 by rw [List.length_append, List.length_take, Nat.min_eq_left this]; omega,
    List.take_zero, List.append_nil, cat_take, ← ht, List.take_take, Nat.min_eq_left (Nat.mul_le_mul_right 3 (Nat.le_of_lt hk))]
  ·refine ⟨rfl, rfl, rfl, by simp [World.setRow], fun i hi hne => ?_⟩
   have hne' : g ≠ i := fun e => hne (by rw [e])
   simp [World.setRow, Array.getElem?_modify, hne']
theorem own_cell3 {w : World} {B e g n cap : Nat} {d : List Ed} (h : w.ownsRow B e 3 (.slice (some ⟨g, 0, none⟩) n cap) n (cat d)) (k : Nat) (hk : k < d.length) :
  w.cell? ⟨g, k * 3, none⟩ = some (.int .i64 d[k].f) ∧ w.cell? ⟨g, k * 3 + 1, none⟩ = some (.int .i64 d[k].l) ∧ w.cell? ⟨g, k * 3 + 2, none⟩ = some (.int .i64 d[k].t) ∧ (∀ j, w.frozen? ⟨g, j, none⟩ = false) ∧ g < w.heap.size := by
 obtain ⟨p, c, hv, hs, _, hn⟩ := own_sg h
 cases hv
 obtain ⟨b, off, hp, _, e0, e1, e2⟩ := hs.get3 k hk rfl
 cases hp
 simp only [Nat.zero_add] at e0 e1 e2
 refine ⟨e0, e1, e2, fun j => ?_, ?_⟩
 ·rcases h.2 with ⟨e0, _⟩ | ⟨g', cap', cur, e0, hg, hh, hc, hm, hs, ht⟩
  ·cases e0
  ·cases e0; simp [World.frozen?, hh]
 ·rcases h.2 with ⟨e0, _⟩ | ⟨g', cap', cur, e0, hg, hh, hc, hm, hs, ht⟩
  ·cases e0
  ·cases e0; exact (Array.getElem?_eq_some_iff.1 hh).1
end
section
open Go.RowKit Go.Sort Go.Shelf Go.Lib
theorem grown_set {w w1 : World} {g i : Nat} (h : w.grownBy w1 (some g)) (u : Value) : w.grownBy (w1.setCell ⟨g, i, none⟩ u) (some g) :=
 ⟨h.os, h.tape, h.output, by rw [setCell_eq]; simpa [mapBlock] using h.size, fun k hk hne => (Below.heap_setCell _ _ _ _ (fun e => hne (by rw [e]))).trans (h.block k hk hne)⟩
theorem grown_dr {w w1 w' : World} {r : Option Nat} (h : Dr w1 w') (k : w.grownBy w1 r) : w.grownBy w' r := by
 obtain ⟨q, rfl⟩ := h; exact ⟨k.os, k.tape, k.output, k.size, k.block⟩
def RetCmp (B g cap : Nat) (l : List Ed) (w : World) (e : Ending) (w' : World) : Prop := e = .returned (.slice (some ⟨g, 0, none⟩) l.length cap) ∧ w'.ownsRow B 44 3 (.slice (some ⟨g, 0, none⟩) l.length cap) l.length (cat l) ∧ w.grownBy w' (some g)
theorem RetCmp.of {B g cap : Nat} {x r : List Ed} {w w' : World} (hr : x = r) (ho : w'.ownsRow B 44 3 (.slice (some ⟨g, 0, none⟩) r.length cap) r.length (cat r)) (hg : w.grownBy w' (some g)) : RetCmp B g cap x w (.returned (.slice (some ⟨g, 0, none⟩) r.length cap)) w' := by
 subst hr; exact ⟨rfl, ho, hg⟩
theorem compactE_short (l : List Ed) (B g n cap : Nat) (w : World) (h : w.ownsRow B 44 3 (.slice (some ⟨g, 0, none⟩) n cap) n (cat l)) (h2 : n < 2) :
  Calls Tryz.prog 125 #[.slice (some ⟨g, 0, none⟩) n cap] w (RetCmp B g cap (compact l) w) := by
 have hl : l.length = n := by have := h.1; rw [cat_len] at this; omega
 have hc : compact l = l := by
  match l, hl with
  | [], _ => rfl
  | [_], _ => rfl
  | _ :: _ :: _, hl => simp at hl; omega
 rw [hc]
 have h2' : (n : Int) < 2 := by omega
 have HH := hidI h
 clear h hc
 go_enter Tryz.func125, Tryz.ntmps125
 go_wp2
 go_ret
 subst hl
 exact ⟨rfl, HH.out, World.grownBy.refl _ _⟩
set_option maxRecDepth 100000 in
set_option maxHeartbeats 2000000 in
theorem compactE_long (l : List Ed) (B g n cap : Nat) (w : World) (h : w.ownsRow B 44 3 (.slice (some ⟨g, 0, none⟩) n cap) n (cat l)) (h2 : 2 ≤ n) (hn : n ≤ 100000) :
  Calls Tryz.prog 125 #[.slice (some ⟨g, 0, none⟩) n cap] w (RetCmp B g cap (compact l) w) := by
 have hl : l.length = n := by have := h.1; rw [cat_len] at this; omega
 have hnc : n ≤ cap := own_cap h _ _ _ rfl
 have h2' : ¬ ((n : Int) < 2) := by omega
 have HH := hidI h
 clear h
 go_enter Tryz.func125, Tryz.ntmps125
 go_wp2
 go_loopw [3] (fun kv wr => ∃ k : Nat, 1 ≤ k ∧ k ≤ n ∧ kv = .int .i64 k ∧ Hid (∀ m (hm : m + 1 < l.length), m + 1 < k → l[m] ≠ l[m + 1]) ∧ Dr w wr) (fun kv _ => n - (intOf kv).toNat)
 case atStart => exact ⟨1, by omega, by omega, rfl, fun m _ h => by omega, Dr.refl _⟩
 case round =>
  obtain ⟨k, hk1, hk, rfl, hj, hD⟩ := hrel
  have hown := HH.out.dr hD
  by_cases hlt : k < n
  ·obtain ⟨m, rfl⟩ : ∃ m, k = m + 1 := ⟨k - 1, by omega⟩
   obtain ⟨e0, e1, e2, _, hg⟩ := own_cell3 hown (m + 1) (by omega)
   obtain ⟨e3, e4, e5, _, _⟩ := own_cell3 hown m (by omega)
   have hI : (m : Int) + 1 < (n : Int) := by omega
   have hI2 : (m : Int) < (n : Int) := by omega
   have hq := eqlE l[m + 1] l[m]
   have hgd := guardE .eql
   by_cases heq : l[m + 1] = l[m]
   ·rw [decide_eq_true heq] at hq
    have HQ := hidI heq
    clear heq
    have hk0 : ¬ cap = m + 1 := by omega
    have q0 : IntKind.i64.wrap ((m : Int) + 1) = (m : Int) + 1 := IntWalk.i64_in _ (by omega)
    have hI3 : (m : Int) + 1 ≤ (n : Int) := by omega
    have hI4 : (n : Int) ≤ (cap : Int) := by omega
    go_wp2_with fail
    (refine wp_region_quiet_lit (by kernel_rfl) (by kernel_rfl) ?_; (repeat (first | go_big_quiet_step (fail) | quiet_step (fail))); refine wpQuiet_nil ?_; intro _ hwq; obtain ⟨nq, hwq2⟩ := hwq; subst hwq2)
    clear e0 e1 e2 e3 e4 e5 hq hgd hI hI2
    go_wp2
    have HC0 : Hid (l.take (m + 1) = compact (l.take (m + 1 + 1))) := by
     unfold Hid
     rw [compact_succ l m (by omega), if_pos HQ.out.symm]
     exact (compact_same _ (fun i hi => by
      rw [List.length_take] at hi
      rw [List.getElem_take, List.getElem_take]
      exact hj.out i (by omega) (by omega))).symm
    have hgr : w.grownBy (wr.drewN nq) (some g) := grown_dr (hD.one nq) (World.grownBy.refl _ _)
    have hown1 : (wr.drewN nq).ownsRow B 44 3 (.slice (some ⟨g, 0, none⟩) n cap) n (cat l) := hown
    have HG := hidI hgr
    have HO := hidI hown1
    clear hgr hown1 hown hD
    generalize wr.drewN nq = w1 at HG HO ⊢
    go_loopw [3, 5] (fun kv jv wr => ∃ (kk i : Nat) (d : List Ed), 1 ≤ kk ∧ kk ≤ m + (i + 1) ∧ i + 1 ≤ n - (m + 1) ∧ kv = .int .i64 kk ∧ jv = .int .i64 (i + 1 : Nat) ∧ Hid (d.length = n ∧ d.take kk = compact (l.take (m + 1 + (i + 1))) ∧ d.drop (m + (i + 1)) = l.drop (m + (i + 1))) ∧
     wr.ownsRow B 44 3 (.slice (some ⟨g, 0, none⟩) n cap) n (cat d) ∧ w.grownBy wr (some g)) (fun _ jv _ => n - (intOf jv).toNat)
    case atStart => exact ⟨m + 1, 0, l, by omega, by omega, by omega, rfl, rfl, ⟨hl, HC0.out, rfl⟩, HO.out, HG.out⟩
    case round =>
     obtain ⟨kk, i, d, hkk1, hkk, hi, rfl, rfl, hd, hown, hgw⟩ := hrel
     obtain ⟨hdl, hdt, hdd⟩ := hd.out
     have hgets : ∀ x, m + (i + 1) ≤ x → ∀ (h1 : x < d.length) (h2 : x < l.length), d[x] = l[x] := fun x hx h1 h2 => by
      have e1 : d[x]? = (d.drop (m + (i + 1)))[x - (m + (i + 1))]? := by rw [List.getElem?_drop]; congr 1; omega
      have e2 : l[x]? = (l.drop (m + (i + 1)))[x - (m + (i + 1))]? := by rw [List.getElem?_drop]; congr 1; omega
      have : d[x]? = l[x]? := by rw [e1, e2, hdd]
      rw [List.getElem?_eq_getElem h1, List.getElem?_eq_getElem h2] at this
      exact Option.some.inj this
     by_cases hlt : i + 1 < n - (m + 1)
     ·obtain ⟨e0, e1, e2, hfz, hg⟩ := own_cell3 hown (m + 1 + (i + 1)) (by omega)
      obtain ⟨e3, e4, e5, _, _⟩ := own_cell3 hown (m + 1 + i) (by omega)
      obtain ⟨k0, k1, k2, _, _⟩ := own_cell3 hown kk (by omega)
      have hx1 : d[m + 1 + (i + 1)] = l[m + 1 + (i + 1)] := hgets _ (by omega) _ (by omega)
      have hx0 : d[m + 1 + i] = l[m + 1 + i] := hgets _ (by omega) _ (by omega)
      rw [hx1] at e0 e1 e2
      rw [hx0] at e3 e4 e5
      rw [Nat.add_mul (m + 1) (i + 1) 3] at e0 e1 e2
      rw [Nat.add_mul (m + 1) i 3] at e3 e4 e5
      have HX1 := hidI hx1
      clear hx1 hx0 hgets
      have HD := hidI hdd; have HT := hidI hdt; have HL := hidI hdl
      clear hdd hdt
      have hz : (i : Int) + 1 < (n : Int) - ((m : Int) + 1) := by omega
      have hI1 : (i : Int) + 1 < ((n - (m + 1) : Nat) : Int) := by omega
      have hI2 : (i : Int) < ((n - (m + 1) : Nat) : Int) := by omega
      have hq := neqE l[m + 1 + (i + 1)] l[m + 1 + i]
      have hgd := guardE .neq
      have HCT := hidI (compact_succ l (m + 1 + i) (by omega))
      by_cases heq : l[m + 1 + (i + 1)] = l[m + 1 + i]
      ·rw [decide_eq_true heq] at hq
       have HN : Hid (d.length = n ∧ d.take kk = compact (l.take (m + 1 + (i + 1 + 1))) ∧ d.drop (m + (i + 1 + 1)) = l.drop (m + (i + 1 + 1))) := ⟨HL.out, HT.out.trans (HCT.out.trans (if_pos heq.symm)).symm
        , by have := congrArg (List.drop 1) HD.out; rw [List.drop_drop, List.drop_drop] at this; exact this⟩
       clear heq HCT k0 k1 k2
       go_wp2_with fail
       (refine wp_region_quiet_lit (by kernel_rfl) (by kernel_rfl) ?_; (repeat (first | go_big_quiet_step (fail) | quiet_step (fail))); refine wpQuiet_nil ?_; intro _ hwq; obtain ⟨nq, hwq2⟩ := hwq; subst hwq2)
       clear e0 e1 e2 e3 e4 e5 hq hgd
       go_wp2
       go_roundw
       case rel => exact ⟨kk, i + 1, d, hkk1, by omega, by omega, rfl, by go_num, HN, hown, grown_dr ⟨nq, rfl⟩ hgw⟩
       case measure => simp [intOf]; omega
      ·rw [decide_eq_false heq] at hq
       have HN : Hid ((d.set kk l[m + 1 + (i + 1)]).length = n ∧ (d.set kk l[m + 1 + (i + 1)]).take (kk + 1) = compact (l.take (m + 1 + (i + 1 + 1))) ∧ (d.set kk l[m + 1 + (i + 1)]).drop (m + (i + 1 + 1)) = l.drop (m + (i + 1 + 1))) := by
        refine ⟨by rw [List.length_set]; exact HL.out, ?_, ?_⟩
        ·have h1 : compact (l.take (m + 1 + (i + 1 + 1))) = compact (l.take (m + 1 + (i + 1))) ++ [l[m + 1 + (i + 1)]] := HCT.out.trans (if_neg (fun e => heq e.symm))
         rw [h1, ← HT.out, List.take_succ_eq_append_getElem (by rw [List.length_set]; omega), List.getElem_set_self, List.take_set_of_le (Nat.le_refl _)]
        ·rw [List.drop_set_of_lt (by omega)]
         have := congrArg (List.drop 1) HD.out; rw [List.drop_drop, List.drop_drop] at this; exact this
       have k3 := hfz (kk * 3); have k4 := hfz (kk * 3 + 1); have k5 := hfz (kk * 3 + 2)
       have hkI : (kk : Int) < (n : Int) := by omega
       have HX3 := fun (q : Nat) => own_set3 (w := wr.drewN q) (k := kk) (show (wr.drewN q).ownsRow B 44 3 (.slice (some ⟨g, 0, none⟩) n cap) n (cat d) from hown) l[m + 1 + (i + 1)]
       have HX := hidI HX3
       clear heq HCT HX3
       go_wp2_with fail
       (refine wp_region_quiet_lit (by kernel_rfl) (by kernel_rfl) ?_; (repeat (first | go_big_quiet_step (fail) | quiet_step (fail))); refine wpQuiet_nil ?_; intro _ hwq; obtain ⟨nq, hwq2⟩ := hwq; subst hwq2)
       clear hq hgd
       go_wp2
       go_roundw
       case rel => (repeat apply Exists.intro); exact ⟨⟨kk + 1, i + 1, d.set kk l[m + 1 + (i + 1)], by omega, by omega, by omega, by go_num, by go_num, HN, HX.out nq, grown_set (grown_set (grown_set (grown_dr ⟨nq, rfl⟩ hgw) _) _) _⟩, rfl⟩
       case measure => simp [intOf]; omega
     ·have hie : i + 1 = n - (m + 1) := by omega
      have HCE : Hid (compact l = d.take kk) := by
       unfold Hid
       rw [hdt, show m + 1 + (i + 1) = l.length by omega, List.take_length]
      have hkn : kk < n := by omega
      have hkl : (d.take kk).length = kk := by rw [List.length_take]; omega
      obtain ⟨W', hcl, hownW, hgW⟩ := own_clear hown kk hkn
      have HL := hidI hkl
      have hkI : (kk : Int) ≤ (n : Int) := by omega
      have hkc : (kk : Int) ≤ (cap : Int) := by omega
      have hk00 : ¬ cap = kk := by omega
      have hni : ¬ ((i : Int) + 1 < ((n - (m + 1) : Nat) : Int)) := by omega
      have HGW := hidI (World.grownBy.trans hgw hgW)
      have HOW := hidI hownW
      clear hgets hdt hdd hkl hie hown hownW hgW
      go_wp2
      go_ret
      have := RetCmp.of (B := B) (cap := cap) HCE.out (by rw [HL.out]; exact HOW.out) HGW.out
      rw [HL.out] at this
      exact this
   ·rw [decide_eq_false heq] at hq
    have HN : Hid (∀ i (hi : i + 1 < l.length), i + 1 < m + 1 + 1 → l[i] ≠ l[i + 1]) := fun i hi hlt => by
     by_cases e : i = m
     ·subst e; exact fun e => heq e.symm
     ·exact hj.out i hi (by omega)
    clear heq
    go_wp2_with fail
    (refine wp_region_quiet_lit (by kernel_rfl) (by kernel_rfl) ?_; (repeat (first | go_big_quiet_step (fail) | quiet_step (fail))); refine wpQuiet_nil ?_; intro _ hwq; obtain ⟨nq, hwq2⟩ := hwq; subst hwq2)
    go_wp2
    go_roundw
    case rel => exact ⟨m + 1 + 1, by omega, by omega, by go_num, HN, hD.one _⟩
    case measure => simp [intOf]; omega
  ·obtain rfl : k = n := by omega
   have HC : Hid (compact l = l) := compact_same l (fun m hm => hj.out m hm (by omega))
   go_wp2
   go_ret
   subst hl
   exact RetCmp.of HC.out hown (grown_dr hD (World.grownBy.refl _ _))
theorem own_forms {w : World} {base size n : Nat} {e : TypeId} {v : Value} {xs : List Value} (h : w.ownsRow base e size v n xs) : (v = .slice none 0 0 ∧ n = 0) ∨ ∃ g cap, v = .slice (some ⟨g, 0, none⟩) n cap := by
 rcases h.2 with h | ⟨g, cap, _, hv, _⟩
 ·exact .inl h
 ·exact .inr ⟨g, cap, hv⟩
def RetOwnB (B : Nat) (l : List Ed) (w : World) (e : Ending) (w' : World) : Prop := ∃ v, e = .returned v ∧ w'.ownsRow B 44 3 v l.length (cat l) ∧ Below B w w'
theorem compactE_any (l : List Ed) (B n : Nat) (v : Value) (w : World) (h : w.ownsRow B 44 3 v n (cat l)) (hn : n ≤ 100000) (hB : B ≤ w.heap.size) :
  Calls Tryz.prog 125 #[v] w (RetOwnB B (compact l) w) := by
 rcases own_forms h with ⟨rfl, rfl⟩ | ⟨g, cap, rfl⟩
 ·have : l = [] := List.length_eq_zero_iff.1 (by have := h.1; rw [cat_len] at this; omega)
  subst this
  clear h
  go_enter Tryz.func125, Tryz.ntmps125
  go_wp2
  go_ret
  exact ⟨_, rfl, World.ownsRow_nil _ _ _ _, Below.refl _ _⟩
 ·have hg : B ≤ g := (h.lt g rfl).1
  by_cases h2 : n < 2
  ·refine (compactE_short l B g n cap w h h2).mono ?_
   rintro e w' ⟨rfl, ho, hgr⟩
   exact ⟨_, rfl, ho, (Below.refl _ _).grown hgr hB (fun j e => by cases e; exact hg)⟩
  ·refine (compactE_long l B g n cap w h (by omega) hn).mono ?_
   rintro e w' ⟨rfl, ho, hgr⟩
   exact ⟨_, rfl, ho, (Below.refl _ _).grown hgr hB (fun j e => by cases e; exact hg)⟩
theorem sortE_any (l : List Ed) (B n bf : Nat) (v : Value) (w : World) (h : w.ownsRow B 44 3 v n (cat l)) (hf : w.cell? ⟨bf, 0, none⟩ = some (.func (.func 124) #[] #[])) (hne : v.ownBlock ≠ some bf) (hn : n ≤ 100000) (hB : B ≤ w.heap.size) :
  Calls Tryz.prog 122 #[v, .func (.func 176) #[] #[.pointer (some ⟨bf, 0, none⟩)]] w fun e w' => e = .returned (.tuple #[]) ∧ w'.ownsRow B 44 3 v n (cat (srtE l)) ∧ Below B w w' := by
 rcases own_forms h with ⟨rfl, rfl⟩ | ⟨g, cap, rfl⟩
 ·have : l = [] := List.length_eq_zero_iff.1 (by have := h.1; rw [cat_len] at this; omega)
  subst this
  have hcon := AnyF.slices_SortFunc_none Tryz.laySortE none 0 (.func (.func 176) #[] #[.pointer (some ⟨bf, 0, none⟩)]) w
  refine Calls.mono hcon ?_
  rintro e w' ⟨rfl, rfl⟩
  exact ⟨rfl, by rw [show srtE [] = [] by simp [srtE]]; exact World.ownsRow_nil _ _ _ _, Below.refl _ _⟩
 ·have hg : B ≤ g := (h.lt g rfl).1
  refine (sortE_own l B _ g n cap bf w h hf (fun e => hne (by rw [e]; rfl)) hn).mono ?_
  rintro e w' ⟨rfl, ho, hgr⟩
  exact ⟨rfl, ho, (Below.refl _ _).grown hgr hB (fun j e => by cases e; exact hg)⟩
end
section
open Go.RowKit Go.Sort
def mn3 (x y z : Int) : Int := if z < (if y < x then y else x) then z else (if y < x then y else x)
theorem mn3_neg {x y z : Int} : mn3 x y z < 0 ↔ x < 0 ∨ y < 0 ∨ z < 0 := by unfold mn3; split <;> split at * <;> omega
theorem run_mn3 (x y z : Int) (w : World) : (Builtin.min_ #[3, 3, 3] 3 #[.int .i64 x, .int .i64 y, .int .i64 z]).run Tryz.prog w = .ok (.int .i64 (mn3 x y z)) w := by kernel_rfl
def mx2 (x y : Int) : Int := if x < y then y else x
theorem mx2_ge {n x y : Int} : n ≤ mx2 x y ↔ n ≤ x ∨ n ≤ y := by unfold mx2; split <;> omega
theorem run_mx2 (x y : Int) (w : World) : (Builtin.max_ #[3, 3] 3 #[.int .i64 x, .int .i64 y]).run Tryz.prog w = .ok (.int .i64 (mx2 x y)) w := by kernel_rfl
theorem gBy_any (w : World) : Calls Tryz.prog 123 #[.func (.func 124) #[] #[]] w fun e w' => e = .returned (.func (.func 176) #[] #[.pointer (some ⟨w.heap.size, 0, none⟩)]) ∧ w.alloc (.cells #[.func (.func 124) #[] #[]] 142) = w' := by
 go_enter Tryz.func123, Tryz.ntmps123
 go_wp2
 go_ret
 exact ⟨rfl, rfl⟩
theorem gCheck_pre (G : Gr) (p : Option Addr) (c : Nat) (w : World) (hl : G.es.length ≤ 9223372036854775807) (h : ¬ (1 ≤ G.q ∧ G.q ≤ 256 ∧ 0 ≤ G.n ∧ G.n ≤ 64 ∧ G.es.length ≤ 1024)) :
  Calls Tryz.prog 73 #[(.agg #[.int .i64 G.q, .int .i64 G.n, .slice p G.es.length c])] w fun e w' => e = .returned (.int .i64 (chkG G)) ∧ Below w.heap.size w w' := by
 have hB0 : Below w.heap.size w (w.alloc (.cells #[.int .i64 G.q, .int .i64 G.n, .slice p G.es.length c] 24)) := (Below.refl _ _).alloc (Nat.le_refl _) _
 by_cases h1 : G.q < 1
 ·have HR := hidI (chkG_q (G := G) (.inl h1))
  clear h
  go_enter Tryz.func73, Tryz.ntmps73
  go_wp2
  go_ret
  exact ⟨ret_int HR.out.symm, hB0⟩
 by_cases h2 : 256 < G.q
 ·have HR := hidI (chkG_q (G := G) (.inr h2))
  clear h
  go_enter Tryz.func73, Tryz.ntmps73
  go_wp2
  go_ret
  exact ⟨ret_int HR.out.symm, hB0⟩
 by_cases h3 : G.n < 0
 ·have HR := hidI (chkG_n (G := G) (by omega) (by omega) h3)
  clear h
  go_enter Tryz.func73, Tryz.ntmps73
  go_wp2
  go_ret
  exact ⟨ret_int HR.out.symm, hB0⟩
 have HR := hidI (chkG_l (G := G) (by omega) (by omega) (by omega) (by omega))
 by_cases h4 : 64 < G.n
 ·clear h
  go_enter Tryz.func73, Tryz.ntmps73
  go_wp2
  go_ret
  exact ⟨ret_int HR.out.symm, hB0⟩
 ·have h5 : (1024 : Int) < (G.es.length : Int) := by omega
  clear h
  go_enter Tryz.func73, Tryz.ntmps73
  go_wp2
  go_ret
  exact ⟨ret_int HR.out.symm, hB0⟩
set_option maxRecDepth 100000 in
set_option maxHeartbeats 2000000 in
theorem gCheck_ok (G : Gr) (p : Option Addr) (c : Nat) (w : World) (hin : Sg 3 w edE p G.es) (q1 : 1 ≤ G.q) (q2 : G.q ≤ 256) (n1 : 0 ≤ G.n) (n2 : G.n ≤ 64) (hl : G.es.length ≤ 1024) :
  Calls Tryz.prog 73 #[(.agg #[.int .i64 G.q, .int .i64 G.n, .slice p G.es.length c])] w fun e w' => e = .returned (.int .i64 (chkG G)) ∧ Below w.heap.size w w' := by
 have hB0 : Below w.heap.size w (w.alloc (.cells #[.int .i64 G.q, .int .i64 G.n, .slice p G.es.length c] 24)) := (Below.refl _ _).alloc (Nat.le_refl _) _
 have b0 : VRow (w.alloc (.cells #[.int .i64 G.q, .int .i64 G.n, .slice p G.es.length c] 24)) w.heap.size 24 [.int .i64 G.q, .int .i64 G.n, .slice p G.es.length c] := VRow.new w _ _
 have HE := hidI (chkG_e q1 q2 n1 n2 hl)
 have HIN := hidI hin
 have l1 : (G.es.length : Int) ≤ 1024 := by omega
 have d1 : decide (G.q < 1) = false := decide_eq_false (by omega)
 have d2 : decide (256 < G.q) = false := decide_eq_false (by omega)
 have d3 : decide (G.n < 0) = false := decide_eq_false (by omega)
 have d4 : decide (64 < G.n) = false := decide_eq_false (by omega)
 have d5 : decide ((1024 : Int) < (G.es.length : Int)) = false := decide_eq_false (by omega)
 clear hin
 go_enter Tryz.func73, Tryz.ntmps73
 go_wp2_with (go_at_call 123; refine (gBy_any _).mono ?_; rintro e w' ⟨rfl, rfl⟩)
 clear d1 d2 d3 d4 d5
 have hBa : Below w.heap.size w ((w.alloc (.cells #[.int .i64 G.q, .int .i64 G.n, .slice p G.es.length c] 24)).alloc (.cells #[.func (.func 124) #[] #[]] 142)) := hB0.alloc (by simp) _
 have ba : VRow ((w.alloc (.cells #[.int .i64 G.q, .int .i64 G.n, .slice p G.es.length c] 24)).alloc (.cells #[.func (.func 124) #[] #[]] 142)) w.heap.size 24 [.int .i64 G.q, .int .i64 G.n, .slice p G.es.length c] := b0.alloc _
 have bf : VRow ((w.alloc (.cells #[.int .i64 G.q, .int .i64 G.n, .slice p G.es.length c] 24)).alloc (.cells #[.func (.func 124) #[] #[]] 142)) (w.heap.size + 1) 142 [.func (.func 124) #[] #[]] := VRow.new1 w _ 142 [.func (.func 124) #[] #[]]
 generalize (w.alloc (.cells #[.int .i64 G.q, .int .i64 G.n, .slice p G.es.length c] 24)).alloc (.cells #[.func (.func 124) #[] #[]] 142) = w0 at *
 clear hB0 b0
 go_loopw [33] (fun iv wr => ∃ k : Nat, k ≤ G.es.length ∧ iv = .int .i64 k ∧ Hid (errTo G.q G.n G.es k = 0) ∧ Below w0.heap.size w0 wr) (fun iv _ => G.es.length - (intOf iv).toNat)
 case atStart => exact ⟨0, by omega, rfl, rfl, Below.refl _ _⟩
 case round =>
  obtain ⟨k, hk, rfl, hj, hB⟩ := hrel
  have hBr := hBa.trans (hB.mono hBa.size)
  have br := ba.below hB ba.lt
  have f0 := br.at 0 rfl; have f1 := br.at 1 rfl; have f2 := br.at 2 rfl
  have bfr := bf.below hB bf.lt
  by_cases hlt : k < G.es.length
  ·obtain ⟨b1, o1, rfl, hb1, e0, e1, e2⟩ := (HIN.out.below hBr).get3 k hlt rfl
   cases ho : outE G.q G.n G.es[k]
   ·obtain ⟨i1, i2, i3, i4, i5, i6⟩ := outE_no.1 ho
    have HO := hidI ho
    clear ho
    have m1 : decide (mn3 G.es[k].f G.es[k].l G.es[k].t < 0) = false := decide_eq_false (fun h => by rcases mn3_neg.1 h with h | h | h <;> omega)
    have m2 : decide (G.n ≤ mx2 G.es[k].f G.es[k].t) = false := decide_eq_false (fun h => by rcases mx2_ge.1 h with h | h <;> omega)
    have m3 : decide (G.q ≤ G.es[k].l) = false := decide_eq_false (by omega)
    have mm := run_mn3 G.es[k].f G.es[k].l G.es[k].t
    have mx := run_mx2 G.es[k].f G.es[k].t
    have hz := br.lt
    have hz2 := bfr.lt
    rcases Nat.eq_zero_or_pos k with hk0 | hk0
    ·have hkd : decide ((0 : Int) < (k : Int)) = false := decide_eq_false (by omega)
     have hkd2 : decide (0 < k) = false := decide_eq_false (by omega)
     have HN : Hid (errTo G.q G.n G.es (k + 1) = 0) := errTo_next hj.out (by subst hk0; exact errAt_first hlt HO.out)
     clear hk0
     go_wp2_with fail
     (refine wp_region_quiet_lit (by kernel_rfl) (by kernel_rfl) ?_; (repeat (first | go_big_quiet_step (fail) | quiet_step (fail))); refine wpQuiet_nil ?_; intro _ hwq; obtain ⟨nq, hwq2⟩ := hwq; subst hwq2)
     clear m1 m2 m3 mm mx hkd hkd2
     go_wp2
     go_roundw
     case rel => exact ⟨k + 1, by omega, by go_num, HN, below_dN (hB.alloc hB.size _) nq⟩
     case measure => simp [intOf]; omega
    ·obtain ⟨m, rfl⟩ : ∃ m, k = m + 1 := ⟨k - 1, by omega⟩
     have HS := hidI (errAt_succ hlt HO.out)
     go_wp2_with fail
     refine region_tail 11 (by kernel_rfl) (by kernel_rfl) fun W hD => ?_
     have hcW : VRow W wr.heap.size 44 [.int .i64 G.es[m + 1].f, .int .i64 G.es[m + 1].l, .int .i64 G.es[m + 1].t] := (VRow.new wr 44 _).dr hD
     have hbW : VRow W w.heap.size 24 [.int .i64 G.q, .int .i64 G.n, .slice (some ⟨b1, o1, none⟩) G.es.length c] := (br.alloc _).dr hD
     have hfW : VRow W (w.heap.size + 1) 142 [.func (.func 124) #[] #[]] := (bfr.alloc _).dr hD
     have hBW : Below w0.heap.size w0 W := (hB.alloc hB.size _).trans (hD.below _)
     have hBw : Below w.heap.size w W := hBa.trans (hBW.mono hBa.size)
     obtain ⟨b1', o1', he, _, e3, e4, e5⟩ := (HIN.out.below hBw).get3 m (by omega) rfl
     cases he
     clear e0 e1 e2 f0 f1 f2
     have f2 := hbW.at 2 rfl
     have e0 := hcW.at 0 rfl; have e1 := hcW.at 1 rfl; have e2 := hcW.at 2 rfl
     have g0 := hfW.at 0 rfl
     simp only [List.take_succ_cons, List.take_zero, List.drop_succ_cons, List.drop_zero]
     have n0 : (0 : Int) ≤ (m : Int) := by omega
     have n1 : (m : Int) < (G.es.length : Int) := by omega
     have q1' : IntKind.i64.wrap (m : Int) = (m : Int) := IntWalk.i64_in _ (by omega)
     iterate 11 still_step
     refine wpStill_nil ?_
     clear q1'
     go_wp2_with fail
     refine (gByc_up G.es[m] G.es[m + 1] (w.heap.size + 1) _ g0).mono ?_
     rintro e w1 ⟨rfl, hU1⟩
     have hB1 := hBW.trans (hU1.below.mono hBW.size)
     clear m1 m2 m3 mm mx e0 e1 e2 e3 e4 e5 f2 g0
     by_cases hcs : 0 ≤ cmpE G.es[m] G.es[m + 1]
     ·have HF : Hid (chkG G = 10) := HE.out.trans ((errTo_hit hj.out (by rw [HS.out, if_pos hcs]; decide) hlt).trans (by rw [HS.out, if_pos hcs]))
      go_wp2
      go_ret
      exact ⟨ret_int HF.out.symm, hBa.trans (hB1.mono hBa.size)⟩
     ·have HN : Hid (errTo G.q G.n G.es (m + 1 + 1) = 0) := errTo_next hj.out (by rw [HS.out, if_neg hcs])
      have hcs' : cmpE G.es[m] G.es[m + 1] < 0 := by omega
      go_wp2
      go_roundw
      case rel => exact ⟨m + 1 + 1, by omega, by go_num, HN, hB1⟩
      case measure => simp [intOf]; omega
   ·have HO := hidI ho
    have HF : Hid (chkG G = 2) := HE.out.trans ((errTo_hit hj.out (by rw [errAt_out hlt ho]; decide) hlt).trans (errAt_out hlt ho))
    have mm := run_mn3 G.es[k].f G.es[k].l G.es[k].t
    have mx := run_mx2 G.es[k].f G.es[k].t
    have hz := br.lt
    have hz2 := bfr.lt
    have hBx := (hB.alloc hB.size (.cells #[.int .i64 G.es[k].f, .int .i64 G.es[k].l, .int .i64 G.es[k].t] 44))
    clear ho
    by_cases m1 : mn3 G.es[k].f G.es[k].l G.es[k].t < 0
    ·have m1' := decide_eq_true m1
     clear m1
     go_wp2
     go_ret
     exact ⟨ret_int HF.out.symm, hBa.trans (hBx.mono hBa.size)⟩
    ·have m1' := decide_eq_false m1
     have i : 0 ≤ G.es[k].f ∧ 0 ≤ G.es[k].l ∧ 0 ≤ G.es[k].t := ⟨by by_cases h : G.es[k].f < 0; exact absurd (mn3_neg.2 (.inl h)) m1; omega, by by_cases h : G.es[k].l < 0; exact absurd (mn3_neg.2 (.inr (.inl h))) m1; omega, by by_cases h : G.es[k].t < 0; exact absurd (mn3_neg.2 (.inr (.inr h))) m1; omega⟩
     by_cases m2 : G.n ≤ mx2 G.es[k].f G.es[k].t
     ·have m2' := decide_eq_true m2
      clear m1 m2 i
      go_wp2
      go_ret
      exact ⟨ret_int HF.out.symm, hBa.trans (hBx.mono hBa.size)⟩
     ·have m3 : G.q ≤ G.es[k].l := by
       have h1 := outE_iff.1 HO.out
       have h2 : ¬ (G.n ≤ G.es[k].f ∨ G.n ≤ G.es[k].t) := fun h => m2 (mx2_ge.2 h)
       omega
      have m2' := decide_eq_false m2
      have m3' := decide_eq_true m3
      clear m1 m2 m3 i
      go_wp2
      go_ret
      exact ⟨ret_int HF.out.symm, hBa.trans (hBx.mono hBa.size)⟩
  ·obtain rfl : k = G.es.length := by omega
   have HF : Hid (chkG G = 0) := HE.out.trans hj.out
   go_wp2
   go_ret
   exact ⟨ret_int HF.out.symm, hBr⟩
theorem gCheck_any (G : Gr) (p : Option Addr) (c : Nat) (w : World) (hin : Sg 3 w edE p G.es) (hl : G.es.length ≤ 9223372036854775807) :
  Calls Tryz.prog 73 #[(.agg #[.int .i64 G.q, .int .i64 G.n, .slice p G.es.length c])] w fun e w' => e = .returned (.int .i64 (chkG G)) ∧ Below w.heap.size w w' := by
 by_cases h : 1 ≤ G.q ∧ G.q ≤ 256 ∧ 0 ≤ G.n ∧ G.n ≤ 64 ∧ G.es.length ≤ 1024
 ·exact gCheck_ok G p c w hin h.1 h.2.1 h.2.2.1 h.2.2.2.1 h.2.2.2.2
 ·exact gCheck_pre G p c w hl h
theorem gCheck_r (G : Gr) (p : Option Addr) (c : Nat) (w : World) (r : Int) (hr : chkG G = r) (hin : Sg 3 w edE p G.es) (hl : G.es.length ≤ 9223372036854775807) :
  Calls Tryz.prog 73 #[(.agg #[.int .i64 G.q, .int .i64 G.n, .slice p G.es.length c])] w fun e w' => e = .returned (.int .i64 r) ∧ Below w.heap.size w w' := by
 subst hr; exact gCheck_any G p c w hin hl
end
section
open Go.RowKit Go.Sort Go.Shelf Go.Lib
def RetGr (G : Gr) (k : Int) (w : World) (e : Ending) (w' : World) : Prop := ∃ p c, e = .returned (.tuple #[(.agg #[.int .i64 G.q, .int .i64 G.n, .slice p G.es.length c]), .int .i64 k]) ∧ Sg 3 w' edE p G.es ∧ G.es.length ≤ c ∧ Below w.heap.size w w'
theorem RetGr.of {G' : Gr} {k' : Int} {x : Gr × Int} {w w' : World} {p : Option Addr} {c : Nat} (hr : x = (G', k')) (hs : Sg 3 w' edE p G'.es) (hc : G'.es.length ≤ c) (hB : Below w.heap.size w w') :
  RetGr x.1 x.2 w (.returned (.tuple #[(.agg #[.int .i64 G'.q, .int .i64 G'.n, .slice p G'.es.length c]), .int .i64 k'])) w' := by subst hr; exact ⟨p, c, rfl, hs, hc, hB⟩
end
section
open Go.RowKit Go.Sort
def TwoRows (w : World) (a b : Ed) (u v : Value) (wx : World) : Prop :=
 ∃ g h, u = .slice (some ⟨g, 0, none⟩) 3 3 ∧ v = .slice (some ⟨h, 0, none⟩) 3 3 ∧ VRow wx g 3 ((edL a).map (Value.int .i64)) ∧ VRow wx h 3 ((edL b).map (Value.int .i64)) ∧ Up w wx
theorem edL_len (x : Ed) : (edL x).length = 3 := rfl
set_option maxRecDepth 100000 in
set_option maxHeartbeats 1000000 in
theorem rCompare_up (a b : Ed) (w : World) : Calls Tryz.prog 126 #[(.agg #[.int .i64 a.f, .int .i64 a.l, .int .i64 a.t]), (.agg #[.int .i64 b.f, .int .i64 b.l, .int .i64 b.t])] w fun e w' => e = .returned (.int .i64 (cmpE a b)) ∧ Up w w' := by
 have hU0 : Up w ((w.alloc (.cells #[.int .i64 a.f, .int .i64 a.l, .int .i64 a.t] 44)).alloc (.cells #[.int .i64 b.f, .int .i64 b.l, .int .i64 b.t] 44)) := (Up.alloc w _).trans (Up.alloc _ _)
 have ha0 : VRow ((w.alloc (.cells #[.int .i64 a.f, .int .i64 a.l, .int .i64 a.t] 44)).alloc (.cells #[.int .i64 b.f, .int .i64 b.l, .int .i64 b.t] 44)) w.heap.size 44 [.int .i64 a.f, .int .i64 a.l, .int .i64 a.t] := (VRow.new w 44 _).alloc _
 have hb0 : VRow ((w.alloc (.cells #[.int .i64 a.f, .int .i64 a.l, .int .i64 a.t] 44)).alloc (.cells #[.int .i64 b.f, .int .i64 b.l, .int .i64 b.t] 44)) (w.heap.size + 1) 44 [.int .i64 b.f, .int .i64 b.l, .int .i64 b.t] := VRow.new1 w _ 44 [.int .i64 b.f, .int .i64 b.l, .int .i64 b.t]
 go_enter Tryz.func126, Tryz.ntmps126
 go_wp2_with fail
 generalize (w.alloc (.cells #[.int .i64 a.f, .int .i64 a.l, .int .i64 a.t] 44)).alloc (.cells #[.int .i64 b.f, .int .i64 b.l, .int .i64 b.t] 44) = w0 at *
 have a0 := ha0.at 0 rfl; have a1 := ha0.at 1 rfl; have a2 := ha0.at 2 rfl
 have b0 := hb0.at 0 rfl; have b1 := hb0.at 1 rfl; have b2 := hb0.at 2 rfl
 go_upto_region 1 with fail
 go_cut [5, 6] (fun s5 s6 wx => TwoRows w0 a b s5 s6 wx)
 case first =>
  go_region_held3 (fun w' => w'.cell? ⟨w.heap.size, 0, none⟩ = some (.int .i64 a.f) ∧ w'.cell? ⟨w.heap.size, 1, none⟩ = some (.int .i64 a.l) ∧ w'.cell? ⟨w.heap.size, 2, none⟩ = some (.int .i64 a.t) ∧
    w'.cell? ⟨w.heap.size + 1, 0, none⟩ = some (.int .i64 b.f) ∧ w'.cell? ⟨w.heap.size + 1, 1, none⟩ = some (.int .i64 b.l) ∧ w'.cell? ⟨w.heap.size + 1, 2, none⟩ = some (.int .i64 b.t))
   (first | go_keep) (first | fail)
  all_goals (go_wp2_with fail; go_meet)
  ·exact ⟨_, _, rfl, rfl, ((VRow.new w0 3 [.int .i64 a.f, .int .i64 a.l, .int .i64 a.t]).alloc _).dr ⟨1, rfl⟩, (VRow.new1 w0 _ 3 [.int .i64 b.f, .int .i64 b.l, .int .i64 b.t]).dr ⟨1, rfl⟩, ((Up.alloc w0 _).trans (Up.alloc _ _)).trans (Up.drew _)⟩
  ·exact ⟨_, _, rfl, rfl, (VRow.new1 w0 _ 3 [.int .i64 a.f, .int .i64 a.l, .int .i64 a.t]).dr ⟨1, rfl⟩, ((VRow.new w0 3 [.int .i64 b.f, .int .i64 b.l, .int .i64 b.t]).alloc _).dr ⟨1, rfl⟩, ((Up.alloc w0 _).trans (Up.alloc _ _)).trans (Up.drew _)⟩
 case rest =>
  obtain ⟨g, h, rfl, rfl, hra, hrb, hU1⟩ := hcut
  have hUw := hU0.trans hU1
  have hsa := Sl.of_vrow (enc := Value.int .i64) (l := edL a) hra
  have hsb := Sl.of_vrow (enc := Value.int .i64) (l := edL b) hrb
  clear a0 a1 a2 b0 b1 b2 ha0 hb0 hra hrb hU0 hU1
  go_wp2
  go_loopw [7] (fun iv wr => ∃ k : Nat, k ≤ 3 ∧ iv = .int .i64 k ∧ Hid (cmpE a b = cmpL ((edL a).drop k) ((edL b).drop k)) ∧ Dr wc wr) (fun iv _ => 3 - (intOf iv).toNat)
  case atStart => exact ⟨0, by omega, rfl, rfl, Dr.refl _⟩
  case round =>
   obtain ⟨k, hk, rfl, hj, hD⟩ := hrel
   by_cases hlt : k < 3
   ·obtain ⟨b1, o1, he1, _, hc1⟩ := (hsa.dr hD).get k hlt
    obtain ⟨b2, o2, he2, _, hc2⟩ := (hsb.dr hD).get k hlt
    cases he1; cases he2
    have e1 := hc1 k hlt
    have e2 := hc2 k hlt
    simp only [Nat.zero_add] at e1 e2
    have h3 : (k : Int) < 3 := by omega
    have HD1 := hidI (cmpL_diff k (show k < (edL a).length from hlt) (show k < (edL b).length from hlt))
    have HS1 := hidI (cmpL_same k (show k < (edL a).length from hlt) (show k < (edL b).length from hlt))
    generalize (edL a)[k] = x at *
    generalize (edL b)[k] = y at *
    clear hc1 hc2
    by_cases h1 : x < y
    ·have HE : Hid (cmpE a b = -1) := hj.out.trans ((HD1.out (by unfold c3; rw [if_pos h1]; decide)).trans (by unfold c3; rw [if_pos h1]))
     go_wp2_with fail
     (refine wp_region_quiet_lit (by kernel_rfl) (by kernel_rfl) ?_; (repeat (first | go_big_quiet_step (fail) | quiet_step (fail))); refine wpQuiet_nil ?_; intro _ hwq; obtain ⟨nq, hwq2⟩ := hwq; subst hwq2)
     go_wp2
     go_ret
     exact ⟨ret_int HE.out.symm, hUw.trans (Up.of_dr (hD.one nq))⟩
    ·by_cases h2 : y < x
     ·have HE : Hid (cmpE a b = 1) := hj.out.trans ((HD1.out (by unfold c3; rw [if_neg h1, if_pos h2]; decide)).trans (by unfold c3; rw [if_neg h1, if_pos h2]))
      have h1' : decide (x < y) = false := decide_eq_false h1
      go_wp2_with fail
      (refine wp_region_quiet_lit (by kernel_rfl) (by kernel_rfl) ?_; (repeat (first | go_big_quiet_step (fail) | quiet_step (fail))); refine wpQuiet_nil ?_; intro _ hwq; obtain ⟨nq, hwq2⟩ := hwq; subst hwq2)
      go_wp2_with fail
      (refine wp_region_quiet_lit (by kernel_rfl) (by kernel_rfl) ?_; (repeat (first | go_big_quiet_step (fail) | quiet_step (fail))); refine wpQuiet_nil ?_; intro _ hwq; obtain ⟨nq, hwq2⟩ := hwq; subst hwq2)
      go_wp2
      go_ret
      exact ⟨ret_int HE.out.symm, hUw.trans (Up.of_dr ((hD.one _).one _))⟩
     ·have HE : Hid (cmpE a b = cmpL ((edL a).drop (k + 1)) ((edL b).drop (k + 1))) := hj.out.trans (HS1.out (by omega))
      have h1' : decide (x < y) = false := decide_eq_false h1
      have h2' : decide (y < x) = false := decide_eq_false h2
      go_wp2_with fail
      (refine wp_region_quiet_lit (by kernel_rfl) (by kernel_rfl) ?_; (repeat (first | go_big_quiet_step (fail) | quiet_step (fail))); refine wpQuiet_nil ?_; intro _ hwq; obtain ⟨nq, hwq2⟩ := hwq; subst hwq2)
      go_wp2_with fail
      (refine wp_region_quiet_lit (by kernel_rfl) (by kernel_rfl) ?_; (repeat (first | go_big_quiet_step (fail) | quiet_step (fail))); refine wpQuiet_nil ?_; intro _ hwq; obtain ⟨nq, hwq2⟩ := hwq; subst hwq2)
      go_wp2
      go_roundw
      case rel => exact ⟨k + 1, by omega, by go_num, HE, hD.one _⟩
      case measure => simp [intOf]; omega
   ·have HE : Hid (cmpE a b = 0) := hj.out.trans (cmpL_ends k (by rw [edL_len]; omega) (by rw [edL_len]; omega))
    have h3 : ¬ ((k : Int) < 3) := by omega
    go_wp2
    go_ret
    exact ⟨ret_int HE.out.symm, hUw.trans (Up.of_dr hD)⟩
theorem rCheck_pre (G : Gr) (p : Option Addr) (c : Nat) (w : World) (hl : G.es.length ≤ 9223372036854775807) (h : ¬ (1 ≤ G.q ∧ G.q ≤ 256 ∧ 0 ≤ G.n ∧ G.n ≤ 64 ∧ G.es.length ≤ 1024)) :
  Calls Tryz.prog 59 #[(.agg #[.int .i64 G.q, .int .i64 G.n, .slice p G.es.length c])] w fun e w' => e = .returned (.int .i64 (chkG G)) ∧ Below w.heap.size w w' := by
 have hB0 : Below w.heap.size w (w.alloc (.cells #[.int .i64 G.q, .int .i64 G.n, .slice p G.es.length c] 24)) := (Below.refl _ _).alloc (Nat.le_refl _) _
 by_cases h1 : G.q < 1
 ·have HR := hidI (chkG_q (G := G) (.inl h1))
  clear h
  go_enter Tryz.func59, Tryz.ntmps59
  go_wp2
  go_ret
  exact ⟨ret_int HR.out.symm, hB0⟩
 by_cases h2 : 256 < G.q
 ·have HR := hidI (chkG_q (G := G) (.inr h2))
  clear h
  go_enter Tryz.func59, Tryz.ntmps59
  go_wp2
  go_ret
  exact ⟨ret_int HR.out.symm, hB0⟩
 by_cases h3 : G.n < 0
 ·have HR := hidI (chkG_n (G := G) (by omega) (by omega) h3)
  clear h
  go_enter Tryz.func59, Tryz.ntmps59
  go_wp2
  go_ret
  exact ⟨ret_int HR.out.symm, hB0⟩
 have HR := hidI (chkG_l (G := G) (by omega) (by omega) (by omega) (by omega))
 by_cases h4 : 64 < G.n
 ·clear h
  go_enter Tryz.func59, Tryz.ntmps59
  go_wp2
  go_ret
  exact ⟨ret_int HR.out.symm, hB0⟩
 ·have h5 : (1024 : Int) < (G.es.length : Int) := by omega
  clear h
  go_enter Tryz.func59, Tryz.ntmps59
  go_wp2
  go_ret
  exact ⟨ret_int HR.out.symm, hB0⟩
set_option maxRecDepth 100000 in
set_option maxHeartbeats 2000000 in
theorem rCheck_ok (G : Gr) (p : Option Addr) (c : Nat) (w : World) (hin : Sg 3 w edE p G.es) (q1 : 1 ≤ G.q) (q2 : G.q ≤ 256) (n1 : 0 ≤ G.n) (n2 : G.n ≤ 64) (hl : G.es.length ≤ 1024) :
  Calls Tryz.prog 59 #[(.agg #[.int .i64 G.q, .int .i64 G.n, .slice p G.es.length c])] w fun e w' => e = .returned (.int .i64 (chkG G)) ∧ Below w.heap.size w w' := by
 have hB0 : Below w.heap.size w (w.alloc (.cells #[.int .i64 G.q, .int .i64 G.n, .slice p G.es.length c] 24)) := (Below.refl _ _).alloc (Nat.le_refl _) _
 have b0 : VRow (w.alloc (.cells #[.int .i64 G.q, .int .i64 G.n, .slice p G.es.length c] 24)) w.heap.size 24 [.int .i64 G.q, .int .i64 G.n, .slice p G.es.length c] := VRow.new w _ _
 have HE := hidI (chkG_e q1 q2 n1 n2 hl)
 have HIN := hidI hin
 have l1 : (G.es.length : Int) ≤ 1024 := by omega
 have d1 : decide (G.q < 1) = false := decide_eq_false (by omega)
 have d2 : decide (256 < G.q) = false := decide_eq_false (by omega)
 have d3 : decide (G.n < 0) = false := decide_eq_false (by omega)
 have d4 : decide (64 < G.n) = false := decide_eq_false (by omega)
 have d5 : decide ((1024 : Int) < (G.es.length : Int)) = false := decide_eq_false (by omega)
 clear hin
 go_enter Tryz.func59, Tryz.ntmps59
 go_wp2
 clear d1 d2 d3 d4 d5
 generalize (w.alloc (.cells #[.int .i64 G.q, .int .i64 G.n, .slice p G.es.length c] 24)) = w0 at *
 go_loopw [3] (fun iv wr => ∃ k : Nat, k ≤ G.es.length ∧ iv = .int .i64 k ∧ Hid (errTo G.q G.n G.es k = 0) ∧ Below w0.heap.size w0 wr) (fun iv _ => G.es.length - (intOf iv).toNat)
 case atStart => exact ⟨0, by omega, rfl, rfl, Below.refl _ _⟩
 case round =>
  obtain ⟨k, hk, rfl, hj, hB⟩ := hrel
  have hBr := hB0.trans (hB.mono hB0.size)
  have br := b0.below hB b0.lt
  have f0 := br.at 0 rfl; have f1 := br.at 1 rfl; have f2 := br.at 2 rfl
  by_cases hlt : k < G.es.length
  ·obtain ⟨b1, o1, rfl, hb1, e0, e1, e2⟩ := (HIN.out.below hBr).get3 k hlt rfl
   cases ho : outE G.q G.n G.es[k]
   ·obtain ⟨i1, i2, i3, i4, i5, i6⟩ := outE_no.1 ho
    have HO := hidI ho
    clear ho
    have m1 : decide (G.es[k].f < 0) = false := decide_eq_false (by omega)
    have m2 : decide (G.n ≤ G.es[k].f) = false := decide_eq_false (by omega)
    have m3 : decide (G.es[k].t < 0) = false := decide_eq_false (by omega)
    have m4 : decide (G.n ≤ G.es[k].t) = false := decide_eq_false (by omega)
    have m5 : decide (G.es[k].l < 0) = false := decide_eq_false (by omega)
    have m6 : decide (G.q ≤ G.es[k].l) = false := decide_eq_false (by omega)
    have hz := br.lt
    rcases Nat.eq_zero_or_pos k with hk0 | hk0
    ·have hkd : decide ((0 : Int) < (k : Int)) = false := decide_eq_false (by omega)
     have hkd2 : decide (0 < k) = false := decide_eq_false (by omega)
     have HN : Hid (errTo G.q G.n G.es (k + 1) = 0) := errTo_next hj.out (by subst hk0; exact errAt_first hlt HO.out)
     clear hk0
     go_wp2_with fail
     (refine wp_region_quiet_lit (by kernel_rfl) (by kernel_rfl) ?_; (repeat (first | go_big_quiet_step (fail) | quiet_step (fail))); refine wpQuiet_nil ?_; intro _ hwq; obtain ⟨nq, hwq2⟩ := hwq; subst hwq2)
     clear m1 m2 m3 m4 m5 m6 hkd hkd2
     go_wp2
     go_roundw
     case rel => exact ⟨k + 1, by omega, by go_num, HN, below_dN (hB.alloc hB.size _) nq⟩
     case measure => simp [intOf]; omega
    ·obtain ⟨m, rfl⟩ : ∃ m, k = m + 1 := ⟨k - 1, by omega⟩
     have HS := hidI (errAt_succ hlt HO.out)
     go_wp2_with fail
     refine region_tail 10 (by kernel_rfl) (by kernel_rfl) fun W hD => ?_
     have hcW : VRow W wr.heap.size 44 [.int .i64 G.es[m + 1].f, .int .i64 G.es[m + 1].l, .int .i64 G.es[m + 1].t] := (VRow.new wr 44 _).dr hD
     have hbW : VRow W w.heap.size 24 [.int .i64 G.q, .int .i64 G.n, .slice (some ⟨b1, o1, none⟩) G.es.length c] := (br.alloc _).dr hD
     have hBW : Below w0.heap.size w0 W := (hB.alloc hB.size _).trans (hD.below _)
     have hBw : Below w.heap.size w W := hB0.trans (hBW.mono hB0.size)
     obtain ⟨b1', o1', he, _, e3, e4, e5⟩ := (HIN.out.below hBw).get3 m (by omega) rfl
     cases he
     clear e0 e1 e2 f0 f1 f2
     have f2 := hbW.at 2 rfl
     have e0 := hcW.at 0 rfl; have e1 := hcW.at 1 rfl; have e2 := hcW.at 2 rfl
     simp only [List.take_succ_cons, List.take_zero, List.drop_succ_cons, List.drop_zero]
     have n0 : (0 : Int) ≤ (m : Int) := by omega
     have n1 : (m : Int) < (G.es.length : Int) := by omega
     have q1' : IntKind.i64.wrap (m : Int) = (m : Int) := IntWalk.i64_in _ (by omega)
     iterate 10 still_step
     refine wpStill_nil ?_
     clear q1'
     go_wp2_with fail
     refine (rCompare_up G.es[m] G.es[m + 1] _).mono ?_
     rintro e w1 ⟨rfl, hU1⟩
     have hB1 := hBW.trans (hU1.below.mono hBW.size)
     clear m1 m2 m3 m4 m5 m6 e0 e1 e2 e3 e4 e5 f2
     by_cases hcs : 0 ≤ cmpE G.es[m] G.es[m + 1]
     ·have HF : Hid (chkG G = 10) := HE.out.trans ((errTo_hit hj.out (by rw [HS.out, if_pos hcs]; decide) hlt).trans (by rw [HS.out, if_pos hcs]))
      go_wp2
      go_ret
      exact ⟨ret_int HF.out.symm, hB0.trans (hB1.mono hB0.size)⟩
     ·have HN : Hid (errTo G.q G.n G.es (m + 1 + 1) = 0) := errTo_next hj.out (by rw [HS.out, if_neg hcs])
      have hcs' : cmpE G.es[m] G.es[m + 1] < 0 := by omega
      go_wp2
      go_roundw
      case rel => exact ⟨m + 1 + 1, by omega, by go_num, HN, hB1⟩
      case measure => simp [intOf]; omega
   ·have HO := hidI ho
    have HF : Hid (chkG G = 2) := HE.out.trans ((errTo_hit hj.out (by rw [errAt_out hlt ho]; decide) hlt).trans (errAt_out hlt ho))
    have hz := br.lt
    have hBx := (hB.alloc hB.size (.cells #[.int .i64 G.es[k].f, .int .i64 G.es[k].l, .int .i64 G.es[k].t] 44))
    clear ho
    by_cases m1 : G.es[k].f < 0
    ·have m' := decide_eq_true m1
     clear m1
     go_wp2
     go_ret
     exact ⟨ret_int HF.out.symm, hB0.trans (hBx.mono hB0.size)⟩
    have e1' := decide_eq_false m1
    by_cases m2 : G.n ≤ G.es[k].f
    ·have m' := decide_eq_true m2
     clear m2
     go_wp2
     go_ret
     exact ⟨ret_int HF.out.symm, hB0.trans (hBx.mono hB0.size)⟩
    have e2' := decide_eq_false m2
    by_cases m3 : G.es[k].t < 0
    ·have m' := decide_eq_true m3
     clear m3
     go_wp2
     go_ret
     exact ⟨ret_int HF.out.symm, hB0.trans (hBx.mono hB0.size)⟩
    have e3' := decide_eq_false m3
    by_cases m4 : G.n ≤ G.es[k].t
    ·have m' := decide_eq_true m4
     clear m4
     go_wp2
     go_ret
     exact ⟨ret_int HF.out.symm, hB0.trans (hBx.mono hB0.size)⟩
    have e4' := decide_eq_false m4
    by_cases m5 : G.es[k].l < 0
    ·have m' := decide_eq_true m5
     clear m5
     go_wp2
     go_ret
     exact ⟨ret_int HF.out.symm, hB0.trans (hBx.mono hB0.size)⟩
    have e5' := decide_eq_false m5
    have m6 : G.q ≤ G.es[k].l := by
     have h1 := outE_iff.1 HO.out
     omega
    have m' := decide_eq_true m6
    clear m1 m2 m3 m4 m5 m6
    go_wp2
    go_ret
    exact ⟨ret_int HF.out.symm, hB0.trans (hBx.mono hB0.size)⟩
  ·obtain rfl : k = G.es.length := by omega
   have HF : Hid (chkG G = 0) := HE.out.trans hj.out
   go_wp2
   go_ret
   exact ⟨ret_int HF.out.symm, hBr⟩
theorem rCheck_any (G : Gr) (p : Option Addr) (c : Nat) (w : World) (hin : Sg 3 w edE p G.es) (hl : G.es.length ≤ 9223372036854775807) :
  Calls Tryz.prog 59 #[(.agg #[.int .i64 G.q, .int .i64 G.n, .slice p G.es.length c])] w fun e w' => e = .returned (.int .i64 (chkG G)) ∧ Below w.heap.size w w' := by
 by_cases h : 1 ≤ G.q ∧ G.q ≤ 256 ∧ 0 ≤ G.n ∧ G.n ≤ 64 ∧ G.es.length ≤ 1024
 ·exact rCheck_ok G p c w hin h.1 h.2.1 h.2.2.1 h.2.2.2.1 h.2.2.2.2
 ·exact rCheck_pre G p c w hl h
theorem rCheck_r (G : Gr) (p : Option Addr) (c : Nat) (w : World) (r : Int) (hr : chkG G = r) (hin : Sg 3 w edE p G.es) (hl : G.es.length ≤ 9223372036854775807) :
  Calls Tryz.prog 59 #[(.agg #[.int .i64 G.q, .int .i64 G.n, .slice p G.es.length c])] w fun e w' => e = .returned (.int .i64 r) ∧ Below w.heap.size w w' := by
 subst hr; exact rCheck_any G p c w hin hl
end
end Go.Proofs.YtocbhlohcikapaaGreatDoor
