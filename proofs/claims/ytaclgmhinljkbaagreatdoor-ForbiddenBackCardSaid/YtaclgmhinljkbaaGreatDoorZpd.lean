/-
  Words, plain lemmas and walks, merged: Base, Gr, Hm, Ho, Hl, Ga, ShelfQ, Gc.
-/
import Derived.Below
import Derived.Lib.Slices
import Derived.Lib.SlicesS
import Derived.Lib.Bytealg
import Derived.Deep.QuietTactic
import Derived.WalkKit
import Derived.StillTailTactics
import Derived.WalkSpells
import Derived.RangeFuncBox
import Derived.RangeFuncNested
import Derived.RangeFuncBound
import Derived.RangeFuncCalls
import Derived.RangeFuncLeaves
import Derived.Shelf.Abstract
import Derived.Shelf.RegionOpen
import Derived.OwnWalkIn
import Derived.TacticsInMore
import Derived.LoopNIn
import Derived.LoopIn
import Derived.Test.YtaclgmhinljkbaaGreatDoorProg
import Derived.Outline
import Derived.BigQuiet
import Derived.Deep.RegionHeld3
import Derived.Deep.DeepCutAuto
import Derived.Sort.Grow
import Derived.Sort.Row
import Derived.Ground.SlgnProg
import Derived.Ground.SlsfProg
import Derived.Ground.SlgqProg
import Derived.Ground.SlgfProg
import Derived.Shelf.SlicesE.Clone
import Derived.Shelf.SlicesQ.Equal
import Derived.Shelf.SlicesQ.IndexFunc
import Derived.Shelf.SlSortCmp.NoneTotal
set_option linter.unusedVariables false
set_option linter.unusedSimpArgs false
namespace Go.Proofs.YtaclgmhinljkbaaGreatDoor
open Go.RowKit

theorem hidI {p : Prop} (h : p) : Hid p := h
theorem ret_int {k : IntKind} {a b : Int} (h : a = b) : Ending.returned (.int k a) = .returned (.int k b) := by rw [h]
theorem ret_bool {a b : Bool} (h : a = b) : Ending.returned (.bool a) = .returned (.bool b) := by rw [h]

/-- Nothing but draws has happened. -/
def Dr (w w' : World) : Prop := ∃ n, w' = w.drewN n
theorem Dr.refl (w : World) : Dr w w := ⟨0, rfl⟩
theorem Dr.one {w w' : World} (h : Dr w w') (n : Nat) : Dr w (w'.drewN n) := by
  obtain ⟨k, rfl⟩ := h; exact ⟨k + n, by simp [World.drewN, Nat.add_assoc]⟩
theorem Dr.trans {a b c : World} (h : Dr a b) (k : Dr b c) : Dr a c := by
  obtain ⟨n, rfl⟩ := k; exact h.one n
theorem Dr.below {w w' : World} (h : Dr w w') (B : Nat) : Below B w w' := by
  obtain ⟨k, rfl⟩ := h; exact ⟨rfl, rfl, rfl, Nat.le_refl _, fun _ _ => rfl⟩
theorem Dr.cell {w w' : World} (h : Dr w w') (p : Addr) : w'.cell? p = w.cell? p := by obtain ⟨k, rfl⟩ := h; rfl
theorem quiet_Dr {P : Program} {f : FuncId} {args : Array Value} {w : World} {n : Nat} {v : Value}
    (h : Calls P f args (w.drewN n) fun e w' => e = .returned v ∧ Dr (w.drewN n) w') : Calls P f args (w.drewN n) fun e w'' => e = .returned v ∧ ∃ m, w'' = w.drewN m :=
  h.mono fun _ _ ⟨he, hm⟩ => ⟨he, (Dr.one (Dr.refl w) n).trans hm⟩

/-- One block is as it was. -/
def KH (B : Nat) (W W' : World) : Prop := W'.heap[B]? = W.heap[B]?
theorem KH.refl (B : Nat) (W : World) : KH B W W := rfl
theorem KH.trans {B : Nat} {X Y Z : World} (h : KH B X Y) (k : KH B Y Z) : KH B X Z := Eq.trans k h
theorem KH.of_below {B n : Nat} {X Y : World} (h : Below n X Y) (hn : B < n) : KH B X Y := h.block B hn
theorem KH_b {B n : Nat} (hn : B < n) (W : World) (l : Nat) (o o' : Obj) (hl : n ≤ l) (_ : W.heap[l]? = some o) (_ : o.isCells = false) (_ : o.isWalk = false) : KH B W (W.putObj l o') :=
  World.putObj_heap_other (by omega)
theorem KH.boxed {B : Nat} {t : TypeId} {v : Value} {W W' : World} (h : KH B W W') (hb : Boxed W B t v) : Boxed W' B t v := Eq.trans h hb
theorem KH.set {B C i : Nat} (W : World) (v : Value) (h : B ≠ C) : KH B W (W.setCell ⟨C, i, none⟩ v) := Below.heap_setCell _ _ _ _ h
theorem boxed_set_other {B C : Nat} {t : TypeId} {u : Value} {W : World} (v : Value) (hb : Boxed W B t u) (h : B ≠ C) : Boxed (W.setCell ⟨C, 0, none⟩ v) B t u := (KH.set W v h).boxed hb

theorem below_put {w W : World} {D : Nat} (hB : Below w.heap.size w W) (hD : w.heap.size ≤ D) (hK : W.heap[D]? = some (.deferred (some []))) (o : Obj) : Below w.heap.size w (W.putObj D o) :=
  hB.trans (belowK_b (w := w) (Nat.le_refl _) W D _ o hD hK rfl rfl)
/-- A block that is a row of values. -/
def VRow (W : World) (B t : Nat) (l : List Value) : Prop := W.heap[B]? = some (.cells l.toArray t (0, 0))
theorem VRow.lt {W : World} {B t : Nat} {l : List Value} (h : VRow W B t l) : B < W.heap.size := (Array.getElem?_eq_some_iff.1 h).1
theorem VRow.cell {W : World} {B t : Nat} {l : List Value} (h : VRow W B t l) (i : Nat) : W.cell? ⟨B, i, none⟩ = l[i]? := by
  simp [World.cell?, show W.heap[B]? = _ from h]
theorem VRow.frozen {W : World} {B t : Nat} {l : List Value} (h : VRow W B t l) (i : Nat) : W.frozen? ⟨B, i, none⟩ = false := by
  simp [World.frozen?, show W.heap[B]? = _ from h]
theorem VRow.new (W : World) (t : Nat) (l : List Value) : VRow (W.alloc (.cells l.toArray t)) W.heap.size t l := World.alloc_heap_new W _
theorem VRow.kh {W W' : World} {B t : Nat} {l : List Value} (h : VRow W B t l) (k : KH B W W') : VRow W' B t l := Eq.trans k h
theorem VRow.alloc {W : World} {B t : Nat} {l : List Value} (h : VRow W B t l) (o : Obj) : VRow (W.alloc o) B t l := (Below.heap_alloc W o B h.lt).trans h
theorem VRow.below {W W' : World} {B t n : Nat} {l : List Value} (h : VRow W B t l) (k : Below n W W') (hn : B < n) : VRow W' B t l := (k.block B hn).trans h
theorem VRow.other {W : World} {B C t i : Nat} {l : List Value} (v : Value) (h : VRow W B t l) (hn : B ≠ C) : VRow (W.setCell ⟨C, i, none⟩ v) B t l := (Below.heap_setCell _ _ _ _ hn).trans h
theorem VRow.set {W : World} {B t i : Nat} {l : List Value} (v : Value) (h : VRow W B t l) : VRow (W.setCell ⟨B, i, none⟩ v) B t (l.set i v) := by
  obtain ⟨hlt, hk⟩ := Array.getElem?_eq_some_iff.1 h
  show (W.heap.modify B _)[B]? = _
  rw [Array.getElem?_eq_getElem (by rw [Array.size_modify]; exact hlt), Array.getElem_modify_self, hk]
  simp
theorem VRow.own {β : Type} (B t : Nat) (f : β → List Value) : Own (fun s W => VRow W B t (f s)) := fun s X Y row hs hg hrow =>
  (hg.block B (VRow.lt hs) (fun e => by
    obtain ⟨o, ho, hc⟩ := hrow B e.symm
    rw [show X.heap[B]? = _ from hs] at ho; cases ho; cases hc)).trans hs
theorem VRow.put {W : World} {B t l : Nat} {o : Obj} {r : List Value} (o' : Obj) (h : VRow W B t r) (hl : W.heap[l]? = some o) (ho : o.isCells = false) : VRow (W.putObj l o') B t r :=
  (World.putObj_heap_other (fun e => by subst e; rw [show W.heap[B]? = _ from h] at hl; cases hl; cases ho)).trans h

theorem VRow.at {W : World} {B t : Nat} {l : List Value} (h : VRow W B t l) (i : Nat) {v : Value} (hi : l[i]? = some v) : W.cell? ⟨B, i, none⟩ = some v := (h.cell i).trans hi
theorem VRow.dr {W W' : World} {B t : Nat} {l : List Value} (h : VRow W B t l) (hD : Dr W W') : VRow W' B t l := by obtain ⟨k, rfl⟩ := hD; exact h
theorem VRow.grown {W W' : World} {B t : Nat} {l : List Value} {row : Option Nat} (h : VRow W B t l) (hg : W.grownBy W' row) (hne : some B ≠ row) : VRow W' B t l := (hg.block B h.lt hne).trans h
theorem VRow.new1 (w : World) (o : Obj) (t : Nat) (l : List Value) : VRow ((w.alloc o).alloc (.cells l.toArray t)) (w.heap.size + 1) t l := by
  have h := VRow.new (w.alloc o) t l; rwa [World.size_alloc] at h
theorem VRow.new2 (w : World) (o o' : Obj) (t : Nat) (l : List Value) : VRow (((w.alloc o).alloc o').alloc (.cells l.toArray t)) (w.heap.size + 1 + 1) t l := by
  have h := VRow.new ((w.alloc o).alloc o') t l; rwa [World.size_alloc, World.size_alloc] at h
theorem Dr.frozen {w w' : World} (h : Dr w w') (p : Addr) : w'.frozen? p = w.frozen? p := by obtain ⟨k, rfl⟩ := h; rfl
theorem Dr.size {w w' : World} (h : Dr w w') : w'.heap.size = w.heap.size := by obtain ⟨k, rfl⟩ := h; rfl
theorem region_tail {P : Program} {id : Nat} {Q : Exit → Act → World → Prop} {a : Act} {w : World} {l : List Oper} (n : Nat) (hm : P.follows .mixedOrders = true) (hB : Region.lexTailB .any l.toArray n = true)
    (h : ∀ W, Dr w W → wpStill P l.toArray W (fun a' => wpList P l.toArray Q (l.drop n) a' W) (l.take n) a) : (Code.region id l.toArray true).wp P Q a w :=
  wp_region_still_tail n hm hB (h _ ⟨1, rfl⟩)

/-- A new block that is a whole row. -/
theorem own_new (w : World) (B : Nat) (xs : List Value) (e : TypeId) (hB : B ≤ w.heap.size) (hm : xs.length ≤ maxLen) :
    (w.alloc (.cells xs.toArray e)).ownsRow B e 1 (.slice (some ⟨w.heap.size, 0, none⟩) xs.length xs.length) xs.length xs :=
  ⟨by simp, .inr ⟨w.heap.size, _, _, rfl, hB, heap_alloc_new w _, Nat.le_refl _, hm, by simp, by simp⟩⟩

theorem cell_one_at (W : World) (v : Value) (t : TypeId) (n : Nat) (hn : W.heap.size = n) : ∀ (j : Nat) (u : Value), ([v] : List Value)[j]? = some u → (W.alloc (.cells #[v] t)).cell? ((⟨n, 0, none⟩ : Addr).add j) = some u := by
  subst hn; exact cell_one_new W v t
theorem _root_.Go.World.ownsRow.dr {W W' : World} {base e size n : Nat} {v : Value} {xs : List Value} (h : W.ownsRow base e size v n xs) (hD : Dr W W') : W'.ownsRow base e size v n xs := by
  obtain ⟨k, rfl⟩ := hD; exact h
theorem below_grown {W W' : World} (h : Below W.heap.size W W') : W.grownBy W' none := ⟨h.os, h.tape, h.output, h.size, fun i hi _ => h.block i hi⟩
theorem _root_.Go.World.ownsRow.below {W W' : World} {base e size n : Nat} {v : Value} {xs : List Value} (h : W.ownsRow base e size v n xs) (hB : Below W.heap.size W W') : W'.ownsRow base e size v n xs :=
  h.kept (below_grown hB) (by cases v.ownBlock <;> simp)
theorem own_cap {w : World} {B e n size : Nat} {v : Value} {xs : List Value} (h : w.ownsRow B e size v n xs) : ∀ p m c, v = .slice p m c → n ≤ c := by
  intro p m c hv
  rcases h.2 with ⟨rfl, h0⟩ | ⟨g, cap, cur, rfl, hg, hh, hc, _⟩
  · omega
  · cases hv; exact hc
/-- A slice's elements in memory, each of one cell. (ownsRow_dr, own_slc) -/
def Sl {α : Type} (w : World) (enc : α → Value) (p : Option Addr) (l : List α) : Prop :=
  l = [] ∨ ∃ b off, p = some ⟨b, off, none⟩ ∧ b < w.heap.size ∧ ∀ i (h : i < l.length), w.cell? ⟨b, off + i, none⟩ = some (enc l[i])
theorem Sl.nil {α : Type} (w : World) (enc : α → Value) (p : Option Addr) : Sl w enc p ([] : List α) := .inl rfl
theorem Sl.below {α : Type} {w w' : World} {enc : α → Value} {p : Option Addr} {l : List α} (h : Sl w enc p l) (hB : Below w.heap.size w w') : Sl w' enc p l := by
  rcases h with h | ⟨b, off, hp, hb, hc⟩
  · exact .inl h
  · exact .inr ⟨b, off, hp, Nat.lt_of_lt_of_le hb hB.size, fun i hi => (hB.cell (p := ⟨b, off + i, none⟩) hb).trans (hc i hi)⟩
theorem Sl.dr {α : Type} {w w' : World} {enc : α → Value} {p : Option Addr} {l : List α} (h : Sl w enc p l) (hD : Dr w w') : Sl w' enc p l := h.below (hD.below _)
theorem Sl.get {α : Type} {w : World} {enc : α → Value} {p : Option Addr} {l : List α} (h : Sl w enc p l) (k : Nat) (hk : k < l.length) :
    ∃ b off, p = some ⟨b, off, none⟩ ∧ b < w.heap.size ∧ ∀ i (h : i < l.length), w.cell? ⟨b, off + i, none⟩ = some (enc l[i]) := by
  rcases h with h | h
  · subst h; simp at hk
  · exact h
theorem own_sl {α : Type} {w : World} {B e n : Nat} {v : Value} {enc : α → Value} {l : List α} (h : w.ownsRow B e 1 v n (l.map enc)) :
    ∃ p cap, v = .slice p l.length cap ∧ Sl w enc p l := by
  have hn : l.length = n := by have := h.1; simpa using this
  rcases h.2 with ⟨rfl, h0⟩ | ⟨g, cap, cur, rfl, hg, hh, _⟩
  · subst h0
    have : l = [] := List.length_eq_zero_iff.1 hn
    subst this
    exact ⟨none, 0, rfl, Sl.nil _ _ _⟩
  · refine ⟨some ⟨g, 0, none⟩, cap, by rw [hn], ?_⟩
    refine .inr ⟨g, 0, rfl, (Array.getElem?_eq_some_iff.1 hh).1, fun i hi => ?_⟩
    rw [Nat.zero_add, h.cellAt i (by omega)]
    simp [hi]

/-- The value of a letter of a binary word. -/
def val1 (c : Int) : Int := if c = 49 then 1 else -1
theorem val1_t (c : Int) (h : (c == 49) = true) : val1 c = 1 := by simp at h; simp [val1, h]
theorem val1_f (c : Int) (h : (c == 49) = false) : val1 c = -1 := by simp at h; simp [val1, h]
theorem val1_bd (c : Int) : -1 ≤ val1 c ∧ val1 c ≤ 1 := by unfold val1; split <;> omega

/-- The letters of all alphabets. -/
def letv (k : Nat) : Int := if k < 10 then 48 + k else 87 + k
def dig (c : Int) : Int := if 48 ≤ c ∧ c ≤ 57 then c - 48 else if 97 ≤ c ∧ c ≤ 102 then c - 87 else -1
theorem dig_letv (k : Nat) (h : k < 16) : dig (letv k) = k := by
  unfold dig letv; split <;> split <;> (try split) <;> omega
theorem dig_none (c : Int) (h : ∀ j, j < 16 → letv j ≠ c) : dig c = -1 := by
  unfold dig
  split
  · have := h (c - 48).toNat (by omega); unfold letv at this; rw [if_pos (by omega)] at this; omega
  · split
    · have := h (c - 87).toNat (by omega); unfold letv at this; rw [if_neg (by omega)] at this; omega
    · rfl
theorem dig_bd (c : Int) : -1 ≤ dig c ∧ dig c ≤ 15 := by unfold dig; split <;> (try split) <;> omega
def letb : ByteArray := ⟨#[48, 49, 50, 51, 52, 53, 54, 55, 56, 57, 97, 98, 99, 100, 101, 102]⟩
theorem letb_get (k : Nat) (h : k < 16) : ((letb[k]'(show k < letb.size from h)).toNat : Int) = letv k := by
  revert h; revert k; decide

/-- A letter is among the first q. -/
def okc (q : Int) (c : UInt8) : Bool := decide (0 ≤ dig c.toNat) && decide (dig c.toNat < q)
def okw (q : Int) (l : List UInt8) : Bool := l.all (okc q)
theorem idx_tab : ∀ q, q < 17 → ∀ c, c < 256 → decide (Lib.indexByte (List.take q [48, 49, 50, 51, 52, 53, 54, 55, 56, 57, 97, 98, 99, 100, 101, 102]) (UInt8.ofNat c) < 0) = !okc (q : Int) (UInt8.ofNat c) := by
  decide +kernel
theorem idx_okc (q : Int) (c : UInt8) (h1 : 1 ≤ q) (h2 : q ≤ 16) :
    decide (Lib.indexByte (List.take q.toNat [48, 49, 50, 51, 52, 53, 54, 55, 56, 57, 97, 98, 99, 100, 101, 102]) c < 0) = !okc q c := by
  have h := idx_tab q.toNat (by omega) c.toNat c.toNat_lt
  rw [UInt8.ofNat_toNat, Int.toNat_of_nonneg (by omega)] at h
  exact h
theorem idx_lt (q : Int) (c : UInt8) (h1 : 1 ≤ q) (h2 : q ≤ 16)
    (h : Lib.indexByte (List.take q.toNat [48, 49, 50, 51, 52, 53, 54, 55, 56, 57, 97, 98, 99, 100, 101, 102]) c < 0) : okc q c = false := by
  have := idx_okc q c h1 h2; rw [decide_eq_true h] at this; cases hh : okc q c <;> simp_all
theorem idx_ge (q : Int) (c : UInt8) (h1 : 1 ≤ q) (h2 : q ≤ 16)
    (h : 0 ≤ Lib.indexByte (List.take q.toNat [48, 49, 50, 51, 52, 53, 54, 55, 56, 57, 97, 98, 99, 100, 101, 102]) c) : okc q c = true := by
  have := idx_okc q c h1 h2; rw [decide_eq_false (by omega)] at this; cases hh : okc q c <;> simp_all
/-- Why a string is no word. -/
def wchk (q : Int) (l : List UInt8) : Int := if q < 1 ∨ 16 < q then 12 else if 65536 < l.length then 4 else if okw q l then 0 else 13
theorem wchk_alpha (q : Int) (l : List UInt8) (h : q < 1 ∨ 16 < q) : wchk q l = 12 := by simp [wchk, h]
theorem wchk_long (q : Int) (l : List UInt8) (h1 : 1 ≤ q) (h2 : q ≤ 16) (h : 65536 < l.length) : wchk q l = 4 := by
  unfold wchk; rw [if_neg (by omega), if_pos h]
theorem wchk_bad (q : Int) (l : List UInt8) (h1 : 1 ≤ q) (h2 : q ≤ 16) (h3 : l.length ≤ 65536) (h : okw q l = false) : wchk q l = 13 := by
  unfold wchk; rw [if_neg (by omega), if_neg (by omega), h]; rfl
theorem wchk_ok (q : Int) (l : List UInt8) (h1 : 1 ≤ q) (h2 : q ≤ 16) (h3 : l.length ≤ 65536) (h : okw q l = true) : wchk q l = 0 := by
  unfold wchk; rw [if_neg (by omega), if_neg (by omega), h]; rfl
theorem okw_of_take (q : Int) (l : List UInt8) (k : Nat) (h : l.length ≤ k) (hk : okw q (l.take k) = true) : okw q l = true := by
  rwa [List.take_of_length_le h] at hk
theorem take_snoc (s : ByteArray) (k : Nat) (h : k < s.size) : s.data.toList.take (k + 1) = s.data.toList.take k ++ [s[k]] := by
  rw [List.take_succ_eq_append_getElem (by simpa using h)]; rfl
theorem okw_snoc (q : Int) (s : ByteArray) (k : Nat) (h : k < s.size) (hk : okw q (s.data.toList.take k) = true) (hc : okc q s[k] = true) : okw q (s.data.toList.take (k + 1)) = true := by
  rw [take_snoc s k h]; simp [okw] at hk ⊢; exact ⟨hk, hc⟩
theorem okw_bad (q : Int) (s : ByteArray) (k : Nat) (h : k < s.size) (hc : okc q s[k] = false) : okw q s.data.toList = false := by
  rw [Bool.eq_false_iff]; intro hh
  have := List.all_eq_true.1 hh s[k] (by rw [← Array.mem_def]; exact Array.getElem_mem _)
  simp [hc] at this

theorem int_eq {k : IntKind} {a b : Int} (h : a = b) : Value.int k a = .int k b := by rw [h]
theorem ret_bi {a a' : Bool} {b b' : Int} (h : (a', b') = (a, b)) : Ending.returned (.tuple #[.bool a, .int .i64 b]) = .returned (.tuple #[.bool a', .int .i64 b']) := by
  obtain ⟨rfl, rfl⟩ := Prod.mk.inj h; rfl
theorem ret_ii {a a' b b' : Int} (h : (a', b') = (a, b)) : Ending.returned (.tuple #[.int .i64 a, .int .i64 b]) = .returned (.tuple #[.int .i64 a', .int .i64 b']) := by
  obtain ⟨rfl, rfl⟩ := Prod.mk.inj h; rfl
theorem wchk_long' (q : Int) (s : ByteArray) (h : wchk q s.data.toList = 0) : s.size ≤ 65536 := by
  unfold wchk at h
  split at h
  · omega
  split at h
  · omega
  · have : s.data.toList.length = s.size := by simp
    omega

/-- The first place at which a predicate holds, or -1. -/
def idxP {α : Type} (f : α → Bool) : List α → Int | [] => -1 | x :: l => if f x then 0 else if idxP f l < 0 then -1 else idxP f l + 1
theorem idxP_ge {α : Type} (f : α → Bool) (l : List α) : -1 ≤ idxP f l ∧ idxP f l < l.length := by
  induction l with
  | nil => simp [idxP]
  | cons x l ih => simp only [idxP, List.length_cons]; split <;> (try split) <;> omega
theorem idxP_any {α : Type} (f : α → Bool) (l : List α) : decide (0 ≤ idxP f l) = l.any f := by
  induction l with
  | nil => simp [idxP]
  | cons x l ih =>
    have := idxP_ge f l
    rw [List.any_cons, ← ih]
    by_cases hf : f x = true
    · simp [idxP, hf]
    · have hf' : f x = false := by simpa using hf
      simp only [idxP, hf', Bool.false_eq_true, if_false, Bool.false_or]
      rw [decide_eq_decide]
      split <;> omega
theorem idxP_hit {α : Type} (f : α → Bool) (l : List α) (k : Nat) (h : k < l.length) (hn : ∀ j (hj : j < l.length), j < k → f l[j] = false) (hk : f l[k] = true) : idxP f l = k := by
  induction l generalizing k with
  | nil => simp at h
  | cons x l ih =>
    cases k with
    | zero => simp only [List.getElem_cons_zero] at hk; simp [idxP, hk]
    | succ k =>
      have h0 := hn 0 (by simp) (by omega)
      simp only [List.getElem_cons_zero] at h0
      have := ih k (by simpa using h) (fun j hj hjk => by have := hn (j + 1) (by simpa using hj) (by omega); simpa using this) (by simpa using hk)
      simp only [idxP, h0, Bool.false_eq_true, if_false, this]
      rw [if_neg (by omega)]; omega
theorem idxP_miss {α : Type} (f : α → Bool) (l : List α) (hn : ∀ j (hj : j < l.length), f l[j] = false) : idxP f l = -1 := by
  induction l with
  | nil => rfl
  | cons x l ih =>
    have h0 := hn 0 (by simp)
    simp only [List.getElem_cons_zero] at h0
    have := ih (fun j hj => by have := hn (j + 1) (by simpa using hj); simpa using this)
    simp [idxP, h0, this]

theorem Sl.take {α : Type} {w : World} {enc : α → Value} {p : Option Addr} {l : List α} (h : Sl w enc p l) (k : Nat) : Sl w enc p (l.take k) := by
  rcases h with h | ⟨b, off, hp, hb, hc⟩
  · subst h; exact .inl (by simp)
  · exact .inr ⟨b, off, hp, hb, fun i hi => by rw [List.getElem_take]; exact hc i (by rw [List.length_take] at hi; omega)⟩
theorem Sl.of_vrow {α : Type} {w : World} {B t : Nat} {enc : α → Value} {l : List α} (h : VRow w B t (l.map enc)) : Sl w enc (some ⟨B, 0, none⟩) l :=
  .inr ⟨B, 0, rfl, h.lt, fun i hi => by rw [Nat.zero_add]; exact h.at i (by simp [hi])⟩

def eqb (a b : ByteArray) : Bool := decide (a = b)
theorem eqb_t {a b : ByteArray} (h : a = b) : eqb a b = true := decide_eq_true h
theorem eqb_f {a b : ByteArray} (h : a ≠ b) : eqb a b = false := decide_eq_false h
theorem eqb_iff {a b : ByteArray} : eqb a b = true ↔ a = b := by simp [eqb]
theorem bts_t {a b : ByteArray} (h : a = b) : (a.toList == b.toList) = true := (Lib.bytes_beq_iff a b).2 h
theorem bts_f {a b : ByteArray} (h : a ≠ b) : (a.toList == b.toList) = false := (Lib.bytes_beq_false_iff a b).2 h

/-! ### Slices of structs -/
/-- A slice's elements in memory, each of m cells. -/
def Sg {α : Type} (m : Nat) (w : World) (enc : α → List Value) (p : Option Addr) (l : List α) : Prop :=
  l = [] ∨ ∃ b off, p = some ⟨b, off, none⟩ ∧ b < w.heap.size ∧ ∀ i (h : i < l.length) j, j < m → w.cell? ⟨b, off + i * m + j, none⟩ = (enc l[i])[j]?
section
variable {α : Type} {m : Nat} {w w' : World} {enc : α → List Value} {p : Option Addr} {l : List α}
theorem Sg.nil (m : Nat) (w : World) (enc : α → List Value) (p : Option Addr) : Sg m w enc p ([] : List α) := .inl rfl
theorem Sg.below (h : Sg m w enc p l) (hB : Below w.heap.size w w') : Sg m w' enc p l := by
  rcases h with h | ⟨b, off, hp, hb, hc⟩
  · exact .inl h
  · exact .inr ⟨b, off, hp, Nat.lt_of_lt_of_le hb hB.size, fun i hi j hj => (hB.cell (p := ⟨b, off + i * m + j, none⟩) hb).trans (hc i hi j hj)⟩
theorem Sg.dr (h : Sg m w enc p l) (hD : Dr w w') : Sg m w' enc p l := h.below (hD.below _)
theorem Sg.get (h : Sg m w enc p l) (k : Nat) (hk : k < l.length) :
    ∃ b off, p = some ⟨b, off, none⟩ ∧ b < w.heap.size ∧ ∀ i (h : i < l.length) j, j < m → w.cell? ⟨b, off + i * m + j, none⟩ = (enc l[i])[j]? := by
  rcases h with h | h
  · subst h; simp at hk
  · exact h
theorem Sg.get3 (h : Sg 3 w enc p l) (k : Nat) (hk : k < l.length) {x y z : Value} (he : enc l[k] = [x, y, z]) :
    ∃ b off, p = some ⟨b, off, none⟩ ∧ b < w.heap.size ∧ w.cell? ⟨b, off + k * 3, none⟩ = some x ∧ w.cell? ⟨b, off + k * 3 + 1, none⟩ = some y ∧ w.cell? ⟨b, off + k * 3 + 2, none⟩ = some z := by
  obtain ⟨b, off, hp, hb, hc⟩ := h.get k hk
  have e0 := hc k hk 0 (by omega)
  have e1 := hc k hk 1 (by omega)
  have e2 := hc k hk 2 (by omega)
  rw [he] at e0 e1 e2
  exact ⟨b, off, hp, hb, by simpa using e0, by simpa using e1, by simpa using e2⟩
end
end Go.Proofs.YtaclgmhinljkbaaGreatDoor
namespace Go.Proofs.YtaclgmhinljkbaaGreatDoor
open Go.RowKit

/-! ### Comparison -/
def c3 (a b : Int) : Int := if a < b then -1 else if b < a then 1 else 0
theorem c3_bd (a b : Int) : -1 ≤ c3 a b ∧ c3 a b ≤ 1 := by unfold c3; split <;> (try split) <;> omega
theorem c3_neg {a b : Int} : c3 a b < 0 ↔ a < b := by unfold c3; split <;> (try split) <;> omega
theorem c3_pos {a b : Int} : 0 < c3 a b ↔ b < a := by unfold c3; split <;> (try split) <;> omega
theorem c3_zero {a b : Int} : c3 a b = 0 ↔ a = b := by unfold c3; split <;> (try split) <;> omega
/-- How two lists of numbers compare. -/
def cmpL : List Int → List Int → Int
  | [], [] => 0
  | [], _ :: _ => -1
  | _ :: _, [] => 1
  | x :: a, y :: b => if c3 x y = 0 then cmpL a b else c3 x y
theorem cmpL_bd : ∀ a b : List Int, -1 ≤ cmpL a b ∧ cmpL a b ≤ 1
  | [], [] => by simp [cmpL]
  | [], _ :: _ => by simp [cmpL]
  | _ :: _, [] => by simp [cmpL]
  | x :: a, y :: b => by
    have := c3_bd x y; have := cmpL_bd a b
    unfold cmpL; split <;> assumption
structure Ed where
  f : Int
  l : Int
  t : Int
instance : DecidableEq Ed := fun a b =>
  decidable_of_iff (a.f = b.f ∧ a.l = b.l ∧ a.t = b.t) ⟨fun ⟨h1, h2, h3⟩ => by cases a; cases b; simp_all, fun h => by subst h; exact ⟨rfl, rfl, rfl⟩⟩
instance : Inhabited Ed := ⟨⟨0, 0, 0⟩⟩
def edL (x : Ed) : List Int := [x.f, x.l, x.t]
def edE (x : Ed) : List Value := [.int .i64 x.f, .int .i64 x.l, .int .i64 x.t]
def cmpE (a b : Ed) : Int := cmpL (edL a) (edL b)
theorem cmpE_eq (a b : Ed) : cmpE a b = if c3 a.f b.f = 0 then (if c3 a.l b.l = 0 then c3 a.t b.t else c3 a.l b.l) else c3 a.f b.f := by
  unfold cmpE edL cmpL cmpL cmpL cmpL
  split
  · split
    · split
      · rename_i h; exact h.symm
      · rfl
    · rfl
  · rfl
theorem cmpE_bd (a b : Ed) : -1 ≤ cmpE a b ∧ cmpE a b ≤ 1 := cmpL_bd _ _
/-- An edge stands before another one. -/
def ltE (a b : Ed) : Bool := decide (a.f < b.f) || (decide (a.f = b.f) && (decide (a.l < b.l) || (decide (a.l = b.l) && decide (a.t < b.t))))
theorem ltE_iff {a b : Ed} : ltE a b = true ↔ a.f < b.f ∨ (a.f = b.f ∧ (a.l < b.l ∨ (a.l = b.l ∧ a.t < b.t))) := by simp [ltE]
theorem cmpE_neg (a b : Ed) : decide (cmpE a b < 0) = ltE a b := by
  rw [Bool.eq_iff_iff, ltE_iff, decide_eq_true_iff, cmpE_eq]
  have h1 := @c3_neg a.f b.f; have h2 := @c3_neg a.l b.l; have h3 := @c3_neg a.t b.t
  have z1 := @c3_zero a.f b.f; have z2 := @c3_zero a.l b.l
  split
  · rename_i e
    have e1 := z1.1 e
    split
    · rename_i e'
      have e2 := z2.1 e'
      rw [h3]; omega
    · rename_i e'
      have : a.l ≠ b.l := fun h => e' (z2.2 h)
      rw [h2]; omega
  · rename_i e
    have : a.f ≠ b.f := fun h => e (z1.2 h)
    rw [h1]; omega
theorem cmpE_zero {a b : Ed} : cmpE a b = 0 ↔ a = b := by
  rw [cmpE_eq]
  have z1 := @c3_zero a.f b.f; have z2 := @c3_zero a.l b.l; have z3 := @c3_zero a.t b.t
  constructor
  · intro h
    split at h
    · rename_i e
      split at h
      · rename_i e'
        cases a; cases b; simp_all
      · exact absurd h ‹_›
    · exact absurd h ‹_›
  · rintro rfl; simp [z1.2 rfl, z2.2 rfl, z3.2 rfl]
theorem ltE_irrefl (a : Ed) : ltE a a = false := by rw [Bool.eq_false_iff]; intro h; rw [ltE_iff] at h; omega
theorem ltE_trans {a b c : Ed} (h : ltE a b = true) (k : ltE b c = true) : ltE a c = true := by rw [ltE_iff] at *; omega
theorem ltE_total {a b : Ed} (h : ltE a b = false) (k : ltE b a = false) : a = b := by
  rw [Bool.eq_false_iff, ne_eq, ltE_iff] at h k
  cases a; cases b; simp_all; omega
theorem ltE_asymm {a b : Ed} (h : ltE a b = true) : ltE b a = false := by
  rw [Bool.eq_false_iff]; intro k; have := ltE_trans h k; rw [ltE_irrefl] at this; cases this
theorem cmpE_ge (a b : Ed) : decide (0 ≤ cmpE a b) = !ltE a b := by
  rw [← cmpE_neg]; by_cases h : cmpE a b < 0
  · simp [h]
  · simp [h]; omega

/-! ### Valid graphs -/
structure Gr where
  q : Int
  n : Int
  es : List Ed
def eget (l : List Ed) (k : Nat) : Ed := l.getD k ⟨0, 0, 0⟩
theorem eget_eq (l : List Ed) (k : Nat) (h : k < l.length) : eget l k = l[k] := by simp [eget, h]
def outE (q n : Int) (x : Ed) : Bool := decide (x.f < 0) || (decide (x.l < 0) || (decide (x.t < 0) || (decide (n ≤ x.f) || (decide (n ≤ x.t) || decide (q ≤ x.l)))))
theorem outE_iff {q n : Int} {x : Ed} : outE q n x = true ↔ x.f < 0 ∨ x.l < 0 ∨ x.t < 0 ∨ n ≤ x.f ∨ n ≤ x.t ∨ q ≤ x.l := by simp [outE]
theorem outE_no {q n : Int} {x : Ed} : outE q n x = false ↔ 0 ≤ x.f ∧ 0 ≤ x.l ∧ 0 ≤ x.t ∧ x.f < n ∧ x.t < n ∧ x.l < q := by
  rw [Bool.eq_false_iff, ne_eq, outE_iff]; omega
/-- Why the k-th edge does not fit: 0 if it does. -/
def errAt (q n : Int) (l : List Ed) (k : Nat) : Int := if outE q n (eget l k) = true then 2 else if 0 < k ∧ 0 ≤ cmpE (eget l (k - 1)) (eget l k) then 10 else 0
def errTo (q n : Int) (l : List Ed) : Nat → Int
  | 0 => 0
  | k + 1 => if errTo q n l k = 0 then errAt q n l k else errTo q n l k
theorem errTo_stay {q n : Int} {l : List Ed} {k : Nat} (h : errTo q n l k ≠ 0) : ∀ m, k ≤ m → errTo q n l m = errTo q n l k := by
  intro m
  induction m with
  | zero => intro hm; obtain rfl : k = 0 := by omega
            rfl
  | succ m ih =>
    intro hm
    by_cases e : k = m + 1
    · subst e; rfl
    · have := ih (by omega)
      rw [errTo, this, if_neg h]
theorem errTo_hit {q n : Int} {l : List Ed} {k m : Nat} (h0 : errTo q n l k = 0) (h : errAt q n l k ≠ 0) (hm : k < m) : errTo q n l m = errAt q n l k := by
  have h1 : errTo q n l (k + 1) = errAt q n l k := by rw [errTo, if_pos h0]
  rw [errTo_stay (k := k + 1) (by rw [h1]; exact h) m hm, h1]
theorem errTo_next {q n : Int} {l : List Ed} {k : Nat} (h0 : errTo q n l k = 0) (h : errAt q n l k = 0) : errTo q n l (k + 1) = 0 := by rw [errTo, if_pos h0, h]
theorem errAt_out {q n : Int} {l : List Ed} {k : Nat} (hk : k < l.length) (h : outE q n l[k] = true) : errAt q n l k = 2 := by
  unfold errAt; rw [eget_eq l k hk, if_pos h]
theorem errAt_first {q n : Int} {l : List Ed} (hk : 0 < l.length) (h : outE q n l[0] = false) : errAt q n l 0 = 0 := by
  unfold errAt; rw [eget_eq l 0 hk, if_neg (by simp [h]), if_neg (by omega)]
theorem errAt_succ {q n : Int} {l : List Ed} {m : Nat} (hk : m + 1 < l.length) (h : outE q n l[m + 1] = false) : errAt q n l (m + 1) = if 0 ≤ cmpE l[m] l[m + 1] then 10 else 0 := by
  unfold errAt
  rw [eget_eq l (m + 1) hk, if_neg (by simp [h]), Nat.add_sub_cancel, eget_eq l m (by omega)]
  by_cases e : 0 ≤ cmpE l[m] l[m + 1]
  · rw [if_pos ⟨by omega, e⟩, if_pos e]
  · rw [if_neg (fun h => e h.2), if_neg e]
/-- Why a graph is not valid. -/
def chkG (G : Gr) : Int := if G.q < 1 ∨ 256 < G.q then 12 else if G.n < 0 then 2 else if 64 < G.n ∨ 1024 < G.es.length then 4 else errTo G.q G.n G.es G.es.length
theorem chkG_q {G : Gr} (h : G.q < 1 ∨ 256 < G.q) : chkG G = 12 := by unfold chkG; rw [if_pos h]
theorem chkG_n {G : Gr} (h : 1 ≤ G.q) (h2 : G.q ≤ 256) (h3 : G.n < 0) : chkG G = 2 := by unfold chkG; rw [if_neg (by omega), if_pos h3]
theorem chkG_l {G : Gr} (h : 1 ≤ G.q) (h2 : G.q ≤ 256) (h3 : 0 ≤ G.n) (h4 : 64 < G.n ∨ 1024 < G.es.length) : chkG G = 4 := by
  unfold chkG; rw [if_neg (by omega), if_neg (by omega), if_pos h4]
theorem chkG_e {G : Gr} (h : 1 ≤ G.q) (h2 : G.q ≤ 256) (h3 : 0 ≤ G.n) (h4 : G.n ≤ 64) (h5 : G.es.length ≤ 1024) : chkG G = errTo G.q G.n G.es G.es.length := by
  unfold chkG; rw [if_neg (by omega), if_neg (by omega), if_neg (by omega)]
theorem errTo_zero_iff {q n : Int} {l : List Ed} : ∀ {k : Nat}, k ≤ l.length → (errTo q n l k = 0 ↔ (∀ m (hm : m < l.length), m < k → outE q n l[m] = false) ∧ (∀ m (hm : m + 1 < l.length), m + 1 < k → ltE l[m] l[m + 1] = true)) := by
  intro k
  induction k with
  | zero => intro _; simp [errTo]
  | succ k ih =>
    intro hk
    have ih := ih (by omega)
    have hkl : k < l.length := by omega
    constructor
    · intro h
      by_cases h0 : errTo q n l k = 0
      · rw [errTo, if_pos h0] at h
        obtain ⟨i1, i2⟩ := ih.1 h0
        have ho : outE q n l[k] = false := by
          rw [Bool.eq_false_iff]; intro hc; rw [errAt_out hkl hc] at h; omega
        refine ⟨fun m hm hlt => ?_, fun m hm hlt => ?_⟩
        · by_cases e : m = k
          · subst e; exact ho
          · exact i1 m hm (by omega)
        · by_cases e : m + 1 = k
          · subst e
            rw [errAt_succ hkl ho] at h
            by_cases e2 : 0 ≤ cmpE l[m] l[m + 1]
            · rw [if_pos e2] at h; omega
            · have := cmpE_ge l[m] l[m + 1]; rw [decide_eq_false e2] at this; simpa using this.symm
          · exact i2 m hm (by omega)
      · rw [errTo, if_neg h0] at h; exact absurd h h0
    · rintro ⟨i1, i2⟩
      have h0 := ih.2 ⟨fun m hm hlt => i1 m hm (by omega), fun m hm hlt => i2 m hm (by omega)⟩
      rw [errTo, if_pos h0]
      have ho := i1 k hkl (by omega)
      cases k with
      | zero => exact errAt_first hkl ho
      | succ m =>
        rw [errAt_succ hkl ho, if_neg]
        have := i2 m hkl (by omega)
        intro hc
        have h2 := cmpE_ge l[m] l[m + 1]
        rw [decide_eq_true hc, this] at h2; cases h2
theorem sorted_of_steps {l : List Ed} (h : ∀ m (hm : m + 1 < l.length), ltE l[m] l[m + 1] = true) : l.Pairwise (fun a b => ltE a b = true) := by
  rw [List.pairwise_iff_getElem]
  intro i j hi hj hij
  induction j with
  | zero => omega
  | succ j ih =>
    by_cases e : i = j
    · subst e; exact h i hj
    · exact ltE_trans (ih (by omega) (by omega)) (h j hj)
/-- What a valid graph is. -/
structure Vg (G : Gr) : Prop where
  q1 : 1 ≤ G.q
  q2 : G.q ≤ 256
  n1 : 0 ≤ G.n
  n2 : G.n ≤ 64
  len : G.es.length ≤ 1024
  ins : ∀ x ∈ G.es, 0 ≤ x.f ∧ 0 ≤ x.l ∧ 0 ≤ x.t ∧ x.f < G.n ∧ x.t < G.n ∧ x.l < G.q
  srt : G.es.Pairwise (fun a b => ltE a b = true)
theorem chkG_ok {G : Gr} : chkG G = 0 ↔ Vg G := by
  constructor
  · intro h
    unfold chkG at h
    split at h
    · omega
    split at h
    · omega
    split at h
    · omega
    rename_i h1 h2 h3
    obtain ⟨i1, i2⟩ := (errTo_zero_iff (Nat.le_refl _)).1 h
    refine ⟨by omega, by omega, by omega, by omega, by omega, fun x hx => ?_, sorted_of_steps (fun m hm => i2 m hm hm)⟩
    obtain ⟨m, hm, rfl⟩ := List.mem_iff_getElem.1 hx
    exact outE_no.1 (i1 m hm hm)
  · intro V
    rw [chkG_e V.q1 V.q2 V.n1 V.n2 V.len, errTo_zero_iff (Nat.le_refl _)]
    exact ⟨fun m hm _ => outE_no.2 (V.ins _ (List.getElem_mem hm)), fun m hm _ => List.pairwise_iff_getElem.1 V.srt m (m + 1) (by omega) hm (by omega)⟩

/-! ### Edges in order, each once -/
theorem norm_unique : ∀ {a b : List Ed}, a.Pairwise (fun x y => ltE x y = true) → b.Pairwise (fun x y => ltE x y = true) → (∀ x, x ∈ a ↔ x ∈ b) → a = b
  | [], [], _, _, _ => rfl
  | [], y :: b, _, _, h => by have := (h y).2 (by simp); simp at this
  | x :: a, [], _, _, h => by have := (h x).1 (by simp); simp at this
  | x :: a, y :: b, ha, hb, h => by
    have hx := List.pairwise_cons.1 ha
    have hy := List.pairwise_cons.1 hb
    have e : x = y := by
      rcases List.mem_cons.1 ((h x).1 (by simp)) with h1 | h1
      · exact h1
      · rcases List.mem_cons.1 ((h y).2 (by simp)) with h2 | h2
        · exact h2.symm
        · have := ltE_trans (hx.1 y h2) (hy.1 x h1); rw [ltE_irrefl] at this; cases this
    subst e
    congr 1
    refine norm_unique hx.2 hy.2 (fun z => ?_)
    constructor
    · intro hz
      rcases List.mem_cons.1 ((h z).1 (by simp [hz])) with h1 | h1
      · subst h1; have := hx.1 z hz; rw [ltE_irrefl] at this; cases this
      · exact h1
    · intro hz
      rcases List.mem_cons.1 ((h z).2 (by simp [hz])) with h1 | h1
      · subst h1; have := hy.1 z hz; rw [ltE_irrefl] at this; cases this
      · exact h1
/-- One edge more in a list that is in order. -/
def insE (x : Ed) : List Ed → List Ed
  | [] => [x]
  | y :: l => if ltE x y = true then x :: y :: l else if x = y then y :: l else y :: insE x l
theorem mem_insE {x z : Ed} : ∀ {l : List Ed}, z ∈ insE x l ↔ z = x ∨ z ∈ l
  | [] => by simp [insE]
  | y :: l => by
    unfold insE
    split
    · simp
    · split
      · rename_i h; subst h; simp
      · rw [List.mem_cons, mem_insE, List.mem_cons]
        constructor
        · rintro (h | h | h)
          · exact .inr (.inl h)
          · exact .inl h
          · exact .inr (.inr h)
        · rintro (h | h | h)
          · exact .inr (.inl h)
          · exact .inl h
          · exact .inr (.inr h)
theorem insE_srt {x : Ed} : ∀ {l : List Ed}, l.Pairwise (fun a b => ltE a b = true) → (insE x l).Pairwise (fun a b => ltE a b = true)
  | [], _ => by simp [insE]
  | y :: l, h => by
    have hy := List.pairwise_cons.1 h
    unfold insE
    split
    · rename_i hlt
      refine List.pairwise_cons.2 ⟨fun z hz => ?_, h⟩
      rcases List.mem_cons.1 hz with e | e
      · subst e; exact hlt
      · exact ltE_trans hlt (hy.1 z e)
    · split
      · exact h
      · rename_i h1 h2
        refine List.pairwise_cons.2 ⟨fun z hz => ?_, insE_srt hy.2⟩
        rcases mem_insE.1 hz with e | e
        · subst e
          cases hb : ltE y z
          · exact absurd (ltE_total (by simpa using h1) hb) h2
          · rfl
        · exact hy.1 z e
/-- Edges in order, each once. -/
def norm (l : List Ed) : List Ed := l.foldl (fun a x => insE x a) []
theorem norm_gen : ∀ (l a : List Ed), a.Pairwise (fun a b => ltE a b = true) → (l.foldl (fun a x => insE x a) a).Pairwise (fun a b => ltE a b = true) ∧ ∀ x, x ∈ l.foldl (fun a x => insE x a) a ↔ x ∈ a ∨ x ∈ l
  | [], a, h => ⟨h, fun x => by simp⟩
  | y :: l, a, h => by
    obtain ⟨h1, h2⟩ := norm_gen l (insE y a) (insE_srt h)
    refine ⟨h1, fun x => ?_⟩
    rw [List.foldl_cons, h2 x, mem_insE, List.mem_cons]
    constructor
    · rintro ((h | h) | h)
      · exact .inr (.inl h)
      · exact .inl h
      · exact .inr (.inr h)
    · rintro (h | h | h)
      · exact .inl (.inr h)
      · exact .inl (.inl h)
      · exact .inr h
theorem norm_srt (l : List Ed) : (norm l).Pairwise (fun a b => ltE a b = true) := (norm_gen l [] List.Pairwise.nil).1
theorem mem_norm {l : List Ed} {x : Ed} : x ∈ norm l ↔ x ∈ l := by rw [norm, (norm_gen l [] List.Pairwise.nil).2 x]; simp
theorem norm_eq {l a : List Ed} (h : a.Pairwise (fun a b => ltE a b = true)) (hm : ∀ x, x ∈ a ↔ x ∈ l) : a = norm l :=
  norm_unique h (norm_srt l) (fun x => (hm x).trans mem_norm.symm)
theorem norm_snoc (l : List Ed) (x : Ed) : norm (l ++ [x]) = insE x (norm l) := by simp [norm, List.foldl_append]
theorem norm_of_srt {l : List Ed} (h : l.Pairwise (fun a b => ltE a b = true)) : norm l = l := (norm_eq h (fun _ => Iff.rfl)).symm
theorem norm_congr {l m : List Ed} (h : ∀ x, x ∈ l ↔ x ∈ m) : norm l = norm m := norm_eq (norm_srt l) (fun x => mem_norm.trans (h x))
/-- What Make answers. -/
def makeA (q n : Int) (l : List Ed) : Gr × Int := if chkG ⟨q, n, norm l⟩ = 0 then (⟨q, n, norm l⟩, 0) else (⟨0, 0, []⟩, chkG ⟨q, n, norm l⟩)
theorem makeA_ok {q n : Int} {l : List Ed} (h : chkG ⟨q, n, norm l⟩ = 0) : makeA q n l = (⟨q, n, norm l⟩, 0) := by unfold makeA; rw [if_pos h]
theorem makeA_bad {q n : Int} {l : List Ed} (h : chkG ⟨q, n, norm l⟩ ≠ 0) : makeA q n l = (⟨0, 0, []⟩, chkG ⟨q, n, norm l⟩) := by unfold makeA; rw [if_neg h]

/-! ### The same element, once, in a list whose like elements stand together -/
def compact {α : Type} [DecidableEq α] : List α → List α
  | [] => []
  | [x] => [x]
  | x :: y :: l => if x = y then compact (y :: l) else x :: compact (y :: l)
section
variable {α : Type} [DecidableEq α]
theorem compact_snoc (x y : α) : ∀ l : List α, compact (l ++ [x, y]) = if x = y then compact (l ++ [x]) else compact (l ++ [x]) ++ [y]
  | [] => by simp only [List.nil_append, compact]; split <;> simp_all
  | [z] => by
    have ih := compact_snoc x y []
    simp only [List.nil_append] at ih
    simp only [List.cons_append, List.nil_append, compact] at ih ⊢
    split <;> split <;> simp_all
  | z :: u :: l => by
    have ih := compact_snoc x y (u :: l)
    simp only [List.cons_append] at ih ⊢
    rw [compact, compact]
    split
    · exact ih
    · rw [ih]; split <;> rfl
theorem compact_take (l : List α) (m : Nat) (h0 : 0 < m) (h : m < l.length) : compact (l.take (m + 1)) = if l[m - 1] = l[m] then compact (l.take m) else compact (l.take m) ++ [l[m]] := by
  obtain ⟨k, rfl⟩ : ∃ k, m = k + 1 := ⟨m - 1, by omega⟩
  rw [List.take_succ_eq_append_getElem h, List.take_succ_eq_append_getElem (by omega : k < l.length), List.append_assoc]
  exact compact_snoc _ _ _
theorem compact_succ (l : List α) (m : Nat) (h : m + 1 < l.length) : compact (l.take (m + 1 + 1)) = if l[m] = l[m + 1] then compact (l.take (m + 1)) else compact (l.take (m + 1)) ++ [l[m + 1]] := compact_take l (m + 1) (by omega) h
theorem compact_one (l : List α) (h : 0 < l.length) : compact (l.take 1) = l.take 1 := by
  cases l with
  | nil => simp at h
  | cons x l => rfl
theorem compact_len : ∀ l : List α, (compact l).length ≤ l.length
  | [] => by simp [compact]
  | [_] => by simp [compact]
  | x :: y :: l => by
    have := compact_len (y :: l)
    unfold compact; split
    · simp at *; omega
    · simp at *; omega
theorem compact_pos : ∀ l : List α, l ≠ [] → compact l ≠ []
  | [], h => absurd rfl h
  | [_], _ => by simp [compact]
  | x :: y :: l, _ => by
    unfold compact; split
    · exact compact_pos _ (by simp)
    · simp
theorem compact_same (l : List α) (h : ∀ m (hm : m + 1 < l.length), l[m] ≠ l[m + 1]) : compact l = l := by
  induction l with
  | nil => rfl
  | cons x l ih =>
    cases l with
    | nil => rfl
    | cons y l =>
      have h0 := h 0 (by simp)
      simp only [List.getElem_cons_zero, List.getElem_cons_succ] at h0
      rw [compact, if_neg h0, ih (fun m hm => by have := h (m + 1) (by simpa using hm); simpa using this)]
theorem mem_compact {z : α} : ∀ {l : List α}, z ∈ compact l ↔ z ∈ l
  | [] => Iff.rfl
  | [_] => Iff.rfl
  | x :: y :: l => by
    have ih := mem_compact (z := z) (l := y :: l)
    unfold compact; split
    · rename_i e; subst e; rw [ih]; simp
    · rw [List.mem_cons, ih, List.mem_cons (l := y :: l)]
end
theorem compact_srt : ∀ {l : List Ed}, l.Pairwise (fun a b => ltE b a = false) → (compact l).Pairwise (fun a b => ltE a b = true)
  | [], _ => List.Pairwise.nil
  | [_], _ => by simp [compact]
  | x :: y :: l, h => by
    have hx := List.pairwise_cons.1 h
    have ih := compact_srt hx.2
    unfold compact; split
    · exact ih
    · rename_i hne
      refine List.pairwise_cons.2 ⟨fun z hz => ?_, ih⟩
      have hxy : ltE x y = true := by
        cases hb : ltE x y
        · exact absurd (ltE_total hb (hx.1 y (by simp))) hne
        · rfl
      rcases List.mem_cons.1 (mem_compact.1 hz) with e | e
      · subst e; exact hxy
      · have := (List.pairwise_cons.1 hx.2).1 z e
        cases hb : ltE x z
        · have e1 : ltE y z = true := by
            cases hc : ltE y z
            · have e2 := ltE_total hc this
              subst e2; rw [hxy] at hb; cases hb
            · rfl
          have := ltE_trans hxy e1; rw [hb] at this; cases this
        · rfl
def leE (a b : Ed) : Bool := !ltE b a
theorem norm_sort (l : List Ed) : compact (l.mergeSort (fun x y => !ltE y x)) = norm l := by
  have hp : (l.mergeSort (fun x y => !ltE y x)).Pairwise (fun a b => (!ltE b a) = true) :=
    List.pairwise_mergeSort (le := fun x y => !ltE y x) (fun a b c h1 h2 => by
      simp only [Bool.not_eq_true'] at *
      cases hc : ltE c a
      · rfl
      · cases hb : ltE a b
        · have := ltE_total hb h1; subst this; rw [hc] at h2; cases h2
        · have := ltE_trans hc hb; rw [h2] at this; cases this) (fun a b => by
      cases h : ltE a b
      · simp
      · simp [ltE_asymm h]) l
  refine norm_eq (compact_srt (hp.imp (fun h => by simpa using h))) (fun x => ?_)
  rw [mem_compact]; exact List.mem_mergeSort
end Go.Proofs.YtaclgmhinljkbaaGreatDoor
namespace Go.Proofs.YtaclgmhinljkbaaGreatDoor
open Go.RowKit Go.Shelf
attribute [local go_sem] Oper.semAt_some

/-- What the sequence yields among the first k edges. -/
def lvL (es : List Ed) (s : Int) (k : Nat) : List (Nat × Ed) := ((List.range k).filter (fun i => decide ((eget es i).f = s))).map (fun i => (i, eget es i))
theorem lvL_zero (es : List Ed) (s : Int) : lvL es s 0 = [] := rfl
theorem lvL_succ {es : List Ed} {s : Int} {k : Nat} (h : k < es.length) : lvL es s (k + 1) = lvL es s k ++ (if es[k].f = s then [(k, es[k])] else []) := by
  unfold lvL
  rw [List.range_succ, List.filter_append, List.map_append]
  congr 1
  by_cases hs : es[k].f = s <;> simp [eget_eq es k h, hs]
theorem lvL_len (es : List Ed) (s : Int) (k : Nat) : (lvL es s k).length ≤ k := by
  unfold lvL
  rw [List.length_map]
  exact Nat.le_trans (List.length_filter_le _ _) (by simp)
/-- All blocks below b, but a, are as they were. -/
def KX (a b : Nat) (W W' : World) : Prop := ∀ i, i < b → i ≠ a → W'.heap[i]? = W.heap[i]?
theorem KX.refl (a b : Nat) (W : World) : KX a b W W := fun _ _ _ => rfl
theorem KX.trans {a b : Nat} {X Y Z : World} (h : KX a b X Y) (k : KX a b Y Z) : KX a b X Z := fun i h1 h2 => (k i h1 h2).trans (h i h1 h2)
theorem KX_b {a b n : Nat} (hn : b ≤ n) (W : World) (l : Nat) (o o' : Obj) (hl : n ≤ l) (_ : W.heap[l]? = some o) (_ : o.isCells = false) (_ : o.isWalk = false) : KX a b W (W.putObj l o') :=
  fun i h1 _ => World.putObj_heap_other (by omega)
theorem KX.boxed {a b B : Nat} {t : TypeId} {v : Value} {W W' : World} (h : KX a b W W') (h1 : B < b) (h2 : B ≠ a) (hb : Boxed W B t v) : Boxed W' B t v := (h B h1 h2).trans hb
/-- Edges in memory, in a block below n. -/
def SgB (n : Nat) (w : World) (p : Option Addr) (l : List Ed) : Prop :=
  l = [] ∨ ∃ b off, p = some ⟨b, off, none⟩ ∧ b < n ∧ b < w.heap.size ∧ ∀ i (h : i < l.length) j, j < 3 → w.cell? ⟨b, off + i * 3 + j, none⟩ = (edE l[i])[j]?
theorem SgB.of {n : Nat} {w : World} {p : Option Addr} {l : List Ed} (h : Sg 3 w edE p l) (hn : w.heap.size ≤ n) : SgB n w p l := by
  rcases h with h | ⟨b, off, h1, h2, h3⟩
  · exact .inl h
  · exact .inr ⟨b, off, h1, by omega, h2, h3⟩
theorem SgB.sg {n : Nat} {w : World} {p : Option Addr} {l : List Ed} (h : SgB n w p l) : Sg 3 w edE p l := by
  rcases h with h | ⟨b, off, h1, _, h2, h3⟩
  · exact .inl h
  · exact .inr ⟨b, off, h1, h2, h3⟩
theorem SgB.kept {n : Nat} {w w' : World} {p : Option Addr} {l : List Ed} (h : SgB n w p l) (hk : ∀ i, i < n → w'.heap[i]? = w.heap[i]?) : SgB n w' p l := by
  rcases h with h | ⟨b, off, h1, h2, h3, h4⟩
  · exact .inl h
  · have e := hk b h2
    have hlt : b < w'.heap.size := by
      rcases Nat.lt_or_ge b w'.heap.size with h' | h'
      · exact h'
      · rw [Array.getElem?_eq_none h', Array.getElem?_eq_getElem h3] at e; cases e
    exact .inr ⟨b, off, h1, h2, hlt, fun i hi j hj => (World.cell?_of_block (w := w) (a := ⟨b, off + i * 3 + j, none⟩) e).trans (h4 i hi j hj)⟩
theorem SgB.kx {n a b : Nat} {w w' : World} {p : Option Addr} {l : List Ed} (h : SgB n w p l) (hk : KX a b w w') (h1 : n ≤ b) (h2 : n ≤ a) : SgB n w' p l :=
  h.kept (fun i hi => hk i (by omega) (by omega))
theorem SgB.alloc {n : Nat} {w : World} {p : Option Addr} {l : List Ed} (h : SgB n w p l) (hn : n ≤ w.heap.size) (o : Obj) : SgB n (w.alloc o) p l :=
  h.kept (fun i hi => Below.heap_alloc w o i (by omega))
def encL (x : Nat × Ed) : Array Value := #[.int .i64 (x.1 : Int), .agg #[.int .i64 x.2.f, .int .i64 x.2.l, .int .i64 x.2.t]]

set_option maxRecDepth 100000 in
set_option maxHeartbeats 1000000 in
theorem leaving1_in (F : Fence) (n : Nat) (hf : F.fn 147) (hro : F.round = none) (hn : 1 ≤ n) (l a b m Bg Bs : Nat) (G : Gr) (s : Int) (p : Option Addr) (c : Nat) (hlen : G.es.length ≤ 1024) (J Jx : List (Nat × Ed) → World → Prop)
    (hA : ∀ pre W o, J pre W → J pre (W.alloc o))
    (hY : ∀ pre x W, J pre W → pre.length < G.es.length → YieldAt F (n - 1) Tryz.prog l (encL x) W fun e W' =>
      (e = .returned (.bool true) ∧ J (pre ++ [x]) W' ∧ KX a b W W') ∨ (e = .returned (.bool false) ∧ Jx (pre ++ [x]) W'))
    (W : World) (hma : m ≤ a) (hmb : m ≤ Bs) (hBs : Bs < b) (hBa : Bs ≠ a) (hg : VRow W Bg 29 [.int .i64 G.q, .int .i64 G.n, .slice p G.es.length c]) (hs : Boxed W Bs 3 (.int .i64 s)) (hin : SgB m W p G.es) (h0 : J [] W) :
    CallsIn F n Tryz.prog 147 #[.func (.yield l) #[] #[], .pointer (some ⟨Bg, 0, none⟩), .pointer (some ⟨Bs, 0, none⟩)] W fun e W' => (∃ v, e = .returned v) ∧
      ((∃ ys : List (Nat × Ed), ys = lvL G.es s G.es.length ∧ J ys W') ∨ (∃ pre : List (Nat × Ed), True ∧ Jx pre W')) := by
  refine callsIn_of_wp Tryz.func147 rfl hf ?_ hro
  simp only [Tryz.ntmps147, List.size_toArray, List.length_cons, List.length_nil, Nat.reduceAdd, Nat.reduceSub, Array.replicate_succ, Array.replicate_zero, List.push_toArray, List.append_toArray, List.nil_append, List.cons_append]
  have f2 := hg.at 2 rfl
  gi_wp2
  clear f2
  gi_loopw [9] (fun i wr => ∃ (k : Nat) (pre : List (Nat × Ed)), k ≤ G.es.length ∧ i = .int .i64 k ∧ Hid (pre = lvL G.es s k) ∧ J pre wr ∧ Boxed wr Bs 3 (.int .i64 s) ∧ SgB m wr p G.es) (fun i _ => G.es.length - (intOf i).toNat)
  case atStart => exact ⟨0, [], Nat.zero_le _, rfl, rfl, h0, hs, hin⟩
  case round =>
    obtain ⟨k, pre, hk, rfl, hp, hJs, hnx, hsg⟩ := hrel
    by_cases hlt : k < G.es.length
    · have hpl : pre.length < G.es.length := by rw [hp.out]; have := lvL_len G.es s k; omega
      obtain ⟨b3, o3, rfl, hb3, e0, e1, e2⟩ := hsg.sg.get3 k hlt rfl
      have HN := hidI (lvL_succ (s := s) hlt)
      have hnA := hnx.alloc (.cells #[.int .i64 G.es[k].f, .int .i64 G.es[k].l, .int .i64 G.es[k].t] 42)
      have hgA := hsg.alloc (by have := hnx.lt; omega) (.cells #[.int .i64 G.es[k].f, .int .i64 G.es[k].l, .int .i64 G.es[k].t] 42)
      have hJA := hA pre wr (.cells #[.int .i64 G.es[k].f, .int .i64 G.es[k].l, .int .i64 G.es[k].t] 42) hJs
      have HY := hidI (hY pre (k, G.es[k]) (wr.alloc (.cells #[.int .i64 G.es[k].f, .int .i64 G.es[k].l, .int .i64 G.es[k].t] 42)) hJA hpl)
      have hbs := hnA.cell
      generalize hx : G.es[k] = x at *
      by_cases he : x.f = s
      · have hb : (x.f == s) = true := by simpa using he
        have HN : Hid (lvL G.es s (k + 1) = lvL G.es s k ++ [(k, x)]) := by rw [Hid, HN.out, if_pos he]
        obtain ⟨fn, tmps, assign, body, hy, hR⟩ := HY.out
        unfold encL at hy
        simp only at hy
        clear he
        gi_wp2
        refine hR.mono ?_
        rintro e W3 (⟨rfl, hJ3, hk3⟩ | ⟨rfl, hJx3⟩)
        · gi_wp2
          go_roundw
          case rel => exact ⟨k + 1, _, by omega, by go_num, by unfold Hid; rw [HN.out, ← hp.out], hJ3, hk3.boxed hBs hBa hnA, hgA.kx hk3 (by omega) hma⟩
          case measure => simp [intOf]; omega
        · gi_wp2
          refine bodyPost_ret (results_none rfl _ _ _) rfl ?_
          exact ⟨⟨_, rfl⟩, .inr ⟨_, trivial, hJx3⟩⟩
      · have hb : (x.f == s) = false := by simpa using he
        have HN : Hid (lvL G.es s (k + 1) = lvL G.es s k) := by rw [Hid, HN.out, if_neg he, List.append_nil]
        clear he
        gi_wp2
        rename_i K1 hK1 x1 h1 w1 e1
        refine ⟨fun f hf => (by cases hf), hK1 _ _ ?_⟩
        clear e1
        gi_wp2
        go_roundw
        case rel => exact ⟨k + 1, _, by omega, by go_num, by unfold Hid; rw [HN.out, ← hp.out], hJA, hnA, hgA⟩
        case measure => simp [intOf]; omega
    · obtain rfl : k = G.es.length := by omega
      gi_wp2
      go_end0
      exact ⟨⟨_, rfl⟩, .inl ⟨_, hp.out, hJs⟩⟩

/-- The sequence, as the law of the loop takes it. -/
theorem leaving_stops (F : Fence) (n : Nat) (hf : F.fn 147) (hro : F.round = none) (hn : 1 ≤ n) (a b m Bg Bs : Nat) (G : Gr) (s : Int) (p : Option Addr) (c : Nat) (hlen : G.es.length ≤ 1024) (w : World)
    (hma : m ≤ a) (hmb : m ≤ Bs) (hBs : Bs < b) (hBa : Bs ≠ a) (hg : VRow w Bg 29 [.int .i64 G.q, .int .i64 G.n, .slice p G.es.length c]) (hs : Boxed w Bs 3 (.int .i64 s)) (hin : SgB m w p G.es) :
    SeqStopsK F n Tryz.prog 147 #[.pointer (some ⟨Bg, 0, none⟩), .pointer (some ⟨Bs, 0, none⟩)] encL (KX a b) (fun ys => ys = lvL G.es s G.es.length) (fun _ => True) G.es.length w := fun l J Jx W hW hJ _ hY h0 =>
  leaving1_in F n hf hro hn l a b m Bg Bs G s p c hlen J Jx (fun pre W o h => hJ pre W _ none h (World.grownBy_alloc W o none) (fun r e => by cases e)) hY W hma hmb hBs hBa (hg.below hW hg.lt) ((KH.of_below hW hs.lt).boxed hs) (hin.kept (fun i hi => hW.block i (by have := hs.lt; omega))) h0
end Go.Proofs.YtaclgmhinljkbaaGreatDoor
namespace Go.Proofs.YtaclgmhinljkbaaGreatDoor
open Go.RowKit Go.Shelf
attribute [local go_sem] Oper.semAt_some

/-- All blocks below m, and block B, are as they were. -/
def KS (m B : Nat) (W W' : World) : Prop := ∀ i, (i < m ∨ i = B) → W'.heap[i]? = W.heap[i]?
theorem KS.refl (m B : Nat) (W : World) : KS m B W W := fun _ _ => rfl
theorem KS.trans {m B : Nat} {X Y Z : World} (h : KS m B X Y) (k : KS m B Y Z) : KS m B X Z := fun i h1 => (k i h1).trans (h i h1)
theorem KS_b {m B n : Nat} (hm : m ≤ n) (hB : B < n) (W : World) (l : Nat) (o o' : Obj) (hl : n ≤ l) (_ : W.heap[l]? = some o) (_ : o.isCells = false) (_ : o.isWalk = false) : KS m B W (W.putObj l o') :=
  fun i h1 => World.putObj_heap_other (by omega)
theorem KS.boxed {m B : Nat} {t : TypeId} {v : Value} {W W' : World} (h : KS m B W W') (hb : Boxed W B t v) : Boxed W' B t v := (h B (.inr rfl)).trans hb
theorem KS.low {m B : Nat} {W W' : World} (h : KS m B W W') : ∀ i, i < m → W'.heap[i]? = W.heap[i]? := fun i hi => h i (.inl hi)

set_option maxRecDepth 100000 in
set_option maxHeartbeats 1000000 in
theorem leavingS_in (F : Fence) (n : Nat) (hf : F.fn 147) (hro : F.round = none) (hn : 1 ≤ n) (l m Bg Bs : Nat) (G : Gr) (s : Int) (p : Option Addr) (c : Nat) (hlen : G.es.length ≤ 1024) (J Jx : List (Nat × Ed) → World → Prop)
    (hA : ∀ pre W o, J pre W → J pre (W.alloc o))
    (hY : ∀ pre x W, J pre W → pre.length < G.es.length → YieldAt F (n - 1) Tryz.prog l (encL x) W fun e W' =>
      (e = .returned (.bool true) ∧ J (pre ++ [x]) W' ∧ KS m Bs W W') ∨ (e = .returned (.bool false) ∧ Jx (pre ++ [x]) W'))
    (W : World) (hmb : m ≤ Bs) (hg : VRow W Bg 29 [.int .i64 G.q, .int .i64 G.n, .slice p G.es.length c]) (hs : Boxed W Bs 3 (.int .i64 s)) (hin : SgB m W p G.es) (h0 : J [] W) :
    CallsIn F n Tryz.prog 147 #[.func (.yield l) #[] #[], .pointer (some ⟨Bg, 0, none⟩), .pointer (some ⟨Bs, 0, none⟩)] W fun e W' => (∃ v, e = .returned v) ∧
      ((∃ ys : List (Nat × Ed), ys = lvL G.es s G.es.length ∧ J ys W') ∨ (∃ pre : List (Nat × Ed), True ∧ Jx pre W')) := by
  refine callsIn_of_wp Tryz.func147 rfl hf ?_ hro
  simp only [Tryz.ntmps147, List.size_toArray, List.length_cons, List.length_nil, Nat.reduceAdd, Nat.reduceSub, Array.replicate_succ, Array.replicate_zero, List.push_toArray, List.append_toArray, List.nil_append, List.cons_append]
  have f2 := hg.at 2 rfl
  gi_wp2
  clear f2
  gi_loopw [9] (fun i wr => ∃ (k : Nat) (pre : List (Nat × Ed)), k ≤ G.es.length ∧ i = .int .i64 k ∧ Hid (pre = lvL G.es s k) ∧ J pre wr ∧ Boxed wr Bs 3 (.int .i64 s) ∧ SgB m wr p G.es) (fun i _ => G.es.length - (intOf i).toNat)
  case atStart => exact ⟨0, [], Nat.zero_le _, rfl, rfl, h0, hs, hin⟩
  case round =>
    obtain ⟨k, pre, hk, rfl, hp, hJs, hnx, hsg⟩ := hrel
    by_cases hlt : k < G.es.length
    · have hpl : pre.length < G.es.length := by rw [hp.out]; have := lvL_len G.es s k; omega
      obtain ⟨b3, o3, rfl, hb3, e0, e1, e2⟩ := hsg.sg.get3 k hlt rfl
      have HN := hidI (lvL_succ (s := s) hlt)
      have hnA := hnx.alloc (.cells #[.int .i64 G.es[k].f, .int .i64 G.es[k].l, .int .i64 G.es[k].t] 42)
      have hgA := hsg.alloc (by have := hnx.lt; omega) (.cells #[.int .i64 G.es[k].f, .int .i64 G.es[k].l, .int .i64 G.es[k].t] 42)
      have hJA := hA pre wr (.cells #[.int .i64 G.es[k].f, .int .i64 G.es[k].l, .int .i64 G.es[k].t] 42) hJs
      have HY := hidI (hY pre (k, G.es[k]) (wr.alloc (.cells #[.int .i64 G.es[k].f, .int .i64 G.es[k].l, .int .i64 G.es[k].t] 42)) hJA hpl)
      have hbs := hnA.cell
      generalize hx : G.es[k] = x at *
      by_cases he : x.f = s
      · have hb : (x.f == s) = true := by simpa using he
        have HN : Hid (lvL G.es s (k + 1) = lvL G.es s k ++ [(k, x)]) := by rw [Hid, HN.out, if_pos he]
        obtain ⟨fn, tmps, assign, body, hy, hR⟩ := HY.out
        unfold encL at hy
        simp only at hy
        clear he
        gi_wp2
        refine hR.mono ?_
        rintro e W3 (⟨rfl, hJ3, hk3⟩ | ⟨rfl, hJx3⟩)
        · gi_wp2
          go_roundw
          case rel => exact ⟨k + 1, _, by omega, by go_num, by unfold Hid; rw [HN.out, ← hp.out], hJ3, hk3.boxed hnA, hgA.kept hk3.low⟩
          case measure => simp [intOf]; omega
        · gi_wp2
          refine bodyPost_ret (results_none rfl _ _ _) rfl ?_
          exact ⟨⟨_, rfl⟩, .inr ⟨_, trivial, hJx3⟩⟩
      · have hb : (x.f == s) = false := by simpa using he
        have HN : Hid (lvL G.es s (k + 1) = lvL G.es s k) := by rw [Hid, HN.out, if_neg he, List.append_nil]
        clear he
        gi_wp2
        rename_i K1 hK1 x1 h1 w1 e1
        refine ⟨fun f hf => (by cases hf), hK1 _ _ ?_⟩
        clear e1
        gi_wp2
        go_roundw
        case rel => exact ⟨k + 1, _, by omega, by go_num, by unfold Hid; rw [HN.out, ← hp.out], hJA, hnA, hgA⟩
        case measure => simp [intOf]; omega
    · obtain rfl : k = G.es.length := by omega
      gi_wp2
      go_end0
      exact ⟨⟨_, rfl⟩, .inl ⟨_, hp.out, hJs⟩⟩

/-- The sequence, as the law of the loop takes it. -/
theorem leavingS_stops (F : Fence) (n : Nat) (hf : F.fn 147) (hro : F.round = none) (hn : 1 ≤ n) (m Bg Bs : Nat) (G : Gr) (s : Int) (p : Option Addr) (c : Nat) (hlen : G.es.length ≤ 1024) (w : World)
    (hmb : m ≤ Bs) (hg : VRow w Bg 29 [.int .i64 G.q, .int .i64 G.n, .slice p G.es.length c]) (hs : Boxed w Bs 3 (.int .i64 s)) (hin : SgB m w p G.es) :
    SeqStopsK F n Tryz.prog 147 #[.pointer (some ⟨Bg, 0, none⟩), .pointer (some ⟨Bs, 0, none⟩)] encL (KS m Bs) (fun ys => ys = lvL G.es s G.es.length) (fun _ => True) G.es.length w := fun l J Jx W hW hJ _ hY h0 =>
  leavingS_in F n hf hro hn l m Bg Bs G s p c hlen J Jx (fun pre W o h => hJ pre W _ none h (World.grownBy_alloc W o none) (fun r e => by cases e)) hY W hmb (hg.below hW hg.lt) ((KH.of_below hW hs.lt).boxed hs) (hin.kept (fun i hi => hW.block i (by have := hs.lt; omega))) h0
end Go.Proofs.YtaclgmhinljkbaaGreatDoor
namespace Go.Proofs.YtaclgmhinljkbaaGreatDoor
open Go.RowKit

set_option maxHeartbeats 1000000 in
theorem leaving_in (F : Fence) (n : Nat) (hf : F.fn 129) (hro : F.round = none) (g : Value) (s : Int) (q m : Int) (p : Option Addr) (k c : Nat) (hg : g = .agg #[.int .i64 q, .int .i64 m, .slice p k c]) (w : World) :
    CallsIn F n Tryz.prog 129 #[g, .int .i64 s] w fun e w' => e = .returned (.func (.func 147) #[] #[.pointer (some ⟨w.heap.size, 0, none⟩), .pointer (some ⟨w.heap.size + 1, 0, none⟩)]) ∧
      w' = (w.alloc (.cells #[.int .i64 q, .int .i64 m, .slice p k c] 29)).alloc (.cells #[.int .i64 s] 3) := by
  subst hg
  refine callsIn_of_wp Tryz.func129 rfl hf ?_ hro
  simp only [Tryz.ntmps129, List.size_toArray, List.length_cons, List.length_nil, Nat.reduceAdd, Nat.reduceSub, Array.replicate_succ, Array.replicate_zero, List.push_toArray, List.append_toArray, List.nil_append, List.cons_append]
  gi_wp2
  go_ret
  exact ⟨rfl, rfl⟩
end Go.Proofs.YtaclgmhinljkbaaGreatDoor
namespace Go.Proofs.YtaclgmhinljkbaaGreatDoor
open Go.RowKit Go.Sort

theorem below_dN {B : Nat} {a w : World} (h : Below B a w) (n : Nat) : Below B a (w.drewN n) := h.trans (Dr.below ⟨n, rfl⟩ B)
theorem isNaNI_any (x : Int) (w : World) : Calls Tryz.prog 66 #[.int .i64 x] w fun e w' => e = .returned (.bool false) ∧ w = w' := by
  go_enter Tryz.func66, Tryz.ntmps66
  go_wp2
  go_ret
  exact ⟨by simp, rfl⟩
theorem cmpc_any (x y : Int) (w : World) : Calls Tryz.prog 32 #[.int .i64 x, .int .i64 y] w fun e w' => e = .returned (.int .i64 (c3 x y)) ∧ w = w' := by
  by_cases h1 : x < y
  · have HR : Hid (c3 x y = -1) := by unfold Hid c3; rw [if_pos h1]
    go_enter Tryz.func32, Tryz.ntmps32
    go_wp2_with (go_at_call 66; refine (isNaNI_any _ _).mono ?_; rintro e w' ⟨rfl, rfl⟩)
    go_ret
    exact ⟨ret_int HR.out.symm, rfl⟩
  · by_cases h2 : y < x
    · have HR : Hid (c3 x y = 1) := by unfold Hid c3; rw [if_neg h1, if_pos h2]
      go_enter Tryz.func32, Tryz.ntmps32
      go_wp2_with (go_at_call 66; refine (isNaNI_any _ _).mono ?_; rintro e w' ⟨rfl, rfl⟩)
      go_ret
      exact ⟨ret_int HR.out.symm, rfl⟩
    · have HR : Hid (c3 x y = 0) := by unfold Hid c3; rw [if_neg h1, if_neg h2]
      go_enter Tryz.func32, Tryz.ntmps32
      go_wp2_with (go_at_call 66; refine (isNaNI_any _ _).mono ?_; rintro e w' ⟨rfl, rfl⟩)
      go_ret
      exact ⟨ret_int HR.out.symm, rfl⟩

theorem cmpL_same {a b : List Int} (k : Nat) (ha : k < a.length) (hb : k < b.length) (h : a[k] = b[k]) : cmpL (a.drop k) (b.drop k) = cmpL (a.drop (k + 1)) (b.drop (k + 1)) := by
  rw [List.drop_eq_getElem_cons ha, List.drop_eq_getElem_cons hb, cmpL, if_pos (c3_zero.2 h)]
theorem cmpL_diff {a b : List Int} (k : Nat) (ha : k < a.length) (hb : k < b.length) (h : c3 a[k] b[k] ≠ 0) : cmpL (a.drop k) (b.drop k) = c3 a[k] b[k] := by
  rw [List.drop_eq_getElem_cons ha, List.drop_eq_getElem_cons hb, cmpL, if_neg h]
theorem cmpL_longer {a b : List Int} (k : Nat) (ha : k < a.length) (hb : b.length ≤ k) : cmpL (a.drop k) (b.drop k) = 1 := by
  rw [List.drop_eq_getElem_cons ha, List.drop_eq_nil_of_le hb, cmpL]
theorem cmpL_shorter {a b : List Int} (k : Nat) (ha : a.length ≤ k) (hb : k < b.length) : cmpL (a.drop k) (b.drop k) = -1 := by
  rw [List.drop_eq_getElem_cons hb, List.drop_eq_nil_of_le ha, cmpL]
theorem cmpL_ends {a b : List Int} (k : Nat) (ha : a.length ≤ k) (hb : b.length ≤ k) : cmpL (a.drop k) (b.drop k) = 0 := by
  rw [List.drop_eq_nil_of_le hb, List.drop_eq_nil_of_le ha, cmpL]
set_option maxHeartbeats 400000 in
/-- slices.Compare of two lists of numbers. -/
theorem compareI_any (a b : List Int) (p q : Option Addr) (c d : Nat) (w : World) (hp : Sl w (Value.int .i64) p a) (hq : Sl w (Value.int .i64) q b) (ha : a.length ≤ 9223372036854775807) (hb : b.length ≤ 9223372036854775807) :
    Calls Tryz.prog 81 #[.slice p a.length c, .slice q b.length d] w fun e w' => e = .returned (.int .i64 (cmpL a b)) ∧ w = w' := by
  go_enter Tryz.func81, Tryz.ntmps81
  go_wp2
  go_loop [11] (fun i => ∃ k : Nat, k ≤ a.length ∧ k ≤ b.length ∧ i = .int .i64 k ∧ Hid (cmpL a b = cmpL (a.drop k) (b.drop k))) (fun i => a.length - (intOf i).toNat)
  case atStart => exact ⟨0, by omega, by omega, rfl, rfl⟩
  case round =>
    obtain ⟨k, hk, hk2, rfl, hj⟩ := hrel
    by_cases hlt : k < a.length
    · obtain ⟨b1, o1, rfl, hb1, hc1⟩ := hp.get k hlt
      have e1 := hc1 k hlt
      clear hc1
      by_cases hlt2 : k < b.length
      · obtain ⟨b2, o2, rfl, hb2, hc2⟩ := hq.get k hlt2
        have e2 := hc2 k hlt2
        have h2' : (k : Int) < (b.length : Int) := by omega
        clear hc2
        by_cases he : a[k] = b[k]
        · have HE : Hid (cmpL a b = cmpL (a.drop (k + 1)) (b.drop (k + 1))) := hj.out.trans (cmpL_same k hlt hlt2 he)
          have hz : c3 a[k] b[k] = 0 := c3_zero.2 he
          have hzb : (c3 a[k] b[k] != 0) = false := by simpa using hz
          clear he hz
          go_wp2_with (go_at_call 32; refine (cmpc_any _ _ _).mono ?_; rintro e w' ⟨rfl, rfl⟩)
          go_round
          case rel => exact ⟨k + 1, by omega, by omega, by go_num, HE⟩
          case measure => simp [intOf]; omega
        · have hz : c3 a[k] b[k] ≠ 0 := fun h => he (c3_zero.1 h)
          have HE : Hid (cmpL a b = c3 a[k] b[k]) := hj.out.trans (cmpL_diff k hlt hlt2 hz)
          have hzb : (c3 a[k] b[k] != 0) = true := by simpa using hz
          clear he hz
          go_wp2_with (go_at_call 32; refine (cmpc_any _ _ _).mono ?_; rintro e w' ⟨rfl, rfl⟩)
          go_ret
          exact ⟨ret_int HE.out.symm, rfl⟩
      · have HE : Hid (cmpL a b = 1) := hj.out.trans (cmpL_longer k hlt (by omega))
        have h2' : ¬ ((k : Int) < (b.length : Int)) := by omega
        go_wp2
        go_ret
        exact ⟨ret_int HE.out.symm, rfl⟩
    · obtain rfl : k = a.length := by omega
      by_cases hlt2 : a.length < b.length
      · have HE : Hid (cmpL a b = -1) := hj.out.trans (cmpL_shorter _ (Nat.le_refl _) hlt2)
        have h2' : (a.length : Int) < (b.length : Int) := by omega
        go_wp2
        go_ret
        exact ⟨ret_int HE.out.symm, rfl⟩
      · have HE : Hid (cmpL a b = 0) := hj.out.trans (cmpL_ends _ (Nat.le_refl _) (by omega))
        have h2' : ¬ ((a.length : Int) < (b.length : Int)) := by omega
        go_wp2
        go_ret
        exact ⟨ret_int HE.out.symm, rfl⟩

/-- The numbers of an edge. -/
theorem gList_any (x : Ed) (w : World) :
    Calls Tryz.prog 43 #[(.agg #[.int .i64 x.f, .int .i64 x.l, .int .i64 x.t])] w fun e w' => e = .returned (.slice (some ⟨w.heap.size + 1, 0, none⟩) 3 3) ∧ (w.alloc (.cells #[.int .i64 x.f, .int .i64 x.l, .int .i64 x.t] 42)).alloc (.cells #[.int .i64 x.f, .int .i64 x.l, .int .i64 x.t] 3) = w' := by
  go_enter Tryz.func43, Tryz.ntmps43
  go_wp2
  go_ret
  exact ⟨rfl, rfl⟩

/-- Nothing but draws and new blocks. -/
def Up (w w' : World) : Prop := ∃ q os, w' = grow (w.drewN q) os
theorem Up.refl (w : World) : Up w w := ⟨0, #[], by simp [World.drewN]⟩
theorem Up.of_dr {w w' : World} (h : Dr w w') : Up w w' := by obtain ⟨k, rfl⟩ := h; exact ⟨k, #[], by simp⟩
theorem Up.drew (w : World) : Up w w.drew := Up.of_dr ⟨1, rfl⟩
theorem Up.alloc (w : World) (o : Obj) : Up w (w.alloc o) := ⟨0, #[o], by rw [alloc_eq_grow]; simp [World.drewN]⟩
theorem Up.trans {a b c : World} (h : Up a b) (k : Up b c) : Up a c := by
  obtain ⟨q, os, rfl⟩ := h
  obtain ⟨q', os', rfl⟩ := k
  refine ⟨q + q', os ++ os', ?_⟩
  simp [grow, World.drewN, Nat.add_assoc, Array.append_assoc]
theorem Up.below {w w' : World} (h : Up w w') : Below w.heap.size w w' := by
  obtain ⟨q, os, rfl⟩ := h
  refine ⟨rfl, rfl, rfl, by simp [grow, World.drewN], fun k hk => ?_⟩
  simp [grow, World.drewN, Array.getElem?_append, hk]
theorem Up.cell {w w' : World} (h : Up w w') {b o : Nat} {v : Value} (hc : w.cell? ⟨b, o, none⟩ = some v) : w'.cell? ⟨b, o, none⟩ = some v :=
  (h.below.cell (p := ⟨b, o, none⟩) (World.block_lt_of_cell? w _ hc)).trans hc
theorem Up.vrow {w w' : World} (h : Up w w') {B t : Nat} {l : List Value} (hr : VRow w B t l) : VRow w' B t l := hr.below h.below hr.lt
/-- The numbers of an edge, in memory of the call's own. -/
def RetList (x : Ed) (w : World) (e : Ending) (w' : World) : Prop := ∃ g, e = .returned (.slice (some ⟨g, 0, none⟩) 3 3) ∧ VRow w' g 3 ((edL x).map (Value.int .i64)) ∧ Up w w'
theorem gList_up (x : Ed) (w : World) : Calls Tryz.prog 43 #[(.agg #[.int .i64 x.f, .int .i64 x.l, .int .i64 x.t])] w (RetList x w) :=
  (gList_any x w).mono fun e w' ⟨he, hw⟩ => by
    subst hw
    exact ⟨_, he, VRow.new1 w _ 3 [.int .i64 x.f, .int .i64 x.l, .int .i64 x.t], (Up.alloc w _).trans (Up.alloc _ _)⟩
theorem compare_edges (a b : Ed) (g h : Nat) (w : World) (ha : VRow w g 3 ((edL a).map (Value.int .i64))) (hb : VRow w h 3 ((edL b).map (Value.int .i64))) :
    Calls Tryz.prog 81 #[.slice (some ⟨g, 0, none⟩) 3 3, .slice (some ⟨h, 0, none⟩) 3 3] w fun e w' => e = .returned (.int .i64 (cmpE a b)) ∧ w = w' :=
  compareI_any (edL a) (edL b) (some ⟨g, 0, none⟩) (some ⟨h, 0, none⟩) 3 3 w (Sl.of_vrow ha) (Sl.of_vrow hb) (by simp [edL]) (by simp [edL])

set_option maxRecDepth 100000 in
set_option maxHeartbeats 1000000 in
/-- The comparison that `by` makes of `list`. -/
theorem gByc_up (a b : Ed) (bf : Nat) (w : World) (hf : w.cell? ⟨bf, 0, none⟩ = some (.func (.func 43) #[] #[])) :
    Calls Tryz.prog 80 #[(.agg #[.int .i64 a.f, .int .i64 a.l, .int .i64 a.t]), (.agg #[.int .i64 b.f, .int .i64 b.l, .int .i64 b.t]), .pointer (some ⟨bf, 0, none⟩)] w fun e w' => e = .returned (.int .i64 (cmpE a b)) ∧ Up w w' := by
  have hU0 : Up w ((w.alloc (.cells #[.int .i64 a.f, .int .i64 a.l, .int .i64 a.t] 42)).alloc (.cells #[.int .i64 b.f, .int .i64 b.l, .int .i64 b.t] 42)) := (Up.alloc w _).trans (Up.alloc _ _)
  have ha0 : VRow ((w.alloc (.cells #[.int .i64 a.f, .int .i64 a.l, .int .i64 a.t] 42)).alloc (.cells #[.int .i64 b.f, .int .i64 b.l, .int .i64 b.t] 42)) w.heap.size 42 [.int .i64 a.f, .int .i64 a.l, .int .i64 a.t] := (VRow.new w 42 _).alloc _
  have hb0 : VRow ((w.alloc (.cells #[.int .i64 a.f, .int .i64 a.l, .int .i64 a.t] 42)).alloc (.cells #[.int .i64 b.f, .int .i64 b.l, .int .i64 b.t] 42)) (w.heap.size + 1) 42 [.int .i64 b.f, .int .i64 b.l, .int .i64 b.t] := VRow.new1 w _ 42 [.int .i64 b.f, .int .i64 b.l, .int .i64 b.t]
  go_enter Tryz.func80, Tryz.ntmps80
  go_wp2_with fail
  have hf0 := hU0.cell hf
  generalize (w.alloc (.cells #[.int .i64 a.f, .int .i64 a.l, .int .i64 a.t] 42)).alloc (.cells #[.int .i64 b.f, .int .i64 b.l, .int .i64 b.t] 42) = w0 at *
  have a0 := ha0.at 0 rfl; have a1 := ha0.at 1 rfl; have a2 := ha0.at 2 rfl
  have b0 := hb0.at 0 rfl; have b1 := hb0.at 1 rfl; have b2 := hb0.at 2 rfl
  go_region_held3 (fun w' => w'.cell? ⟨bf, 0, none⟩ = some (.func (.func 43) #[] #[]) ∧ w'.cell? ⟨w.heap.size, 0, none⟩ = some (.int .i64 a.f) ∧ w'.cell? ⟨w.heap.size, 1, none⟩ = some (.int .i64 a.l) ∧ w'.cell? ⟨w.heap.size, 2, none⟩ = some (.int .i64 a.t) ∧
      w'.cell? ⟨w.heap.size + 1, 0, none⟩ = some (.int .i64 b.f) ∧ w'.cell? ⟨w.heap.size + 1, 1, none⟩ = some (.int .i64 b.l) ∧ w'.cell? ⟨w.heap.size + 1, 2, none⟩ = some (.int .i64 b.t) ∧ Up w0 w')
    (first | (go_split_ands; refine ⟨?_, ?_, ?_, ?_, ?_, ?_, ?_, ?_⟩ <;> first | assumption | (go_keep; done) | exact Up.drew _ | exact hUA.cell (by assumption) | exact hUB.cell (by assumption) | exact Up.trans (by assumption) hUA | exact Up.trans (by assumption) hUB))
    (first
      | (go_at_call_of 43 (Value.agg #[.int .i64 a.f, .int .i64 a.l, .int .i64 a.t]); refine (gList_up a _).mono ?_; rintro e wA ⟨ga, rfl, hra, hUA⟩)
      | (go_at_call_of 43 (Value.agg #[.int .i64 b.f, .int .i64 b.l, .int .i64 b.t]); refine (gList_up b _).mono ?_; rintro e wB ⟨gb, rfl, hrb, hUB⟩)
      | (go_at_call 81; refine (compare_edges a b ga gb _ (hUB.vrow hra) hrb).mono ?_; rintro e wC ⟨rfl, rfl⟩))
  go_split_ands
  have hUZ : Up w0 wB := by assumption
  go_wp2
  go_ret
  exact ⟨rfl, hU0.trans hUZ⟩
end Go.Proofs.YtaclgmhinljkbaaGreatDoor
namespace Go.Proofs
open Go.Shelf
def Tryz.laySortE_ren : Go.Shelf.Ren := ⟨fun | 6 => 41 | 15 => 37 | 14 => 79 | 28 => 77 | 29 => 78 | 20 => 103 | 21 => 104 | 22 => 105 | 23 => 106 | 24 => 107 | 25 => 108 | 26 => 109 | 27 => 110 | 46 => 125 | 47 => 99 | 48 => 100 | 49 => 126 | 50 => 127 | 57 => 146 | n => n, fun | 22 => 27 | 24 => 42 | 25 => 73 | 3 => 3 | 39 => 69 | 0 => 0 | 53 => 120 | 55 => 122 | 4 => 4 | 46 => 114 | 45 => 113 | 50 => 52 | 5 => 5 | 9 => 9 | 66 => 137 | 70 => 141 | 76 => 161 | 77 => 162 | n => n, fun | n => n⟩
theorem Tryz.laySortE : Go.Proofs.SlLaysF0.n6 Tryz.prog Tryz.laySortE_ren := {
  mixed := by kernel_rfl
  f6 := ⟨Tryz.f41.name, by decide, Tryz.func41.trans (congrArg some (by kernel_rfl))⟩
  f14 := ⟨Tryz.f79.name, by decide, Tryz.func79.trans (congrArg some (by kernel_rfl))⟩
  f15 := Tryz.func37.trans (congrArg some (by kernel_rfl))
  f20 := ⟨Tryz.f103.name, by decide, Tryz.func103.trans (congrArg some (by kernel_rfl))⟩
  f21 := ⟨Tryz.f104.name, by decide, Tryz.func104.trans (congrArg some (by kernel_rfl))⟩
  f22 := ⟨Tryz.f105.name, by decide, Tryz.func105.trans (congrArg some (by kernel_rfl))⟩
  f23 := ⟨Tryz.f106.name, by decide, Tryz.func106.trans (congrArg some (by kernel_rfl))⟩
  f24 := ⟨Tryz.f107.name, by decide, Tryz.func107.trans (congrArg some (by kernel_rfl))⟩
  f25 := ⟨Tryz.f108.name, by decide, Tryz.func108.trans (congrArg some (by kernel_rfl))⟩
  f26 := ⟨Tryz.f109.name, by decide, Tryz.func109.trans (congrArg some (by kernel_rfl))⟩
  f27 := ⟨Tryz.f110.name, by decide, Tryz.func110.trans (congrArg some (by kernel_rfl))⟩
  f28 := Tryz.func77.trans (congrArg some (by kernel_rfl))
  f29 := Tryz.func78.trans (congrArg some (by kernel_rfl))
  f46 := ⟨Tryz.f125.name, by decide, Tryz.func125.trans (congrArg some (by kernel_rfl))⟩
  f47 := Tryz.func99.trans (congrArg some (by kernel_rfl))
  f48 := Tryz.func100.trans (congrArg some (by kernel_rfl))
  f49 := ⟨Tryz.f126.name, by decide, Tryz.func126.trans (congrArg some (by kernel_rfl))⟩
  f50 := ⟨Tryz.f127.name, by decide, Tryz.func127.trans (congrArg some (by kernel_rfl))⟩
  f57 := ⟨Tryz.f146.name, by decide, Tryz.func146.trans (congrArg some (by kernel_rfl))⟩
  t0 := Tryz.underlying0
  a0 := Tryz.isAgg0
  z0 := Tryz.sizeOf0
  v0 := Tryz.zeroValue0
  t3 := Tryz.underlying3
  a3 := Tryz.isAgg3
  z3 := Tryz.sizeOf3
  v3 := Tryz.zeroValue3
  t4 := Tryz.underlying4
  a4 := Tryz.isAgg4
  z4 := Tryz.sizeOf4
  v4 := Tryz.zeroValue4
  t5 := Tryz.underlying5
  a5 := Tryz.isAgg5
  z5 := Tryz.sizeOf5
  v5 := Tryz.zeroValue5
  t9 := Tryz.underlying9
  a9 := Tryz.isAgg9
  z9 := Tryz.sizeOf9
  v9 := Tryz.zeroValue9
  t22 := Tryz.underlying27
  a22 := Tryz.isAgg27
  z22 := Tryz.sizeOf27
  v22 := Tryz.zeroValue27
  t25 := Tryz.underlying73
  a25 := Tryz.isAgg73
  z25 := Tryz.sizeOf73
  v25 := Tryz.zeroValue73
  t39 := Tryz.underlying69
  a39 := Tryz.isAgg69
  z39 := Tryz.sizeOf69
  v39 := Tryz.zeroValue69
  t45 := Tryz.underlying113
  a45 := Tryz.isAgg113
  z45 := Tryz.sizeOf113
  v45 := Tryz.zeroValue113
  t46 := Tryz.underlying114
  a46 := Tryz.isAgg114
  z46 := Tryz.sizeOf114
  v46 := Tryz.zeroValue114
  t50 := Tryz.underlying52
  a50 := Tryz.isAgg52
  z50 := Tryz.sizeOf52
  v50 := Tryz.zeroValue52
  t53 := Tryz.underlying120
  a53 := Tryz.isAgg120
  z53 := Tryz.sizeOf120
  v53 := Tryz.zeroValue120
  t55 := Tryz.underlying122
  a55 := Tryz.isAgg122
  z55 := Tryz.sizeOf122
  v55 := Tryz.zeroValue122
  t66 := Tryz.underlying137
  a66 := Tryz.isAgg137
  z66 := Tryz.sizeOf137
  v66 := Tryz.zeroValue137
  t70 := Tryz.underlying141
  a70 := Tryz.isAgg141
  z70 := Tryz.sizeOf141
  v70 := Tryz.zeroValue141
  t76 := Tryz.underlying161
  a76 := Tryz.isAgg161
  z76 := Tryz.sizeOf161
  v76 := Tryz.zeroValue161
  t77 := Tryz.underlying162
  a77 := Tryz.isAgg162
  z77 := Tryz.sizeOf162
  v77 := Tryz.zeroValue162 }
def Tryz.layCloneE_ren : Go.Shelf.Ren := ⟨fun | 41 => 40 | n => n, fun | 22 => 27 | 23 => 42 | 4 => 4 | n => n, fun | n => n⟩
theorem Tryz.layCloneE : Go.Proofs.SlLaysE0.n41 Tryz.prog Tryz.layCloneE_ren := {
  mixed := by kernel_rfl
  f41 := ⟨Tryz.f40.name, by decide, Tryz.func40.trans (congrArg some (by kernel_rfl))⟩
  t4 := Tryz.underlying4
  a4 := Tryz.isAgg4
  z4 := Tryz.sizeOf4
  v4 := Tryz.zeroValue4
  t22 := Tryz.underlying27
  a22 := Tryz.isAgg27
  z22 := Tryz.sizeOf27
  v22 := Tryz.zeroValue27 }
end Go.Proofs
namespace Go.Proofs.YtaclgmhinljkbaaGreatDoor
open Go.RowKit Go.Sort Go.Shelf Go.Lib

def cat (l : List Ed) : List Value := l.flatMap edE
theorem cat_len (l : List Ed) : (cat l).length = l.length * 3 := by
  induction l with
  | nil => rfl
  | cons x l ih => simp only [cat, List.flatMap_cons, List.length_append, List.length_cons] at *; rw [ih]; simp [edE]; omega
theorem flat_at {α β : Type} {enc : α → List β} {m : Nat} (hm : ∀ x, (enc x).length = m) : ∀ (l : List α) (i : Nat) (hi : i < l.length) (j : Nat), j < m → (l.flatMap enc)[i * m + j]? = (enc l[i])[j]?
  | [], i, hi, _, _ => by simp at hi
  | x :: l, 0, _, j, hj => by
    rw [List.flatMap_cons, Nat.zero_mul, Nat.zero_add, List.getElem?_append_left (by rw [hm]; exact hj)]; rfl
  | x :: l, i + 1, hi, j, hj => by
    rw [List.flatMap_cons, List.getElem?_append_right (by rw [hm, Nat.succ_mul]; omega), hm, show (i + 1) * m + j - m = i * m + j by rw [Nat.succ_mul]; omega]
    exact flat_at hm l i (by simpa using hi) j hj
theorem cat_get (l : List Ed) (i : Nat) (hi : i < l.length) (j : Nat) (hj : j < 3) : (cat l)[i * 3 + j]? = (edE l[i])[j]? := flat_at (enc := edE) (m := 3) (fun _ => rfl) l i hi j hj
theorem cat_app (l m : List Ed) : cat (l ++ m) = cat l ++ cat m := by simp [cat, List.flatMap_append]
theorem cat_one (l : List Ed) : ∀ u ∈ cat l, u.oneCell' = true := by
  intro u hu
  obtain ⟨x, _, hx⟩ := List.mem_flatMap.1 hu
  simp only [edE, List.mem_cons, List.not_mem_nil, or_false] at hx
  rcases hx with rfl | rfl | rfl <;> rfl
/-- Edges that lie in a whole row of a block. -/
theorem Sg.of_row {w : World} {B t : Nat} {l : List Ed} (h : VRow w B t (cat l)) : Sg 3 w edE (some ⟨B, 0, none⟩) l :=
  .inr ⟨B, 0, rfl, h.lt, fun i hi j hj => by rw [Nat.zero_add, h.cell, cat_get l i hi j hj]⟩
theorem own_sg {B e n : Nat} {w : World} {v : Value} {l : List Ed} (h : w.ownsRow B e 3 v n (cat l)) : ∃ p cap, v = .slice p l.length cap ∧ Sg 3 w edE p l ∧ l.length ≤ cap ∧ l.length = n := by
  have hn : l.length = n := by have := h.1; rw [cat_len] at this; omega
  rcases h.2 with ⟨rfl, h0⟩ | ⟨g, cap, cur, rfl, hg, hh, hc, hm, hs, ht⟩
  · subst h0
    have : l = [] := List.length_eq_zero_iff.1 hn
    subst this
    exact ⟨none, 0, rfl, Sg.nil _ _ _ _, by simp, rfl⟩
  · refine ⟨some ⟨g, 0, none⟩, cap, by rw [hn], .inr ⟨g, 0, rfl, (Array.getElem?_eq_some_iff.1 hh).1, fun i hi j hj => ?_⟩, by omega, hn⟩
    have hij : i * 3 + j < n * 3 := by omega
    rw [Nat.zero_add, ← cat_get l i hi j hj, ← ht, List.getElem?_take, if_pos hij]
    simp [World.cell?, hh]
/-! ### The sort's words -/
theorem flatK_cat (l : List Ed) : (flatK edE 3 l.toArray).toList = cat l := by
  apply List.ext_getElem?
  intro t
  by_cases h : t < l.length * 3
  · have h3 : t / 3 < l.length := by omega
    have e1 := cat_get l (t / 3) h3 (t % 3) (by omega)
    rw [show t / 3 * 3 + t % 3 = t by omega] at e1
    rw [e1, Array.getElem?_toList]
    have hlt : t < (flatK edE 3 l.toArray).size := by simp; omega
    rw [Array.getElem?_eq_getElem hlt, ← getElem!_pos (flatK edE 3 l.toArray) t hlt, get_flatK edE 3 l.toArray t (by simpa using h)]
    rw [getElem!_pos l.toArray (t / 3) (by simpa using h3)]
    have : t % 3 < (edE l.toArray[t / 3]).length := by simp [edE]; omega
    rw [getElem!_pos (edE l.toArray[t / 3]) (t % 3) this, ← List.getElem?_eq_getElem this]
    simp
  · rw [List.getElem?_eq_none (by simp; omega), List.getElem?_eq_none (by rw [cat_len]; omega)]
theorem holds_own {w : World} {B e g n cap : Nat} {l : List Ed} (h : w.ownsRow B e 3 (.slice (some ⟨g, 0, none⟩) n cap) n (cat l)) : HoldsK edE 3 w g 0 l.toArray ∧ g < w.heap.size ∧ B ≤ g ∧ l.length = n := by
  have hn : l.length = n := by have := h.1; rw [cat_len] at this; omega
  rcases h.2 with ⟨e0, _⟩ | ⟨g', cap', cur, e0, hg, hh, hc, hm, hs, ht⟩
  · cases e0
  · cases e0
    refine ⟨fun j hj => ?_, (Array.getElem?_eq_some_iff.1 hh).1, hg, hn⟩
    have hj' : j < n * 3 := by simp at hj; omega
    refine ⟨?_, by simp [World.frozen?, hh]⟩
    have e1 : (flatK edE 3 l.toArray).toList[j]? = cur.toList[j]? := by
      rw [flatK_cat, ← ht, List.getElem?_take, if_pos hj']
    rw [Array.getElem?_toList, Array.getElem?_eq_getElem hj] at e1
    rw [getElem!_pos (flatK edE 3 l.toArray) j hj]
    simp [World.cell?, hh]
    rw [Array.getElem?_toList] at e1; exact e1.symm
theorem own_sorted {w : World} {B e g n cap q : Nat} {os : Array Obj} {l m : List Ed} (h : w.ownsRow B e 3 (.slice (some ⟨g, 0, none⟩) n cap) n (cat l)) (hm : m.length = n) :
    (sortWorldK edE 3 w g 0 q m.toArray os).ownsRow B e 3 (.slice (some ⟨g, 0, none⟩) n cap) n (cat m) := by
  rcases h.2 with ⟨e0, _⟩ | ⟨g', cap', cur, e0, hg, hh, hc, hcm, hs, ht⟩
  · cases e0
  · cases e0
    have hlt : g < w.heap.size := (Array.getElem?_eq_some_iff.1 hh).1
    refine ⟨by rw [cat_len, hm], .inr ⟨g, cap, putCells id 0 (flatK edE 3 m.toArray) cur, rfl, hg, ?_, hc, hcm, by simpa [putCells] using hs, ?_⟩⟩
    · have hg' : w.heap[g] = .cells cur e (0, 0) := by have := Array.getElem?_eq_some_iff.1 hh; exact this.2
      simp [sortWorldK, grow, putRowK, putRow, mapBlock, Sort.ahead, Array.getElem?_append, hlt, Array.getElem_modify, hg', onCells]
    · apply List.ext_getElem?
      intro j
      rw [List.getElem?_take, Array.getElem?_toList]
      by_cases hj : j < n * 3
      · have hjc : j < cur.size := by
          have : n * 3 ≤ cap * 3 := Nat.mul_le_mul_right _ hc
          omega
        have hjf : j < (flatK edE 3 m.toArray).size := by simp; omega
        rw [if_pos hj, ← flatK_cat, Array.getElem?_toList, Array.getElem?_eq_getElem hjf]
        simp only [putCells, Array.getElem?_mapIdx, Array.getElem?_eq_getElem hjc, Option.map_some]
        rw [if_pos (by simp; omega)]
        simp only [Nat.sub_zero]
        rw [getElem!_pos (flatK edE 3 m.toArray) j hjf]; rfl
      · rw [if_neg hj, List.getElem?_eq_none (by rw [cat_len]; omega)]
theorem grown_sorted {w : World} {g q : Nat} {os : Array Obj} (d : Array Ed) : w.grownBy (sortWorldK edE 3 w g 0 q d os) (some g) := by
  refine ⟨rfl, rfl, rfl, by simp [sortWorldK, grow, putRowK, putRow, mapBlock, Sort.ahead], fun i hi hne => ?_⟩
  have hne' : g ≠ i := fun e => hne (by rw [e])
  simp [sortWorldK, grow, putRowK, putRow, mapBlock, Sort.ahead, Array.getElem?_append, hi, Array.getElem_modify, hne']

/-! ### Sorted -/
theorem swoE : SWO (ltOf cmpE) where
  irrefl x := by unfold ltOf; rw [cmpE_neg]; exact ltE_irrefl x
  trans x y z h1 h2 := by unfold ltOf at *; rw [cmpE_neg] at *; exact ltE_trans h1 h2
  ntrans x y z h1 h2 := by
    unfold ltOf at *; rw [cmpE_neg] at *
    cases h : ltE x z
    · rfl
    · cases hb : ltE y x
      · have := ltE_total h1 hb; subst this; rw [h2] at h; cases h
      · have := ltE_trans hb h; rw [h2] at this; cases this
theorem totE (x y : Ed) (h1 : ltOf cmpE x y = false) (h2 : ltOf cmpE y x = false) : x = y := by
  unfold ltOf at *; rw [cmpE_neg] at *; exact ltE_total h1 h2
theorem isAggE (w : World) : (isAgg 42).run Tryz.prog w = .ok true w := by kernel_rfl
theorem sizeOfE (w : World) : (Go.sizeOf 42).run Tryz.prog w = .ok 3 w := by kernel_rfl
theorem infoE : (Tryz.prog.info? 42).map (fun i => (i.zero, i.size, i.bytes)) = some (some (.agg #[.int .i64 0, .int .i64 0, .int .i64 0]), 3, 24) := by kernel_rfl
def srtE (l : List Ed) : List Ed := l.mergeSort (fun x y => !ltE y x)
theorem srtE_len (l : List Ed) : (srtE l).length = l.length := List.length_mergeSort l
theorem srtE_eq (l : List Ed) : l.mergeSort (fun x y => !(ltOf cmpE) y x) = srtE l := by
  unfold srtE; congr 1; funext x y; unfold ltOf; rw [cmpE_neg]
theorem sortE_own (l : List Ed) (B e g n cap bf : Nat) (w : World) (h : w.ownsRow B e 3 (.slice (some ⟨g, 0, none⟩) n cap) n (cat l)) (hf : w.cell? ⟨bf, 0, none⟩ = some (.func (.func 43) #[] #[])) (hne : bf ≠ g) (hn : n ≤ 100000) :
    Calls Tryz.prog 41 #[.slice (some ⟨g, 0, none⟩) n cap, .func (.func 80) #[] #[.pointer (some ⟨bf, 0, none⟩)]] w fun e' w' => e' = .returned (.tuple #[]) ∧ w'.ownsRow B e 3 (.slice (some ⟨g, 0, none⟩) n cap) n (cat (srtE l)) ∧ w.grownBy w' (some g) := by
  obtain ⟨hH, hlt, hBg, hl⟩ := holds_own h
  have eg : ∀ args w, (callFunc 80 args).run Tryz.prog w = .ok (.enter 80 args) w := enters_of Tryz.func80 (by kernel_rfl) rfl
  have hcmp : CmpLays Tryz.prog 80 #[.pointer (some ⟨bf, 0, none⟩)] edE 3 cmpE g 0 l.toArray.size w := fun m os dk hs x y => by
    have hc : (sortWorldK edE 3 w g 0 m dk os).cell? ⟨bf, 0, none⟩ = some (.func (.func 43) #[] #[]) := by
      have hb := World.block_lt_of_cell? w _ hf
      have := (grown_sorted (w := w) (g := g) (q := m) (os := os) dk).block bf hb (fun e => hne (Option.some.inj e))
      simp only [World.cell?] at hf ⊢
      rw [this]; exact hf
    exact gByc_up x y bf _ hc
  have hcon := AnyQ.slices_SortFunc_total Tryz.laySortE 3 isAggE sizeOfE edE (fun _ => rfl) (fun x v hv => cat_one [x] v (by simpa [cat] using hv)) cmpE swoE 80 #[.pointer (some ⟨bf, 0, none⟩)] g 0 cap l.toArray w eg hcmp hH hlt (by simp; omega) totE
  have hcon' : Calls Tryz.prog 41 #[.slice (some ⟨g, 0, none⟩) l.toArray.size cap, .func (.func 80) #[] #[.pointer (some ⟨bf, 0, none⟩)]] w _ := hcon
  rw [show l.toArray.size = n by simpa using hl] at hcon'
  refine hcon'.mono ?_
  rintro e' w' ⟨rfl, q, os, rfl⟩
  rw [srtE_eq]
  exact ⟨rfl, own_sorted h (by rw [srtE_len]; exact hl), grown_sorted _⟩

/-! ### Copies -/
/-- Edges in memory of the call's own. -/
def RetOwnE (l : List Ed) (w : World) (e : Ending) (w' : World) : Prop := ∃ v, e = .returned v ∧ w'.ownsRow w.heap.size 42 3 v l.length (cat l) ∧ Below w.heap.size w w'
theorem sg_cells {w : World} {b off : Nat} {l : List Ed} (hc : ∀ i (h : i < l.length) j, j < 3 → w.cell? ⟨b, off + i * 3 + j, none⟩ = (edE l[i])[j]?) : ∀ (j : Nat) (u : Value), (cat l)[j]? = some u → w.cell? ⟨b, off + j, none⟩ = some u := by
  intro j u hu
  have hj : j < (cat l).length := (List.getElem?_eq_some_iff.1 hu).1
  rw [cat_len] at hj
  have h1 := hc (j / 3) (by omega) (j % 3) (by omega)
  have h2 := cat_get l (j / 3) (by omega) (j % 3) (by omega)
  rw [show j / 3 * 3 + j % 3 = j by omega] at h2
  rw [show off + j / 3 * 3 + j % 3 = off + j by omega] at h1
  rw [h1, ← h2, hu]
set_option maxRecDepth 100000 in
theorem cloneE_any (l : List Ed) (p : Option Addr) (c : Nat) (w : World) (hin : Sg 3 w edE p l) (hl : l.length ≤ 100000) :
    Calls Tryz.prog 40 #[.slice p l.length c] w (RetOwnE l w) := by
  obtain ⟨i0, hi0, hz0, hz1, hz2⟩ := info_parts infoE
  rcases Nat.eq_zero_or_pos l.length with h0 | h0
  · have : l = [] := List.length_eq_zero_iff.1 h0
    subst this
    clear hin
    cases p with
    | none =>
      refine (AnyE.slices_Clone_nil Tryz.layCloneE 0 c w).mono ?_
      rintro e w' ⟨rfl, rfl⟩
      exact ⟨_, rfl, World.ownsRow_nil _ _ _ _, Below.refl _ _⟩
    | some ad =>
      have q22 : ∀ (w : World) (a : Option Addr) (n c n' c' : Nat), (binOp .eql 27 (.slice a n c) (.slice none n' c')).run Tryz.prog w = .ok (.bool a.isNone) w := fun w a n c n' c' => Lib.run_eql_slice_nil w _ _ a n c n' c' Tryz.underlying27
      have hown0 : (w.alloc (.cells #[] 42)).ownsRow w.heap.size 42 3 (.slice (some ⟨w.heap.size, 0, none⟩) 0 0) 0 [] := ⟨rfl, .inr ⟨w.heap.size, _, _, rfl, Nat.le_refl _, heap_alloc_new w _, Nat.le_refl _, by simp, rfl, rfl⟩⟩
      go_enter Tryz.func40, Tryz.ntmps40
      go_wp2_with (at_builtin; refine wpList_append_own _ rfl _ _ 27 rfl w.heap.size 42 i0 _ 3 24 Tryz.underlying27 hi0 hz0 hz1 hz2 rfl (by decide) _ _ _ rfl hown0 ad 0 c [] rfl rfl (by simp) (by simp) (by simp) (by simp) (by simp) ?_; intro v' w1 hown' hgrow _)
      go_ret
      exact ⟨_, rfl, hown', ((Below.refl _ _).alloc (Nat.le_refl _) _).grown hgrow (by simp) (fun j e => by cases e; exact Nat.le_refl _)⟩
  · obtain ⟨b, off, rfl, hb, hc⟩ := hin.get 0 h0
    have hcon := AnyE.slices_Clone Tryz.layCloneE i0 _ 3 24 hi0 hz0 hz1 hz2 rfl (by decide) sizeOfE b off l.length c (cat l) w (cat_len l) (by simp [maxLen]; omega) (by omega) (sg_cells hc) (cat_one l)
    refine Calls.mono hcon ?_
    rintro e w' ⟨v, rfl, hown, _, hB⟩
    exact ⟨v, rfl, hown, hB⟩
end Go.Proofs.YtaclgmhinljkbaaGreatDoor
