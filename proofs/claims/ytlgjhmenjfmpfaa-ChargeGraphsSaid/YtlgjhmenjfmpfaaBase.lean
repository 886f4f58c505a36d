/-
  Words for memory, letters and words over alphabets. Nothing here speaks of a program.
-/
import Derived.Below
import Derived.Lib.Slices
import Derived.Lib.SlicesS
import Derived.Lib.Bytealg
import Derived.Deep.QuietTactic
import Derived.WalkKit
import Derived.StillTailTactics
import Derived.WalkSpells
import Derived.RangeFuncBox
import Derived.RangeFuncNested
namespace Go.Proofs.Ytlgjhmenjfmpfaa
open Go.RowKit

theorem hidI {p : Prop} (h : p) : Hid p := h
theorem ret_int {k : IntKind} {a b : Int} (h : a = b) : Ending.returned (.int k a) = .returned (.int k b) := by rw [h]
theorem ret_bool {a b : Bool} (h : a = b) : Ending.returned (.bool a) = .returned (.bool b) := by rw [h]

/-- Nothing but draws has happened. -/
def Dr (w w' : World) : Prop := ∃ n, w' = w.drewN n
theorem Dr.refl (w : World) : Dr w w := ⟨0, rfl⟩
theorem Dr.one {w w' : World} (h : Dr w w') (n : Nat) : Dr w (w'.drewN n) := by
  obtain ⟨k, rfl⟩ := h; exact ⟨k + n, by simp [World.drewN, Nat.add_assoc]⟩
theorem Dr.trans {a b c : World} (h : Dr a b) (k : Dr b c) : Dr a c := by
  obtain ⟨n, rfl⟩ := k; exact h.one n
theorem Dr.below {w w' : World} (h : Dr w w') (B : Nat) : Below B w w' := by
  obtain ⟨k, rfl⟩ := h; exact ⟨rfl, rfl, rfl, Nat.le_refl _, fun _ _ => rfl⟩
theorem Dr.cell {w w' : World} (h : Dr w w') (p : Addr) : w'.cell? p = w.cell? p := by obtain ⟨k, rfl⟩ := h; rfl
theorem quiet_Dr {P : Program} {f : FuncId} {args : Array Value} {w : World} {n : Nat} {v : Value}
    (h : Calls P f args (w.drewN n) fun e w' => e = .returned v ∧ Dr (w.drewN n) w') : Calls P f args (w.drewN n) fun e w'' => e = .returned v ∧ ∃ m, w'' = w.drewN m :=
  h.mono fun _ _ ⟨he, hm⟩ => ⟨he, (Dr.one (Dr.refl w) n).trans hm⟩

/-- One block is as it was. -/
def KH (B : Nat) (W W' : World) : Prop := W'.heap[B]? = W.heap[B]?
theorem KH.refl (B : Nat) (W : World) : KH B W W := rfl
theorem KH.trans {B : Nat} {X Y Z : World} (h : KH B X Y) (k : KH B Y Z) : KH B X Z := Eq.trans k h
theorem KH.of_below {B n : Nat} {X Y : World} (h : Below n X Y) (hn : B < n) : KH B X Y := h.block B hn
theorem KH_b {B n : Nat} (hn : B < n) (W : World) (l : Nat) (o o' : Obj) (hl : n ≤ l) (_ : W.heap[l]? = some o) (_ : o.isCells = false) (_ : o.isWalk = false) : KH B W (W.putObj l o') :=
  World.putObj_heap_other (by omega)
theorem KH.boxed {B : Nat} {t : TypeId} {v : Value} {W W' : World} (h : KH B W W') (hb : Boxed W B t v) : Boxed W' B t v := Eq.trans h hb
theorem KH.set {B C i : Nat} (W : World) (v : Value) (h : B ≠ C) : KH B W (W.setCell ⟨C, i, none⟩ v) := Below.heap_setCell _ _ _ _ h
theorem boxed_set_other {B C : Nat} {t : TypeId} {u : Value} {W : World} (v : Value) (hb : Boxed W B t u) (h : B ≠ C) : Boxed (W.setCell ⟨C, 0, none⟩ v) B t u := (KH.set W v h).boxed hb

theorem below_put {w W : World} {D : Nat} (hB : Below w.heap.size w W) (hD : w.heap.size ≤ D) (hK : W.heap[D]? = some (.deferred (some []))) (o : Obj) : Below w.heap.size w (W.putObj D o) :=
  hB.trans (belowK_b (w := w) (Nat.le_refl _) W D _ o hD hK rfl rfl)
/-- A block that is a row of values. -/
def VRow (W : World) (B t : Nat) (l : List Value) : Prop := W.heap[B]? = some (.cells l.toArray t (0, 0))
theorem VRow.lt {W : World} {B t : Nat} {l : List Value} (h : VRow W B t l) : B < W.heap.size := (Array.getElem?_eq_some_iff.1 h).1
theorem VRow.cell {W : World} {B t : Nat} {l : List Value} (h : VRow W B t l) (i : Nat) : W.cell? ⟨B, i, none⟩ = l[i]? := by
  simp [World.cell?, show W.heap[B]? = _ from h]
theorem VRow.frozen {W : World} {B t : Nat} {l : List Value} (h : VRow W B t l) (i : Nat) : W.frozen? ⟨B, i, none⟩ = false := by
  simp [World.frozen?, show W.heap[B]? = _ from h]
theorem VRow.new (W : World) (t : Nat) (l : List Value) : VRow (W.alloc (.cells l.toArray t)) W.heap.size t l := World.alloc_heap_new W _
theorem VRow.kh {W W' : World} {B t : Nat} {l : List Value} (h : VRow W B t l) (k : KH B W W') : VRow W' B t l := Eq.trans k h
theorem VRow.alloc {W : World} {B t : Nat} {l : List Value} (h : VRow W B t l) (o : Obj) : VRow (W.alloc o) B t l := (Below.heap_alloc W o B h.lt).trans h
theorem VRow.below {W W' : World} {B t n : Nat} {l : List Value} (h : VRow W B t l) (k : Below n W W') (hn : B < n) : VRow W' B t l := (k.block B hn).trans h
theorem VRow.other {W : World} {B C t i : Nat} {l : List Value} (v : Value) (h : VRow W B t l) (hn : B ≠ C) : VRow (W.setCell ⟨C, i, none⟩ v) B t l := (Below.heap_setCell _ _ _ _ hn).trans h
theorem VRow.set {W : World} {B t i : Nat} {l : List Value} (v : Value) (h : VRow W B t l) : VRow (W.setCell ⟨B, i, none⟩ v) B t (l.set i v) := by
  obtain ⟨hlt, hk⟩ := Array.getElem?_eq_some_iff.1 h
  show (W.heap.modify B _)[B]? = _
  rw [Array.getElem?_eq_getElem (by rw [Array.size_modify]; exact hlt), Array.getElem_modify_self, hk]
  simp
theorem VRow.own {β : Type} (B t : Nat) (f : β → List Value) : Own (fun s W => VRow W B t (f s)) := fun s X Y row hs hg hrow =>
  (hg.block B (VRow.lt hs) (fun e => by
    obtain ⟨o, ho, hc⟩ := hrow B e.symm
    rw [show X.heap[B]? = _ from hs] at ho; cases ho; cases hc)).trans hs
theorem VRow.put {W : World} {B t l : Nat} {o : Obj} {r : List Value} (o' : Obj) (h : VRow W B t r) (hl : W.heap[l]? = some o) (ho : o.isCells = false) : VRow (W.putObj l o') B t r :=
  (World.putObj_heap_other (fun e => by subst e; rw [show W.heap[B]? = _ from h] at hl; cases hl; cases ho)).trans h

theorem VRow.at {W : World} {B t : Nat} {l : List Value} (h : VRow W B t l) (i : Nat) {v : Value} (hi : l[i]? = some v) : W.cell? ⟨B, i, none⟩ = some v := (h.cell i).trans hi
theorem VRow.dr {W W' : World} {B t : Nat} {l : List Value} (h : VRow W B t l) (hD : Dr W W') : VRow W' B t l := by obtain ⟨k, rfl⟩ := hD; exact h
theorem VRow.grown {W W' : World} {B t : Nat} {l : List Value} {row : Option Nat} (h : VRow W B t l) (hg : W.grownBy W' row) (hne : some B ≠ row) : VRow W' B t l := (hg.block B h.lt hne).trans h
theorem VRow.new1 (w : World) (o : Obj) (t : Nat) (l : List Value) : VRow ((w.alloc o).alloc (.cells l.toArray t)) (w.heap.size + 1) t l := by
  have h := VRow.new (w.alloc o) t l; rwa [World.size_alloc] at h
theorem VRow.new2 (w : World) (o o' : Obj) (t : Nat) (l : List Value) : VRow (((w.alloc o).alloc o').alloc (.cells l.toArray t)) (w.heap.size + 1 + 1) t l := by
  have h := VRow.new ((w.alloc o).alloc o') t l; rwa [World.size_alloc, World.size_alloc] at h
theorem Dr.frozen {w w' : World} (h : Dr w w') (p : Addr) : w'.frozen? p = w.frozen? p := by obtain ⟨k, rfl⟩ := h; rfl
theorem Dr.size {w w' : World} (h : Dr w w') : w'.heap.size = w.heap.size := by obtain ⟨k, rfl⟩ := h; rfl
theorem region_tail {P : Program} {id : Nat} {Q : Exit → Act → World → Prop} {a : Act} {w : World} {l : List Oper} (n : Nat) (hm : P.follows .mixedOrders = true) (hB : Region.lexTailB .any l.toArray n = true)
    (h : ∀ W, Dr w W → wpStill P l.toArray W (fun a' => wpList P l.toArray Q (l.drop n) a' W) (l.take n) a) : (Code.region id l.toArray true).wp P Q a w :=
  wp_region_still_tail n hm hB (h _ ⟨1, rfl⟩)

/-- A new block that is a whole row. -/
theorem own_new (w : World) (B : Nat) (xs : List Value) (e : TypeId) (hB : B ≤ w.heap.size) (hm : xs.length ≤ maxLen) :
    (w.alloc (.cells xs.toArray e)).ownsRow B e 1 (.slice (some ⟨w.heap.size, 0, none⟩) xs.length xs.length) xs.length xs :=
  ⟨by simp, .inr ⟨w.heap.size, _, _, rfl, hB, heap_alloc_new w _, Nat.le_refl _, hm, by simp, by simp⟩⟩

theorem cell_one_at (W : World) (v : Value) (t : TypeId) (n : Nat) (hn : W.heap.size = n) : ∀ (j : Nat) (u : Value), ([v] : List Value)[j]? = some u → (W.alloc (.cells #[v] t)).cell? ((⟨n, 0, none⟩ : Addr).add j) = some u := by
  subst hn; exact cell_one_new W v t
theorem _root_.Go.World.ownsRow.dr {W W' : World} {base e size n : Nat} {v : Value} {xs : List Value} (h : W.ownsRow base e size v n xs) (hD : Dr W W') : W'.ownsRow base e size v n xs := by
  obtain ⟨k, rfl⟩ := hD; exact h
theorem below_grown {W W' : World} (h : Below W.heap.size W W') : W.grownBy W' none := ⟨h.os, h.tape, h.output, h.size, fun i hi _ => h.block i hi⟩
theorem _root_.Go.World.ownsRow.below {W W' : World} {base e size n : Nat} {v : Value} {xs : List Value} (h : W.ownsRow base e size v n xs) (hB : Below W.heap.size W W') : W'.ownsRow base e size v n xs :=
  h.kept (below_grown hB) (by cases v.ownBlock <;> simp)
theorem own_cap {w : World} {B e n size : Nat} {v : Value} {xs : List Value} (h : w.ownsRow B e size v n xs) : ∀ p m c, v = .slice p m c → n ≤ c := by
  intro p m c hv
  rcases h.2 with ⟨rfl, h0⟩ | ⟨g, cap, cur, rfl, hg, hh, hc, _⟩
  · omega
  · cases hv; exact hc
/-- A slice's elements in memory, each of one cell. (ownsRow_dr, own_slc) -/
def Sl {α : Type} (w : World) (enc : α → Value) (p : Option Addr) (l : List α) : Prop :=
  l = [] ∨ ∃ b off, p = some ⟨b, off, none⟩ ∧ b < w.heap.size ∧ ∀ i (h : i < l.length), w.cell? ⟨b, off + i, none⟩ = some (enc l[i])
theorem Sl.nil {α : Type} (w : World) (enc : α → Value) (p : Option Addr) : Sl w enc p ([] : List α) := .inl rfl
theorem Sl.below {α : Type} {w w' : World} {enc : α → Value} {p : Option Addr} {l : List α} (h : Sl w enc p l) (hB : Below w.heap.size w w') : Sl w' enc p l := by
  rcases h with h | ⟨b, off, hp, hb, hc⟩
  · exact .inl h
  · exact .inr ⟨b, off, hp, Nat.lt_of_lt_of_le hb hB.size, fun i hi => (hB.cell (p := ⟨b, off + i, none⟩) hb).trans (hc i hi)⟩
theorem Sl.dr {α : Type} {w w' : World} {enc : α → Value} {p : Option Addr} {l : List α} (h : Sl w enc p l) (hD : Dr w w') : Sl w' enc p l := h.below (hD.below _)
theorem Sl.get {α : Type} {w : World} {enc : α → Value} {p : Option Addr} {l : List α} (h : Sl w enc p l) (k : Nat) (hk : k < l.length) :
    ∃ b off, p = some ⟨b, off, none⟩ ∧ b < w.heap.size ∧ ∀ i (h : i < l.length), w.cell? ⟨b, off + i, none⟩ = some (enc l[i]) := by
  rcases h with h | h
  · subst h; simp at hk
  · exact h
theorem own_sl {α : Type} {w : World} {B e n : Nat} {v : Value} {enc : α → Value} {l : List α} (h : w.ownsRow B e 1 v n (l.map enc)) :
    ∃ p cap, v = .slice p l.length cap ∧ Sl w enc p l := by
  have hn : l.length = n := by have := h.1; simpa using this
  rcases h.2 with ⟨rfl, h0⟩ | ⟨g, cap, cur, rfl, hg, hh, _⟩
  · subst h0
    have : l = [] := List.length_eq_zero_iff.1 hn
    subst this
    exact ⟨none, 0, rfl, Sl.nil _ _ _⟩
  · refine ⟨some ⟨g, 0, none⟩, cap, by rw [hn], ?_⟩
    refine .inr ⟨g, 0, rfl, (Array.getElem?_eq_some_iff.1 hh).1, fun i hi => ?_⟩
    rw [Nat.zero_add, h.cellAt i (by omega)]
    simp [hi]

/-- The value of a letter of a binary word. -/
def val1 (c : Int) : Int := if c = 49 then 1 else -1
theorem val1_t (c : Int) (h : (c == 49) = true) : val1 c = 1 := by simp at h; simp [val1, h]
theorem val1_f (c : Int) (h : (c == 49) = false) : val1 c = -1 := by simp at h; simp [val1, h]
theorem val1_bd (c : Int) : -1 ≤ val1 c ∧ val1 c ≤ 1 := by unfold val1; split <;> omega

/-- The letters of all alphabets. -/
def letv (k : Nat) : Int := if k < 10 then 48 + k else 87 + k
def dig (c : Int) : Int := if 48 ≤ c ∧ c ≤ 57 then c - 48 else if 97 ≤ c ∧ c ≤ 102 then c - 87 else -1
theorem dig_letv (k : Nat) (h : k < 16) : dig (letv k) = k := by
  unfold dig letv; split <;> split <;> (try split) <;> omega
theorem dig_none (c : Int) (h : ∀ j, j < 16 → letv j ≠ c) : dig c = -1 := by
  unfold dig
  split
  · have := h (c - 48).toNat (by omega); unfold letv at this; rw [if_pos (by omega)] at this; omega
  · split
    · have := h (c - 87).toNat (by omega); unfold letv at this; rw [if_neg (by omega)] at this; omega
    · rfl
theorem dig_bd (c : Int) : -1 ≤ dig c ∧ dig c ≤ 15 := by unfold dig; split <;> (try split) <;> omega
def letb : ByteArray := ⟨#[48, 49, 50, 51, 52, 53, 54, 55, 56, 57, 97, 98, 99, 100, 101, 102]⟩
theorem letb_get (k : Nat) (h : k < 16) : ((letb[k]'(show k < letb.size from h)).toNat : Int) = letv k := by
  revert h; revert k; decide

/-- A letter is among the first q. -/
def okc (q : Int) (c : UInt8) : Bool := decide (0 ≤ dig c.toNat) && decide (dig c.toNat < q)
def okw (q : Int) (l : List UInt8) : Bool := l.all (okc q)
theorem idx_tab : ∀ q, q < 17 → ∀ c, c < 256 → decide (Lib.indexByte (List.take q [48, 49, 50, 51, 52, 53, 54, 55, 56, 57, 97, 98, 99, 100, 101, 102]) (UInt8.ofNat c) < 0) = !okc (q : Int) (UInt8.ofNat c) := by
  decide +kernel
theorem idx_okc (q : Int) (c : UInt8) (h1 : 1 ≤ q) (h2 : q ≤ 16) :
    decide (Lib.indexByte (List.take q.toNat [48, 49, 50, 51, 52, 53, 54, 55, 56, 57, 97, 98, 99, 100, 101, 102]) c < 0) = !okc q c := by
  have h := idx_tab q.toNat (by omega) c.toNat c.toNat_lt
  rw [UInt8.ofNat_toNat, Int.toNat_of_nonneg (by omega)] at h
  exact h
theorem idx_lt (q : Int) (c : UInt8) (h1 : 1 ≤ q) (h2 : q ≤ 16)
    (h : Lib.indexByte (List.take q.toNat [48, 49, 50, 51, 52, 53, 54, 55, 56, 57, 97, 98, 99, 100, 101, 102]) c < 0) : okc q c = false := by
  have := idx_okc q c h1 h2; rw [decide_eq_true h] at this; cases hh : okc q c <;> simp_all
theorem idx_ge (q : Int) (c : UInt8) (h1 : 1 ≤ q) (h2 : q ≤ 16)
    (h : 0 ≤ Lib.indexByte (List.take q.toNat [48, 49, 50, 51, 52, 53, 54, 55, 56, 57, 97, 98, 99, 100, 101, 102]) c) : okc q c = true := by
  have := idx_okc q c h1 h2; rw [decide_eq_false (by omega)] at this; cases hh : okc q c <;> simp_all
/-- Why a string is no word. -/
def wchk (q : Int) (l : List UInt8) : Int := if q < 1 ∨ 16 < q then 12 else if 65536 < l.length then 4 else if okw q l then 0 else 13
theorem wchk_alpha (q : Int) (l : List UInt8) (h : q < 1 ∨ 16 < q) : wchk q l = 12 := by simp [wchk, h]
theorem wchk_long (q : Int) (l : List UInt8) (h1 : 1 ≤ q) (h2 : q ≤ 16) (h : 65536 < l.length) : wchk q l = 4 := by
  unfold wchk; rw [if_neg (by omega), if_pos h]
theorem wchk_bad (q : Int) (l : List UInt8) (h1 : 1 ≤ q) (h2 : q ≤ 16) (h3 : l.length ≤ 65536) (h : okw q l = false) : wchk q l = 13 := by
  unfold wchk; rw [if_neg (by omega), if_neg (by omega), h]; rfl
theorem wchk_ok (q : Int) (l : List UInt8) (h1 : 1 ≤ q) (h2 : q ≤ 16) (h3 : l.length ≤ 65536) (h : okw q l = true) : wchk q l = 0 := by
  unfold wchk; rw [if_neg (by omega), if_neg (by omega), h]; rfl
theorem okw_of_take (q : Int) (l : List UInt8) (k : Nat) (h : l.length ≤ k) (hk : okw q (l.take k) = true) : okw q l = true := by
  rwa [List.take_of_length_le h] at hk
theorem take_snoc (s : ByteArray) (k : Nat) (h : k < s.size) : s.data.toList.take (k + 1) = s.data.toList.take k ++ [s[k]] := by
  rw [List.take_succ_eq_append_getElem (by simpa using h)]; rfl
theorem okw_snoc (q : Int) (s : ByteArray) (k : Nat) (h : k < s.size) (hk : okw q (s.data.toList.take k) = true) (hc : okc q s[k] = true) : okw q (s.data.toList.take (k + 1)) = true := by
  rw [take_snoc s k h]; simp [okw] at hk ⊢; exact ⟨hk, hc⟩
theorem okw_bad (q : Int) (s : ByteArray) (k : Nat) (h : k < s.size) (hc : okc q s[k] = false) : okw q s.data.toList = false := by
  rw [Bool.eq_false_iff]; intro hh
  have := List.all_eq_true.1 hh s[k] (by rw [← Array.mem_def]; exact Array.getElem_mem _)
  simp [hc] at this

theorem int_eq {k : IntKind} {a b : Int} (h : a = b) : Value.int k a = .int k b := by rw [h]
theorem ret_bi {a a' : Bool} {b b' : Int} (h : (a', b') = (a, b)) : Ending.returned (.tuple #[.bool a, .int .i64 b]) = .returned (.tuple #[.bool a', .int .i64 b']) := by
  obtain ⟨rfl, rfl⟩ := Prod.mk.inj h; rfl
theorem ret_ii {a a' b b' : Int} (h : (a', b') = (a, b)) : Ending.returned (.tuple #[.int .i64 a, .int .i64 b]) = .returned (.tuple #[.int .i64 a', .int .i64 b']) := by
  obtain ⟨rfl, rfl⟩ := Prod.mk.inj h; rfl
theorem wchk_long' (q : Int) (s : ByteArray) (h : wchk q s.data.toList = 0) : s.size ≤ 65536 := by
  unfold wchk at h
  split at h
  · omega
  split at h
  · omega
  · have : s.data.toList.length = s.size := by simp
    omega

/-- The first place at which a predicate holds, or -1. -/
def idxP {α : Type} (f : α → Bool) : List α → Int | [] => -1 | x :: l => if f x then 0 else if idxP f l < 0 then -1 else idxP f l + 1
theorem idxP_ge {α : Type} (f : α → Bool) (l : List α) : -1 ≤ idxP f l ∧ idxP f l < l.length := by
  induction l with
  | nil => simp [idxP]
  | cons x l ih => simp only [idxP, List.length_cons]; split <;> (try split) <;> omega
theorem idxP_any {α : Type} (f : α → Bool) (l : List α) : decide (0 ≤ idxP f l) = l.any f := by
  induction l with
  | nil => simp [idxP]
  | cons x l ih =>
    have := idxP_ge f l
    rw [List.any_cons, ← ih]
    by_cases hf : f x = true
    · simp [idxP, hf]
    · have hf' : f x = false := by simpa using hf
      simp only [idxP, hf', Bool.false_eq_true, if_false, Bool.false_or]
      rw [decide_eq_decide]
      split <;> omega
theorem idxP_hit {α : Type} (f : α → Bool) (l : List α) (k : Nat) (h : k < l.length) (hn : ∀ j (hj : j < l.length), j < k → f l[j] = false) (hk : f l[k] = true) : idxP f l = k := by
  induction l generalizing k with
  | nil => simp at h
  | cons x l ih =>
    cases k with
    | zero => simp only [List.getElem_cons_zero] at hk; simp [idxP, hk]
    | succ k =>
      have h0 := hn 0 (by simp) (by omega)
      simp only [List.getElem_cons_zero] at h0
      have := ih k (by simpa using h) (fun j hj hjk => by have := hn (j + 1) (by simpa using hj) (by omega); simpa using this) (by simpa using hk)
      simp only [idxP, h0, Bool.false_eq_true, if_false, this]
      rw [if_neg (by omega)]; omega
theorem idxP_miss {α : Type} (f : α → Bool) (l : List α) (hn : ∀ j (hj : j < l.length), f l[j] = false) : idxP f l = -1 := by
  induction l with
  | nil => rfl
  | cons x l ih =>
    have h0 := hn 0 (by simp)
    simp only [List.getElem_cons_zero] at h0
    have := ih (fun j hj => by have := hn (j + 1) (by simpa using hj); simpa using this)
    simp [idxP, h0, this]

theorem Sl.take {α : Type} {w : World} {enc : α → Value} {p : Option Addr} {l : List α} (h : Sl w enc p l) (k : Nat) : Sl w enc p (l.take k) := by
  rcases h with h | ⟨b, off, hp, hb, hc⟩
  · subst h; exact .inl (by simp)
  · exact .inr ⟨b, off, hp, hb, fun i hi => by rw [List.getElem_take]; exact hc i (by rw [List.length_take] at hi; omega)⟩
theorem Sl.of_vrow {α : Type} {w : World} {B t : Nat} {enc : α → Value} {l : List α} (h : VRow w B t (l.map enc)) : Sl w enc (some ⟨B, 0, none⟩) l :=
  .inr ⟨B, 0, rfl, h.lt, fun i hi => by rw [Nat.zero_add]; exact h.at i (by simp [hi])⟩

def eqb (a b : ByteArray) : Bool := decide (a = b)
theorem eqb_t {a b : ByteArray} (h : a = b) : eqb a b = true := decide_eq_true h
theorem eqb_f {a b : ByteArray} (h : a ≠ b) : eqb a b = false := decide_eq_false h
theorem eqb_iff {a b : ByteArray} : eqb a b = true ↔ a = b := by simp [eqb]
theorem bts_t {a b : ByteArray} (h : a = b) : (a.toList == b.toList) = true := (Lib.bytes_beq_iff a b).2 h
theorem bts_f {a b : ByteArray} (h : a ≠ b) : (a.toList == b.toList) = false := (Lib.bytes_beq_false_iff a b).2 h

/-! ### Slices of structs -/
/-- A slice's elements in memory, each of m cells. -/
def Sg {α : Type} (m : Nat) (w : World) (enc : α → List Value) (p : Option Addr) (l : List α) : Prop :=
  l = [] ∨ ∃ b off, p = some ⟨b, off, none⟩ ∧ b < w.heap.size ∧ ∀ i (h : i < l.length) j, j < m → w.cell? ⟨b, off + i * m + j, none⟩ = (enc l[i])[j]?
section
variable {α : Type} {m : Nat} {w w' : World} {enc : α → List Value} {p : Option Addr} {l : List α}
theorem Sg.nil (m : Nat) (w : World) (enc : α → List Value) (p : Option Addr) : Sg m w enc p ([] : List α) := .inl rfl
theorem Sg.below (h : Sg m w enc p l) (hB : Below w.heap.size w w') : Sg m w' enc p l := by
  rcases h with h | ⟨b, off, hp, hb, hc⟩
  · exact .inl h
  · exact .inr ⟨b, off, hp, Nat.lt_of_lt_of_le hb hB.size, fun i hi j hj => (hB.cell (p := ⟨b, off + i * m + j, none⟩) hb).trans (hc i hi j hj)⟩
theorem Sg.dr (h : Sg m w enc p l) (hD : Dr w w') : Sg m w' enc p l := h.below (hD.below _)
theorem Sg.get (h : Sg m w enc p l) (k : Nat) (hk : k < l.length) :
    ∃ b off, p = some ⟨b, off, none⟩ ∧ b < w.heap.size ∧ ∀ i (h : i < l.length) j, j < m → w.cell? ⟨b, off + i * m + j, none⟩ = (enc l[i])[j]? := by
  rcases h with h | h
  · subst h; simp at hk
  · exact h
theorem Sg.get3 (h : Sg 3 w enc p l) (k : Nat) (hk : k < l.length) {x y z : Value} (he : enc l[k] = [x, y, z]) :
    ∃ b off, p = some ⟨b, off, none⟩ ∧ b < w.heap.size ∧ w.cell? ⟨b, off + k * 3, none⟩ = some x ∧ w.cell? ⟨b, off + k * 3 + 1, none⟩ = some y ∧ w.cell? ⟨b, off + k * 3 + 2, none⟩ = some z := by
  obtain ⟨b, off, hp, hb, hc⟩ := h.get k hk
  have e0 := hc k hk 0 (by omega)
  have e1 := hc k hk 1 (by omega)
  have e2 := hc k hk 2 (by omega)
  rw [he] at e0 e1 e2
  exact ⟨b, off, hp, hb, by simpa using e0, by simpa using e1, by simpa using e2⟩
end
end Go.Proofs.Ytlgjhmenjfmpfaa
