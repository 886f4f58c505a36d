/-
  Words, plain lemmas and walks, merged: ChPlain, ChPlainB, ChPlainP, ChWa, ChWb, Shelf, ChWc, ChWd.
-/
import Derived.Below
import Derived.Lib.Slices
import Derived.Lib.Bytealg
import Derived.Deep.QuietTactic
import Derived.WalkKit
import Derived.WalkSpells
import Derived.RangeFuncBox
import Derived.RangeFuncNested
import Derived.RangeFuncLeaves
import Derived.Test.YtlgjhmenjfmpfaaProg
import Derived.WalkLawsBesides
import Derived.BigQuiet
import Derived.Shelf.Small.Bits
import Derived.Shelf.Small.Strs
import Derived.Shelf.Small.Wraps
import Derived.Shelf.Strconv.Itoa0
import Derived.Shelf.Strings.Search1
import Derived.Shelf.Sort.Plain
import Derived.Shelf.Slices.Turned
import Derived.Ground.Names2Prog
import Derived.Shelf.Slices.CompactI
import Derived.Shelf.Slices.SearchI
import Derived.Shelf.Slices.Cells
import Derived.Shelf.Slices.In.SortNone
import Derived.Shelf.Slices.Empties
import Derived.Ground.SlgnProg
import Derived.Shelf.SlicesE.Equal
import Derived.Shelf.SlicesE.Compact
import Derived.Ground.SlgfProg
import Derived.Shelf.SlicesE.IndexFunc
import Derived.Shelf.SlicesE.DeleteFunc
namespace Go.Proofs.Ytlgjhmenjfmpfaa.Chg
open Go.RowKit

theorem hidI {p : Prop} (h : p) : Hid p := h
theorem ret_int {k : IntKind} {a b : Int} (h : a = b) : Ending.returned (.int k a) = .returned (.int k b) := by rw [h]
theorem ret_bool {a b : Bool} (h : a = b) : Ending.returned (.bool a) = .returned (.bool b) := by rw [h]

/-- Nothing but draws has happened. -/
def Dr (w w' : World) : Prop := ∃ n, w' = w.drewN n
theorem Dr.refl (w : World) : Dr w w := ⟨0, rfl⟩
theorem Dr.one {w w' : World} (h : Dr w w') (n : Nat) : Dr w (w'.drewN n) := by
  obtain ⟨k, rfl⟩ := h; exact ⟨k + n, by simp [World.drewN, Nat.add_assoc]⟩
theorem Dr.trans {a b c : World} (h : Dr a b) (k : Dr b c) : Dr a c := by
  obtain ⟨n, rfl⟩ := k; exact h.one n
theorem Dr.below {w w' : World} (h : Dr w w') (B : Nat) : Below B w w' := by
  obtain ⟨k, rfl⟩ := h; exact ⟨rfl, rfl, rfl, Nat.le_refl _, fun _ _ => rfl⟩
theorem Dr.cell {w w' : World} (h : Dr w w') (p : Addr) : w'.cell? p = w.cell? p := by obtain ⟨k, rfl⟩ := h; rfl
theorem quiet_Dr {P : Program} {f : FuncId} {args : Array Value} {w : World} {n : Nat} {v : Value}
    (h : Calls P f args (w.drewN n) fun e w' => e = .returned v ∧ Dr (w.drewN n) w') : Calls P f args (w.drewN n) fun e w'' => e = .returned v ∧ ∃ m, w'' = w.drewN m :=
  h.mono fun _ _ ⟨he, hm⟩ => ⟨he, (Dr.one (Dr.refl w) n).trans hm⟩

/-- One block is as it was. -/
def KH (B : Nat) (W W' : World) : Prop := W'.heap[B]? = W.heap[B]?
theorem KH.refl (B : Nat) (W : World) : KH B W W := rfl
theorem KH.trans {B : Nat} {X Y Z : World} (h : KH B X Y) (k : KH B Y Z) : KH B X Z := Eq.trans k h
theorem KH.of_below {B n : Nat} {X Y : World} (h : Below n X Y) (hn : B < n) : KH B X Y := h.block B hn
theorem KH_b {B n : Nat} (hn : B < n) (W : World) (l : Nat) (o o' : Obj) (hl : n ≤ l) (_ : W.heap[l]? = some o) (_ : o.isCells = false) (_ : o.isWalk = false) : KH B W (W.putObj l o') :=
  World.putObj_heap_other (by omega)
theorem KH.boxed {B : Nat} {t : TypeId} {v : Value} {W W' : World} (h : KH B W W') (hb : Boxed W B t v) : Boxed W' B t v := Eq.trans h hb
theorem KH.set {B C i : Nat} (W : World) (v : Value) (h : B ≠ C) : KH B W (W.setCell ⟨C, i, none⟩ v) := Below.heap_setCell _ _ _ _ h
theorem boxed_set_other {B C : Nat} {t : TypeId} {u : Value} {W : World} (v : Value) (hb : Boxed W B t u) (h : B ≠ C) : Boxed (W.setCell ⟨C, 0, none⟩ v) B t u := (KH.set W v h).boxed hb

theorem below_put {w W : World} {D : Nat} (hB : Below w.heap.size w W) (hD : w.heap.size ≤ D) (hK : W.heap[D]? = some (.deferred (some []))) (o : Obj) : Below w.heap.size w (W.putObj D o) :=
  hB.trans (belowK_b (w := w) (Nat.le_refl _) W D _ o hD hK rfl rfl)
/-- A block that is a row of values. -/
def VRow (W : World) (B t : Nat) (l : List Value) : Prop := W.heap[B]? = some (.cells l.toArray t (0, 0))
theorem VRow.lt {W : World} {B t : Nat} {l : List Value} (h : VRow W B t l) : B < W.heap.size := (Array.getElem?_eq_some_iff.1 h).1
theorem VRow.cell {W : World} {B t : Nat} {l : List Value} (h : VRow W B t l) (i : Nat) : W.cell? ⟨B, i, none⟩ = l[i]? := by
  simp [World.cell?, show W.heap[B]? = _ from h]
theorem VRow.frozen {W : World} {B t : Nat} {l : List Value} (h : VRow W B t l) (i : Nat) : W.frozen? ⟨B, i, none⟩ = false := by
  simp [World.frozen?, show W.heap[B]? = _ from h]
theorem VRow.new (W : World) (t : Nat) (l : List Value) : VRow (W.alloc (.cells l.toArray t)) W.heap.size t l := World.alloc_heap_new W _
theorem VRow.kh {W W' : World} {B t : Nat} {l : List Value} (h : VRow W B t l) (k : KH B W W') : VRow W' B t l := Eq.trans k h
theorem VRow.alloc {W : World} {B t : Nat} {l : List Value} (h : VRow W B t l) (o : Obj) : VRow (W.alloc o) B t l := (Below.heap_alloc W o B h.lt).trans h
theorem VRow.below {W W' : World} {B t n : Nat} {l : List Value} (h : VRow W B t l) (k : Below n W W') (hn : B < n) : VRow W' B t l := (k.block B hn).trans h
theorem VRow.other {W : World} {B C t i : Nat} {l : List Value} (v : Value) (h : VRow W B t l) (hn : B ≠ C) : VRow (W.setCell ⟨C, i, none⟩ v) B t l := (Below.heap_setCell _ _ _ _ hn).trans h
theorem VRow.set {W : World} {B t i : Nat} {l : List Value} (v : Value) (h : VRow W B t l) : VRow (W.setCell ⟨B, i, none⟩ v) B t (l.set i v) := by
  obtain ⟨hlt, hk⟩ := Array.getElem?_eq_some_iff.1 h
  show (W.heap.modify B _)[B]? = _
  rw [Array.getElem?_eq_getElem (by rw [Array.size_modify]; exact hlt), Array.getElem_modify_self, hk]
  simp
theorem VRow.own {β : Type} (B t : Nat) (f : β → List Value) : Own (fun s W => VRow W B t (f s)) := fun s X Y row hs hg hrow =>
  (hg.block B (VRow.lt hs) (fun e => by
    obtain ⟨o, ho, hc⟩ := hrow B e.symm
    rw [show X.heap[B]? = _ from hs] at ho; cases ho; cases hc)).trans hs
theorem VRow.put {W : World} {B t l : Nat} {o : Obj} {r : List Value} (o' : Obj) (h : VRow W B t r) (hl : W.heap[l]? = some o) (ho : o.isCells = false) : VRow (W.putObj l o') B t r :=
  (World.putObj_heap_other (fun e => by subst e; rw [show W.heap[B]? = _ from h] at hl; cases hl; cases ho)).trans h

/-- A new block that is a whole row. -/
theorem own_new (w : World) (B : Nat) (xs : List Value) (e : TypeId) (hB : B ≤ w.heap.size) (hm : xs.length ≤ maxLen) :
    (w.alloc (.cells xs.toArray e)).ownsRow B e 1 (.slice (some ⟨w.heap.size, 0, none⟩) xs.length xs.length) xs.length xs :=
  ⟨by simp, .inr ⟨w.heap.size, _, _, rfl, hB, heap_alloc_new w _, Nat.le_refl _, hm, by simp, by simp⟩⟩

/-- A slice's elements in memory, each of one cell. -/
def Sl {α : Type} (w : World) (enc : α → Value) (p : Option Addr) (l : List α) : Prop :=
  l = [] ∨ ∃ b off, p = some ⟨b, off, none⟩ ∧ b < w.heap.size ∧ ∀ i (h : i < l.length), w.cell? ⟨b, off + i, none⟩ = some (enc l[i])
theorem Sl.nil {α : Type} (w : World) (enc : α → Value) (p : Option Addr) : Sl w enc p ([] : List α) := .inl rfl
theorem Sl.below {α : Type} {w w' : World} {enc : α → Value} {p : Option Addr} {l : List α} (h : Sl w enc p l) (hB : Below w.heap.size w w') : Sl w' enc p l := by
  rcases h with h | ⟨b, off, hp, hb, hc⟩
  · exact .inl h
  · exact .inr ⟨b, off, hp, Nat.lt_of_lt_of_le hb hB.size, fun i hi => (hB.cell (p := ⟨b, off + i, none⟩) hb).trans (hc i hi)⟩
theorem Sl.dr {α : Type} {w w' : World} {enc : α → Value} {p : Option Addr} {l : List α} (h : Sl w enc p l) (hD : Dr w w') : Sl w' enc p l := h.below (hD.below _)
theorem Sl.get {α : Type} {w : World} {enc : α → Value} {p : Option Addr} {l : List α} (h : Sl w enc p l) (k : Nat) (hk : k < l.length) :
    ∃ b off, p = some ⟨b, off, none⟩ ∧ b < w.heap.size ∧ ∀ i (h : i < l.length), w.cell? ⟨b, off + i, none⟩ = some (enc l[i]) := by
  rcases h with h | h
  · subst h; simp at hk
  · exact h
theorem own_sl {α : Type} {w : World} {B e n : Nat} {v : Value} {enc : α → Value} {l : List α} (h : w.ownsRow B e 1 v n (l.map enc)) :
    ∃ p cap, v = .slice p l.length cap ∧ Sl w enc p l := by
  have hn : l.length = n := by have := h.1; simpa using this
  rcases h.2 with ⟨rfl, h0⟩ | ⟨g, cap, cur, rfl, hg, hh, _⟩
  · subst h0
    have : l = [] := List.length_eq_zero_iff.1 hn
    subst this
    exact ⟨none, 0, rfl, Sl.nil _ _ _⟩
  · refine ⟨some ⟨g, 0, none⟩, cap, by rw [hn], ?_⟩
    refine .inr ⟨g, 0, rfl, (Array.getElem?_eq_some_iff.1 hh).1, fun i hi => ?_⟩
    rw [Nat.zero_add, h.cellAt i (by omega)]
    simp [hi]

/-- The value of a letter of a binary word. -/
def val1 (c : Int) : Int := if c = 49 then 1 else -1
theorem val1_t (c : Int) (h : (c == 49) = true) : val1 c = 1 := by simp at h; simp [val1, h]
theorem val1_f (c : Int) (h : (c == 49) = false) : val1 c = -1 := by simp at h; simp [val1, h]
theorem val1_bd (c : Int) : -1 ≤ val1 c ∧ val1 c ≤ 1 := by unfold val1; split <;> omega

/-- The letters of all alphabets. -/
def letv (k : Nat) : Int := if k < 10 then 48 + k else 87 + k
def dig (c : Int) : Int := if 48 ≤ c ∧ c ≤ 57 then c - 48 else if 97 ≤ c ∧ c ≤ 102 then c - 87 else -1
theorem dig_letv (k : Nat) (h : k < 16) : dig (letv k) = k := by
  unfold dig letv; split <;> split <;> (try split) <;> omega
theorem dig_none (c : Int) (h : ∀ j, j < 16 → letv j ≠ c) : dig c = -1 := by
  unfold dig
  split
  · have := h (c - 48).toNat (by omega); unfold letv at this; rw [if_pos (by omega)] at this; omega
  · split
    · have := h (c - 87).toNat (by omega); unfold letv at this; rw [if_neg (by omega)] at this; omega
    · rfl
theorem dig_bd (c : Int) : -1 ≤ dig c ∧ dig c ≤ 15 := by unfold dig; split <;> (try split) <;> omega
def letb : ByteArray := ⟨#[48, 49, 50, 51, 52, 53, 54, 55, 56, 57, 97, 98, 99, 100, 101, 102]⟩
theorem letb_get (k : Nat) (h : k < 16) : ((letb[k]'(show k < letb.size from h)).toNat : Int) = letv k := by
  revert h; revert k; decide

/-- A letter is among the first q. -/
def okc (q : Int) (c : UInt8) : Bool := decide (0 ≤ dig c.toNat) && decide (dig c.toNat < q)
def okw (q : Int) (l : List UInt8) : Bool := l.all (okc q)
theorem idx_tab : ∀ q, q < 17 → ∀ c, c < 256 → decide (Lib.indexByte (List.take q [48, 49, 50, 51, 52, 53, 54, 55, 56, 57, 97, 98, 99, 100, 101, 102]) (UInt8.ofNat c) < 0) = !okc (q : Int) (UInt8.ofNat c) := by
  decide +kernel
theorem idx_okc (q : Int) (c : UInt8) (h1 : 1 ≤ q) (h2 : q ≤ 16) :
    decide (Lib.indexByte (List.take q.toNat [48, 49, 50, 51, 52, 53, 54, 55, 56, 57, 97, 98, 99, 100, 101, 102]) c < 0) = !okc q c := by
  have h := idx_tab q.toNat (by omega) c.toNat c.toNat_lt
  rw [UInt8.ofNat_toNat, Int.toNat_of_nonneg (by omega)] at h
  exact h
theorem idx_lt (q : Int) (c : UInt8) (h1 : 1 ≤ q) (h2 : q ≤ 16)
    (h : Lib.indexByte (List.take q.toNat [48, 49, 50, 51, 52, 53, 54, 55, 56, 57, 97, 98, 99, 100, 101, 102]) c < 0) : okc q c = false := by
  have := idx_okc q c h1 h2; rw [decide_eq_true h] at this; cases hh : okc q c <;> simp_all
theorem idx_ge (q : Int) (c : UInt8) (h1 : 1 ≤ q) (h2 : q ≤ 16)
    (h : 0 ≤ Lib.indexByte (List.take q.toNat [48, 49, 50, 51, 52, 53, 54, 55, 56, 57, 97, 98, 99, 100, 101, 102]) c) : okc q c = true := by
  have := idx_okc q c h1 h2; rw [decide_eq_false (by omega)] at this; cases hh : okc q c <;> simp_all
/-- Why a string is no word. -/
def wchk (q : Int) (l : List UInt8) : Int := if q < 1 ∨ 16 < q then 12 else if 65536 < l.length then 4 else if okw q l then 0 else 13
theorem wchk_alpha (q : Int) (l : List UInt8) (h : q < 1 ∨ 16 < q) : wchk q l = 12 := by simp [wchk, h]
theorem wchk_long (q : Int) (l : List UInt8) (h1 : 1 ≤ q) (h2 : q ≤ 16) (h : 65536 < l.length) : wchk q l = 4 := by
  unfold wchk; rw [if_neg (by omega), if_pos h]
theorem wchk_bad (q : Int) (l : List UInt8) (h1 : 1 ≤ q) (h2 : q ≤ 16) (h3 : l.length ≤ 65536) (h : okw q l = false) : wchk q l = 13 := by
  unfold wchk; rw [if_neg (by omega), if_neg (by omega), h]; rfl
theorem wchk_ok (q : Int) (l : List UInt8) (h1 : 1 ≤ q) (h2 : q ≤ 16) (h3 : l.length ≤ 65536) (h : okw q l = true) : wchk q l = 0 := by
  unfold wchk; rw [if_neg (by omega), if_neg (by omega), h]; rfl
theorem okw_of_take (q : Int) (l : List UInt8) (k : Nat) (h : l.length ≤ k) (hk : okw q (l.take k) = true) : okw q l = true := by
  rwa [List.take_of_length_le h] at hk
theorem take_snoc (s : ByteArray) (k : Nat) (h : k < s.size) : s.data.toList.take (k + 1) = s.data.toList.take k ++ [s[k]] := by
  rw [List.take_succ_eq_append_getElem (by simpa using h)]; rfl
theorem okw_snoc (q : Int) (s : ByteArray) (k : Nat) (h : k < s.size) (hk : okw q (s.data.toList.take k) = true) (hc : okc q s[k] = true) : okw q (s.data.toList.take (k + 1)) = true := by
  rw [take_snoc s k h]; simp [okw] at hk ⊢; exact ⟨hk, hc⟩
theorem okw_bad (q : Int) (s : ByteArray) (k : Nat) (h : k < s.size) (hc : okc q s[k] = false) : okw q s.data.toList = false := by
  rw [Bool.eq_false_iff]; intro hh
  have := List.all_eq_true.1 hh s[k] (by rw [← Array.mem_def]; exact Array.getElem_mem _)
  simp [hc] at this

/-- The value at an offset; with 'turn' those at odd offsets are turned round. -/
def byteAt (s : ByteArray) (i : Nat) : Int := ((s.data.toList[i]?).getD 0).toNat
theorem byteAt_eq (s : ByteArray) (i : Nat) (h : i < s.size) : byteAt s i = (s[i].toNat : Int) := by
  unfold byteAt; rw [List.getElem?_eq_getElem (by simpa using h)]; rfl
def vAt (turn : Bool) (s : ByteArray) (i : Nat) : Int := if turn && decide (i % 2 = 1) then -(val1 (byteAt s i)) else val1 (byteAt s i)
theorem vAt_bd (t : Bool) (s : ByteArray) (i : Nat) : -1 ≤ vAt t s i ∧ vAt t s i ≤ 1 := by
  have := val1_bd (byteAt s i); unfold vAt; split <;> omega
def Su (v : Nat → Int) : Nat → Int | 0 => 0 | k + 1 => Su v k + v k
def Lo (v : Nat → Int) : Nat → Int | 0 => 0 | k + 1 => min (Lo v k) (Su v (k + 1))
def Hi (v : Nat → Int) : Nat → Int | 0 => 0 | k + 1 => max (Hi v k) (Su v (k + 1))
theorem Su_bd (v : Nat → Int) (hv : ∀ i, -1 ≤ v i ∧ v i ≤ 1) (k : Nat) : -(k : Int) ≤ Su v k ∧ Su v k ≤ k := by
  induction k with
  | zero => simp [Su]
  | succ k ih => have := hv k; simp only [Su]; omega
theorem Lo_bd (v : Nat → Int) (hv : ∀ i, -1 ≤ v i ∧ v i ≤ 1) (k : Nat) : -(k : Int) ≤ Lo v k ∧ Lo v k ≤ 0 := by
  induction k with
  | zero => simp [Lo]
  | succ k ih => have := Su_bd v hv (k + 1); simp only [Lo]; omega
theorem Hi_bd (v : Nat → Int) (hv : ∀ i, -1 ≤ v i ∧ v i ≤ 1) (k : Nat) : 0 ≤ Hi v k ∧ Hi v k ≤ k := by
  induction k with
  | zero => simp [Hi]
  | succ k ih => have := Su_bd v hv (k + 1); simp only [Hi]; omega
theorem Su_st (v : Nat → Int) (k : Nat) (x : Int) (h : v k = x) : Su v k + x = Su v (k + 1) := by simp only [Su, h]
theorem Lo_st (v : Nat → Int) (k : Nat) (x : Int) (h : v k = x) : (if Su v k + x < Lo v k then Su v k + x else Lo v k) = Lo v (k + 1) := by
  simp only [Lo, Su, h]; split <;> omega
theorem Hi_st (v : Nat → Int) (k : Nat) (x : Int) (h : v k = x) : (if Hi v k < Su v k + x then Su v k + x else Hi v k) = Hi v (k + 1) := by
  simp only [Hi, Su, h]; split <;> omega
theorem vAt_f (s : ByteArray) (k : Nat) (h : k < s.size) : vAt false s k = val1 s[k].toNat := by simp [vAt, byteAt_eq s k h]
theorem vAt_odd (s : ByteArray) (k : Nat) (h : k < s.size) (hk : ((k : Int) % 2 == 1) = true) : vAt true s k = -val1 s[k].toNat := by
  rw [beq_iff_eq] at hk; simp [vAt, byteAt_eq s k h]; omega
theorem vAt_even (s : ByteArray) (k : Nat) (h : k < s.size) (hk : ((k : Int) % 2 == 1) = false) : vAt true s k = val1 s[k].toNat := by
  rw [beq_eq_false_iff_ne] at hk; simp [vAt, byteAt_eq s k h]; omega
theorem int_eq {k : IntKind} {a b : Int} (h : a = b) : Value.int k a = .int k b := by rw [h]
/-- The range of the charges. -/
def wid (t : Bool) (s : ByteArray) : Int := Hi (vAt t s) s.size - Lo (vAt t s) s.size

/-- The charges of the beginnings, as cells. -/
def sus (v : Nat → Int) (k : Nat) : List Int := (List.range (k + 1)).map (Su v)
theorem sus_len (v : Nat → Int) (k : Nat) : (sus v k).length = k + 1 := by simp [sus]
theorem sus_snoc (v : Nat → Int) (k : Nat) : sus v (k + 1) = sus v k ++ [Su v (k + 1)] := by simp [sus, List.range_succ]
theorem sus_get (v : Nat → Int) (k i : Nat) (h : i ≤ k) : (sus v k)[i]? = some (Su v i) := by
  simp [sus, List.getElem?_range (show i < k + 1 by omega)]
def cint (l : List Int) : List Value := l.map (Value.int .i64)
theorem cint_snoc (l : List Int) (x : Int) : cint (l ++ [x]) = cint l ++ [.int .i64 x] := by simp [cint]
theorem cint_get (l : List Int) (i : Nat) (x : Int) (h : l[i]? = some x) : (cint l)[i]? = some (.int .i64 x) := by simp [cint, h]
theorem own_cells {w : World} {B e g n cap : Nat} {l : List Int} (h : w.ownsRow B e 1 (.slice (some ⟨g, 0, none⟩) n cap) n (cint l)) :
    ∀ j, j < l.length → w.cell? ⟨g, 0 + j, none⟩ = some (.int .i64 (l.getD j 0)) := by
  intro j hj
  have hn : l.length = n := by have := h.1; simpa [cint] using this
  rw [Nat.zero_add, h.cellAt j (by omega)]
  rw [cint_get l j l[j] (List.getElem?_eq_getElem hj), List.getD_eq_getElem?_getD, List.getElem?_eq_getElem hj]; rfl
theorem sus_head (v : Nat → Int) (k : Nat) : (sus v k).headD 0 = 0 := by
  simp [sus, List.range_succ_eq_map, Su]
theorem minOf_sus (v : Nat → Int) (k : Nat) : Lib.minOf (sus v k) = Lo v k := by
  induction k with
  | zero => simp [Lib.minOf, sus, Su, Lo]
  | succ k ih =>
    unfold Lib.minOf at ih ⊢
    rw [sus_head] at ih ⊢
    rw [sus_snoc, List.foldl_append, ih]; rfl
theorem maxOf_sus (v : Nat → Int) (k : Nat) : Lib.maxOf (sus v k) = Hi v k := by
  induction k with
  | zero => simp [Lib.maxOf, sus, Su, Hi]
  | succ k ih =>
    unfold Lib.maxOf at ih ⊢
    rw [sus_head] at ih ⊢
    rw [sus_snoc, List.foldl_append, ih]; rfl
theorem vals_bin (s : ByteArray) (h : wchk 2 s.data.toList = 0) (k : Nat) (hk : k < s.size) : (s[k].toNat : Int) = 48 ∨ (s[k].toNat : Int) = 49 := by
  unfold wchk at h
  rw [if_neg (by omega)] at h
  split at h
  · omega
  split at h
  · rename_i hw
    have := List.all_eq_true.1 hw s[k] (by rw [← Array.mem_def]; exact Array.getElem_mem _)
    simp only [okc, Bool.and_eq_true, decide_eq_true_eq] at this
    revert this
    unfold dig
    split
    · omega
    · split <;> omega
  · omega
/-- The sum, the least and the greatest one, over the offsets of a list. -/
def st1 (t : Bool) (s : ByteArray) (x : Int × Int × Int) (j : Nat) : Int × Int × Int := (x.1 + vAt t s j, min x.2.1 (x.1 + vAt t s j), max x.2.2 (x.1 + vAt t s j))
def stf (t : Bool) (s : ByteArray) (l : List Nat) : Int × Int × Int := l.foldl (st1 t s) (0, 0, 0)
theorem stf_snoc (t : Bool) (s : ByteArray) (l : List Nat) (j : Nat) : stf t s (l ++ [j]) = st1 t s (stf t s l) j := by simp [stf]
theorem stf_bd (t : Bool) (s : ByteArray) (l : List Nat) : (-(l.length : Int) ≤ (stf t s l).1 ∧ (stf t s l).1 ≤ l.length) ∧ (-(l.length : Int) ≤ (stf t s l).2.1 ∧ (stf t s l).2.1 ≤ 0) ∧ (0 ≤ (stf t s l).2.2 ∧ (stf t s l).2.2 ≤ l.length) := by
  have h : ∀ l : List Nat, (-(l.length : Int) ≤ (stf t s l.reverse).1 ∧ (stf t s l.reverse).1 ≤ l.length) ∧ (-(l.length : Int) ≤ (stf t s l.reverse).2.1 ∧ (stf t s l.reverse).2.1 ≤ 0) ∧ (0 ≤ (stf t s l.reverse).2.2 ∧ (stf t s l.reverse).2.2 ≤ l.length) := by
    intro l
    induction l with
    | nil => simp [stf]
    | cons j l ih =>
      have := vAt_bd t s j
      rw [List.reverse_cons, stf_snoc]
      simp only [st1, List.length_cons]
      omega
  have := h l.reverse
  simpa using this
/-- 'Pa' over a list of offsets. -/
def pa1 (n : Int) (v : Nat → Int) (r : Int) (x : Int) (k : Nat) : Int := x + if (n * k) % 4 = r then v k else 0
def paL (n : Int) (v : Nat → Int) (r : Int) (l : List Nat) : Int := l.foldl (pa1 n v r) 0
theorem paL_snoc (n : Int) (v : Nat → Int) (r : Int) (l : List Nat) (j : Nat) : paL n v r (l ++ [j]) = pa1 n v r (paL n v r l) j := by simp [paL]
theorem pa1_hit (n : Int) (v : Nat → Int) (r x : Int) (k : Nat) (h : (n * k) % 4 = r) : pa1 n v r x k = x + v k := by simp [pa1, h]
theorem pa1_miss (n : Int) (v : Nat → Int) (r x : Int) (k : Nat) (h : (n * k) % 4 ≠ r) : pa1 n v r x k = x := by simp [pa1, h]
theorem paL_bd (n : Int) (v : Nat → Int) (r : Int) (hv : ∀ i, -1 ≤ v i ∧ v i ≤ 1) (l : List Nat) : -(l.length : Int) ≤ paL n v r l ∧ paL n v r l ≤ l.length := by
  have h : ∀ l : List Nat, -(l.length : Int) ≤ paL n v r l.reverse ∧ paL n v r l.reverse ≤ l.length := by
    intro l
    induction l with
    | nil => simp [paL]
    | cons j l ih =>
      have := hv j
      rw [List.reverse_cons, paL_snoc]
      simp only [pa1, List.length_cons]
      split <;> omega
  have := h l.reverse
  simpa using this
/-- What Valid and NullValid answer. -/
def vld (t : Bool) (top n : Int) (s : ByteArray) : Bool × Int :=
  if n < 1 ∨ top < n then (false, 2) else if wchk 2 s.data.toList ≠ 0 then (false, wchk 2 s.data.toList) else (decide (wid t s ≤ n), 0)
theorem vld_out (t : Bool) (top n : Int) (s : ByteArray) (h : n < 1 ∨ top < n) : vld t top n s = (false, 2) := by simp [vld, h]
theorem vld_bad (t : Bool) (top n : Int) (s : ByteArray) (h1 : 1 ≤ n) (h2 : n ≤ top) (h : wchk 2 s.data.toList ≠ 0) : vld t top n s = (false, wchk 2 s.data.toList) := by
  unfold vld; rw [if_neg (by omega), if_pos h]
theorem vld_ok (t : Bool) (top n : Int) (s : ByteArray) (h1 : 1 ≤ n) (h2 : n ≤ top) (h : wchk 2 s.data.toList = 0) : vld t top n s = (decide (wid t s ≤ n), 0) := by
  unfold vld; rw [if_neg (by omega), if_neg (by omega)]
theorem wchk_long2 (s : ByteArray) (h : wchk 2 s.data.toList = 0) : s.size ≤ 65536 := by
  unfold wchk at h
  rw [if_neg (by omega)] at h
  split at h
  · omega
  · have : s.data.toList.length = s.size := by simp
    omega
/-- The sum of the values at the offsets that are r, times n, modulo 4. -/
def Pa (n : Int) (v : Nat → Int) (r : Int) : Nat → Int | 0 => 0 | k + 1 => Pa n v r k + if (n * k) % 4 = r then v k else 0
theorem Pa_bd (n : Int) (v : Nat → Int) (r : Int) (hv : ∀ i, -1 ≤ v i ∧ v i ≤ 1) (k : Nat) : -(k : Int) ≤ Pa n v r k ∧ Pa n v r k ≤ k := by
  induction k with
  | zero => simp [Pa]
  | succ k ih => have := hv k; simp only [Pa]; split <;> omega
theorem Pa_hit (n : Int) (v : Nat → Int) (r : Int) (k : Nat) (x : Int) (hx : v k = x) (h : (n * k) % 4 = r) : Pa n v r (k + 1) = Pa n v r k + x := by simp only [Pa, h, if_true, hx]
theorem Pa_miss (n : Int) (v : Nat → Int) (r : Int) (k : Nat) (h : (n * k) % 4 ≠ r) : Pa n v r (k + 1) = Pa n v r k := by simp only [Pa, if_neg h]; omega
theorem paL_range (n : Int) (v : Nat → Int) (r : Int) (k : Nat) : paL n v r (List.range k) = Pa n v r k := by
  induction k with
  | zero => rfl
  | succ k ih => rw [List.range_succ, paL_snoc, ih]; rfl
/-- What Spectrum answers. -/
def spe (n : Int) (s : ByteArray) : Int × Int × Int :=
  if n < 0 ∨ 3 < n then (0, 0, 2) else if wchk 2 s.data.toList ≠ 0 then (0, 0, wchk 2 s.data.toList)
  else (Pa n (vAt false s) 0 s.size - Pa n (vAt false s) 2 s.size, Pa n (vAt false s) 1 s.size - Pa n (vAt false s) 3 s.size, 0)
theorem spe_out (n : Int) (s : ByteArray) (h : n < 0 ∨ 3 < n) : spe n s = (0, 0, 2) := by simp [spe, h]
theorem spe_bad (n : Int) (s : ByteArray) (h1 : 0 ≤ n) (h2 : n ≤ 3) (h : wchk 2 s.data.toList ≠ 0) : spe n s = (0, 0, wchk 2 s.data.toList) := by
  unfold spe; rw [if_neg (by omega), if_pos h]
theorem spe_ok (n : Int) (s : ByteArray) (h1 : 0 ≤ n) (h2 : n ≤ 3) (h : wchk 2 s.data.toList = 0) : spe n s = (Pa n (vAt false s) 0 s.size - Pa n (vAt false s) 2 s.size, Pa n (vAt false s) 1 s.size - Pa n (vAt false s) 3 s.size, 0) := by
  unfold spe; rw [if_neg (by omega), if_neg (by omega)]
theorem ret_bi {a a' : Bool} {b b' : Int} (h : (a', b') = (a, b)) : Ending.returned (.tuple #[.bool a, .int .i64 b]) = .returned (.tuple #[.bool a', .int .i64 b']) := by
  obtain ⟨rfl, rfl⟩ := Prod.mk.inj h; rfl
theorem ret_ii {a a' b b' : Int} (h : (a', b') = (a, b)) : Ending.returned (.tuple #[.int .i64 a, .int .i64 b]) = .returned (.tuple #[.int .i64 a', .int .i64 b']) := by
  obtain ⟨rfl, rfl⟩ := Prod.mk.inj h; rfl
theorem ret_iii {a a' b b' c c' : Int} (h : (a', b', c') = (a, b, c)) : Ending.returned (.tuple #[.int .i64 a, .int .i64 b, .int .i64 c]) = .returned (.tuple #[.int .i64 a', .int .i64 b', .int .i64 c']) := by
  obtain ⟨rfl, h2⟩ := Prod.mk.inj h; obtain ⟨rfl, rfl⟩ := Prod.mk.inj h2; rfl
theorem mul_bd (n : Int) (k : Nat) (N : Nat) (h0 : 0 ≤ n) (h3 : n ≤ 3) (hk : k ≤ N) : 0 ≤ n * (k : Int) ∧ n * (k : Int) ≤ 3 * N := by
  have h1 : 0 ≤ n * (k : Int) := Int.mul_nonneg h0 (by omega)
  have h2 : n * (k : Int) ≤ 3 * (k : Int) := Int.mul_le_mul_of_nonneg_right h3 (by omega)
  omega

/-- The binomial coefficient, as Balanced reckons it. -/
def balp (m : Nat) : Nat → Int | 0 => 1 | k + 1 => balp m k * ((m : Int) + (k + 1)) / (k + 1)
theorem balp_tab : ∀ m, m < 16 → ∀ k, k < 16 → 1 ≤ balp m k ∧ balp m k ≤ 200000000 := by decide +kernel
theorem balp_step : ∀ m, m < 16 → ∀ k, k < 16 → wrap64 ((wrap64 (balp m k * (2 * (m : Int) - (m : Int) + ((k : Int) + 1)))).tdiv ((k : Int) + 1)) = balp m (k + 1) := by decide +kernel
/-- What Balanced answers. -/
def blc (n : Int) : Int × Int := if n < 0 ∨ 30 < n then (0, 2) else if n % 2 = 1 then (0, 0) else (balp (n / 2).toNat (n / 2).toNat, 0)
theorem blc_out (n : Int) (h : n < 0 ∨ 30 < n) : blc n = (0, 2) := by simp [blc, h]
theorem blc_odd (n : Int) (h1 : 0 ≤ n) (h2 : n ≤ 30) (h : n % 2 = 1) : blc n = (0, 0) := by unfold blc; rw [if_neg (by omega), if_pos h]
theorem blc_even (m : Nat) (h2 : m ≤ 15) : blc (2 * m) = (balp m m, 0) := by
  unfold blc; rw [if_neg (by omega), if_neg (by omega)]
  have : (2 * (m : Int) / 2).toNat = m := by omega
  rw [this]
end Go.Proofs.Ytlgjhmenjfmpfaa.Chg
namespace Go.Proofs.Ytlgjhmenjfmpfaa.Chg
open Go.RowKit

def stepL (l : List Int) : List Int := List.zipWith (· + ·) (0 :: l) (l.tail ++ [0])
def tab (n : Nat) : Nat → List Int | 0 => (List.replicate (2 * n + 1) 0).set n 1 | i + 1 => stepL (tab n i)
theorem stepL_len (l : List Int) (h : 0 < l.length) : (stepL l).length = l.length := by
  simp only [stepL, List.length_zipWith, List.length_cons, List.length_append, List.length_tail, List.length_nil]; omega
theorem tab_len (n i : Nat) : (tab n i).length = 2 * n + 1 := by
  induction i with
  | zero => simp [tab]
  | succ i ih => rw [tab, stepL_len _ (by omega), ih]
theorem stepL_get (l : List Int) (x : Nat) (hx : x < l.length) : (stepL l).getD x 0 = (if x = 0 then 0 else l.getD (x - 1) 0) + l.getD (x + 1) 0 := by
  have hlen : x < (stepL l).length := by rw [stepL_len l (by omega)]; exact hx
  rw [List.getD_eq_getElem?_getD, List.getElem?_eq_getElem hlen]
  simp only [stepL, List.getElem_zipWith, Option.getD_some]
  congr 1
  · cases x with
    | zero => simp
    | succ x => simp [List.getD_eq_getElem?_getD, List.getElem?_eq_getElem (show x < l.length by omega)]
  · rw [List.getElem_append]
    split
    · rename_i h
      simp only [List.length_tail] at h
      rw [List.getElem_tail, List.getD_eq_getElem?_getD, List.getElem?_eq_getElem (show x + 1 < l.length by omega)]; rfl
    · rename_i h
      simp only [List.length_tail] at h
      rw [List.getD_eq_getElem?_getD, List.getElem?_eq_none (by omega)]
      simp
theorem tab_all : ∀ n, n < 31 → ∀ i, i < n → ((tab n i).all fun x => decide (0 ≤ x) && decide (x ≤ 200000000)) = true ∧ (tab n i).getD 0 0 = 0 ∧ (tab n i).getD (2 * n) 0 = 0 := by decide +kernel
theorem tab_end : ∀ n, n < 31 → (tab n n).getD n 0 = (blc n).1 ∧ (blc n).2 = 0 := by decide +kernel
theorem tab_bd (n i : Nat) (hn : n < 31) (hi : i < n) (d : Nat) : 0 ≤ (tab n i).getD d 0 ∧ (tab n i).getD d 0 ≤ 200000000 := by
  have h := (tab_all n hn i hi).1
  rw [List.all_eq_true] at h
  rw [List.getD_eq_getElem?_getD]
  by_cases hd : d < (tab n i).length
  · rw [List.getElem?_eq_getElem hd]
    have := h _ (List.getElem_mem hd)
    simpa using this
  · rw [List.getElem?_eq_none (by omega)]; simp
/-- The next row, behind d places. -/
def nx (l : List Int) : Nat → List Int
  | 0 => List.replicate l.length 0
  | d + 1 => if 0 < l.getD d 0 then (((nx l d).set (d - 1) ((nx l d).getD (d - 1) 0 + l.getD d 0)).set (d + 1) (((nx l d).set (d - 1) ((nx l d).getD (d - 1) 0 + l.getD d 0)).getD (d + 1) 0 + l.getD d 0)) else nx l d
theorem nx_len (l : List Int) (d : Nat) : (nx l d).length = l.length := by
  induction d with
  | zero => simp [nx]
  | succ d ih => simp only [nx]; split <;> simp [ih]
theorem getD_set (l : List Int) (i j : Nat) (a : Int) (h : i < l.length) : (l.set i a).getD j 0 = if i = j then a else l.getD j 0 := by
  by_cases hij : i = j
  · subst hij
    rw [if_pos rfl, List.getD_eq_getElem?_getD, List.getElem?_set_self h]; rfl
  · rw [if_neg hij, List.getD_eq_getElem?_getD, List.getElem?_set_ne hij, List.getD_eq_getElem?_getD]
/-- Pointwise: what has come from the right and from the left. -/
theorem nx_get (l : List Int) (h0 : l.getD 0 0 = 0) (hl : l.getD (l.length - 1) 0 = 0) (hp : ∀ d, 0 ≤ l.getD d 0) (d : Nat) (hd : d ≤ l.length) (x : Nat) (hx : x < l.length) :
    (nx l d).getD x 0 = (if x + 1 < d then l.getD (x + 1) 0 else 0) + (if 1 ≤ x ∧ x - 1 < d then l.getD (x - 1) 0 else 0) := by
  induction d generalizing x with
  | zero => rw [List.getD_eq_getElem?_getD]; simp [nx, hx]
  | succ d ih =>
    have hpd := hp d
    simp only [nx]
    split
    · rename_i hpos
      have hd0 : d ≠ 0 := by rintro rfl; omega
      have hdl : d ≠ l.length - 1 := by intro e; rw [e] at hpos; omega
      rw [getD_set _ _ _ _ (by rw [List.length_set, nx_len]; omega), getD_set _ _ _ _ (by rw [nx_len]; omega), getD_set _ _ _ _ (by rw [nx_len]; omega)]
      rw [if_neg (show ¬ d - 1 = d + 1 by omega), ih (by omega) (d + 1) (by omega), ih (by omega) (d - 1) (by omega), ih (by omega) x hx]
      rw [if_neg (show ¬ d + 1 + 1 < d by omega), if_neg (show ¬ (1 ≤ d + 1 ∧ d + 1 - 1 < d) by omega), if_neg (show ¬ (d - 1 + 1 < d) by omega)]
      by_cases e1 : d + 1 = x
      · subst e1
        rw [if_pos rfl, if_neg (by omega), if_pos (by omega)]
        simp
      · rw [if_neg e1]
        by_cases e2 : d - 1 = x
        · subst e2
          rw [if_pos rfl, if_pos (show d - 1 + 1 < d + 1 by omega)]
          rw [show d - 1 + 1 = d by omega]
          split <;> split <;> first | omega | (exfalso; omega)
        · rw [if_neg e2]
          have e3 : (x + 1 < d + 1) ↔ (x + 1 < d) := by omega
          have e4 : (1 ≤ x ∧ x - 1 < d + 1) ↔ (1 ≤ x ∧ x - 1 < d) := by omega
          simp only [e3, e4]
    · rename_i hpos
      have hz : l.getD d 0 = 0 := by omega
      rw [ih (by omega) x hx]
      by_cases e1 : d + 1 = x
      · subst e1
        have e3 : 1 ≤ d + 1 ∧ d + 1 - 1 < d + 1 := by omega
        rw [if_neg (show ¬ d + 1 + 1 < d by omega), if_neg (show ¬ (1 ≤ d + 1 ∧ d + 1 - 1 < d) by omega), if_neg (show ¬ d + 1 + 1 < d + 1 by omega), if_pos e3, Nat.add_sub_cancel, hz]
      · by_cases e2 : x + 1 = d
        · subst e2
          rw [if_neg (show ¬ x + 1 < x + 1 by omega), if_pos (show x + 1 < x + 1 + 1 by omega), hz]
          split <;> split <;> first | omega | (exfalso; omega)
        · have e3 : (x + 1 < d + 1) ↔ (x + 1 < d) := by omega
          have e4 : (1 ≤ x ∧ x - 1 < d + 1) ↔ (1 ≤ x ∧ x - 1 < d) := by omega
          simp only [e3, e4]
theorem list_ext_getD (a b : List Int) (hl : a.length = b.length) (h : ∀ x, x < a.length → a.getD x 0 = b.getD x 0) : a = b := by
  apply List.ext_getElem hl
  intro i h1 h2
  have := h i h1
  rw [List.getD_eq_getElem?_getD, List.getD_eq_getElem?_getD, List.getElem?_eq_getElem h1, List.getElem?_eq_getElem h2] at this
  exact this
theorem nx_full (n i : Nat) (hn : n < 31) (hi : i < n) : nx (tab n i) (2 * n + 1) = tab n (i + 1) := by
  have hl := tab_len n i
  obtain ⟨_, h0, h1⟩ := tab_all n hn i hi
  apply list_ext_getD
  · rw [nx_len, tab_len, tab_len]
  · intro x hx
    rw [nx_len, hl] at hx
    rw [nx_get _ h0 (by rw [hl]; exact h1) (fun d => (tab_bd n i hn hi d).1) (2 * n + 1) (by omega) x (by omega), tab, stepL_get _ x (by omega)]
    by_cases hx0 : x = 0
    · subst hx0; simp; omega
    · have e : 1 ≤ x ∧ x - 1 < 2 * n + 1 := by omega
      rw [if_neg hx0, if_pos e]
      by_cases hxe : x + 1 < 2 * n + 1
      · rw [if_pos hxe]; omega
      · have : (tab n i).getD (x + 1) 0 = 0 := by rw [List.getD_eq_getElem?_getD, List.getElem?_eq_none (by omega)]; rfl
        rw [if_neg hxe, this]; omega
theorem nx_bd (n i : Nat) (hn : n < 31) (hi : i < n) (d : Nat) (hd : d ≤ 2 * n + 1) (x : Nat) (hx : x < 2 * n + 1) : 0 ≤ (nx (tab n i) d).getD x 0 ∧ (nx (tab n i) d).getD x 0 ≤ 400000000 := by
  have hl := tab_len n i
  obtain ⟨_, h0, h1⟩ := tab_all n hn i hi
  rw [nx_get _ h0 (by rw [hl]; exact h1) (fun d => (tab_bd n i hn hi d).1) d (by omega) x (by omega)]
  have a := tab_bd n i hn hi (x + 1)
  have b := tab_bd n i hn hi (x - 1)
  split <;> split <;> omega
theorem nx_pos (l : List Int) (e : Nat) (h : 0 < l.getD (e + 1) 0) : nx l (e + 1 + 1) = ((nx l (e + 1)).set e ((nx l (e + 1)).getD e 0 + l.getD (e + 1) 0)).set (e + 1 + 1) ((nx l (e + 1)).getD (e + 1 + 1) 0 + l.getD (e + 1) 0) := by
  conv => lhs; rw [nx]
  rw [if_pos h, Nat.add_sub_cancel]
  congr 2
  rw [List.getD_eq_getElem?_getD, List.getElem?_set_ne (by omega), List.getD_eq_getElem?_getD]
theorem own_vrow {w : World} {B e g n : Nat} {xs : List Value} (h : w.ownsRow B e 1 (.slice (some ⟨g, 0, none⟩) n n) n xs) : VRow w g e xs := by
  rcases h.2 with ⟨h0, _⟩ | ⟨g', cap, cur, hv, _, hh, _, _, hs, ht⟩
  · cases h0
  · cases hv
    have : cur.toList = xs := by rw [← ht]; exact (List.take_of_length_le (by rw [Array.length_toList]; omega)).symm
    unfold VRow
    rw [hh, ← this]
theorem own_head {w : World} {B e g n c : Nat} {xs : List Value} (h : w.ownsRow B e 1 (.slice (some ⟨g, 0, none⟩) n c) n xs) : B ≤ g := (h.lt g rfl).1
theorem cint_getD (l : List Int) (i : Nat) (h : i < l.length) : (cint l)[i]? = some (.int .i64 (l.getD i 0)) := by
  rw [List.getD_eq_getElem?_getD, List.getElem?_eq_getElem h]; simp [cint, h]
theorem cint_set (l : List Int) (i : Nat) (x : Int) : (cint l).set i (.int .i64 x) = cint (l.set i x) := by simp [cint, List.map_set]
theorem made_row {w : World} {B e g n : Nat} (h : w.ownsRow B e 1 (.slice (some ⟨g, 0, none⟩) n n) n (madeCells (Value.int .i64 0).cells (n * 1)).toList) : VRow w g e (cint (List.replicate n 0)) := by
  have := own_vrow h
  rw [show (Value.int .i64 0).cells = #[Value.int .i64 0] from rfl, toList_madeCells_one, Nat.mul_one] at this
  simpa [cint] using this
theorem VRow.grown {w w' : World} {B t : Nat} {l : List Value} (h : VRow w B t l) (hg : w.grownBy w' none) : VRow w' B t l := (hg.block B h.lt (by simp)).trans h
end Go.Proofs.Ytlgjhmenjfmpfaa.Chg
namespace Go.Proofs.Ytlgjhmenjfmpfaa.Chg
open Go.RowKit

/-! ### Marks among the deferred calls -/
/-- Cells are as they were; nothing below B has turned. -/
structure KC (B : Nat) (W W' : World) : Prop where
  below : Below B W W'
  cells : ∀ (k : Nat) (o : Obj), W.heap[k]? = some o → o.isCells = true → W'.heap[k]? = some o
theorem KC.refl (B : Nat) (W : World) : KC B W W := ⟨Below.refl _ _, fun _ _ h _ => h⟩
theorem KC.trans {B : Nat} {X Y Z : World} (h : KC B X Y) (k : KC B Y Z) : KC B X Z := ⟨h.below.trans k.below, fun i o hi ho => k.cells i o (h.cells i o hi ho) ho⟩
theorem KC.sl {α : Type} {B : Nat} {W W' : World} {enc : α → Value} {p : Option Addr} {l : List α} (h : KC B W W') (hs : Sl W enc p l) : Sl W' enc p l := by
  rcases hs with hs | ⟨b, off, hp, hb, hc⟩
  · exact .inl hs
  · by_cases hl : l = []
    · exact .inl hl
    · refine .inr ⟨b, off, hp, Nat.lt_of_lt_of_le hb h.below.size, fun i hi => ?_⟩
      obtain ⟨o, ho, hk⟩ := cells_of_cell (hc i hi)
      exact (World.cell?_of_block (w := W) (a := ⟨b, off + i, none⟩) ((h.cells b o ho hk).trans ho.symm)).trans (hc i hi)
def Marks (B : Nat) (W : World) : List Deferred → Prop
  | [] => True
  | d :: ds => (∃ D, d = { target := .collected D, args := #[] } ∧ B ≤ D ∧ W.heap[D]? = some (.deferred (some [])) ∧ ∀ d' ∈ ds, d'.target ≠ .collected D) ∧ Marks B W ds
theorem Marks.lt {B : Nat} {W : World} : ∀ {ds : List Deferred}, Marks B W ds → ∀ d ∈ ds, ∃ D, d.target = .collected D ∧ D < W.heap.size
  | [], _, _, h => by cases h
  | _ :: _, ⟨⟨D, hd, _, hk, _⟩, hr⟩, d', h => by
    rcases List.mem_cons.1 h with h | h
    · subst h; subst hd; exact ⟨D, rfl, (Array.getElem?_eq_some_iff.1 hk).1⟩
    · exact Marks.lt hr d' h
theorem Marks.keep {B : Nat} {W W' : World} : ∀ {ds : List Deferred}, Marks B W ds → (∀ D, B ≤ D → W.heap[D]? = some (.deferred (some [])) → (∃ d ∈ ds, d.target = .collected D) → W'.heap[D]? = some (.deferred (some []))) → Marks B W' ds
  | [], _, _ => trivial
  | _ :: _, ⟨⟨D, hd, hB, hk, hn⟩, hr⟩, h =>
    ⟨⟨D, hd, hB, h D hB hk ⟨_, List.mem_cons_self, by rw [hd]⟩, hn⟩, hr.keep (fun D' h1 h2 ⟨d, hd', ht⟩ => h D' h1 h2 ⟨d, List.mem_cons_of_mem _ hd', ht⟩)⟩
theorem Marks.others {B : Nat} {W W' : World} {ds : List Deferred} (h : Marks B W ds) (k : KeepsOthers W W') : Marks B W' ds := h.keep (fun D _ hk _ => k.same D _ hk rfl)
theorem Marks.cons {B D : Nat} {W : World} {ds : List Deferred} (h : Marks B W ds) (hB : B ≤ D) (hk : W.heap[D]? = some (.deferred (some []))) (hn : ∀ d ∈ ds, ∃ D', d.target = .collected D' ∧ D' < D) :
    Marks B W ({ target := .collected D, args := #[] } :: ds) :=
  ⟨⟨D, rfl, hB, hk, fun d hd e => by
    obtain ⟨D', h1, h2⟩ := hn d hd
    rw [h1] at e; cases e; omega⟩, h⟩
theorem leaves_marks {F : Fence} {n : Nat} {P : Program} {fn : Func} {tmps : Array Value} {R : Ending → World → Prop} {B : Nat} :
    ∀ (ds : List Deferred) (W : World), Marks B W ds → (∀ W', KC B W W' → LeavesInM F n P fn tmps R [] .returning W') → LeavesInM F n P fn tmps R ds .returning W
  | [], W, _, h => h W (KC.refl _ _)
  | d :: ds, W, ⟨⟨D, hd, hB, hk, hn⟩, hr⟩, h => by
    subst hd
    have hp : KC B W (W.putObj D (.deferred none)) := by
      refine ⟨⟨rfl, rfl, rfl, by simp, fun i hi => World.putObj_heap_other (by omega)⟩, fun i o hi ho => ?_⟩
      rw [World.putObj_heap_other (by rintro rfl; rw [hk] at hi; cases hi; cases ho)]
      exact hi
    refine ⟨by simp, .inl ⟨D, _, rfl, run_takeDeferred hk, ?_⟩⟩
    refine leaves_marks ds _ (hr.keep (fun D' _ hk' hm => ?_)) (fun W' hW' => h W' (hp.trans hW'))
    obtain ⟨d', hd', ht⟩ := hm
    rw [World.putObj_heap_other (by rintro rfl; exact hn d' hd' ht)]
    exact hk'
theorem grownBy_trans {A B C : World} {r : Option Nat} (h : A.grownBy B r) (k : B.grownBy C r) : A.grownBy C r :=
  ⟨k.os.trans h.os, k.tape.trans h.tape, k.output.trans h.output, Nat.le_trans h.size k.size, fun i hi hr => (k.block i (Nat.lt_of_lt_of_le hi h.size) hr).trans (h.block i hi hr)⟩
theorem grownBy_own {β : Type} (W0 : World) (c : Nat) : OwnFrom W0.heap.size (fun (_ : β) W => W0.grownBy W (some c)) := fun _ X Y row hs hg hr =>
  ⟨hg.os.trans hs.os, hg.tape.trans hs.tape, hg.output.trans hs.output, Nat.le_trans hs.size hg.size, fun i hi hc =>
    (hg.block i (Nat.lt_of_lt_of_le hi hs.size) (fun e => by have := (hr i e.symm).1; omega)).trans (hs.block i hi hc)⟩
theorem grownBy_refl (W : World) (r : Option Nat) : W.grownBy W r := ⟨rfl, rfl, rfl, Nat.le_refl _, fun _ _ _ => rfl⟩
theorem Marks.grown {B c : Nat} {W W' : World} {ds : List Deferred} {o : Obj} (h : Marks B W ds) (hg : W.grownBy W' (some c)) (hc : W.heap[c]? = some o) (ho : o.isCells = true) : Marks B W' ds :=
  h.keep (fun D _ hk _ => by
    rw [hg.block D (Array.getElem?_eq_some_iff.1 hk).1 (by rintro ⟨rfl⟩; rw [hk] at hc; cases hc; cases ho)]; exact hk)

theorem Marks.appended {B base e n size : Nat} {V w1 : World} {ds : List Deferred} {ov : Value} {xs : List Value} {o : Obj} (h : Marks B V ds) (hown : V.ownsRow base e size ov n xs) (hg : (V.alloc o).grownBy w1 ov.ownBlock) : Marks B w1 ds :=
  h.keep (fun D _ hk _ => by
    have hD := (Array.getElem?_eq_some_iff.1 hk).1
    rw [hg.block D (by simp; omega) ?_, Below.heap_alloc V o D hD]; exact hk
    intro e
    rcases hown.2 with ⟨rfl, _⟩ | ⟨g, cap, cur, rfl, _, hgb, _⟩
    · simp [Value.ownBlock] at e
    · obtain rfl : D = g := by simpa [Value.ownBlock] using e
      rw [hk] at hgb; cases hgb)
/-! ### Polarity -/
theorem fold_done (t : Bool) (s : ByteArray) (k : Nat) : stf t s (List.range k) = (Su (vAt t s) k, Lo (vAt t s) k, Hi (vAt t s) k) := by
  induction k with
  | zero => rfl
  | succ k ih => rw [List.range_succ, stf_snoc, ih]; rfl
/-- The disparity. -/
def dsp (s : ByteArray) : Int := Su (vAt false s) s.size
theorem dsp_bd (s : ByteArray) : -(s.size : Int) ≤ dsp s ∧ dsp s ≤ s.size := Su_bd _ (vAt_bd false s) _
def inv (w : Int) (s : ByteArray) : Bool := decide (max (w - dsp s) (dsp s - w) < max (w + dsp s) (-w - dsp s))
/-- One word more: the charge, and which words have been inverted. -/
def polF (x : Int × List Bool) (s : ByteArray) : Int × List Bool := (x.1 + (if inv x.1 s then -(dsp s) else dsp s), x.2 ++ [inv x.1 s])
def polS (w : Int) (l : List ByteArray) : Int × List Bool := l.foldl polF (w, [])
theorem polS_snoc (w : Int) (l : List ByteArray) (s : ByteArray) : polS w (l ++ [s]) = polF (polS w l) s := by simp [polS]
theorem polS_take (w : Int) (l : List ByteArray) (k : Nat) (h : k < l.length) : polS w (l.take (k + 1)) = polF (polS w (l.take k)) l[k] := by
  rw [List.take_succ_eq_append_getElem h, polS_snoc]
theorem polS_len (w : Int) (l : List ByteArray) : (polS w l).2.length = l.length := by
  have h : ∀ (l : List ByteArray) (x : Int × List Bool), (l.foldl polF x).2.length = x.2.length + l.length := by
    intro l
    induction l with
    | nil => simp
    | cons s l ih => intro x; rw [List.foldl_cons, ih]; simp [polF]; omega
  unfold polS; simpa using h l (w, [])
/-- Why a list of words, or the charge, is refused. -/
def chkL (n : Nat) : List ByteArray → Int | [] => 0 | s :: l => if wchk 2 s.data.toList ≠ 0 then wchk 2 s.data.toList else if s.size ≠ n then 11 else chkL n l
theorem chkL_bad (n : Nat) (l : List ByteArray) (k : Nat) (h : k < l.length) (hj : ∀ j (hj : j < l.length), j < k → wchk 2 l[j].data.toList = 0 ∧ l[j].size = n) (hk : wchk 2 l[k].data.toList ≠ 0) :
    chkL n l = wchk 2 l[k].data.toList := by
  induction l generalizing k with
  | nil => simp at h
  | cons s l ih =>
    cases k with
    | zero => simp only [List.getElem_cons_zero] at hk ⊢; simp only [chkL, if_pos hk]
    | succ k =>
      have h0 := hj 0 (by simp) (by omega)
      simp only [List.getElem_cons_zero] at h0
      have := ih k (by simpa using h) (fun j h1 h2 => by have := hj (j + 1) (by simpa using h1) (by omega); simpa using this) (by simpa using hk)
      simp only [chkL, h0.1, h0.2, List.getElem_cons_succ, this]; simp
theorem chkL_len (n : Nat) (l : List ByteArray) (k : Nat) (h : k < l.length) (hj : ∀ j (hj : j < l.length), j < k → wchk 2 l[j].data.toList = 0 ∧ l[j].size = n) (hk : wchk 2 l[k].data.toList = 0) (hn : l[k].size ≠ n) :
    chkL n l = 11 := by
  induction l generalizing k with
  | nil => simp at h
  | cons s l ih =>
    cases k with
    | zero => simp only [List.getElem_cons_zero] at hk hn; simp [chkL, hk, hn]
    | succ k =>
      have h0 := hj 0 (by simp) (by omega)
      simp only [List.getElem_cons_zero] at h0
      have := ih k (by simpa using h) (fun j h1 h2 => by have := hj (j + 1) (by simpa using h1) (by omega); simpa using this) (by simpa using hk) (by simpa using hn)
      simp only [chkL, h0.1, h0.2, this]; simp
theorem chkL_ok (n : Nat) (l : List ByteArray) (hj : ∀ j (hj : j < l.length), wchk 2 l[j].data.toList = 0 ∧ l[j].size = n) : chkL n l = 0 := by
  induction l with
  | nil => rfl
  | cons s l ih =>
    have h0 := hj 0 (by simp)
    simp only [List.getElem_cons_zero] at h0
    have := ih (fun j h1 => by have := hj (j + 1) (by simpa using h1); simpa using this)
    simp only [chkL, h0.1, h0.2, this]; simp
def polErr (w : Int) (l : List ByteArray) : Int := if w < -65536 ∨ 65536 < w then 2 else if 4096 < l.length then 4 else chkL (l.headD ByteArray.empty).size l
/-- What Polarity answers. -/
def polR (w : Int) (l : List ByteArray) : List Bool := if polErr w l = 0 then (polS w l).2 else []
theorem pol_out (w : Int) (l : List ByteArray) (h : w < -65536 ∨ 65536 < w) : polErr w l = 2 ∧ polR w l = [] := by simp [polErr, polR, h]
theorem pol_long (w : Int) (l : List ByteArray) (h1 : -65536 ≤ w) (h2 : w ≤ 65536) (h : 4096 < l.length) : polErr w l = 4 ∧ polR w l = [] := by
  have : polErr w l = 4 := by unfold polErr; rw [if_neg (by omega), if_pos h]
  simp [polR, this]
theorem pol_chk (w : Int) (l : List ByteArray) (h1 : -65536 ≤ w) (h2 : w ≤ 65536) (h : l.length ≤ 4096) (e : Int) (he : chkL (l.headD ByteArray.empty).size l = e) (hne : e ≠ 0) : polErr w l = e ∧ polR w l = [] := by
  have : polErr w l = e := by unfold polErr; rw [if_neg (by omega), if_neg (by omega), he]
  simp [polR, this, hne]
theorem pol_ok (w : Int) (l : List ByteArray) (h1 : -65536 ≤ w) (h2 : w ≤ 65536) (h : l.length ≤ 4096) (he : chkL (l.headD ByteArray.empty).size l = 0) : polErr w l = 0 ∧ polR w l = (polS w l).2 := by
  have : polErr w l = 0 := by unfold polErr; rw [if_neg (by omega), if_neg (by omega), he]
  simp [polR, this]
theorem polS_bd (w : Int) (l : List ByteArray) (k : Nat) (hj : ∀ j (hj : j < l.length), l[j].size ≤ 65536) (hk : k ≤ l.length) (h1 : -65536 ≤ w) (h2 : w ≤ 65536) :
    -(65536 * (k : Int) + 65536) ≤ (polS w (l.take k)).1 ∧ (polS w (l.take k)).1 ≤ 65536 * k + 65536 := by
  induction k with
  | zero => simp [polS]; omega
  | succ k ih =>
    have := ih (by omega)
    rw [polS_take w l k (by omega)]
    have hd := dsp_bd l[k]
    have hs := hj k (by omega)
    simp only [polF]
    split <;> omega
theorem headD_size (l : List ByteArray) (h : 0 < l.length) : (l.headD ByteArray.empty).size = l[0].size := by
  cases l with
  | nil => simp at h
  | cons s l => rfl
end Go.Proofs.Ytlgjhmenjfmpfaa.Chg
namespace Go.Proofs.Ytlgjhmenjfmpfaa.Chg
open Go.RowKit

end Go.Proofs.Ytlgjhmenjfmpfaa.Chg
namespace Go.Proofs.Ytlgjhmenjfmpfaa.Chg
open Go.RowKit

set_option maxHeartbeats 400000 in
theorem known_t (q : Int) (w : World) (h1 : 1 ≤ q) (h2 : q ≤ 16) :
    Calls Try.prog 49 #[.int .i64 q] w fun e w' => e = .returned (.bool true) ∧ w = w' := by
  go_enter Try.func49, Try.ntmps49
  go_wp2
  go_ret
  exact ⟨rfl, rfl⟩

set_option maxHeartbeats 400000 in
theorem known_f (q : Int) (w : World) (h : q < 1 ∨ 16 < q) :
    Calls Try.prog 49 #[.int .i64 q] w fun e w' => e = .returned (.bool false) ∧ w = w' := by
  by_cases h1 : 1 ≤ q
  · have h2 : 16 < q := by omega
    go_enter Try.func49, Try.ntmps49
    go_wp2
    go_ret
    exact ⟨ret_bool (by simp; omega), rfl⟩
  · go_enter Try.func49, Try.ntmps49
    go_wp2
    go_ret
    exact ⟨rfl, rfl⟩
end Go.Proofs.Ytlgjhmenjfmpfaa.Chg
namespace Go.Proofs
open Go.Shelf
def Try.lays128_ren : Go.Shelf.Ren := ⟨fun | 128 => 89 | n => n, fun | 51 => 109 | 3 => 3 | 4 => 4 | 46 => 92 | 5 => 5 | 9 => 9 | n => n, fun | n => n⟩
theorem Try.lays128 : Go.Proofs.Lays.n128 Try.prog Try.lays128_ren := {
  mixed := by kernel_rfl
  f128 := Try.func89.trans (congrArg some (by kernel_rfl))
  t3 := Try.underlying3
  a3 := Try.isAgg3
  z3 := Try.sizeOf3
  v3 := Try.zeroValue3
  t4 := Try.underlying4
  a4 := Try.isAgg4
  z4 := Try.sizeOf4
  v4 := Try.zeroValue4
  t5 := Try.underlying5
  a5 := Try.isAgg5
  z5 := Try.sizeOf5
  v5 := Try.zeroValue5
  t9 := Try.underlying9
  a9 := Try.isAgg9
  z9 := Try.sizeOf9
  v9 := Try.zeroValue9
  t46 := Try.underlying92
  a46 := Try.isAgg92
  z46 := Try.sizeOf92
  v46 := Try.zeroValue92
  t51 := Try.underlying109
  a51 := Try.isAgg109
  z51 := Try.sizeOf109
  v51 := Try.zeroValue109 }
theorem Try.bits_Len32 (x : Int) (w : World) (h0 : 0 ≤ x) (h1 : x ≤ 4294967295) :
    Calls Try.prog 89 #[.int .u32 x] w fun e w' => e = .returned (.int .i64 (Lib.bitLen x.toNat)) ∧ w' = w := Any.bits_Len32 Try.lays128 x w h0 h1
def Try.lays125_ren : Go.Shelf.Ren := ⟨fun | 125 => 70 | 128 => 89 | 129 => 90 | n => n, fun | 46 => 92 | 3 => 3 | 51 => 109 | 53 => 111 | 4 => 4 | 5 => 5 | 9 => 9 | n => n, fun | n => n⟩
theorem Try.lays125 : Go.Proofs.Lays.n125 Try.prog Try.lays125_ren := {
  mixed := by kernel_rfl
  f125 := Try.func70.trans (congrArg some (by kernel_rfl))
  f128 := Try.func89.trans (congrArg some (by kernel_rfl))
  f129 := Try.func90.trans (congrArg some (by kernel_rfl))
  t3 := Try.underlying3
  a3 := Try.isAgg3
  z3 := Try.sizeOf3
  v3 := Try.zeroValue3
  t4 := Try.underlying4
  a4 := Try.isAgg4
  z4 := Try.sizeOf4
  v4 := Try.zeroValue4
  t5 := Try.underlying5
  a5 := Try.isAgg5
  z5 := Try.sizeOf5
  v5 := Try.zeroValue5
  t9 := Try.underlying9
  a9 := Try.isAgg9
  z9 := Try.sizeOf9
  v9 := Try.zeroValue9
  t46 := Try.underlying92
  a46 := Try.isAgg92
  z46 := Try.sizeOf92
  v46 := Try.zeroValue92
  t51 := Try.underlying109
  a51 := Try.isAgg109
  z51 := Try.sizeOf109
  v51 := Try.zeroValue109
  t53 := Try.underlying111
  a53 := Try.isAgg111
  z53 := Try.sizeOf111
  v53 := Try.zeroValue111 }
theorem Try.bits_Len (x : Int) (w : World) (h0 : 0 ≤ x) (h1 : x ≤ 18446744073709551615) :
    Calls Try.prog 70 #[.int .u64 x] w fun e w' => e = .returned (.int .i64 (Lib.bitLen x.toNat)) ∧ w' = w := Any.bits_Len Try.lays125 x w h0 h1
def Try.lays137_ren : Go.Shelf.Ren := ⟨fun | 137 => 50 | 217 => 67 | 266 => 76 | n => n, fun | 9 => 9 | 5 => 5 | 3 => 3 | n => n, fun | n => n⟩
theorem Try.lays137 : Go.Proofs.Lays.n137 Try.prog Try.lays137_ren := {
  mixed := by kernel_rfl
  f137 := Try.func50.trans (congrArg some (by kernel_rfl))
  f217 := Try.func67.trans (congrArg some (by kernel_rfl))
  f266 := Try.func76.trans (congrArg some (by kernel_rfl))
  t3 := Try.underlying3
  a3 := Try.isAgg3
  z3 := Try.sizeOf3
  v3 := Try.zeroValue3
  t5 := Try.underlying5
  a5 := Try.isAgg5
  z5 := Try.sizeOf5
  v5 := Try.zeroValue5
  t9 := Try.underlying9
  a9 := Try.isAgg9
  z9 := Try.sizeOf9
  v9 := Try.zeroValue9 }
open Go.RowKit in
theorem Try.strings_IndexByte (s : ByteArray) (c : Int) (w : World) :
    Calls Try.prog 50 #[.string s, .int .u8 c] w fun e w' => e = .returned (.int .i64 (Lib.indexByte s.data.toList c.toNat.toUInt8)) ∧ w' = w := Any.strings_IndexByte Try.lays137 s c w
def Try.lays215_ren : Go.Shelf.Ren := ⟨fun | 215 => 92 | n => n, fun | 3 => 3 | 4 => 4 | n => n, fun | n => n⟩
theorem Try.lays215 : Go.Proofs.Lays.n215 Try.prog Try.lays215_ren := {
  mixed := by kernel_rfl
  f215 := Try.func92.trans (congrArg some (by kernel_rfl))
  t3 := Try.underlying3
  a3 := Try.isAgg3
  z3 := Try.sizeOf3
  v3 := Try.zeroValue3
  t4 := Try.underlying4
  a4 := Try.isAgg4
  z4 := Try.sizeOf4
  v4 := Try.zeroValue4 }
open Go.RowKit in
theorem Try.cmp_isNaN_int (x : Int) (w : World) :
    Calls Try.prog 92 #[.int .i64 x] w fun e w' => e = .returned (.bool false) ∧ w' = w := Any.cmp_isNaN_int Try.lays215 x w
def Try.lays122_ren : Go.Shelf.Ren := ⟨fun | 122 => 91 | 215 => 92 | n => n, fun | 3 => 3 | 4 => 4 | n => n, fun | n => n⟩
theorem Try.lays122 : Go.Proofs.Lays.n122 Try.prog Try.lays122_ren := {
  mixed := by kernel_rfl
  f122 := Try.func91.trans (congrArg some (by kernel_rfl))
  f215 := Try.func92.trans (congrArg some (by kernel_rfl))
  t3 := Try.underlying3
  a3 := Try.isAgg3
  z3 := Try.sizeOf3
  v3 := Try.zeroValue3
  t4 := Try.underlying4
  a4 := Try.isAgg4
  z4 := Try.sizeOf4
  v4 := Try.zeroValue4 }
open Go.RowKit in
theorem Try.cmp_Compare_int (x y : Int) (w : World) :
    Calls Try.prog 91 #[.int .i64 x, .int .i64 y] w fun e w' => e = .returned (.int .i64 (Lib.compareInt x y)) ∧ w' = w := Any.cmp_Compare_int Try.lays122 x y w
def Try.lays129_ren : Go.Shelf.Ren := ⟨fun | 129 => 90 | n => n, fun | 53 => 111 | 3 => 3 | 4 => 4 | 46 => 92 | 5 => 5 | 9 => 9 | n => n, fun | n => n⟩
theorem Try.lays129 : Go.Proofs.Lays.n129 Try.prog Try.lays129_ren := {
  mixed := by kernel_rfl
  f129 := Try.func90.trans (congrArg some (by kernel_rfl))
  t3 := Try.underlying3
  a3 := Try.isAgg3
  z3 := Try.sizeOf3
  v3 := Try.zeroValue3
  t4 := Try.underlying4
  a4 := Try.isAgg4
  z4 := Try.sizeOf4
  v4 := Try.zeroValue4
  t5 := Try.underlying5
  a5 := Try.isAgg5
  z5 := Try.sizeOf5
  v5 := Try.zeroValue5
  t9 := Try.underlying9
  a9 := Try.isAgg9
  z9 := Try.sizeOf9
  v9 := Try.zeroValue9
  t46 := Try.underlying92
  a46 := Try.isAgg92
  z46 := Try.sizeOf92
  v46 := Try.zeroValue92
  t53 := Try.underlying111
  a53 := Try.isAgg111
  z53 := Try.sizeOf111
  v53 := Try.zeroValue111 }
theorem Try.bits_Len64 (x : Int) (w : World) (h0 : 0 ≤ x) (h1 : x ≤ 18446744073709551615) :
    Calls Try.prog 90 #[.int .u64 x] w fun e w' => e = .returned (.int .i64 (Lib.bitLen x.toNat)) ∧ w' = w := Any.bits_Len64 Try.lays129 x w h0 h1
def Try.lays217_ren : Go.Shelf.Ren := ⟨fun | 217 => 67 | 266 => 76 | n => n, fun | 9 => 9 | 5 => 5 | 3 => 3 | n => n, fun | n => n⟩
theorem Try.lays217 : Go.Proofs.Lays.n217 Try.prog Try.lays217_ren := {
  mixed := by kernel_rfl
  f217 := Try.func67.trans (congrArg some (by kernel_rfl))
  f266 := Try.func76.trans (congrArg some (by kernel_rfl))
  t3 := Try.underlying3
  a3 := Try.isAgg3
  z3 := Try.sizeOf3
  v3 := Try.zeroValue3
  t5 := Try.underlying5
  a5 := Try.isAgg5
  z5 := Try.sizeOf5
  v5 := Try.zeroValue5
  t9 := Try.underlying9
  a9 := Try.isAgg9
  z9 := Try.sizeOf9
  v9 := Try.zeroValue9 }
open Go.RowKit Go.Lib in
theorem Try.stringslite_IndexByte (s : ByteArray) (c : Int) (w : World) :
    Calls Try.prog 67 #[.string s, .int .u8 c] w fun e w' => e = .returned (.int .i64 (Lib.indexByte s.data.toList c.toNat.toUInt8)) ∧ w' = w := Any.stringslite_IndexByte Try.lays217 s c w
def Try.lays189_ren : Go.Shelf.Ren := ⟨fun | 189 => 79 | 125 => 70 | 257 => 94 | 128 => 89 | 129 => 90 | 294 => 100 | 295 => 101 | 296 => 102 | 297 => 103 | 298 => 104 | 299 => 105 | 216 => 73 | 300 => 106 | 301 => 107 | 328 => 109 | 329 => 96 | 330 => 97 | 331 => 110 | 332 => 111 | 215 => 92 | 343 => 112 | n => n, fun | 28 => 50 | 3 => 3 | 46 => 92 | 0 => 0 | 51 => 109 | 53 => 111 | 4 => 4 | 183 => 103 | 182 => 102 | 131 => 85 | 5 => 5 | 9 => 9 | 218 => 114 | 222 => 118 | 228 => 125 | 229 => 70 | n => n, fun | n => n⟩
theorem Try.lays189 : Go.Proofs.Lays.n189 Try.prog Try.lays189_ren := {
  mixed := by kernel_rfl
  f125 := Try.func70.trans (congrArg some (by kernel_rfl))
  f128 := Try.func89.trans (congrArg some (by kernel_rfl))
  f129 := Try.func90.trans (congrArg some (by kernel_rfl))
  f189 := Try.func79.trans (congrArg some (by kernel_rfl))
  f215 := Try.func92.trans (congrArg some (by kernel_rfl))
  f216 := Try.func73.trans (congrArg some (by kernel_rfl))
  f257 := Try.func94.trans (congrArg some (by kernel_rfl))
  f294 := Try.func100.trans (congrArg some (by kernel_rfl))
  f295 := Try.func101.trans (congrArg some (by kernel_rfl))
  f296 := Try.func102.trans (congrArg some (by kernel_rfl))
  f297 := Try.func103.trans (congrArg some (by kernel_rfl))
  f298 := Try.func104.trans (congrArg some (by kernel_rfl))
  f299 := Try.func105.trans (congrArg some (by kernel_rfl))
  f300 := Try.func106.trans (congrArg some (by kernel_rfl))
  f301 := Try.func107.trans (congrArg some (by kernel_rfl))
  f328 := Try.func109.trans (congrArg some (by kernel_rfl))
  f329 := Try.func96.trans (congrArg some (by kernel_rfl))
  f330 := Try.func97.trans (congrArg some (by kernel_rfl))
  f331 := Try.func110.trans (congrArg some (by kernel_rfl))
  f332 := Try.func111.trans (congrArg some (by kernel_rfl))
  f343 := Try.func112.trans (congrArg some (by kernel_rfl))
  t0 := Try.underlying0
  a0 := Try.isAgg0
  z0 := Try.sizeOf0
  v0 := Try.zeroValue0
  t3 := Try.underlying3
  a3 := Try.isAgg3
  z3 := Try.sizeOf3
  v3 := Try.zeroValue3
  t4 := Try.underlying4
  a4 := Try.isAgg4
  z4 := Try.sizeOf4
  v4 := Try.zeroValue4
  t5 := Try.underlying5
  a5 := Try.isAgg5
  z5 := Try.sizeOf5
  v5 := Try.zeroValue5
  t9 := Try.underlying9
  a9 := Try.isAgg9
  z9 := Try.sizeOf9
  v9 := Try.zeroValue9
  t28 := Try.underlying50
  a28 := Try.isAgg50
  z28 := Try.sizeOf50
  v28 := Try.zeroValue50
  t46 := Try.underlying92
  a46 := Try.isAgg92
  z46 := Try.sizeOf92
  v46 := Try.zeroValue92
  t51 := Try.underlying109
  a51 := Try.isAgg109
  z51 := Try.sizeOf109
  v51 := Try.zeroValue109
  t53 := Try.underlying111
  a53 := Try.isAgg111
  z53 := Try.sizeOf111
  v53 := Try.zeroValue111
  t131 := Try.underlying85
  a131 := Try.isAgg85
  z131 := Try.sizeOf85
  v131 := Try.zeroValue85
  t182 := Try.underlying102
  a182 := Try.isAgg102
  z182 := Try.sizeOf102
  v182 := Try.zeroValue102
  t183 := Try.underlying103
  a183 := Try.isAgg103
  z183 := Try.sizeOf103
  v183 := Try.zeroValue103
  t218 := Try.underlying114
  a218 := Try.isAgg114
  z218 := Try.sizeOf114
  v218 := Try.zeroValue114
  t222 := Try.underlying118
  a222 := Try.isAgg118
  z222 := Try.sizeOf118
  v222 := Try.zeroValue118
  t228 := Try.underlying125
  a228 := Try.isAgg125
  z228 := Try.sizeOf125
  v228 := Try.zeroValue125
  t229 := Try.underlying70
  a229 := Try.isAgg70
  z229 := Try.sizeOf70
  v229 := Try.zeroValue70 }
open Go.Sort Go.RowKit in
theorem Try.slices_Sort_int (blk off cap : Nat) (zs : List Int) (w : World) (hH : Holds (Value.int .i64) w blk off zs.toArray) (hblk : blk < w.heap.size) (hsz : zs.length < 4611686018427387904) :
    Calls Try.prog 79 #[.slice (some ⟨blk, off, none⟩) zs.length cap] w fun e w' =>
      e = .returned (.tuple #[]) ∧ ∃ n os, w' = grow (putRow (Value.int .i64) (Sort.ahead w n) blk off (zs.mergeSort fun x y => decide (x ≤ y)).toArray) os := Any.slices_Sort_int Try.lays189 blk off cap zs w hH hblk hsz
def Try.lays113_ren : Go.Shelf.Ren := ⟨fun | 113 => 41 | n => n, fun | 28 => 50 | 3 => 3 | 4 => 4 | 9 => 9 | 20 => 20 | 0 => 0 | n => n, fun | n => n⟩
theorem Try.lays113 : Go.Proofs.Lays.n113 Try.prog Try.lays113_ren := {
  mixed := by kernel_rfl
  f113 := Try.func41.trans (congrArg some (by kernel_rfl))
  t0 := Try.underlying0
  a0 := Try.isAgg0
  z0 := Try.sizeOf0
  v0 := Try.zeroValue0
  t3 := Try.underlying3
  a3 := Try.isAgg3
  z3 := Try.sizeOf3
  v3 := Try.zeroValue3
  t4 := Try.underlying4
  a4 := Try.isAgg4
  z4 := Try.sizeOf4
  v4 := Try.zeroValue4
  t9 := Try.underlying9
  a9 := Try.isAgg9
  z9 := Try.sizeOf9
  v9 := Try.zeroValue9
  t20 := Try.underlying20
  a20 := Try.isAgg20
  z20 := Try.sizeOf20
  v20 := Try.zeroValue20
  t28 := Try.underlying50
  a28 := Try.isAgg50
  z28 := Try.sizeOf50
  v28 := Try.zeroValue50 }
open Go.Lib in
theorem Try.slices_Max_int (b off n c : Nat) (zs : List Int) (w : World) (hn : 0 < n) (hz : n ≤ zs.length) (hbig : n ≤ 9223372036854775807) (hc : ∀ j, j < zs.length → w.cell? ⟨b, off + j, none⟩ = some (.int .i64 (zs.getD j 0))) :
    Calls Try.prog 41 #[.slice (some ⟨b, off, none⟩) n c] w fun e w' => e = .returned (.int .i64 (Lib.maxOf (zs.take n))) ∧ w' = w := Any.slices_Max_int Try.lays113 b off n c zs w hn hz hbig hc
def Try.lays114_ren : Go.Shelf.Ren := ⟨fun | 114 => 40 | n => n, fun | 28 => 50 | 3 => 3 | 4 => 4 | 9 => 9 | 20 => 20 | 0 => 0 | n => n, fun | n => n⟩
theorem Try.lays114 : Go.Proofs.Lays.n114 Try.prog Try.lays114_ren := {
  mixed := by kernel_rfl
  f114 := Try.func40.trans (congrArg some (by kernel_rfl))
  t0 := Try.underlying0
  a0 := Try.isAgg0
  z0 := Try.sizeOf0
  v0 := Try.zeroValue0
  t3 := Try.underlying3
  a3 := Try.isAgg3
  z3 := Try.sizeOf3
  v3 := Try.zeroValue3
  t4 := Try.underlying4
  a4 := Try.isAgg4
  z4 := Try.sizeOf4
  v4 := Try.zeroValue4
  t9 := Try.underlying9
  a9 := Try.isAgg9
  z9 := Try.sizeOf9
  v9 := Try.zeroValue9
  t20 := Try.underlying20
  a20 := Try.isAgg20
  z20 := Try.sizeOf20
  v20 := Try.zeroValue20
  t28 := Try.underlying50
  a28 := Try.isAgg50
  z28 := Try.sizeOf50
  v28 := Try.zeroValue50 }
open Go.Lib in
theorem Try.slices_Min_int (b off n c : Nat) (zs : List Int) (w : World) (hn : 0 < n) (hz : n ≤ zs.length) (hbig : n ≤ 9223372036854775807) (hc : ∀ j, j < zs.length → w.cell? ⟨b, off + j, none⟩ = some (.int .i64 (zs.getD j 0))) :
    Calls Try.prog 40 #[.slice (some ⟨b, off, none⟩) n c] w fun e w' => e = .returned (.int .i64 (Lib.minOf (zs.take n))) ∧ w' = w := Any.slices_Min_int Try.lays114 b off n c zs w hn hz hbig hc
def Try.laysNm220_ren : Go.Shelf.Ren := ⟨fun | 20 => 80 | n => n, fun | 22 => 50 | 3 => 3 | 4 => 4 | 0 => 0 | n => n, fun | n => n⟩
theorem Try.laysNm220 : Go.Proofs.Lays2.n20 Try.prog Try.laysNm220_ren := {
  mixed := by kernel_rfl
  f20 := Try.func80.trans (congrArg some (by kernel_rfl))
  t0 := Try.underlying0
  a0 := Try.isAgg0
  z0 := Try.sizeOf0
  v0 := Try.zeroValue0
  t3 := Try.underlying3
  a3 := Try.isAgg3
  z3 := Try.sizeOf3
  v3 := Try.zeroValue3
  t4 := Try.underlying4
  a4 := Try.isAgg4
  z4 := Try.sizeOf4
  v4 := Try.zeroValue4
  t22 := Try.underlying50
  a22 := Try.isAgg50
  z22 := Try.sizeOf50
  v22 := Try.zeroValue50
  i3 := by kernel_rfl }
open Go.RowKit Go.Lib Go.Sort in
theorem Try.slices_Compact_int_arr (blk off cap : Nat) (d : Array Int) (w : World) (hH : Holds encI w blk off d) (hsz : d.size ≤ 9223372036854775807) (hcap : d.size ≤ cap) :
    Calls Try.prog 80 #[.slice (some ⟨blk, off, none⟩) d.size cap] w fun e w' => e = .returned (.slice (some ⟨blk, off, none⟩) (compactUpTo d d.size).length cap) ∧ ∃ q, w' = putRow encI (Sort.ahead w q) blk off (compactUpTo d d.size ++ List.replicate (d.size - (compactUpTo d d.size).length) 0).toArray := Any.slices_Compact_int_arr Try.laysNm220 blk off cap d w hH hsz hcap
open Go.RowKit Go.Lib Go.Sort in
theorem Try.slices_Compact_int (blk off cap : Nat) (zs : List Int) (w : World) (hH : Holds (Value.int .i64) w blk off zs.toArray) (hsz : zs.length ≤ 9223372036854775807) (hcap : zs.length ≤ cap) :
    Calls Try.prog 80 #[.slice (some ⟨blk, off, none⟩) zs.length cap] w fun e w' => e = .returned (.slice (some ⟨blk, off, none⟩) (Lib.compact zs).length cap) ∧ ∃ q, w' = putRow (Value.int .i64) (Sort.ahead w q) blk off (Lib.compact zs ++ List.replicate (zs.length - (Lib.compact zs).length) 0).toArray := Any.slices_Compact_int Try.laysNm220 blk off cap zs w hH hsz hcap
open Go.RowKit Go.Lib Go.Sort in
theorem Try.slices_Compact_int_empty (a : Option Addr) (cap : Nat) (w : World) :
    Calls Try.prog 80 #[.slice a 0 cap] w fun e w' => e = .returned (.slice a 0 cap) ∧ w' = w := Any.slices_Compact_int_empty Try.laysNm220 a cap w
def Try.laysNm237_ren : Go.Shelf.Ren := ⟨fun | 37 => 92 | n => n, fun | 3 => 3 | 4 => 4 | n => n, fun | n => n⟩
theorem Try.laysNm237 : Go.Proofs.Lays2.n37 Try.prog Try.laysNm237_ren := {
  mixed := by kernel_rfl
  f37 := Try.func92.trans (congrArg some (by kernel_rfl))
  t3 := Try.underlying3
  a3 := Try.isAgg3
  z3 := Try.sizeOf3
  v3 := Try.zeroValue3
  t4 := Try.underlying4
  a4 := Try.isAgg4
  z4 := Try.sizeOf4
  v4 := Try.zeroValue4 }
open Go.RowKit Go.Lib in
theorem Try.cmp_isNaN_int2 (x : Int) (w : World) :
    Calls Try.prog 92 #[.int .i64 x] w fun e w' => e = .returned (.bool false) ∧ w' = w := Any.cmp_isNaN_int2 Try.laysNm237 x w
def Try.laysNm232_ren : Go.Shelf.Ren := ⟨fun | 32 => 74 | n => n, fun | 3 => 3 | 4 => 4 | n => n, fun | n => n⟩
theorem Try.laysNm232 : Go.Proofs.Lays2.n32 Try.prog Try.laysNm232_ren := {
  mixed := by kernel_rfl
  f32 := Try.func74.trans (congrArg some (by kernel_rfl))
  t3 := Try.underlying3
  a3 := Try.isAgg3
  z3 := Try.sizeOf3
  v3 := Try.zeroValue3
  t4 := Try.underlying4
  a4 := Try.isAgg4
  z4 := Try.sizeOf4
  v4 := Try.zeroValue4 }
open Go.RowKit Go.Lib in
theorem Try.slices_isNaN_int2 (x : Int) (w : World) :
    Calls Try.prog 74 #[.int .i64 x] w fun e w' => e = .returned (.bool false) ∧ w' = w := Any.slices_isNaN_int2 Try.laysNm232 x w
def Try.laysNm231_ren : Go.Shelf.Ren := ⟨fun | 31 => 73 | 37 => 92 | n => n, fun | 3 => 3 | 4 => 4 | n => n, fun | n => n⟩
theorem Try.laysNm231 : Go.Proofs.Lays2.n31 Try.prog Try.laysNm231_ren := {
  mixed := by kernel_rfl
  f31 := Try.func73.trans (congrArg some (by kernel_rfl))
  f37 := Try.func92.trans (congrArg some (by kernel_rfl))
  t3 := Try.underlying3
  a3 := Try.isAgg3
  z3 := Try.sizeOf3
  v3 := Try.zeroValue3
  t4 := Try.underlying4
  a4 := Try.isAgg4
  z4 := Try.sizeOf4
  v4 := Try.zeroValue4 }
open Go.RowKit Go.Lib in
theorem Try.cmp_Less_int2 (x y : Int) (w : World) :
    Calls Try.prog 73 #[.int .i64 x, .int .i64 y] w fun e w' => e = .returned (.bool (decide (x < y))) ∧ w' = w := Any.cmp_Less_int2 Try.laysNm231 x y w
def Try.laysNm225_ren : Go.Shelf.Ren := ⟨fun | 25 => 62 | 31 => 73 | 32 => 74 | 37 => 92 | n => n, fun | 22 => 50 | 3 => 3 | 4 => 4 | 40 => 92 | 0 => 0 | n => n, fun | n => n⟩
theorem Try.laysNm225 : Go.Proofs.Lays2.n25 Try.prog Try.laysNm225_ren := {
  mixed := by kernel_rfl
  f25 := Try.func62.trans (congrArg some (by kernel_rfl))
  f31 := Try.func73.trans (congrArg some (by kernel_rfl))
  f32 := Try.func74.trans (congrArg some (by kernel_rfl))
  f37 := Try.func92.trans (congrArg some (by kernel_rfl))
  t0 := Try.underlying0
  a0 := Try.isAgg0
  z0 := Try.sizeOf0
  v0 := Try.zeroValue0
  t3 := Try.underlying3
  a3 := Try.isAgg3
  z3 := Try.sizeOf3
  v3 := Try.zeroValue3
  t4 := Try.underlying4
  a4 := Try.isAgg4
  z4 := Try.sizeOf4
  v4 := Try.zeroValue4
  t22 := Try.underlying50
  a22 := Try.isAgg50
  z22 := Try.sizeOf50
  v22 := Try.zeroValue50
  t40 := Try.underlying92
  a40 := Try.isAgg92
  z40 := Try.sizeOf92
  v40 := Try.zeroValue92 }
open Go.RowKit Go.Lib in
theorem Try.slices_BinarySearch_int (b off n c : Nat) (zs : List Int) (x : Int) (w : World) (hz : n ≤ zs.length) (hbig : n < 4611686018427387904) (hc : ∀ j, j < zs.length → w.cell? ⟨b, off + j, none⟩ = some (.int .i64 (zs.getD j 0))) (hs : (zs.take n).Pairwise (· ≤ ·)) :
    Calls Try.prog 62 #[.slice (some ⟨b, off, none⟩) n c, .int .i64 x] w fun e w' => e = .returned (.tuple #[.int .i64 ((zs.take n).countP (· < x) : Nat), .bool ((zs.take n).contains x)]) ∧ ∃ q, w' = w.drewN q := Any.slices_BinarySearch_int Try.laysNm225 b off n c zs x w hz hbig hc hs
open Go.RowKit Go.Lib Go.Sort in
theorem Try.slices_Compact_int_cells (b off n c : Nat) (zs : List Int) (w : World) (hz : n ≤ zs.length) (hbig : n ≤ 9223372036854775807) (hcap : n ≤ c) (hc : ∀ j, j < zs.length → w.cell? ⟨b, off + j, none⟩ = some (.int .i64 (zs.getD j 0))) (hf : ∀ j, j < n → w.frozen? ⟨b, off + j, none⟩ = false) :
    Calls Try.prog 80 #[.slice (some ⟨b, off, none⟩) n c] w fun e w' => e = .returned (.slice (some ⟨b, off, none⟩) (Lib.compact (zs.take n)).length c) ∧ ∃ q, w' = (w.drewN q).setCells b off ((Lib.compact (zs.take n) ++ List.replicate (n - (Lib.compact (zs.take n)).length) 0).map (Value.int .i64)) := Any.slices_Compact_int_cells Try.laysNm220 b off n c zs w hz hbig hcap hc hf
open Go.RowKit Go.Sort in
theorem Try.slices_Sort_int_none (p : Option Addr) (cap : Nat) (w : World) :
    Calls Try.prog 79 #[.slice p 0 cap] w fun e w' => e = .returned (.tuple #[]) ∧ w' = w := Any.slices_Sort_int_none Try.lays189 p cap w
open Go.RowKit Go.Lib in
theorem Try.slices_BinarySearch_int_empty (a : Option Addr) (c : Nat) (x : Int) (w : World) :
    Calls Try.prog 62 #[.slice a 0 c, .int .i64 x] w fun e w' => e = .returned (.tuple #[.int .i64 0, .bool false]) ∧ w' = w := Any.slices_BinarySearch_int_empty Try.laysNm225 a c x w
def Try.laysSlE33_f34_ren : Go.Shelf.Ren := ⟨fun | 33 => 34 | n => n, fun | 22 => 53 | 23 => 4 | 4 => 4 | 3 => 3 | 0 => 0 | n => n, fun | n => n⟩
theorem Try.laysSlE33_f34 : Go.Proofs.SlLaysE.n33 Try.prog Try.laysSlE33_f34_ren := {
  mixed := by kernel_rfl
  f33 := ⟨Try.f34.name, by decide, Try.func34.trans (congrArg some (by kernel_rfl))⟩
  t0 := Try.underlying0
  a0 := Try.isAgg0
  z0 := Try.sizeOf0
  v0 := Try.zeroValue0
  t3 := Try.underlying3
  a3 := Try.isAgg3
  z3 := Try.sizeOf3
  v3 := Try.zeroValue3
  t4 := Try.underlying4
  a4 := Try.isAgg4
  z4 := Try.sizeOf4
  v4 := Try.zeroValue4
  t22 := Try.underlying53
  a22 := Try.isAgg53
  z22 := Try.sizeOf53
  v22 := Try.zeroValue53
  a23 := Try.isAgg4
  z23 := Try.sizeOf4 }
open Go.RowKit Go.Lib in
theorem Try.slices_Equal {α : Type} [Inhabited α] (enc : α → Value) (eq : α → α → Bool) (hne : NeqAt Try.prog 4 enc eq) (b1 o1 n c b2 o2 m d : Nat) (xs ys : List α) (w : World) (hx : n ≤ xs.length) (hy : m ≤ ys.length) (hbig : n ≤ 9223372036854775807) (hbig2 : m ≤ 9223372036854775807) (hc1 : ∀ j, j < xs.length → w.cell? ⟨b1, o1 + j, none⟩ = some (enc xs[j]!)) (hc2 : ∀ j, j < ys.length → w.cell? ⟨b2, o2 + j, none⟩ = some (enc ys[j]!)) :
    Calls Try.prog 34 #[.slice (some ⟨b1, o1, none⟩) n c, .slice (some ⟨b2, o2, none⟩) m d] w fun e w' => e = .returned (.bool (Lib.allEq eq (xs.take n) (ys.take m))) ∧ ∃ q, w' = w.drewN q := AnyE.slices_Equal Try.laysSlE33_f34 enc eq hne b1 o1 n c b2 o2 m d xs ys w hx hy hbig hbig2 hc1 hc2
def Try.laysSlE43_f80_ren : Go.Shelf.Ren := ⟨fun | 43 => 80 | n => n, fun | 22 => 50 | 23 => 3 | 3 => 3 | 4 => 4 | 0 => 0 | n => n, fun | n => n⟩
theorem Try.laysSlE43_f80 : Go.Proofs.SlLaysE.n43 Try.prog Try.laysSlE43_f80_ren := {
  mixed := by kernel_rfl
  f43 := ⟨Try.f80.name, by decide, Try.func80.trans (congrArg some (by kernel_rfl))⟩
  t0 := Try.underlying0
  a0 := Try.isAgg0
  z0 := Try.sizeOf0
  v0 := Try.zeroValue0
  t3 := Try.underlying3
  a3 := Try.isAgg3
  z3 := Try.sizeOf3
  v3 := Try.zeroValue3
  t4 := Try.underlying4
  a4 := Try.isAgg4
  z4 := Try.sizeOf4
  v4 := Try.zeroValue4
  t22 := Try.underlying50
  a22 := Try.isAgg50
  z22 := Try.sizeOf50
  v22 := Try.zeroValue50
  a23 := Try.isAgg3
  z23 := Try.sizeOf3 }
open Go.RowKit Go.Lib Go.Sort in
theorem Try.slices_Compact {α : Type} [Inhabited α] [DecidableEq α] (enc : α → Value) (hO : OneCell enc) (heq : EqlAt Try.prog 3 enc (fun x y => decide (x = y))) (hne : NeqAt Try.prog 3 enc (fun x y => decide (x = y))) (zr : α) (v23 : ∀ w, (zeroValue 3).run Try.prog w = .ok (enc zr) w) (blk off cap : Nat) (d : Array α) (w : World) (hH : Holds enc w blk off d) (hsz : d.size ≤ 9223372036854775807) (hcap : d.size ≤ cap) :
    Calls Try.prog 80 #[.slice (some ⟨blk, off, none⟩) d.size cap] w fun e w' => e = .returned (.slice (some ⟨blk, off, none⟩) (compactUpTo d d.size).length cap) ∧ ∃ q, w' = putRow enc (Sort.ahead w q) blk off (compactUpTo d d.size ++ List.replicate (d.size - (compactUpTo d d.size).length) zr).toArray := AnyE.slices_Compact Try.laysSlE43_f80 enc hO heq hne zr v23 blk off cap d w hH hsz hcap
def Try.laysSlH6_f75_ren : Go.Shelf.Ren := ⟨fun | 6 => 75 | n => n, fun | 22 => 50 | 23 => 3 | 25 => 76 | 3 => 3 | 0 => 0 | 4 => 4 | n => n, fun | n => n⟩
theorem Try.laysSlH6_f75 : Go.Proofs.SlLaysH.n6 Try.prog Try.laysSlH6_f75_ren := {
  mixed := by kernel_rfl
  f6 := ⟨Try.f75.name, by decide, Try.func75.trans (congrArg some (by kernel_rfl))⟩
  t0 := Try.underlying0
  a0 := Try.isAgg0
  z0 := Try.sizeOf0
  v0 := Try.zeroValue0
  t3 := Try.underlying3
  a3 := Try.isAgg3
  z3 := Try.sizeOf3
  v3 := Try.zeroValue3
  t4 := Try.underlying4
  a4 := Try.isAgg4
  z4 := Try.sizeOf4
  v4 := Try.zeroValue4
  t22 := Try.underlying50
  a22 := Try.isAgg50
  z22 := Try.sizeOf50
  v22 := Try.zeroValue50
  a23 := Try.isAgg3
  z23 := Try.sizeOf3
  t25 := Try.underlying76
  a25 := Try.isAgg76
  z25 := Try.sizeOf76
  v25 := Try.zeroValue76 }
open Go.RowKit Go.Lib in
theorem Try.slices_IndexFunc {α : Type} [Inhabited α] (enc : α → Value) (p : α → Bool) (g : Nat) (lb : Array Value) (eg : ∀ args w, (callFunc g args).run Try.prog w = .ok (.enter g args) w) (b off n c : Nat) (zs : List α) (w : World) (hp : PredAt Try.prog g lb enc p w) (hz : n ≤ zs.length) (hbig : n ≤ 9223372036854775807) (hc : ∀ j, j < zs.length → w.cell? ⟨b, off + j, none⟩ = some (enc zs[j]!)) :
    Calls Try.prog 75 #[.slice (some ⟨b, off, none⟩) n c, .func (.func g) #[] lb] w fun e w' => e = .returned (.int .i64 (Lib.idxBy (fun _ y => p y) (zs.take n) default)) ∧ ∃ q, w' = w.drewN q := AnyE.slices_IndexFunc Try.laysSlH6_f75 enc p g lb eg b off n c zs w hp hz hbig hc
open Go.RowKit Go.Lib in
theorem Try.slices_IndexFunc_empty {α : Type} [Inhabited α] (a : Option Addr) (c : Nat) (fv : Value) (w : World) :
    Calls Try.prog 75 #[.slice a 0 c, fv] w fun e w' => e = .returned (.int .i64 (-1)) ∧ w' = w := AnyE.slices_IndexFunc_empty Try.laysSlH6_f75 a c fv w
def Try.laysSlH10_f63_ren : Go.Shelf.Ren := ⟨fun | 10 => 63 | 6 => 75 | n => n, fun | 22 => 50 | 23 => 3 | 25 => 76 | 3 => 3 | 4 => 4 | 0 => 0 | n => n, fun | n => n⟩
theorem Try.laysSlH10_f63 : Go.Proofs.SlLaysH.n10 Try.prog Try.laysSlH10_f63_ren := {
  mixed := by kernel_rfl
  f6 := ⟨Try.f75.name, by decide, Try.func75.trans (congrArg some (by kernel_rfl))⟩
  f10 := ⟨Try.f63.name, by decide, Try.func63.trans (congrArg some (by kernel_rfl))⟩
  t0 := Try.underlying0
  a0 := Try.isAgg0
  z0 := Try.sizeOf0
  v0 := Try.zeroValue0
  t3 := Try.underlying3
  a3 := Try.isAgg3
  z3 := Try.sizeOf3
  v3 := Try.zeroValue3
  t4 := Try.underlying4
  a4 := Try.isAgg4
  z4 := Try.sizeOf4
  v4 := Try.zeroValue4
  t22 := Try.underlying50
  a22 := Try.isAgg50
  z22 := Try.sizeOf50
  v22 := Try.zeroValue50
  a23 := Try.isAgg3
  z23 := Try.sizeOf3
  t25 := Try.underlying76
  a25 := Try.isAgg76
  z25 := Try.sizeOf76
  v25 := Try.zeroValue76 }
open Go.RowKit Go.Lib Go.Sort in
theorem Try.slices_DeleteFunc {α : Type} [Inhabited α] (enc : α → Value) (hO : OneCell enc) (p : α → Bool) (g : Nat) (lb : Array Value) (eg : ∀ args w, (callFunc g args).run Try.prog w = .ok (.enter g args) w) (zr : α) (v23 : ∀ w, (zeroValue 3).run Try.prog w = .ok (enc zr) w) (blk off cap : Nat) (d : Array α) (w : World) (hp : PredAt Try.prog g lb enc p w) (hpo : PredOver Try.prog g lb enc p blk off d.size w) (hH : Holds enc w blk off d) (hsz : d.size ≤ 9223372036854775807) (hcap : d.size ≤ cap) :
    Calls Try.prog 63 #[.slice (some ⟨blk, off, none⟩) d.size cap, .func (.func g) #[] lb] w fun e w' => e = .returned (.slice (some ⟨blk, off, none⟩) (d.toList.filter fun x => !p x).length cap) ∧ ∃ q, w' = putRow enc (Sort.ahead w q) blk off ((d.toList.filter fun x => !p x) ++ List.replicate (d.size - (d.toList.filter fun x => !p x).length) zr).toArray := AnyE.slices_DeleteFunc Try.laysSlH10_f63 enc hO p g lb eg zr v23 blk off cap d w hp hpo hH hsz hcap
end Go.Proofs
namespace Go.Proofs.Ytlgjhmenjfmpfaa.Chg
open Go.RowKit

set_option maxHeartbeats 400000 in
theorem wcheck_any (q : Int) (s : ByteArray) (w : World) (hs : s.size ≤ maxLen) :
    Calls Try.prog 35 #[.int .i64 q, .string s] w fun e w' => e = .returned (.int .i64 (wchk q s.data.toList)) ∧ Dr w w' := by
  unfold maxLen at hs
  have hl : s.data.toList.length = s.size := by simp
  by_cases h1 : q < 1
  · have HP := hidI (wchk_alpha q s.data.toList (.inl h1))
    go_enter Try.func35, Try.ntmps35
    go_wp2_with (go_at_call 49; refine (known_f _ _ (.inl h1)).mono ?_; rintro e w' ⟨rfl, rfl⟩)
    go_ret
    exact ⟨ret_int HP.out.symm, Dr.refl _⟩
  by_cases h2 : 16 < q
  · have HP := hidI (wchk_alpha q s.data.toList (.inr h2))
    go_enter Try.func35, Try.ntmps35
    go_wp2_with (go_at_call 49; refine (known_f _ _ (.inr h2)).mono ?_; rintro e w' ⟨rfl, rfl⟩)
    go_ret
    exact ⟨ret_int HP.out.symm, Dr.refl _⟩
  by_cases h3 : 65536 < s.size
  · have HP := hidI (wchk_long q s.data.toList (by omega) (by omega) (by omega))
    clear hl
    go_enter Try.func35, Try.ntmps35
    go_wp2_with (go_at_call 49; refine (known_t _ _ (by omega) (by omega)).mono ?_; rintro e w' ⟨rfl, rfl⟩)
    go_ret
    exact ⟨ret_int HP.out.symm, Dr.refl _⟩
  have HB := hidI (wchk_bad q s.data.toList (by omega) (by omega) (by omega))
  have HO := hidI (wchk_ok q s.data.toList (by omega) (by omega) (by omega))
  clear hl
  go_enter Try.func35, Try.ntmps35
  go_wp2_with (go_at_call 49; refine (known_t _ _ (by omega) (by omega)).mono ?_; rintro e w' ⟨rfl, rfl⟩)
  go_loopw [16] (fun i wr => ∃ k : Nat, k ≤ s.size ∧ i = .int .i64 k ∧ Hid (okw q (s.data.toList.take k) = true) ∧ Dr w wr) (fun i _ => s.size - (intOf i).toNat)
  case atStart => exact ⟨0, by omega, rfl, by simp [Hid, okw], Dr.refl _⟩
  case round =>
    obtain ⟨k, hk, rfl, hj, hD⟩ := hrel
    by_cases hlt : k < s.size
    · go_wp2_with fail
      have hq0 : 0 ≤ q := by omega
      have hq0' : 1 ≤ q := by omega
      have hq16 : q ≤ 16 := by omega
      go_quiet ((go_at_call 50; exact Calls.quiet_of_same (Try.strings_IndexByte _ _ _)))
      go_wp2
      · have hc := idx_lt q s[k] hq0' hq16 ‹_›
        go_ret
        exact ⟨ret_int (HB.out (okw_bad q s k hlt hc)).symm, hD.one _⟩
      · have hc := idx_ge q s[k] hq0' hq16 ‹_›
        go_roundw
        case rel => exact ⟨k + 1, by omega, by go_num, okw_snoc q s k hlt hj.out hc, hD.one _⟩
        case measure => simp [intOf]; omega
    · have HP := hidI (HO.out (okw_of_take q _ k (by simp; omega) hj.out))
      go_wp2
      go_ret
      exact ⟨ret_int HP.out.symm, hD⟩
end Go.Proofs.Ytlgjhmenjfmpfaa.Chg
namespace Go.Proofs.Ytlgjhmenjfmpfaa.Chg
open Go.RowKit

theorem infoInt : (Try.prog.info? 3).map (fun i => (i.zero, i.size, i.bytes)) = some (some (.int .i64 0), 1, 8) := by kernel_rfl

set_option maxRecDepth 100000 in
set_option maxHeartbeats 400000 in
theorem charges0_any (s : ByteArray) (w : World) (hs : s.size ≤ 65536) :
    Calls Try.prog 53 #[.string s] w fun e w' => ∃ v, e = .returned v ∧
      w'.ownsRow w.heap.size 3 1 v (s.size + 1) (cint (sus (vAt false s) s.size)) ∧ Below w.heap.size w w' := by
  obtain ⟨i0, hi, hz0, hz1, hz2⟩ := info_parts infoInt
  go_enter Try.func53, Try.ntmps53
  go_wp2
  go_loopw [3, 9] (fun v i wr => ∃ k : Nat, k ≤ s.size ∧ i = .int .i64 k ∧ wr.ownsRow w.heap.size 3 1 v (k + 1) (cint (sus (vAt false s) k)) ∧ Below w.heap.size w wr) (fun _ i _ => s.size - (intOf i).toNat)
  case atStart => exact ⟨0, by omega, rfl, own_new w w.heap.size [.int .i64 0] 3 (Nat.le_refl _) (by simp [maxLen]), (Below.refl _ _).alloc (Nat.le_refl _) _⟩
  case round =>
    obtain ⟨k, hk, rfl, hown, hB⟩ := hrel
    obtain ⟨g, cap, rfl⟩ := ownsRow_succ hown
    by_cases hlt : k < s.size
    · have hbk := Su_bd _ (vAt_bd false s) k
      have hcell : wr.cell? ⟨g, k, none⟩ = some (.int .i64 (Su (vAt false s) k)) := (hown.cellAt k (by omega)).trans (cint_get _ _ _ (sus_get _ _ _ (Nat.le_refl _)))
      have hv := hidI (vAt_f s k hlt)
      go_wp2_with (at_builtin; refine wpList_append_own _ rfl _ _ 50 rfl w.heap.size 3 i0 (.int .i64 0) 1 8 Try.underlying50 hi hz0 hz1 hz2 rfl (by decide) _ _ _ rfl (hown.alloc _) ⟨wr.heap.size, 0, none⟩ 1 1 _ rfl rfl (cell_one_new _ _ _) (by simp [Value.oneCell']) (by simp [maxLen]; omega) (by omega) (by have := hB.size; simp; omega) ?_; intro v' w1 hown' hgrow _)
      · have hx := (hv.out.trans (val1_t _ ‹_›))
        have hr := hown'
        rw [← cint_snoc, Su_st _ k _ hx, ← sus_snoc] at hr
        go_roundw
        case rel => exact ⟨k + 1, by omega, by go_num, hr, (hB.alloc hB.size _).grown hgrow (by simp; have := hB.size; omega) (fun j e => by cases e; exact (hown.lt _ rfl).1)⟩
        case measure => simp [intOf]; omega
      · have hx := (hv.out.trans (val1_f _ ‹_›))
        have hr := hown'
        rw [← cint_snoc, Su_st _ k _ hx, ← sus_snoc] at hr
        go_roundw
        case rel => exact ⟨k + 1, by omega, by go_num, hr, (hB.alloc hB.size _).grown hgrow (by simp; have := hB.size; omega) (fun j e => by cases e; exact (hown.lt _ rfl).1)⟩
        case measure => simp [intOf]; omega
    · obtain rfl : k = s.size := by omega
      go_wp2
      go_ret
      exact ⟨_, rfl, hown, hB⟩

set_option maxHeartbeats 400000 in
theorem charges_ok (s : ByteArray) (w : World) (hs : s.size ≤ maxLen) (hc : wchk 2 s.data.toList = 0) :
    Calls Try.prog 39 #[.string s] w fun e w' => ∃ v, e = .returned (.tuple #[v, .int .i64 0]) ∧
      w'.ownsRow w.heap.size 3 1 v (s.size + 1) (cint (sus (vAt false s) s.size)) ∧ Below w.heap.size w w' := by
  have hl := wchk_long2 s hc
  go_enter Try.func39, Try.ntmps39
  have HC := hidI hc; clear hc
  go_wp2_with fail
  refine (wcheck_any 2 s _ hs).mono ?_
  rintro e w1 ⟨rfl, hD⟩
  rw [HC.out]
  go_wp2_with fail
  refine (charges0_any s _ hl).mono ?_
  rintro e w2 ⟨v, rfl, hown, hB⟩
  go_wp2
  go_ret2
  have hz : w1.heap.size = w.heap.size := by obtain ⟨k, rfl⟩ := hD; rfl
  rw [hz] at hown hB
  exact ⟨_, rfl, hown, (hD.below _).trans hB⟩

set_option maxHeartbeats 400000 in
theorem charges_bad (s : ByteArray) (w : World) (hs : s.size ≤ maxLen) (hc : wchk 2 s.data.toList ≠ 0) :
    Calls Try.prog 39 #[.string s] w fun e w' => e = .returned (.tuple #[.slice none 0 0, .int .i64 (wchk 2 s.data.toList)]) ∧ Dr w w' := by
  have hc' : (wchk 2 s.data.toList == 0) = false := by simpa using hc
  clear hc
  go_enter Try.func39, Try.ntmps39
  go_wp2_with fail
  refine (wcheck_any 2 s _ hs).mono ?_
  rintro e w1 ⟨rfl, hD⟩
  go_wp2
  go_ret2
  exact ⟨rfl, hD⟩

set_option maxHeartbeats 400000 in
theorem range_ok (s : ByteArray) (w : World) (hs : s.size ≤ maxLen) (hc : wchk 2 s.data.toList = 0) :
    Calls Try.prog 17 #[.string s] w fun e w' => e = .returned (.tuple #[.int .i64 (Lo (vAt false s) s.size), .int .i64 (Hi (vAt false s) s.size), .int .i64 0]) ∧ Below w.heap.size w w' := by
  have hl := wchk_long2 s hc
  have HLo := hidI (minOf_sus (vAt false s) s.size)
  have HHi := hidI (maxOf_sus (vAt false s) s.size)
  go_enter Try.func17, Try.ntmps17
  go_wp2_with fail
  refine (charges_ok s _ hs hc).mono ?_
  clear hc
  rintro e w1 ⟨v, rfl, hown, hB⟩
  obtain ⟨g, cap, rfl⟩ := ownsRow_succ hown
  have hcell := hidI (own_cells hown)
  go_wp2_with (first | (go_at_call 40; refine (Try.slices_Min_int _ 0 _ _ (sus (vAt false s) s.size) _ (by omega) (by rw [sus_len]; omega) (by omega) hcell.out).mono ?_; rintro e w' ⟨rfl, rfl⟩) | (go_at_call 41; refine (Try.slices_Max_int _ 0 _ _ (sus (vAt false s) s.size) _ (by omega) (by rw [sus_len]; omega) (by omega) hcell.out).mono ?_; rintro e w' ⟨rfl, rfl⟩))
  go_ret3
  refine ⟨ret_iii ?_, hB⟩
  rw [List.take_of_length_le (by rw [sus_len]; omega), HLo.out, HHi.out]

set_option maxHeartbeats 400000 in
theorem range_bad (s : ByteArray) (w : World) (hs : s.size ≤ maxLen) (hc : wchk 2 s.data.toList ≠ 0) :
    Calls Try.prog 17 #[.string s] w fun e w' => e = .returned (.tuple #[.int .i64 0, .int .i64 0, .int .i64 (wchk 2 s.data.toList)]) ∧ Dr w w' := by
  have hc' : (wchk 2 s.data.toList == 0) = false := by simpa using hc
  go_enter Try.func17, Try.ntmps17
  go_wp2_with fail
  refine (charges_bad s _ hs hc).mono ?_
  clear hc
  rintro e w1 ⟨rfl, hD⟩
  go_wp2
  go_ret3
  exact ⟨rfl, hD⟩

set_option maxHeartbeats 400000 in
theorem valid_any (n : Int) (s : ByteArray) (w : World) (hs : s.size ≤ maxLen) :
    Calls Try.prog 18 #[.int .i64 n, .string s] w fun e w' => e = .returned (.tuple #[.bool (vld false 63 n s).1, .int .i64 (vld false 63 n s).2]) ∧ Below w.heap.size w w' := by
  by_cases h1 : n < 1
  · have HP := hidI (vld_out false 63 n s (.inl h1))
    go_enter Try.func18, Try.ntmps18
    go_wp2
    go_ret2
    exact ⟨ret_bi HP.out, Below.refl _ _⟩
  by_cases h2 : 64 ≤ n
  · have HP := hidI (vld_out false 63 n s (.inr h2))
    go_enter Try.func18, Try.ntmps18
    go_wp2
    go_ret2
    exact ⟨ret_bi HP.out, Below.refl _ _⟩
  by_cases hc : wchk 2 s.data.toList = 0
  · have HP := hidI (vld_ok false 63 n s (by omega) (by omega) hc)
    have hl := wchk_long2 s hc
    have HW : Hid (wid false s = Hi (vAt false s) s.size - Lo (vAt false s) s.size) := rfl
    have bL := Lo_bd _ (vAt_bd false s) s.size
    have bH := Hi_bd _ (vAt_bd false s) s.size
    go_enter Try.func18, Try.ntmps18
    go_wp2_with fail
    refine (range_ok s _ hs hc).mono ?_
    clear hc
    rintro e w' ⟨rfl, hB⟩
    go_wp2
    go_ret2
    exact ⟨ret_bi (by rw [HP.out, HW.out]), hB⟩
  · have HP := hidI (vld_bad false 63 n s (by omega) (by omega) hc)
    have hc' : (wchk 2 s.data.toList == 0) = false := by simpa using hc
    go_enter Try.func18, Try.ntmps18
    go_wp2_with fail
    refine (range_bad s _ hs hc).mono ?_
    clear hc
    rintro e w' ⟨rfl, hD⟩
    go_wp2
    go_ret2
    exact ⟨ret_bi HP.out, hD.below _⟩
end Go.Proofs.Ytlgjhmenjfmpfaa.Chg
