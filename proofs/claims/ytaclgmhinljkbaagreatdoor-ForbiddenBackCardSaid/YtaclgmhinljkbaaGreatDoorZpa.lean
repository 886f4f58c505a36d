/-
  Words, plain lemmas and walks, merged: ChPlain, ChPlainB, ChWa, ChWb.
-/
import Derived.Below
import Derived.Lib.Slices
import Derived.Lib.Bytealg
import Derived.Deep.QuietTactic
import Derived.WalkKit
import Derived.WalkSpells
import Derived.RangeFuncBox
import Derived.RangeFuncNested
import Derived.Test.YtaclgmhinljkbaaGreatDoorProg
import Derived.WalkLawsBesides
import Derived.BigQuiet
set_option linter.unusedVariables false
set_option linter.unusedSimpArgs false
namespace Go.Proofs.YtaclgmhinljkbaaGreatDoor.Chg
open Go.RowKit

theorem hidI {p : Prop} (h : p) : Hid p := h
theorem ret_int {k : IntKind} {a b : Int} (h : a = b) : Ending.returned (.int k a) = .returned (.int k b) := by rw [h]
theorem ret_bool {a b : Bool} (h : a = b) : Ending.returned (.bool a) = .returned (.bool b) := by rw [h]

/-- Nothing but draws has happened. -/
def Dr (w w' : World) : Prop := ∃ n, w' = w.drewN n
theorem Dr.refl (w : World) : Dr w w := ⟨0, rfl⟩
theorem Dr.one {w w' : World} (h : Dr w w') (n : Nat) : Dr w (w'.drewN n) := by
  obtain ⟨k, rfl⟩ := h; exact ⟨k + n, by simp [World.drewN, Nat.add_assoc]⟩
theorem Dr.trans {a b c : World} (h : Dr a b) (k : Dr b c) : Dr a c := by
  obtain ⟨n, rfl⟩ := k; exact h.one n
theorem Dr.below {w w' : World} (h : Dr w w') (B : Nat) : Below B w w' := by
  obtain ⟨k, rfl⟩ := h; exact ⟨rfl, rfl, rfl, Nat.le_refl _, fun _ _ => rfl⟩
theorem Dr.cell {w w' : World} (h : Dr w w') (p : Addr) : w'.cell? p = w.cell? p := by obtain ⟨k, rfl⟩ := h; rfl
theorem quiet_Dr {P : Program} {f : FuncId} {args : Array Value} {w : World} {n : Nat} {v : Value}
    (h : Calls P f args (w.drewN n) fun e w' => e = .returned v ∧ Dr (w.drewN n) w') : Calls P f args (w.drewN n) fun e w'' => e = .returned v ∧ ∃ m, w'' = w.drewN m :=
  h.mono fun _ _ ⟨he, hm⟩ => ⟨he, (Dr.one (Dr.refl w) n).trans hm⟩

/-- One block is as it was. -/
def KH (B : Nat) (W W' : World) : Prop := W'.heap[B]? = W.heap[B]?
theorem KH.refl (B : Nat) (W : World) : KH B W W := rfl
theorem KH.trans {B : Nat} {X Y Z : World} (h : KH B X Y) (k : KH B Y Z) : KH B X Z := Eq.trans k h
theorem KH.of_below {B n : Nat} {X Y : World} (h : Below n X Y) (hn : B < n) : KH B X Y := h.block B hn
theorem KH_b {B n : Nat} (hn : B < n) (W : World) (l : Nat) (o o' : Obj) (hl : n ≤ l) (_ : W.heap[l]? = some o) (_ : o.isCells = false) (_ : o.isWalk = false) : KH B W (W.putObj l o') :=
  World.putObj_heap_other (by omega)
theorem KH.boxed {B : Nat} {t : TypeId} {v : Value} {W W' : World} (h : KH B W W') (hb : Boxed W B t v) : Boxed W' B t v := Eq.trans h hb
theorem KH.set {B C i : Nat} (W : World) (v : Value) (h : B ≠ C) : KH B W (W.setCell ⟨C, i, none⟩ v) := Below.heap_setCell _ _ _ _ h
theorem boxed_set_other {B C : Nat} {t : TypeId} {u : Value} {W : World} (v : Value) (hb : Boxed W B t u) (h : B ≠ C) : Boxed (W.setCell ⟨C, 0, none⟩ v) B t u := (KH.set W v h).boxed hb

theorem below_put {w W : World} {D : Nat} (hB : Below w.heap.size w W) (hD : w.heap.size ≤ D) (hK : W.heap[D]? = some (.deferred (some []))) (o : Obj) : Below w.heap.size w (W.putObj D o) :=
  hB.trans (belowK_b (w := w) (Nat.le_refl _) W D _ o hD hK rfl rfl)
/-- A block that is a row of values. -/
def VRow (W : World) (B t : Nat) (l : List Value) : Prop := W.heap[B]? = some (.cells l.toArray t (0, 0))
theorem VRow.lt {W : World} {B t : Nat} {l : List Value} (h : VRow W B t l) : B < W.heap.size := (Array.getElem?_eq_some_iff.1 h).1
theorem VRow.cell {W : World} {B t : Nat} {l : List Value} (h : VRow W B t l) (i : Nat) : W.cell? ⟨B, i, none⟩ = l[i]? := by
  simp [World.cell?, show W.heap[B]? = _ from h]
theorem VRow.frozen {W : World} {B t : Nat} {l : List Value} (h : VRow W B t l) (i : Nat) : W.frozen? ⟨B, i, none⟩ = false := by
  simp [World.frozen?, show W.heap[B]? = _ from h]
theorem VRow.new (W : World) (t : Nat) (l : List Value) : VRow (W.alloc (.cells l.toArray t)) W.heap.size t l := World.alloc_heap_new W _
theorem VRow.kh {W W' : World} {B t : Nat} {l : List Value} (h : VRow W B t l) (k : KH B W W') : VRow W' B t l := Eq.trans k h
theorem VRow.alloc {W : World} {B t : Nat} {l : List Value} (h : VRow W B t l) (o : Obj) : VRow (W.alloc o) B t l := (Below.heap_alloc W o B h.lt).trans h
theorem VRow.below {W W' : World} {B t n : Nat} {l : List Value} (h : VRow W B t l) (k : Below n W W') (hn : B < n) : VRow W' B t l := (k.block B hn).trans h
theorem VRow.other {W : World} {B C t i : Nat} {l : List Value} (v : Value) (h : VRow W B t l) (hn : B ≠ C) : VRow (W.setCell ⟨C, i, none⟩ v) B t l := (Below.heap_setCell _ _ _ _ hn).trans h
theorem VRow.set {W : World} {B t i : Nat} {l : List Value} (v : Value) (h : VRow W B t l) : VRow (W.setCell ⟨B, i, none⟩ v) B t (l.set i v) := by
  obtain ⟨hlt, hk⟩ := Array.getElem?_eq_some_iff.1 h
  show (W.heap.modify B _)[B]? = _
  rw [Array.getElem?_eq_getElem (by rw [Array.size_modify]; exact hlt), Array.getElem_modify_self, hk]
  simp
theorem VRow.own {β : Type} (B t : Nat) (f : β → List Value) : Own (fun s W => VRow W B t (f s)) := fun s X Y row hs hg hrow =>
  (hg.block B (VRow.lt hs) (fun e => by
    obtain ⟨o, ho, hc⟩ := hrow B e.symm
    rw [show X.heap[B]? = _ from hs] at ho; cases ho; cases hc)).trans hs
theorem VRow.put {W : World} {B t l : Nat} {o : Obj} {r : List Value} (o' : Obj) (h : VRow W B t r) (hl : W.heap[l]? = some o) (ho : o.isCells = false) : VRow (W.putObj l o') B t r :=
  (World.putObj_heap_other (fun e => by subst e; rw [show W.heap[B]? = _ from h] at hl; cases hl; cases ho)).trans h

/-- A new block that is a whole row. -/
theorem own_new (w : World) (B : Nat) (xs : List Value) (e : TypeId) (hB : B ≤ w.heap.size) (hm : xs.length ≤ maxLen) :
    (w.alloc (.cells xs.toArray e)).ownsRow B e 1 (.slice (some ⟨w.heap.size, 0, none⟩) xs.length xs.length) xs.length xs :=
  ⟨by simp, .inr ⟨w.heap.size, _, _, rfl, hB, heap_alloc_new w _, Nat.le_refl _, hm, by simp, by simp⟩⟩

/-- A slice's elements in memory, each of one cell. -/
def Sl {α : Type} (w : World) (enc : α → Value) (p : Option Addr) (l : List α) : Prop :=
  l = [] ∨ ∃ b off, p = some ⟨b, off, none⟩ ∧ b < w.heap.size ∧ ∀ i (h : i < l.length), w.cell? ⟨b, off + i, none⟩ = some (enc l[i])
theorem Sl.nil {α : Type} (w : World) (enc : α → Value) (p : Option Addr) : Sl w enc p ([] : List α) := .inl rfl
theorem Sl.below {α : Type} {w w' : World} {enc : α → Value} {p : Option Addr} {l : List α} (h : Sl w enc p l) (hB : Below w.heap.size w w') : Sl w' enc p l := by
  rcases h with h | ⟨b, off, hp, hb, hc⟩
  · exact .inl h
  · exact .inr ⟨b, off, hp, Nat.lt_of_lt_of_le hb hB.size, fun i hi => (hB.cell (p := ⟨b, off + i, none⟩) hb).trans (hc i hi)⟩
theorem Sl.dr {α : Type} {w w' : World} {enc : α → Value} {p : Option Addr} {l : List α} (h : Sl w enc p l) (hD : Dr w w') : Sl w' enc p l := h.below (hD.below _)
theorem Sl.get {α : Type} {w : World} {enc : α → Value} {p : Option Addr} {l : List α} (h : Sl w enc p l) (k : Nat) (hk : k < l.length) :
    ∃ b off, p = some ⟨b, off, none⟩ ∧ b < w.heap.size ∧ ∀ i (h : i < l.length), w.cell? ⟨b, off + i, none⟩ = some (enc l[i]) := by
  rcases h with h | h
  · subst h; simp at hk
  · exact h
theorem own_sl {α : Type} {w : World} {B e n : Nat} {v : Value} {enc : α → Value} {l : List α} (h : w.ownsRow B e 1 v n (l.map enc)) :
    ∃ p cap, v = .slice p l.length cap ∧ Sl w enc p l := by
  have hn : l.length = n := by have := h.1; simpa using this
  rcases h.2 with ⟨rfl, h0⟩ | ⟨g, cap, cur, rfl, hg, hh, _⟩
  · subst h0
    have : l = [] := List.length_eq_zero_iff.1 hn
    subst this
    exact ⟨none, 0, rfl, Sl.nil _ _ _⟩
  · refine ⟨some ⟨g, 0, none⟩, cap, by rw [hn], ?_⟩
    refine .inr ⟨g, 0, rfl, (Array.getElem?_eq_some_iff.1 hh).1, fun i hi => ?_⟩
    rw [Nat.zero_add, h.cellAt i (by omega)]
    simp [hi]

/-- The value of a letter of a binary word. -/
def val1 (c : Int) : Int := if c = 49 then 1 else -1
theorem val1_t (c : Int) (h : (c == 49) = true) : val1 c = 1 := by simp at h; simp [val1, h]
theorem val1_f (c : Int) (h : (c == 49) = false) : val1 c = -1 := by simp at h; simp [val1, h]
theorem val1_bd (c : Int) : -1 ≤ val1 c ∧ val1 c ≤ 1 := by unfold val1; split <;> omega

/-- The letters of all alphabets. -/
def letv (k : Nat) : Int := if k < 10 then 48 + k else 87 + k
def dig (c : Int) : Int := if 48 ≤ c ∧ c ≤ 57 then c - 48 else if 97 ≤ c ∧ c ≤ 102 then c - 87 else -1
theorem dig_letv (k : Nat) (h : k < 16) : dig (letv k) = k := by
  unfold dig letv; split <;> split <;> (try split) <;> omega
theorem dig_none (c : Int) (h : ∀ j, j < 16 → letv j ≠ c) : dig c = -1 := by
  unfold dig
  split
  · have := h (c - 48).toNat (by omega); unfold letv at this; rw [if_pos (by omega)] at this; omega
  · split
    · have := h (c - 87).toNat (by omega); unfold letv at this; rw [if_neg (by omega)] at this; omega
    · rfl
theorem dig_bd (c : Int) : -1 ≤ dig c ∧ dig c ≤ 15 := by unfold dig; split <;> (try split) <;> omega
def letb : ByteArray := ⟨#[48, 49, 50, 51, 52, 53, 54, 55, 56, 57, 97, 98, 99, 100, 101, 102]⟩
theorem letb_get (k : Nat) (h : k < 16) : ((letb[k]'(show k < letb.size from h)).toNat : Int) = letv k := by
  revert h; revert k; decide

/-- A letter is among the first q. -/
def okc (q : Int) (c : UInt8) : Bool := decide (0 ≤ dig c.toNat) && decide (dig c.toNat < q)
def okw (q : Int) (l : List UInt8) : Bool := l.all (okc q)
theorem idx_tab : ∀ q, q < 17 → ∀ c, c < 256 → decide (Lib.indexByte (List.take q [48, 49, 50, 51, 52, 53, 54, 55, 56, 57, 97, 98, 99, 100, 101, 102]) (UInt8.ofNat c) < 0) = !okc (q : Int) (UInt8.ofNat c) := by
  decide +kernel
theorem idx_okc (q : Int) (c : UInt8) (h1 : 1 ≤ q) (h2 : q ≤ 16) :
    decide (Lib.indexByte (List.take q.toNat [48, 49, 50, 51, 52, 53, 54, 55, 56, 57, 97, 98, 99, 100, 101, 102]) c < 0) = !okc q c := by
  have h := idx_tab q.toNat (by omega) c.toNat c.toNat_lt
  rw [UInt8.ofNat_toNat, Int.toNat_of_nonneg (by omega)] at h
  exact h
theorem idx_lt (q : Int) (c : UInt8) (h1 : 1 ≤ q) (h2 : q ≤ 16)
    (h : Lib.indexByte (List.take q.toNat [48, 49, 50, 51, 52, 53, 54, 55, 56, 57, 97, 98, 99, 100, 101, 102]) c < 0) : okc q c = false := by
  have := idx_okc q c h1 h2; rw [decide_eq_true h] at this; cases hh : okc q c <;> simp_all
theorem idx_ge (q : Int) (c : UInt8) (h1 : 1 ≤ q) (h2 : q ≤ 16)
    (h : 0 ≤ Lib.indexByte (List.take q.toNat [48, 49, 50, 51, 52, 53, 54, 55, 56, 57, 97, 98, 99, 100, 101, 102]) c) : okc q c = true := by
  have := idx_okc q c h1 h2; rw [decide_eq_false (by omega)] at this; cases hh : okc q c <;> simp_all
/-- Why a string is no word. -/
def wchk (q : Int) (l : List UInt8) : Int := if q < 1 ∨ 16 < q then 12 else if 65536 < l.length then 4 else if okw q l then 0 else 13
theorem wchk_alpha (q : Int) (l : List UInt8) (h : q < 1 ∨ 16 < q) : wchk q l = 12 := by simp [wchk, h]
theorem wchk_long (q : Int) (l : List UInt8) (h1 : 1 ≤ q) (h2 : q ≤ 16) (h : 65536 < l.length) : wchk q l = 4 := by
  unfold wchk; rw [if_neg (by omega), if_pos h]
theorem wchk_bad (q : Int) (l : List UInt8) (h1 : 1 ≤ q) (h2 : q ≤ 16) (h3 : l.length ≤ 65536) (h : okw q l = false) : wchk q l = 13 := by
  unfold wchk; rw [if_neg (by omega), if_neg (by omega), h]; rfl
theorem wchk_ok (q : Int) (l : List UInt8) (h1 : 1 ≤ q) (h2 : q ≤ 16) (h3 : l.length ≤ 65536) (h : okw q l = true) : wchk q l = 0 := by
  unfold wchk; rw [if_neg (by omega), if_neg (by omega), h]; rfl
theorem okw_of_take (q : Int) (l : List UInt8) (k : Nat) (h : l.length ≤ k) (hk : okw q (l.take k) = true) : okw q l = true := by
  rwa [List.take_of_length_le h] at hk
theorem take_snoc (s : ByteArray) (k : Nat) (h : k < s.size) : s.data.toList.take (k + 1) = s.data.toList.take k ++ [s[k]] := by
  rw [List.take_succ_eq_append_getElem (by simpa using h)]; rfl
theorem okw_snoc (q : Int) (s : ByteArray) (k : Nat) (h : k < s.size) (hk : okw q (s.data.toList.take k) = true) (hc : okc q s[k] = true) : okw q (s.data.toList.take (k + 1)) = true := by
  rw [take_snoc s k h]; simp [okw] at hk ⊢; exact ⟨hk, hc⟩
theorem okw_bad (q : Int) (s : ByteArray) (k : Nat) (h : k < s.size) (hc : okc q s[k] = false) : okw q s.data.toList = false := by
  rw [Bool.eq_false_iff]; intro hh
  have := List.all_eq_true.1 hh s[k] (by rw [← Array.mem_def]; exact Array.getElem_mem _)
  simp [hc] at this

/-- The value at an offset; with 'turn' those at odd offsets are turned round. -/
def byteAt (s : ByteArray) (i : Nat) : Int := ((s.data.toList[i]?).getD 0).toNat
theorem byteAt_eq (s : ByteArray) (i : Nat) (h : i < s.size) : byteAt s i = (s[i].toNat : Int) := by
  unfold byteAt; rw [List.getElem?_eq_getElem (by simpa using h)]; rfl
def vAt (turn : Bool) (s : ByteArray) (i : Nat) : Int := if turn && decide (i % 2 = 1) then -(val1 (byteAt s i)) else val1 (byteAt s i)
theorem vAt_bd (t : Bool) (s : ByteArray) (i : Nat) : -1 ≤ vAt t s i ∧ vAt t s i ≤ 1 := by
  have := val1_bd (byteAt s i); unfold vAt; split <;> omega
def Su (v : Nat → Int) : Nat → Int | 0 => 0 | k + 1 => Su v k + v k
def Lo (v : Nat → Int) : Nat → Int | 0 => 0 | k + 1 => min (Lo v k) (Su v (k + 1))
def Hi (v : Nat → Int) : Nat → Int | 0 => 0 | k + 1 => max (Hi v k) (Su v (k + 1))
theorem Su_bd (v : Nat → Int) (hv : ∀ i, -1 ≤ v i ∧ v i ≤ 1) (k : Nat) : -(k : Int) ≤ Su v k ∧ Su v k ≤ k := by
  induction k with
  | zero => simp [Su]
  | succ k ih => have := hv k; simp only [Su]; omega
theorem Lo_bd (v : Nat → Int) (hv : ∀ i, -1 ≤ v i ∧ v i ≤ 1) (k : Nat) : -(k : Int) ≤ Lo v k ∧ Lo v k ≤ 0 := by
  induction k with
  | zero => simp [Lo]
  | succ k ih => have := Su_bd v hv (k + 1); simp only [Lo]; omega
theorem Hi_bd (v : Nat → Int) (hv : ∀ i, -1 ≤ v i ∧ v i ≤ 1) (k : Nat) : 0 ≤ Hi v k ∧ Hi v k ≤ k := by
  induction k with
  | zero => simp [Hi]
  | succ k ih => have := Su_bd v hv (k + 1); simp only [Hi]; omega
theorem Su_st (v : Nat → Int) (k : Nat) (x : Int) (h : v k = x) : Su v k + x = Su v (k + 1) := by simp only [Su, h]
theorem Lo_st (v : Nat → Int) (k : Nat) (x : Int) (h : v k = x) : (if Su v k + x < Lo v k then Su v k + x else Lo v k) = Lo v (k + 1) := by
  simp only [Lo, Su, h]; split <;> omega
theorem Hi_st (v : Nat → Int) (k : Nat) (x : Int) (h : v k = x) : (if Hi v k < Su v k + x then Su v k + x else Hi v k) = Hi v (k + 1) := by
  simp only [Hi, Su, h]; split <;> omega
theorem vAt_f (s : ByteArray) (k : Nat) (h : k < s.size) : vAt false s k = val1 s[k].toNat := by simp [vAt, byteAt_eq s k h]
theorem vAt_odd (s : ByteArray) (k : Nat) (h : k < s.size) (hk : ((k : Int) % 2 == 1) = true) : vAt true s k = -val1 s[k].toNat := by
  rw [beq_iff_eq] at hk; simp [vAt, byteAt_eq s k h]; omega
theorem vAt_even (s : ByteArray) (k : Nat) (h : k < s.size) (hk : ((k : Int) % 2 == 1) = false) : vAt true s k = val1 s[k].toNat := by
  rw [beq_eq_false_iff_ne] at hk; simp [vAt, byteAt_eq s k h]; omega
theorem int_eq {k : IntKind} {a b : Int} (h : a = b) : Value.int k a = .int k b := by rw [h]
/-- The range of the charges. -/
def wid (t : Bool) (s : ByteArray) : Int := Hi (vAt t s) s.size - Lo (vAt t s) s.size

/-- The charges of the beginnings, as cells. -/
def sus (v : Nat → Int) (k : Nat) : List Int := (List.range (k + 1)).map (Su v)
theorem sus_len (v : Nat → Int) (k : Nat) : (sus v k).length = k + 1 := by simp [sus]
theorem sus_snoc (v : Nat → Int) (k : Nat) : sus v (k + 1) = sus v k ++ [Su v (k + 1)] := by simp [sus, List.range_succ]
theorem sus_get (v : Nat → Int) (k i : Nat) (h : i ≤ k) : (sus v k)[i]? = some (Su v i) := by
  simp [sus, List.getElem?_range (show i < k + 1 by omega)]
def cint (l : List Int) : List Value := l.map (Value.int .i64)
theorem cint_snoc (l : List Int) (x : Int) : cint (l ++ [x]) = cint l ++ [.int .i64 x] := by simp [cint]
theorem cint_get (l : List Int) (i : Nat) (x : Int) (h : l[i]? = some x) : (cint l)[i]? = some (.int .i64 x) := by simp [cint, h]
theorem own_cells {w : World} {B e g n cap : Nat} {l : List Int} (h : w.ownsRow B e 1 (.slice (some ⟨g, 0, none⟩) n cap) n (cint l)) :
    ∀ j, j < l.length → w.cell? ⟨g, 0 + j, none⟩ = some (.int .i64 (l.getD j 0)) := by
  intro j hj
  have hn : l.length = n := by have := h.1; simpa [cint] using this
  rw [Nat.zero_add, h.cellAt j (by omega)]
  rw [cint_get l j l[j] (List.getElem?_eq_getElem hj), List.getD_eq_getElem?_getD, List.getElem?_eq_getElem hj]; rfl
theorem sus_head (v : Nat → Int) (k : Nat) : (sus v k).headD 0 = 0 := by
  simp [sus, List.range_succ_eq_map, Su]
theorem minOf_sus (v : Nat → Int) (k : Nat) : Lib.minOf (sus v k) = Lo v k := by
  induction k with
  | zero => simp [Lib.minOf, sus, Su, Lo]
  | succ k ih =>
    unfold Lib.minOf at ih ⊢
    rw [sus_head] at ih ⊢
    rw [sus_snoc, List.foldl_append, ih]; rfl
theorem maxOf_sus (v : Nat → Int) (k : Nat) : Lib.maxOf (sus v k) = Hi v k := by
  induction k with
  | zero => simp [Lib.maxOf, sus, Su, Hi]
  | succ k ih =>
    unfold Lib.maxOf at ih ⊢
    rw [sus_head] at ih ⊢
    rw [sus_snoc, List.foldl_append, ih]; rfl
theorem vals_bin (s : ByteArray) (h : wchk 2 s.data.toList = 0) (k : Nat) (hk : k < s.size) : (s[k].toNat : Int) = 48 ∨ (s[k].toNat : Int) = 49 := by
  unfold wchk at h
  rw [if_neg (by omega)] at h
  split at h
  · omega
  split at h
  · rename_i hw
    have := List.all_eq_true.1 hw s[k] (by rw [← Array.mem_def]; exact Array.getElem_mem _)
    simp only [okc, Bool.and_eq_true, decide_eq_true_eq] at this
    revert this
    unfold dig
    split
    · omega
    · split <;> omega
  · omega
/-- The sum, the least and the greatest one, over the offsets of a list. -/
def st1 (t : Bool) (s : ByteArray) (x : Int × Int × Int) (j : Nat) : Int × Int × Int := (x.1 + vAt t s j, min x.2.1 (x.1 + vAt t s j), max x.2.2 (x.1 + vAt t s j))
def stf (t : Bool) (s : ByteArray) (l : List Nat) : Int × Int × Int := l.foldl (st1 t s) (0, 0, 0)
theorem stf_snoc (t : Bool) (s : ByteArray) (l : List Nat) (j : Nat) : stf t s (l ++ [j]) = st1 t s (stf t s l) j := by simp [stf]
theorem stf_bd (t : Bool) (s : ByteArray) (l : List Nat) : (-(l.length : Int) ≤ (stf t s l).1 ∧ (stf t s l).1 ≤ l.length) ∧ (-(l.length : Int) ≤ (stf t s l).2.1 ∧ (stf t s l).2.1 ≤ 0) ∧ (0 ≤ (stf t s l).2.2 ∧ (stf t s l).2.2 ≤ l.length) := by
  have h : ∀ l : List Nat, (-(l.length : Int) ≤ (stf t s l.reverse).1 ∧ (stf t s l.reverse).1 ≤ l.length) ∧ (-(l.length : Int) ≤ (stf t s l.reverse).2.1 ∧ (stf t s l.reverse).2.1 ≤ 0) ∧ (0 ≤ (stf t s l.reverse).2.2 ∧ (stf t s l.reverse).2.2 ≤ l.length) := by
    intro l
    induction l with
    | nil => simp [stf]
    | cons j l ih =>
      have := vAt_bd t s j
      rw [List.reverse_cons, stf_snoc]
      simp only [st1, List.length_cons]
      omega
  have := h l.reverse
  simpa using this
/-- 'Pa' over a list of offsets. -/
def pa1 (n : Int) (v : Nat → Int) (r : Int) (x : Int) (k : Nat) : Int := x + if (n * k) % 4 = r then v k else 0
def paL (n : Int) (v : Nat → Int) (r : Int) (l : List Nat) : Int := l.foldl (pa1 n v r) 0
theorem paL_snoc (n : Int) (v : Nat → Int) (r : Int) (l : List Nat) (j : Nat) : paL n v r (l ++ [j]) = pa1 n v r (paL n v r l) j := by simp [paL]
theorem pa1_hit (n : Int) (v : Nat → Int) (r x : Int) (k : Nat) (h : (n * k) % 4 = r) : pa1 n v r x k = x + v k := by simp [pa1, h]
theorem pa1_miss (n : Int) (v : Nat → Int) (r x : Int) (k : Nat) (h : (n * k) % 4 ≠ r) : pa1 n v r x k = x := by simp [pa1, h]
theorem paL_bd (n : Int) (v : Nat → Int) (r : Int) (hv : ∀ i, -1 ≤ v i ∧ v i ≤ 1) (l : List Nat) : -(l.length : Int) ≤ paL n v r l ∧ paL n v r l ≤ l.length := by
  have h : ∀ l : List Nat, -(l.length : Int) ≤ paL n v r l.reverse ∧ paL n v r l.reverse ≤ l.length := by
    intro l
    induction l with
    | nil => simp [paL]
    | cons j l ih =>
      have := hv j
      rw [List.reverse_cons, paL_snoc]
      simp only [pa1, List.length_cons]
      split <;> omega
  have := h l.reverse
  simpa using this
/-- What Valid and NullValid answer. -/
def vld (t : Bool) (top n : Int) (s : ByteArray) : Bool × Int :=
  if n < 1 ∨ top < n then (false, 2) else if wchk 2 s.data.toList ≠ 0 then (false, wchk 2 s.data.toList) else (decide (wid t s ≤ n), 0)
theorem vld_out (t : Bool) (top n : Int) (s : ByteArray) (h : n < 1 ∨ top < n) : vld t top n s = (false, 2) := by simp [vld, h]
theorem vld_bad (t : Bool) (top n : Int) (s : ByteArray) (h1 : 1 ≤ n) (h2 : n ≤ top) (h : wchk 2 s.data.toList ≠ 0) : vld t top n s = (false, wchk 2 s.data.toList) := by
  unfold vld; rw [if_neg (by omega), if_pos h]
theorem vld_ok (t : Bool) (top n : Int) (s : ByteArray) (h1 : 1 ≤ n) (h2 : n ≤ top) (h : wchk 2 s.data.toList = 0) : vld t top n s = (decide (wid t s ≤ n), 0) := by
  unfold vld; rw [if_neg (by omega), if_neg (by omega)]
theorem wchk_long2 (s : ByteArray) (h : wchk 2 s.data.toList = 0) : s.size ≤ 65536 := by
  unfold wchk at h
  rw [if_neg (by omega)] at h
  split at h
  · omega
  · have : s.data.toList.length = s.size := by simp
    omega
/-- The sum of the values at the offsets that are r, times n, modulo 4. -/
def Pa (n : Int) (v : Nat → Int) (r : Int) : Nat → Int | 0 => 0 | k + 1 => Pa n v r k + if (n * k) % 4 = r then v k else 0
theorem Pa_bd (n : Int) (v : Nat → Int) (r : Int) (hv : ∀ i, -1 ≤ v i ∧ v i ≤ 1) (k : Nat) : -(k : Int) ≤ Pa n v r k ∧ Pa n v r k ≤ k := by
  induction k with
  | zero => simp [Pa]
  | succ k ih => have := hv k; simp only [Pa]; split <;> omega
theorem Pa_hit (n : Int) (v : Nat → Int) (r : Int) (k : Nat) (x : Int) (hx : v k = x) (h : (n * k) % 4 = r) : Pa n v r (k + 1) = Pa n v r k + x := by simp only [Pa, h, if_true, hx]
theorem Pa_miss (n : Int) (v : Nat → Int) (r : Int) (k : Nat) (h : (n * k) % 4 ≠ r) : Pa n v r (k + 1) = Pa n v r k := by simp only [Pa, if_neg h]; omega
theorem paL_range (n : Int) (v : Nat → Int) (r : Int) (k : Nat) : paL n v r (List.range k) = Pa n v r k := by
  induction k with
  | zero => rfl
  | succ k ih => rw [List.range_succ, paL_snoc, ih]; rfl
/-- What Spectrum answers. -/
def spe (n : Int) (s : ByteArray) : Int × Int × Int :=
  if n < 0 ∨ 3 < n then (0, 0, 2) else if wchk 2 s.data.toList ≠ 0 then (0, 0, wchk 2 s.data.toList)
  else (Pa n (vAt false s) 0 s.size - Pa n (vAt false s) 2 s.size, Pa n (vAt false s) 1 s.size - Pa n (vAt false s) 3 s.size, 0)
theorem spe_out (n : Int) (s : ByteArray) (h : n < 0 ∨ 3 < n) : spe n s = (0, 0, 2) := by simp [spe, h]
theorem spe_bad (n : Int) (s : ByteArray) (h1 : 0 ≤ n) (h2 : n ≤ 3) (h : wchk 2 s.data.toList ≠ 0) : spe n s = (0, 0, wchk 2 s.data.toList) := by
  unfold spe; rw [if_neg (by omega), if_pos h]
theorem spe_ok (n : Int) (s : ByteArray) (h1 : 0 ≤ n) (h2 : n ≤ 3) (h : wchk 2 s.data.toList = 0) : spe n s = (Pa n (vAt false s) 0 s.size - Pa n (vAt false s) 2 s.size, Pa n (vAt false s) 1 s.size - Pa n (vAt false s) 3 s.size, 0) := by
  unfold spe; rw [if_neg (by omega), if_neg (by omega)]
theorem ret_bi {a a' : Bool} {b b' : Int} (h : (a', b') = (a, b)) : Ending.returned (.tuple #[.bool a, .int .i64 b]) = .returned (.tuple #[.bool a', .int .i64 b']) := by
  obtain ⟨rfl, rfl⟩ := Prod.mk.inj h; rfl
theorem ret_ii {a a' b b' : Int} (h : (a', b') = (a, b)) : Ending.returned (.tuple #[.int .i64 a, .int .i64 b]) = .returned (.tuple #[.int .i64 a', .int .i64 b']) := by
  obtain ⟨rfl, rfl⟩ := Prod.mk.inj h; rfl
theorem ret_iii {a a' b b' c c' : Int} (h : (a', b', c') = (a, b, c)) : Ending.returned (.tuple #[.int .i64 a, .int .i64 b, .int .i64 c]) = .returned (.tuple #[.int .i64 a', .int .i64 b', .int .i64 c']) := by
  obtain ⟨rfl, h2⟩ := Prod.mk.inj h; obtain ⟨rfl, rfl⟩ := Prod.mk.inj h2; rfl
theorem mul_bd (n : Int) (k : Nat) (N : Nat) (h0 : 0 ≤ n) (h3 : n ≤ 3) (hk : k ≤ N) : 0 ≤ n * (k : Int) ∧ n * (k : Int) ≤ 3 * N := by
  have h1 : 0 ≤ n * (k : Int) := Int.mul_nonneg h0 (by omega)
  have h2 : n * (k : Int) ≤ 3 * (k : Int) := Int.mul_le_mul_of_nonneg_right h3 (by omega)
  omega

/-- The binomial coefficient, as Balanced reckons it. -/
def balp (m : Nat) : Nat → Int | 0 => 1 | k + 1 => balp m k * ((m : Int) + (k + 1)) / (k + 1)
theorem balp_tab : ∀ m, m < 16 → ∀ k, k < 16 → 1 ≤ balp m k ∧ balp m k ≤ 200000000 := by decide +kernel
theorem balp_step : ∀ m, m < 16 → ∀ k, k < 16 → wrap64 ((wrap64 (balp m k * (2 * (m : Int) - (m : Int) + ((k : Int) + 1)))).tdiv ((k : Int) + 1)) = balp m (k + 1) := by decide +kernel
/-- What Balanced answers. -/
def blc (n : Int) : Int × Int := if n < 0 ∨ 30 < n then (0, 2) else if n % 2 = 1 then (0, 0) else (balp (n / 2).toNat (n / 2).toNat, 0)
theorem blc_out (n : Int) (h : n < 0 ∨ 30 < n) : blc n = (0, 2) := by simp [blc, h]
theorem blc_odd (n : Int) (h1 : 0 ≤ n) (h2 : n ≤ 30) (h : n % 2 = 1) : blc n = (0, 0) := by unfold blc; rw [if_neg (by omega), if_pos h]
theorem blc_even (m : Nat) (h2 : m ≤ 15) : blc (2 * m) = (balp m m, 0) := by
  unfold blc; rw [if_neg (by omega), if_neg (by omega)]
  have : (2 * (m : Int) / 2).toNat = m := by omega
  rw [this]
end Go.Proofs.YtaclgmhinljkbaaGreatDoor.Chg
namespace Go.Proofs.YtaclgmhinljkbaaGreatDoor.Chg
open Go.RowKit

def stepL (l : List Int) : List Int := List.zipWith (· + ·) (0 :: l) (l.tail ++ [0])
def tab (n : Nat) : Nat → List Int | 0 => (List.replicate (2 * n + 1) 0).set n 1 | i + 1 => stepL (tab n i)
theorem stepL_len (l : List Int) (h : 0 < l.length) : (stepL l).length = l.length := by
  simp only [stepL, List.length_zipWith, List.length_cons, List.length_append, List.length_tail, List.length_nil]; omega
theorem tab_len (n i : Nat) : (tab n i).length = 2 * n + 1 := by
  induction i with
  | zero => simp [tab]
  | succ i ih => rw [tab, stepL_len _ (by omega), ih]
theorem stepL_get (l : List Int) (x : Nat) (hx : x < l.length) : (stepL l).getD x 0 = (if x = 0 then 0 else l.getD (x - 1) 0) + l.getD (x + 1) 0 := by
  have hlen : x < (stepL l).length := by rw [stepL_len l (by omega)]; exact hx
  rw [List.getD_eq_getElem?_getD, List.getElem?_eq_getElem hlen]
  simp only [stepL, List.getElem_zipWith, Option.getD_some]
  congr 1
  · cases x with
    | zero => simp
    | succ x => simp [List.getD_eq_getElem?_getD, List.getElem?_eq_getElem (show x < l.length by omega)]
  · rw [List.getElem_append]
    split
    · rename_i h
      simp only [List.length_tail] at h
      rw [List.getElem_tail, List.getD_eq_getElem?_getD, List.getElem?_eq_getElem (show x + 1 < l.length by omega)]; rfl
    · rename_i h
      simp only [List.length_tail] at h
      rw [List.getD_eq_getElem?_getD, List.getElem?_eq_none (by omega)]
      simp
theorem tab_all : ∀ n, n < 31 → ∀ i, i < n → ((tab n i).all fun x => decide (0 ≤ x) && decide (x ≤ 200000000)) = true ∧ (tab n i).getD 0 0 = 0 ∧ (tab n i).getD (2 * n) 0 = 0 := by decide +kernel
theorem tab_end : ∀ n, n < 31 → (tab n n).getD n 0 = (blc n).1 ∧ (blc n).2 = 0 := by decide +kernel
theorem tab_bd (n i : Nat) (hn : n < 31) (hi : i < n) (d : Nat) : 0 ≤ (tab n i).getD d 0 ∧ (tab n i).getD d 0 ≤ 200000000 := by
  have h := (tab_all n hn i hi).1
  rw [List.all_eq_true] at h
  rw [List.getD_eq_getElem?_getD]
  by_cases hd : d < (tab n i).length
  · rw [List.getElem?_eq_getElem hd]
    have := h _ (List.getElem_mem hd)
    simpa using this
  · rw [List.getElem?_eq_none (by omega)]; simp
/-- The next row, behind d places. -/
def nx (l : List Int) : Nat → List Int
  | 0 => List.replicate l.length 0
  | d + 1 => if 0 < l.getD d 0 then (((nx l d).set (d - 1) ((nx l d).getD (d - 1) 0 + l.getD d 0)).set (d + 1) (((nx l d).set (d - 1) ((nx l d).getD (d - 1) 0 + l.getD d 0)).getD (d + 1) 0 + l.getD d 0)) else nx l d
theorem nx_len (l : List Int) (d : Nat) : (nx l d).length = l.length := by
  induction d with
  | zero => simp [nx]
  | succ d ih => simp only [nx]; split <;> simp [ih]
theorem getD_set (l : List Int) (i j : Nat) (a : Int) (h : i < l.length) : (l.set i a).getD j 0 = if i = j then a else l.getD j 0 := by
  by_cases hij : i = j
  · subst hij
    rw [if_pos rfl, List.getD_eq_getElem?_getD, List.getElem?_set_self h]; rfl
  · rw [if_neg hij, List.getD_eq_getElem?_getD, List.getElem?_set_ne hij, List.getD_eq_getElem?_getD]
/-- Pointwise: what has come from the right and from the left. -/
theorem nx_get (l : List Int) (h0 : l.getD 0 0 = 0) (hl : l.getD (l.length - 1) 0 = 0) (hp : ∀ d, 0 ≤ l.getD d 0) (d : Nat) (hd : d ≤ l.length) (x : Nat) (hx : x < l.length) :
    (nx l d).getD x 0 = (if x + 1 < d then l.getD (x + 1) 0 else 0) + (if 1 ≤ x ∧ x - 1 < d then l.getD (x - 1) 0 else 0) := by
  induction d generalizing x with
  | zero => rw [List.getD_eq_getElem?_getD]; simp [nx, hx]
  | succ d ih =>
    have hpd := hp d
    simp only [nx]
    split
    · rename_i hpos
      have hd0 : d ≠ 0 := by rintro rfl; omega
      have hdl : d ≠ l.length - 1 := by intro e; rw [e] at hpos; omega
      rw [getD_set _ _ _ _ (by rw [List.length_set, nx_len]; omega), getD_set _ _ _ _ (by rw [nx_len]; omega), getD_set _ _ _ _ (by rw [nx_len]; omega)]
      rw [if_neg (show ¬ d - 1 = d + 1 by omega), ih (by omega) (d + 1) (by omega), ih (by omega) (d - 1) (by omega), ih (by omega) x hx]
      rw [if_neg (show ¬ d + 1 + 1 < d by omega), if_neg (show ¬ (1 ≤ d + 1 ∧ d + 1 - 1 < d) by omega), if_neg (show ¬ (d - 1 + 1 < d) by omega)]
      by_cases e1 : d + 1 = x
      · subst e1
        rw [if_pos rfl, if_neg (by omega), if_pos (by omega)]
        simp
      · rw [if_neg e1]
        by_cases e2 : d - 1 = x
        · subst e2
          rw [if_pos rfl, if_pos (show d - 1 + 1 < d + 1 by omega)]
          rw [show d - 1 + 1 = d by omega]
          split <;> split <;> first | omega | (exfalso; omega)
        · rw [if_neg e2]
          have e3 : (x + 1 < d + 1) ↔ (x + 1 < d) := by omega
          have e4 : (1 ≤ x ∧ x - 1 < d + 1) ↔ (1 ≤ x ∧ x - 1 < d) := by omega
          simp only [e3, e4]
    · rename_i hpos
      have hz : l.getD d 0 = 0 := by omega
      rw [ih (by omega) x hx]
      by_cases e1 : d + 1 = x
      · subst e1
        have e3 : 1 ≤ d + 1 ∧ d + 1 - 1 < d + 1 := by omega
        rw [if_neg (show ¬ d + 1 + 1 < d by omega), if_neg (show ¬ (1 ≤ d + 1 ∧ d + 1 - 1 < d) by omega), if_neg (show ¬ d + 1 + 1 < d + 1 by omega), if_pos e3, Nat.add_sub_cancel, hz]
      · by_cases e2 : x + 1 = d
        · subst e2
          rw [if_neg (show ¬ x + 1 < x + 1 by omega), if_pos (show x + 1 < x + 1 + 1 by omega), hz]
          split <;> split <;> first | omega | (exfalso; omega)
        · have e3 : (x + 1 < d + 1) ↔ (x + 1 < d) := by omega
          have e4 : (1 ≤ x ∧ x - 1 < d + 1) ↔ (1 ≤ x ∧ x - 1 < d) := by omega
          simp only [e3, e4]
theorem list_ext_getD (a b : List Int) (hl : a.length = b.length) (h : ∀ x, x < a.length → a.getD x 0 = b.getD x 0) : a = b := by
  apply List.ext_getElem hl
  intro i h1 h2
  have := h i h1
  rw [List.getD_eq_getElem?_getD, List.getD_eq_getElem?_getD, List.getElem?_eq_getElem h1, List.getElem?_eq_getElem h2] at this
  exact this
theorem nx_full (n i : Nat) (hn : n < 31) (hi : i < n) : nx (tab n i) (2 * n + 1) = tab n (i + 1) := by
  have hl := tab_len n i
  obtain ⟨_, h0, h1⟩ := tab_all n hn i hi
  apply list_ext_getD
  · rw [nx_len, tab_len, tab_len]
  · intro x hx
    rw [nx_len, hl] at hx
    rw [nx_get _ h0 (by rw [hl]; exact h1) (fun d => (tab_bd n i hn hi d).1) (2 * n + 1) (by omega) x (by omega), tab, stepL_get _ x (by omega)]
    by_cases hx0 : x = 0
    · subst hx0; simp; omega
    · have e : 1 ≤ x ∧ x - 1 < 2 * n + 1 := by omega
      rw [if_neg hx0, if_pos e]
      by_cases hxe : x + 1 < 2 * n + 1
      · rw [if_pos hxe]; omega
      · have : (tab n i).getD (x + 1) 0 = 0 := by rw [List.getD_eq_getElem?_getD, List.getElem?_eq_none (by omega)]; rfl
        rw [if_neg hxe, this]; omega
theorem nx_bd (n i : Nat) (hn : n < 31) (hi : i < n) (d : Nat) (hd : d ≤ 2 * n + 1) (x : Nat) (hx : x < 2 * n + 1) : 0 ≤ (nx (tab n i) d).getD x 0 ∧ (nx (tab n i) d).getD x 0 ≤ 400000000 := by
  have hl := tab_len n i
  obtain ⟨_, h0, h1⟩ := tab_all n hn i hi
  rw [nx_get _ h0 (by rw [hl]; exact h1) (fun d => (tab_bd n i hn hi d).1) d (by omega) x (by omega)]
  have a := tab_bd n i hn hi (x + 1)
  have b := tab_bd n i hn hi (x - 1)
  split <;> split <;> omega
theorem nx_pos (l : List Int) (e : Nat) (h : 0 < l.getD (e + 1) 0) : nx l (e + 1 + 1) = ((nx l (e + 1)).set e ((nx l (e + 1)).getD e 0 + l.getD (e + 1) 0)).set (e + 1 + 1) ((nx l (e + 1)).getD (e + 1 + 1) 0 + l.getD (e + 1) 0) := by
  conv => lhs; rw [nx]
  rw [if_pos h, Nat.add_sub_cancel]
  congr 2
  rw [List.getD_eq_getElem?_getD, List.getElem?_set_ne (by omega), List.getD_eq_getElem?_getD]
theorem own_vrow {w : World} {B e g n : Nat} {xs : List Value} (h : w.ownsRow B e 1 (.slice (some ⟨g, 0, none⟩) n n) n xs) : VRow w g e xs := by
  rcases h.2 with ⟨h0, _⟩ | ⟨g', cap, cur, hv, _, hh, _, _, hs, ht⟩
  · cases h0
  · cases hv
    have : cur.toList = xs := by rw [← ht]; exact (List.take_of_length_le (by rw [Array.length_toList]; omega)).symm
    unfold VRow
    rw [hh, ← this]
theorem own_head {w : World} {B e g n c : Nat} {xs : List Value} (h : w.ownsRow B e 1 (.slice (some ⟨g, 0, none⟩) n c) n xs) : B ≤ g := (h.lt g rfl).1
theorem cint_getD (l : List Int) (i : Nat) (h : i < l.length) : (cint l)[i]? = some (.int .i64 (l.getD i 0)) := by
  rw [List.getD_eq_getElem?_getD, List.getElem?_eq_getElem h]; simp [cint, h]
theorem cint_set (l : List Int) (i : Nat) (x : Int) : (cint l).set i (.int .i64 x) = cint (l.set i x) := by simp [cint, List.map_set]
theorem made_row {w : World} {B e g n : Nat} (h : w.ownsRow B e 1 (.slice (some ⟨g, 0, none⟩) n n) n (madeCells (Value.int .i64 0).cells (n * 1)).toList) : VRow w g e (cint (List.replicate n 0)) := by
  have := own_vrow h
  rw [show (Value.int .i64 0).cells = #[Value.int .i64 0] from rfl, toList_madeCells_one, Nat.mul_one] at this
  simpa [cint] using this
theorem VRow.grown {w w' : World} {B t : Nat} {l : List Value} (h : VRow w B t l) (hg : w.grownBy w' none) : VRow w' B t l := (hg.block B h.lt (by simp)).trans h
end Go.Proofs.YtaclgmhinljkbaaGreatDoor.Chg
namespace Go.Proofs.YtaclgmhinljkbaaGreatDoor.Chg
open Go.RowKit

end Go.Proofs.YtaclgmhinljkbaaGreatDoor.Chg
namespace Go.Proofs.YtaclgmhinljkbaaGreatDoor.Chg
open Go.RowKit

set_option maxHeartbeats 400000 in
theorem known_t (q : Int) (w : World) (h1 : 1 ≤ q) (h2 : q ≤ 16) :
    Calls Tryz.prog 64 #[.int .i64 q] w fun e w' => e = .returned (.bool true) ∧ w = w' := by
  go_enter Tryz.func64, Tryz.ntmps64
  go_wp2
  go_ret
  exact ⟨rfl, rfl⟩

set_option maxHeartbeats 400000 in
theorem known_f (q : Int) (w : World) (h : q < 1 ∨ 16 < q) :
    Calls Tryz.prog 64 #[.int .i64 q] w fun e w' => e = .returned (.bool false) ∧ w = w' := by
  by_cases h1 : 1 ≤ q
  · have h2 : 16 < q := by omega
    go_enter Tryz.func64, Tryz.ntmps64
    go_wp2
    go_ret
    exact ⟨ret_bool (by simp; omega), rfl⟩
  · go_enter Tryz.func64, Tryz.ntmps64
    go_wp2
    go_ret
    exact ⟨rfl, rfl⟩
end Go.Proofs.YtaclgmhinljkbaaGreatDoor.Chg
