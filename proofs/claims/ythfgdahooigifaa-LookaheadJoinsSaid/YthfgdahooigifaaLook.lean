/-
  Plain definitions and lemmas on tables with lookahead. Nothing here speaks of a program.
-/
import Derived.Test.YthfgdahooigifaaBase
namespace Go.Proofs.Ythfgdahooigifaa
open Go.RowKit

structure Sw where
  i : Int
  j : Int
  wd : ByteArray
structure Tb where
  q : Int
  n : Int
  base : List ByteArray
  swaps : List Sw
def swE (s : Sw) : List Value := [.int .i64 s.i, .int .i64 s.j, .string s.wd]
def dS : Sw := ⟨0, 0, ByteArray.empty⟩
def bget (l : List ByteArray) (k : Nat) : ByteArray := l.getD k ByteArray.empty
def sget (l : List Sw) (k : Nat) : Sw := l.getD k dS
theorem bget_eq (l : List ByteArray) (k : Nat) (h : k < l.length) : bget l k = l[k] := by simp [bget, h]
theorem sget_eq (l : List Sw) (k : Nat) (h : k < l.length) : sget l k = l[k] := by simp [sget, h]

/-! ### All of the first n -/
def allB (n : Nat) (f : Nat → Bool) : Bool := (List.range n).all f
theorem allB_t {n : Nat} {f : Nat → Bool} (h : ∀ k, k < n → f k = true) : allB n f = true := by
  unfold allB; rw [List.all_eq_true]; intro k hk; exact h k (List.mem_range.1 hk)
theorem allB_f {n : Nat} {f : Nat → Bool} (k : Nat) (hk : k < n) (h : f k = false) : allB n f = false := by
  rw [Bool.eq_false_iff]; intro hh
  have := List.all_eq_true.1 hh k (List.mem_range.2 hk)
  simp [h] at this
theorem allB_get {n : Nat} {f : Nat → Bool} (h : allB n f = true) (k : Nat) (hk : k < n) : f k = true := List.all_eq_true.1 h k (List.mem_range.2 hk)
theorem allB_zero (f : Nat → Bool) : allB 0 f = true := rfl
theorem allB_succ (n : Nat) (f : Nat → Bool) : allB (n + 1) f = (allB n f && f n) := by simp [allB, List.range_succ]

/-! ### Well formed tables -/
/-- The k-th word has n letters over q, and does not stand before. -/
def wOk (q n : Int) (l : List ByteArray) (k : Nat) : Bool :=
  decide (((bget l k).size : Int) = n) && (decide (wchk q (bget l k).data.toList = 0) && !(l.take k).any (eqb (bget l k)))
def wsOk (q n : Int) (l : List ByteArray) : Bool := allB l.length (wOk q n l)
def lexB (a b : Sw) : Bool := decide (a.i < b.i) || (decide (a.i = b.i) && decide (a.j < b.j))
def inB (N : Nat) (s : Sw) : Bool := decide (0 ≤ s.i) && (decide (s.i < N) && (decide (0 ≤ s.j) && decide (s.j < N)))
def sOk (N : Nat) (l : List Sw) (k : Nat) : Bool := inB N (sget l k) && (decide (k = 0) || lexB (sget l (k - 1)) (sget l k))
def preB (T : Tb) : Bool := decide (2 ≤ T.q ∧ T.q ≤ 16 ∧ 1 ≤ T.n ∧ T.n ≤ 8 ∧ 2 ≤ T.base.length ∧ T.base.length ≤ 16 ∧ T.swaps.length ≤ 64)
def ssOk (T : Tb) : Bool := allB T.swaps.length (sOk T.base.length T.swaps)
def fmd (T : Tb) : Bool := preB T && (ssOk T && (wsOk T.q T.n T.base && wsOk T.q (2 * T.n) (T.swaps.map Sw.wd)))
theorem fmd_pre {T : Tb} (h : preB T = false) : fmd T = false := by simp [fmd, h]
theorem fmd_ss {T : Tb} (h : ssOk T = false) : fmd T = false := by simp [fmd, h]
theorem fmd_base {T : Tb} (h : wsOk T.q T.n T.base = false) : fmd T = false := by simp [fmd, h]
theorem fmd_words {T : Tb} (h : wsOk T.q (2 * T.n) (T.swaps.map Sw.wd) = false) : fmd T = false := by simp [fmd, h]
theorem fmd_all {T : Tb} (h1 : preB T = true) (h2 : ssOk T = true) (h3 : wsOk T.q T.n T.base = true) : fmd T = wsOk T.q (2 * T.n) (T.swaps.map Sw.wd) := by simp [fmd, h1, h2, h3]
theorem wOk_len {q n : Int} {l : List ByteArray} {k : Nat} (h : ((bget l k).size : Int) ≠ n) : wOk q n l k = false := by simp [wOk, h]
theorem wOk_chk {q n : Int} {l : List ByteArray} {k : Nat} (h : wchk q (bget l k).data.toList ≠ 0) : wOk q n l k = false := by simp [wOk, h]
theorem wOk_has {q n : Int} {l : List ByteArray} {k : Nat} (h : (l.take k).any (eqb (bget l k)) = true) : wOk q n l k = false := by simp [wOk, h]
theorem wOk_t {q n : Int} {l : List ByteArray} {k : Nat} (h1 : ((bget l k).size : Int) = n) (h2 : wchk q (bget l k).data.toList = 0) (h3 : (l.take k).any (eqb (bget l k)) = false) : wOk q n l k = true := by
  simp [wOk, h1, h2, h3]

theorem words_take (l : List Sw) (k : Nat) (h : k < l.length) : ((l.take (k + 1)).map Sw.wd).map Value.string = ((l.take k).map Sw.wd).map Value.string ++ [.string l[k].wd] := by
  rw [List.take_succ_eq_append_getElem h, List.map_append, List.map_append]; rfl
theorem sOk_zero {N : Nat} {l : List Sw} {k : Nat} (h : k < l.length) (hi : inB N l[k] = true) (h0 : k = 0) : sOk N l k = true := by
  unfold sOk; rw [sget_eq l k h, hi, decide_eq_true h0]; rfl
theorem sOk_in {N : Nat} {l : List Sw} {k : Nat} (h : k < l.length) (hi : inB N l[k] = false) : sOk N l k = false := by
  unfold sOk; rw [sget_eq l k h, hi]; rfl
theorem sOk_succ {N : Nat} {l : List Sw} {m : Nat} (h : m + 1 < l.length) (hi : inB N l[m + 1] = true) : sOk N l (m + 1) = lexB l[m] l[m + 1] := by
  unfold sOk; rw [sget_eq l (m + 1) h, hi, Nat.add_sub_cancel, sget_eq l m (by omega)]; simp
theorem lex_four (a b : Sw) : (a.i < b.i ∧ lexB a b = true) ∨ (a.i = b.i ∧ a.j < b.j ∧ lexB a b = true) ∨ (b.i < a.i ∧ lexB a b = false) ∨ (a.i = b.i ∧ b.j ≤ a.j ∧ lexB a b = false) := by
  unfold lexB
  by_cases h1 : a.i < b.i
  · exact .inl ⟨h1, by simp [h1]⟩
  · by_cases h2 : a.i = b.i
    · by_cases h3 : a.j < b.j
      · exact .inr (.inl ⟨h2, h3, by simp [h2, h3]⟩)
      · exact .inr (.inr (.inr ⟨h2, by omega, by simp [h2, h3]⟩))
    · exact .inr (.inr (.inl ⟨by omega, by simp [h1, h2]⟩))
theorem sOk_pos {N : Nat} {l : List Sw} {m : Nat} (h : m + 1 < l.length) (hi : inB N l[m + 1] = true) (hl : lexB l[m] l[m + 1] = true) : sOk N l (m + 1) = true := (sOk_succ h hi).trans hl
theorem bget_map (l : List Sw) (k : Nat) (h : k < l.length) : bget (l.map Sw.wd) k = l[k].wd := by rw [bget_eq _ _ (by simpa using h), List.getElem_map]
/-- How two swaps compare. -/
def cmpI (a b : Int) : Int := if a < b then -1 else if b < a then 1 else 0
def cmpS (a b : Sw) : Int := if cmpI a.i b.i ≠ 0 then cmpI a.i b.i else cmpI a.j b.j
theorem cmpI_bd (a b : Int) : -1 ≤ cmpI a b ∧ cmpI a b ≤ 1 := by unfold cmpI; split <;> (try split) <;> omega
theorem cmpS_bd (a b : Sw) : -1 ≤ cmpS a b ∧ cmpS a b ≤ 1 := by unfold cmpS; split <;> exact cmpI_bd _ _
theorem cmpS_lex (a b : Sw) : decide (0 ≤ cmpS a b) = !lexB a b := by
  unfold cmpS cmpI lexB
  by_cases h1 : a.i < b.i
  · simp [h1]
  · by_cases h2 : b.i < a.i
    · simp [h1, h2]; omega
    · have : a.i = b.i := by omega
      by_cases h3 : a.j < b.j
      · simp [this, h3]
      · by_cases h4 : b.j < a.j <;> simp [this, h3, h4]

/-! ### Encoding -/
def swapW (l : List Sw) (i j : Int) : Option ByteArray := (l.find? (fun s => decide (s.i = i) && decide (s.j = j))).map Sw.wd
/-- The swaps as a function from pairs of inputs to words: a later one hides an elder one. -/
def swapF : List Sw → (Int × Int) → Option ByteArray := fun l x => (l.reverse.find? (fun s => decide (s.i = x.1) && decide (s.j = x.2))).map Sw.wd
theorem swapF_snoc (l : List Sw) (s : Sw) (x : Int × Int) : swapF (l ++ [s]) x = if x = (s.i, s.j) then some s.wd else swapF l x := by
  obtain ⟨a, b⟩ := x
  simp only [swapF, List.reverse_append, List.reverse_cons, List.reverse_nil, List.nil_append, List.singleton_append, List.find?_cons, Prod.mk.injEq]
  by_cases h : s.i = a ∧ s.j = b
  · simp [h.1, h.2]
  · have h' : (decide (s.i = a) && decide (s.j = b)) = false := by simpa using h
    rw [h', if_neg (fun e => h ⟨e.1.symm, e.2.symm⟩)]
theorem swapF_take (l : List Sw) (k : Nat) (h : k < l.length) (x : Int × Int) : swapF (l.take (k + 1)) x = if x = (l[k].i, l[k].j) then some l[k].wd else swapF (l.take k) x := by
  rw [List.take_succ_eq_append_getElem h, swapF_snoc]
def baseW (T : Tb) (i : Int) : ByteArray := bget T.base i.toNat
def encL (T : Tb) : List Int → ByteArray
  | [] => ByteArray.empty
  | [a] => baseW T a
  | a :: b :: r => match swapW T.swaps a b with
    | some w => w ++ encL T r
    | none => baseW T a ++ encL T (b :: r)
def outB (N : Nat) (a : Int) : Bool := decide (a < 0) || decide ((N : Int) ≤ a)
/-- What Encode answers, for lists that are not too long. -/
def encR (T : Tb) (l : List Int) : ByteArray × Int := if fmd T = false then (ByteArray.empty, 1) else if l.any (outB T.base.length) = true then (ByteArray.empty, 2) else (encL T l, 0)
theorem encR_bad {T : Tb} (l : List Int) (h : fmd T = false) : encR T l = (ByteArray.empty, 1) := by simp [encR, h]
theorem encR_out {T : Tb} {l : List Int} (h : fmd T = true) (h2 : l.any (outB T.base.length) = true) : encR T l = (ByteArray.empty, 2) := by
  unfold encR; rw [if_neg (by simp [h]), if_pos h2]
theorem encR_ok {T : Tb} {l : List Int} (h : fmd T = true) (h2 : l.any (outB T.base.length) = false) : encR T l = (encL T l, 0) := by
  unfold encR; rw [if_neg (by simp [h]), if_neg (by simp [h2])]

/-! ### Decoding -/
def swapOf (l : List Sw) (w : ByteArray) : Option Sw := l.find? (fun s => decide (s.wd = w))
def decN (T : Tb) : Nat → ByteArray → Option (List Int)
  | 0, _ => none
  | f + 1, w => if w.size = 0 then some [] else
    match (if 2 * T.n ≤ w.size then swapOf T.swaps (w.extract 0 (2 * T.n.toNat)) else none) with
    | some s => (decN T f (w.extract (2 * T.n.toNat) w.size)).map ([s.i, s.j] ++ ·)
    | none => match T.base.findIdx? (fun b => decide (b = w.extract 0 T.n.toNat)) with
      | some k => (decN T f (w.extract T.n.toNat w.size)).map ([(k : Int)] ++ ·)
      | none => none
end Go.Proofs.Ythfgdahooigifaa
