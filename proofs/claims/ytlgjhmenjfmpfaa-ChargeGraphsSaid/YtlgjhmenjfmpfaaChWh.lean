/-
  Walks: functions of the library on slices: Equal at bools, IndexFunc and ContainsFunc at strings.
-/
import Derived.Test.YtlgjhmenjfmpfaaChWe
namespace Go.Proofs.Ytlgjhmenjfmpfaa.Chg
open Go.RowKit

theorem ne_of_get {α : Type} {l m : List α} (k : Nat) (h1 : k < l.length) (h2 : k < m.length) (h : l[k] ≠ m[k]) : l ≠ m := by
  intro e; subst e; exact h rfl

set_option maxHeartbeats 400000 in
theorem equalB_any (l m : List Bool) (p q : Option Addr) (c d : Nat) (w : World) (hp : Sl w Value.bool p l) (hq : Sl w Value.bool q m) (hl : l.length ≤ 9223372036854775807) (hm : m.length ≤ 9223372036854775807) :
    Calls Try.prog 34 #[.slice p l.length c, .slice q m.length d] w fun e w' => e = .returned (.bool (decide (l = m))) ∧ Dr w w' := by
  by_cases hlen : l.length = m.length
  · have hlen' : ((l.length : Int) == (m.length : Int)) = true := by simp [hlen]
    have HT : Hid (l.length = m.length) := hlen
    clear hlen
    go_enter Try.func34, Try.ntmps34
    go_wp2
    go_loopw [13] (fun i wr => ∃ k : Nat, k ≤ l.length ∧ i = .int .i64 k ∧ Hid (l.take k = m.take k) ∧ Dr w wr) (fun i _ => l.length - (intOf i).toNat)
    case atStart => exact ⟨0, by omega, rfl, by simp [Hid], Dr.refl _⟩
    case round =>
      obtain ⟨k, hk, rfl, hj, hD⟩ := hrel
      by_cases hlt : k < l.length
      · have hlt2 : k < m.length := by have := HT.out; omega
        obtain ⟨b1, o1, rfl, hb1, hc1⟩ := (hp.dr hD).get k hlt
        obtain ⟨b2, o2, rfl, hb2, hc2⟩ := (hq.dr hD).get k hlt2
        have e1 := hc1 k hlt
        have e2 := hc2 k hlt2
        clear hc1 hc2
        go_wp2_with fail
        go_quiet (fail)
        go_wp2
        · have hne : l[k] ≠ m[k] := by have h : (!l[k] == m[k]) = true := ‹_›; simpa using h
          have HE : Hid (decide (l = m) = false) := by simpa [Hid] using ne_of_get k hlt hlt2 hne
          go_ret
          exact ⟨ret_bool HE.out.symm, hD.one _⟩
        · have he : l[k] = m[k] := by have h : (!l[k] == m[k]) = false := ‹_›; simpa using h
          go_roundw
          case rel => exact ⟨k + 1, by omega, by go_num, by unfold Hid; rw [List.take_succ_eq_append_getElem hlt, List.take_succ_eq_append_getElem hlt2, hj.out, he], hD.one _⟩
          case measure => simp [intOf]; omega
      · obtain rfl : k = l.length := by omega
        have HE : Hid (decide (l = m) = true) := by
          have h1 := hj.out
          rw [List.take_length, HT.out, List.take_length] at h1
          simp [Hid, h1]
        go_wp2
        go_ret
        exact ⟨ret_bool HE.out.symm, hD⟩
  · have hlen' : ((l.length : Int) == (m.length : Int)) = false := by simpa using fun h : (l.length : Int) = m.length => hlen (by omega)
    have HE : Hid (decide (l = m) = false) := by simp [Hid]; rintro rfl; exact hlen rfl
    clear hlen
    go_enter Try.func34, Try.ntmps34
    go_wp2
    go_ret
    exact ⟨ret_bool HE.out.symm, Dr.refl _⟩

/-- The first place at which a predicate holds, or -1. -/
def idxP {α : Type} (f : α → Bool) : List α → Int | [] => -1 | x :: l => if f x then 0 else if idxP f l < 0 then -1 else idxP f l + 1
theorem idxP_ge {α : Type} (f : α → Bool) (l : List α) : -1 ≤ idxP f l ∧ idxP f l < l.length := by
  induction l with
  | nil => simp [idxP]
  | cons x l ih => simp only [idxP, List.length_cons]; split <;> (try split) <;> omega
theorem idxP_any {α : Type} (f : α → Bool) (l : List α) : decide (0 ≤ idxP f l) = l.any f := by
  induction l with
  | nil => simp [idxP]
  | cons x l ih =>
    have := idxP_ge f l
    rw [List.any_cons, ← ih]
    by_cases hf : f x = true
    · simp [idxP, hf]
    · have hf' : f x = false := by simpa using hf
      simp only [idxP, hf', Bool.false_eq_true, if_false, Bool.false_or]
      rw [decide_eq_decide]
      split <;> omega
theorem idxP_hit {α : Type} (f : α → Bool) (l : List α) (k : Nat) (h : k < l.length) (hn : ∀ j (hj : j < l.length), j < k → f l[j] = false) (hk : f l[k] = true) : idxP f l = k := by
  induction l generalizing k with
  | nil => simp at h
  | cons x l ih =>
    cases k with
    | zero => simp only [List.getElem_cons_zero] at hk; simp [idxP, hk]
    | succ k =>
      have h0 := hn 0 (by simp) (by omega)
      simp only [List.getElem_cons_zero] at h0
      have := ih k (by simpa using h) (fun j hj hjk => by have := hn (j + 1) (by simpa using hj) (by omega); simpa using this) (by simpa using hk)
      simp only [idxP, h0, Bool.false_eq_true, if_false, this]
      rw [if_neg (by omega)]; omega
theorem idxP_miss {α : Type} (f : α → Bool) (l : List α) (hn : ∀ j (hj : j < l.length), f l[j] = false) : idxP f l = -1 := by
  induction l with
  | nil => rfl
  | cons x l ih =>
    have h0 := hn 0 (by simp)
    simp only [List.getElem_cons_zero] at h0
    have := ih (fun j hj => by have := hn (j + 1) (by simpa using hj); simpa using this)
    simp [idxP, h0, this]

def longS (n : Nat) (s : ByteArray) : Bool := decide (n < s.size)
end Go.Proofs.Ytlgjhmenjfmpfaa.Chg
