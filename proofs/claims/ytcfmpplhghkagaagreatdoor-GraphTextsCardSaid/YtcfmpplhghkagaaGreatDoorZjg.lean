/-
  Words, plain lemmas and walks, merged: Jc, Jd, Je, Jf, Jg, Jh, Jp, Cb, Pe.
-/
import Derived.Test.YtcfmpplhghkagaaGreatDoorZjf
import Derived.Test.YtcfmpplhghkagaaGreatDoorZja
import Derived.Lib.AtoiAll
import Derived.Lib.SlBytesRow
import Derived.Deep.CutBlock
import Derived.Test.YtcfmpplhghkagaaGreatDoorZjd
import Derived.Lib.AppendIntMem
import Derived.Lib.AtoiErrMem
import Derived.Test.YtcfmpplhghkagaaGreatDoorRows
import Derived.HandedShaped
import Derived.Handed
import Derived.Lib.LaidU8
import Derived.SevenTiedAt
import Derived.ProofKit
import Derived.Test.YtcfmpplhghkagaaGreatDoorZjc
import Derived.Test.YtcfmpplhghkagaaGreatDoorZje
set_option linter.unusedVariables false
set_option linter.unusedSimpArgs false
namespace Go.Proofs.YtcfmpplhghkagaaGreatDoor
open Go

abbrev dec := Lib.decDigits
theorem dec_no {c : UInt8} (hc : isD c = false) (u : Nat) : c ∉ dec u := by
  intro h
  have := List.all_eq_true.1 (dec_all u) c h
  rw [hc] at this; cases this
/-- A number and what follows it are taken off a text in one way. -/
theorem dec_inj {c : UInt8} (hc : isD c = false) {a b : Nat} {r s : List UInt8} (h : dec a ++ c :: r = dec b ++ c :: s) : a = b ∧ r = s := by
  have h1 := spl_app c (dec_no hc a) r
  have h2 := spl_app c (dec_no hc b) s
  rw [h, h2] at h1
  have e : dec b = dec a := (List.cons.inj h1).1
  have e2 : a = b := by rw [← dec_val a, ← dec_val b]; exact congrArg valD e.symm
  subst e2
  exact ⟨rfl, (List.cons.inj (List.append_cancel_left h)).2⟩
/-- A number of up to 9 digits, and what must follow it, taken off a text. -/
def numR (s : List UInt8) (e : UInt8) : Option (Nat × List UInt8) :=
  let d := s.takeWhile isD
  if canD d = true ∧ d.length ≤ 9 ∧ (s.drop d.length).head? = some e then some (valD d, s.drop (d.length + 1)) else none
theorem nine {u : Nat} : (dec u).length ≤ 9 ↔ u < 1000000000 := by
  rw [Lib.decDigits_length]
  constructor
  · intro h
    have := Lib.lt_pow_nDigits u
    exact Nat.lt_of_lt_of_le this (Nat.pow_le_pow_right (by omega) h)
  · intro h
    by_cases h0 : Lib.nDigits u ≤ 9
    · exact h0
    · exfalso
      have h9 : ∀ u k : Nat, k + 1 ≤ Lib.nDigits u → 1 ≤ u ∨ k = 0 → 10 ^ k ≤ u ∨ k = 0 := by
        intro u k
        induction k generalizing u with
        | zero => intro _ _; exact .inr rfl
        | succ k ih =>
          intro h1 _
          by_cases hu : u < 10
          · rw [Lib.nDigits_small hu] at h1; omega
          · rw [Lib.nDigits_big hu] at h1
            rcases ih (u / 10) (by omega) (.inl (by omega)) with h2 | h2
            · left; rw [Nat.pow_succ]; omega
            · subst h2; left; omega
      by_cases hu : u < 10
      · rw [Lib.nDigits_small hu] at h0; omega
      · rcases h9 u 9 (by omega) (.inl (by omega)) with h2 | h2
        · omega
        · omega
theorem take_dec {c : UInt8} (hc : isD c = false) (u : Nat) (r : List UInt8) : (dec u ++ c :: r).takeWhile isD = dec u := by
  rw [List.takeWhile_append_of_pos (fun b hb => List.all_eq_true.1 (dec_all u) b hb), List.takeWhile_cons_of_neg (by rw [hc]; simp), List.append_nil]
theorem numR_dec {c : UInt8} (hc : isD c = false) {u : Nat} (hu : u < 1000000000) (r : List UInt8) : numR (dec u ++ c :: r) c = some (u, r) := by
  unfold numR
  simp only [take_dec hc]
  have e1 : (dec u ++ c :: r).drop (dec u).length = c :: r := List.drop_left' rfl
  have e2 : (dec u ++ c :: r).drop ((dec u).length + 1) = r := by rw [← List.drop_drop, e1]; rfl
  rw [e1, e2, dec_val, if_pos ⟨dec_can u, nine.2 hu, rfl⟩]
theorem numR_some {c : UInt8} {s r : List UInt8} {n : Nat} (h : numR s c = some (n, r)) : s = dec n ++ c :: r ∧ n < 1000000000 := by
  unfold numR at h
  simp only at h
  split at h
  · rename_i hc
    obtain ⟨h1, h2, h3⟩ := hc
    cases h
    have e := (can_back h1).1
    refine ⟨?_, nine.1 (by show (Lib.decDigits _).length ≤ 9; rw [e]; exact h2)⟩
    show s = Lib.decDigits _ ++ _
    rw [e]
    have e3 := List.take_append_drop (s.takeWhile isD).length s
    have e4 : s.take (s.takeWhile isD).length = s.takeWhile isD := (List.prefix_iff_eq_take.1 (List.takeWhile_prefix isD)).symm
    rw [e4] at e3
    cases hd : s.drop (s.takeWhile isD).length with
    | nil => rw [hd] at h3; cases h3
    | cons a b =>
      rw [hd] at h3
      cases h3
      have e5 : s.drop ((s.takeWhile isD).length + 1) = b := by rw [← List.drop_drop, hd]; rfl
      rw [e5, ← hd, e3]
  · cases h
/-- The lines of a text. -/
def lineT (e : Nat × Nat × Nat) : List UInt8 := dec e.1 ++ 32 :: (dec e.2.1 ++ 32 :: (dec e.2.2 ++ [10]))
def bodyT (es : List (Nat × Nat × Nat)) : List UInt8 := es.flatMap lineT
def graphT : List UInt8 := [103, 114, 97, 112, 104, 32]
def prT (q n : Nat) (es : List (Nat × Nat × Nat)) : List UInt8 := graphT ++ (dec q ++ 32 :: (dec n ++ 10 :: bodyT es))
def okN (e : Nat × Nat × Nat) : Prop := e.1 < 1000000000 ∧ e.2.1 < 1000000000 ∧ e.2.2 < 1000000000
/-- A text is that of these numbers. -/
def IsT (s : List UInt8) (q n : Nat) (es : List (Nat × Nat × Nat)) : Prop := s = prT q n es ∧ q < 1000000000 ∧ n < 1000000000 ∧ ∀ e ∈ es, okN e
end Go.Proofs.YtcfmpplhghkagaaGreatDoor
namespace Go.Proofs.YtcfmpplhghkagaaGreatDoor
open Go

def joinC (c : UInt8) : List (List UInt8) → List UInt8
  | [] => []
  | [p] => p
  | p :: q :: r => p ++ c :: joinC c (q :: r)
theorem joinC_cons (c : UInt8) (p : List UInt8) {l : List (List UInt8)} (h : l ≠ []) : joinC c (p :: l) = p ++ c :: joinC c l := by
  cases l with
  | nil => exact absurd rfl h
  | cons a b => rfl
theorem joinC_push (c b : UInt8) (p : List UInt8) (l : List (List UInt8)) : joinC c ((b :: p) :: l) = b :: joinC c (p :: l) := by
  cases l <;> rfl
theorem spl_joinC (c : UInt8) : ∀ s : List UInt8, joinC c (spl c s) = s
  | [] => rfl
  | b :: r => by
    have ih := spl_joinC c r
    unfold spl
    split
    · rename_i e
      rw [joinC_cons c [] (spl_ne c r), ih, e]; rfl
    · split
      · rename_i h; exact absurd h (spl_ne c r)
      · rename_i p q h
        rw [joinC_push, ← h, ih]
theorem spl_of_join (c : UInt8) : ∀ {l : List (List UInt8)}, l ≠ [] → (∀ p ∈ l, c ∉ p) → spl c (joinC c l) = l
  | [], h, _ => absurd rfl h
  | [p], _, h => spl_free c (h p (by simp))
  | p :: q :: r, _, h => by
    show spl c (p ++ c :: joinC c (q :: r)) = _
    rw [spl_app c (h p (by simp)), spl_of_join c (by simp) (fun x hx => h x (List.mem_cons_of_mem _ hx))]
theorem spl_pieces (c : UInt8) : ∀ (s : List UInt8), ∀ p ∈ spl c s, c ∉ p
  | [], p, h => by
    simp only [spl, List.mem_singleton] at h
    subst h; simp
  | b :: r, p, h => by
    have ih := spl_pieces c r
    unfold spl at h
    split at h
    · rcases List.mem_cons.1 h with rfl | h
      · simp
      · exact ih p h
    · rename_i hb
      split at h
      · rename_i h0; exact absurd h0 (spl_ne c r)
      · rename_i p' q h0
        rw [h0] at ih
        rcases List.mem_cons.1 h with rfl | h
        · intro hc
          rcases List.mem_cons.1 hc with e | hc
          · exact hb e.symm
          · exact ih p' (by simp) hc
        · exact ih p (List.mem_cons_of_mem _ h)

/-- A line without its end. -/
def lineN (e : Nat × Nat × Nat) : List UInt8 := joinC 32 [dec e.1, dec e.2.1, dec e.2.2]
def headN (q n : Nat) : List UInt8 := joinC 32 [dec q, dec n]
theorem no32 (u : Nat) : (32 : UInt8) ∉ dec u := dec_no (by decide) u
theorem no10 (u : Nat) : (10 : UInt8) ∉ dec u := dec_no (by decide) u
theorem lineN_no (e : Nat × Nat × Nat) : (10 : UInt8) ∉ lineN e := by
  show (10 : UInt8) ∉ dec e.1 ++ 32 :: (dec e.2.1 ++ 32 :: dec e.2.2)
  simp only [List.mem_append, List.mem_cons, not_or]
  exact ⟨no10 _, by decide, no10 _, by decide, no10 _⟩
theorem headN_no (q n : Nat) : (10 : UInt8) ∉ graphT ++ headN q n := by
  show (10 : UInt8) ∉ graphT ++ (dec q ++ 32 :: dec n)
  simp only [List.mem_append, List.mem_cons, not_or]
  exact ⟨by decide, no10 _, by decide, no10 _⟩
theorem lineT_N (e : Nat × Nat × Nat) : lineT e = lineN e ++ [10] := by
  show dec e.1 ++ 32 :: (dec e.2.1 ++ 32 :: (dec e.2.2 ++ [10])) = (dec e.1 ++ 32 :: (dec e.2.1 ++ 32 :: dec e.2.2)) ++ [10]
  simp
theorem join_lines (p : List UInt8) : ∀ es : List (Nat × Nat × Nat), joinC 10 (p :: es.map lineN) ++ [10] = p ++ 10 :: bodyT es
  | [] => by show p ++ [10] = p ++ 10 :: []; rfl
  | e :: es => by
    rw [List.map_cons]
    show (p ++ 10 :: joinC 10 (lineN e :: es.map lineN)) ++ [10] = _
    rw [List.append_assoc, List.cons_append, join_lines (lineN e) es]
    show p ++ 10 :: (lineN e ++ 10 :: bodyT es) = p ++ 10 :: (lineT e ++ bodyT es)
    rw [lineT_N]; simp
theorem prT_lines (q n : Nat) (es : List (Nat × Nat × Nat)) : prT q n es = joinC 10 ((graphT ++ headN q n) :: es.map lineN) ++ [10] := by
  rw [join_lines]
  show graphT ++ (dec q ++ 32 :: (dec n ++ 10 :: bodyT es)) = (graphT ++ (dec q ++ 32 :: dec n)) ++ 10 :: bodyT es
  simp
/-- The lines of a text. -/
theorem isT_lines {s : List UInt8} {q n : Nat} {es : List (Nat × Nat × Nat)} (h : IsT s q n es) : ∃ b, s = b ++ [10] ∧ spl 10 b = (graphT ++ headN q n) :: es.map lineN := by
  refine ⟨joinC 10 ((graphT ++ headN q n) :: es.map lineN), by rw [h.1, prT_lines], spl_of_join 10 (by simp) ?_⟩
  intro p hp
  rcases List.mem_cons.1 hp with rfl | hp
  · exact headN_no q n
  · obtain ⟨e, _, rfl⟩ := List.mem_map.1 hp
    exact lineN_no e
theorem isT_of_lines {b : List UInt8} {q n : Nat} {es : List (Nat × Nat × Nat)} (h : spl 10 b = (graphT ++ headN q n) :: es.map lineN) (hq : q < 1000000000) (hn : n < 1000000000) (he : ∀ e ∈ es, okN e) : IsT (b ++ [10]) q n es := by
  refine ⟨?_, hq, hn, he⟩
  rw [prT_lines, ← h, spl_joinC]

/-- A word is a number of up to 9 digits, as it is printed. -/
def wordN (w : List UInt8) : Bool := canD w && decide (w.length ≤ 9)
theorem wordN_dec {u : Nat} (h : u < 1000000000) : wordN (dec u) = true := by
  unfold wordN; rw [dec_can, decide_eq_true (nine.2 h)]; rfl
theorem wordN_val {w : List UInt8} (h : wordN w = true) : dec (valD w) = w ∧ valD w < 1000000000 := by
  unfold wordN at h
  rw [Bool.and_eq_true, decide_eq_true_eq] at h
  have e := (can_back h.1).1
  exact ⟨e, nine.1 (by show (Lib.decDigits _).length ≤ 9; rw [e]; exact h.2)⟩
/-- The numbers of a line. -/
def numsP (s : List UInt8) (n : Nat) : Option (List Nat) := if (spl 32 s).length = n ∧ (spl 32 s).all wordN = true then some ((spl 32 s).map valD) else none
theorem nums_line {e : Nat × Nat × Nat} (h : okN e) : numsP (lineN e) 3 = some [e.1, e.2.1, e.2.2] := by
  have hs : spl 32 (lineN e) = [dec e.1, dec e.2.1, dec e.2.2] := spl_of_join 32 (by simp) (fun p hp => by
    simp only [List.mem_cons, List.not_mem_nil, or_false] at hp
    rcases hp with rfl | rfl | rfl <;> exact no32 _)
  unfold numsP
  rw [hs, if_pos ⟨rfl, by simp [wordN_dec h.1, wordN_dec h.2.1, wordN_dec h.2.2]⟩]
  simp [dec_val]
theorem nums_head {q n : Nat} (hq : q < 1000000000) (hn : n < 1000000000) : numsP (headN q n) 2 = some [q, n] := by
  have hs : spl 32 (headN q n) = [dec q, dec n] := spl_of_join 32 (by simp) (fun p hp => by
    simp only [List.mem_cons, List.not_mem_nil, or_false] at hp
    rcases hp with rfl | rfl <;> exact no32 _)
  unfold numsP
  rw [hs, if_pos ⟨rfl, by simp [wordN_dec hq, wordN_dec hn]⟩]
  simp [dec_val]
theorem nums_some {s : List UInt8} {n : Nat} {l : List Nat} (h : numsP s n = some l) : l.length = n ∧ s = joinC 32 (l.map dec) ∧ ∀ u ∈ l, u < 1000000000 := by
  unfold numsP at h
  split at h
  · rename_i hc
    cases h
    have hw := List.all_eq_true.1 hc.2
    refine ⟨by rw [List.length_map]; exact hc.1, ?_, fun u hu => ?_⟩
    · rw [List.map_map]
      have e : (spl 32 s).map (dec ∘ valD) = spl 32 s := by
        conv => rhs; rw [← List.map_id (spl 32 s)]
        exact List.map_congr_left (fun w h => (wordN_val (hw w h)).1)
      rw [e, spl_joinC]
    · obtain ⟨w, h, rfl⟩ := List.mem_map.1 hu
      exact (wordN_val (hw w h)).2
  · cases h
end Go.Proofs.YtcfmpplhghkagaaGreatDoor
namespace Go.Proofs.YtcfmpplhghkagaaGreatDoor
open Go

theorem line_inj {e e' : Nat × Nat × Nat} {r r' : List UInt8} (h : lineT e ++ r = lineT e' ++ r') : e = e' ∧ r = r' := by
  obtain ⟨a, b, c⟩ := e
  obtain ⟨a', b', c'⟩ := e'
  have h0 : dec a ++ 32 :: (dec b ++ 32 :: (dec c ++ 10 :: r)) = dec a' ++ 32 :: (dec b' ++ 32 :: (dec c' ++ 10 :: r')) := by
    simpa [lineT] using h
  obtain ⟨rfl, h1⟩ := dec_inj (by decide) h0
  obtain ⟨rfl, h2⟩ := dec_inj (by decide) h1
  obtain ⟨rfl, h3⟩ := dec_inj (by decide) h2
  exact ⟨rfl, h3⟩
theorem lineT_ne (e : Nat × Nat × Nat) : lineT e ≠ [] := by
  unfold lineT
  intro h
  have := congrArg List.length h
  simp at this
theorem body_pre : ∀ (es es' : List (Nat × Nat × Nat)) (r : List UInt8), bodyT es ++ r = bodyT es' → ∃ t, es' = es ++ t ∧ r = bodyT t
  | [], es', r, h => ⟨es', rfl, h⟩
  | e :: es, [], r, h => by
    exfalso
    have h1 : lineT e ++ (bodyT es ++ r) = [] := by simpa [bodyT] using h
    exact lineT_ne e (List.append_eq_nil_iff.1 h1).1
  | e :: es, e' :: es', r, h => by
    have h1 : lineT e ++ (bodyT es ++ r) = lineT e' ++ bodyT es' := by simpa [bodyT] using h
    obtain ⟨rfl, h2⟩ := line_inj h1
    obtain ⟨t, rfl, h3⟩ := body_pre es es' r h2
    exact ⟨t, rfl, h3⟩
theorem body_snoc (es : List (Nat × Nat × Nat)) (e : Nat × Nat × Nat) : bodyT (es ++ [e]) = bodyT es ++ lineT e := by simp [bodyT]
theorem prT_inj {q n q' n' : Nat} {es es' : List (Nat × Nat × Nat)} {r : List UInt8} (h : prT q n es ++ r = prT q' n' es') : q = q' ∧ n = n' ∧ ∃ t, es' = es ++ t ∧ r = bodyT t := by
  unfold prT at h
  rw [List.append_assoc] at h
  have h0 := List.append_cancel_left h
  have h1 : dec q ++ 32 :: (dec n ++ 10 :: (bodyT es ++ r)) = dec q' ++ 32 :: (dec n' ++ 10 :: bodyT es') := by simpa using h0
  obtain ⟨rfl, h2⟩ := dec_inj (by decide) h1
  obtain ⟨rfl, h3⟩ := dec_inj (by decide) h2
  exact ⟨rfl, rfl, body_pre es es' r h3⟩
theorem isT_uniq {s : List UInt8} {q n q' n' : Nat} {es es' : List (Nat × Nat × Nat)} (h : IsT s q n es) (k : IsT s q' n' es') : q = q' ∧ n = n' ∧ es = es' := by
  have e : prT q n es ++ [] = prT q' n' es' := by rw [List.append_nil, ← h.1, ← k.1]
  obtain ⟨h1, h2, t, h3, h4⟩ := prT_inj e
  refine ⟨h1, h2, ?_⟩
  cases t with
  | nil => rw [h3, List.append_nil]
  | cons a t =>
    exfalso
    have : lineT a ++ bodyT t = [] := by simpa [bodyT] using h4.symm
    exact lineT_ne a (List.append_eq_nil_iff.1 this).1

def edI (e : Nat × Nat × Nat) : Ed := ⟨e.1, e.2.1, e.2.2⟩
def mkG (q n : Nat) (es : List (Nat × Nat × Nat)) : Gr := ⟨q, n, es.map edI⟩
def gr0 : Gr := ⟨0, 0, []⟩
/-- A graph that is checked. -/
def chkd (G : Gr) : Gr × Int := if chkG G = 0 then (G, 0) else (gr0, chkG G)
theorem chkd_ok {G : Gr} (h : chkG G = 0) : chkd G = (G, 0) := if_pos h
theorem chkd_bad {G : Gr} (h : chkG G ≠ 0) : chkd G = (gr0, chkG G) := if_neg h
def anyT (s : List UInt8) : Prop := ∃ t : Nat × Nat × List (Nat × Nat × Nat), IsT s t.1 t.2.1 t.2.2
open Classical in
/-- What Parse answers. -/
noncomputable def parA (s : List UInt8) : Gr × Int := if 65536 < s.length then (gr0, 4) else if h : anyT s then chkd (mkG h.choose.1 h.choose.2.1 h.choose.2.2) else (gr0, 3)
theorem parA_long {s : List UInt8} (h : 65536 < s.length) : parA s = (gr0, 4) := if_pos h
theorem parA_is {s : List UInt8} {q n : Nat} {es : List (Nat × Nat × Nat)} (hs : s.length ≤ 65536) (h : IsT s q n es) : parA s = chkd (mkG q n es) := by
  have ha : anyT s := ⟨(q, n, es), h⟩
  unfold parA
  rw [if_neg (by omega), dif_pos ha]
  obtain ⟨h1, h2, h3⟩ := isT_uniq ha.choose_spec h
  rw [h1, h2, h3]
theorem parA_no {s : List UInt8} (hs : s.length ≤ 65536) (h : ¬ anyT s) : parA s = (gr0, 3) := by
  unfold parA
  rw [if_neg (by omega), dif_neg h]

/-! ### By numbers that are taken off -/
theorem no_head {s : List UInt8} (h : s.take 6 ≠ graphT) : ¬ anyT s := by
  rintro ⟨⟨q, n, es⟩, hs, _⟩
  apply h
  rw [hs]
  rfl
theorem no_first {r : List UInt8} (h : numR r 32 = none) : ¬ anyT (graphT ++ r) := by
  rintro ⟨⟨q, n, es⟩, hs, hq, _⟩
  have := List.append_cancel_left hs
  rw [this, numR_dec (by decide) hq] at h
  cases h
theorem no_second {r r' : List UInt8} {q : Nat} (h0 : numR r 32 = some (q, r')) (h : numR r' 10 = none) : ¬ anyT (graphT ++ r) := by
  rintro ⟨⟨q', n, es⟩, hs, hq, hn, _⟩
  have := List.append_cancel_left hs
  rw [this, numR_dec (by decide) hq] at h0
  cases h0
  rw [numR_dec (by decide) hn] at h
  cases h
/-- What has been read of a text. -/
def Rd (s : List UInt8) (q n : Nat) (es : List (Nat × Nat × Nat)) (r : List UInt8) : Prop := s = prT q n es ++ r ∧ q < 1000000000 ∧ n < 1000000000 ∧ ∀ e ∈ es, okN e
theorem rd_start {r r' t : List UInt8} {q n : Nat} (h0 : numR r 32 = some (q, r')) (h1 : numR r' 10 = some (n, t)) : Rd (graphT ++ r) q n [] t := by
  obtain ⟨rfl, hq⟩ := numR_some h0
  obtain ⟨rfl, hn⟩ := numR_some h1
  exact ⟨by simp [prT, bodyT], hq, hn, fun e he => by cases he⟩
theorem rd_end {s : List UInt8} {q n : Nat} {es : List (Nat × Nat × Nat)} (h : Rd s q n es []) : IsT s q n es := ⟨by have := h.1; rwa [List.append_nil] at this, h.2⟩
theorem rd_step {s : List UInt8} {q n : Nat} {es : List (Nat × Nat × Nat)} {r r1 r2 r3 : List UInt8} {a b c : Nat} (h : Rd s q n es r) (h1 : numR r 32 = some (a, r1)) (h2 : numR r1 32 = some (b, r2)) (h3 : numR r2 10 = some (c, r3)) : Rd s q n (es ++ [(a, b, c)]) r3 := by
  obtain ⟨rfl, ha⟩ := numR_some h1
  obtain ⟨rfl, hb⟩ := numR_some h2
  obtain ⟨rfl, hc⟩ := numR_some h3
  refine ⟨?_, h.2.1, h.2.2.1, fun e he => ?_⟩
  · rw [h.1]; simp [prT, body_snoc, lineT]
  · rcases List.mem_append.1 he with he | he
    · exact h.2.2.2 e he
    · rw [List.mem_singleton] at he
      subst he
      exact ⟨ha, hb, hc⟩
theorem rd_more {s : List UInt8} {q n : Nat} {es : List (Nat × Nat × Nat)} {r : List UInt8} (h : Rd s q n es r) (hr : r ≠ []) (k : anyT s) : ∃ e r', okN e ∧ r = lineT e ++ r' := by
  obtain ⟨⟨q', n', es'⟩, hs, hq, hn, he⟩ := k
  have e : prT q n es ++ r = prT q' n' es' := by rw [← h.1]; exact hs
  obtain ⟨h1, h2, t, h3, h4⟩ := prT_inj e
  cases t with
  | nil => exact absurd h4 hr
  | cons a t =>
    refine ⟨a, bodyT t, he a ?_, by rw [h4]; simp [bodyT]⟩
    show a ∈ es'
    rw [h3]
    simp
theorem line_nums {e : Nat × Nat × Nat} (h : okN e) (r : List UInt8) : ∃ r1 r2, numR (lineT e ++ r) 32 = some (e.1, r1) ∧ numR r1 32 = some (e.2.1, r2) ∧ numR r2 10 = some (e.2.2, r) := by
  refine ⟨dec e.2.1 ++ 32 :: (dec e.2.2 ++ 10 :: r), dec e.2.2 ++ 10 :: r, ?_, numR_dec (by decide) h.2.1 _, numR_dec (by decide) h.2.2 _⟩
  have := numR_dec (c := 32) (by decide) h.1 (dec e.2.1 ++ 32 :: (dec e.2.2 ++ 10 :: r))
  rw [← this]
  simp [lineT]
theorem rd_no1 {s : List UInt8} {q n : Nat} {es : List (Nat × Nat × Nat)} {r : List UInt8} (h : Rd s q n es r) (hr : r ≠ []) (h1 : numR r 32 = none) : ¬ anyT s := fun k => by
  obtain ⟨e, r', ho, rfl⟩ := rd_more h hr k
  obtain ⟨r1, r2, e1, e2, e3⟩ := line_nums ho r'
  rw [e1] at h1; cases h1
theorem rd_no2 {s : List UInt8} {q n : Nat} {es : List (Nat × Nat × Nat)} {r r1 : List UInt8} {a : Nat} (h : Rd s q n es r) (hr : r ≠ []) (h1 : numR r 32 = some (a, r1)) (h2 : numR r1 32 = none) : ¬ anyT s := fun k => by
  obtain ⟨e, r', ho, rfl⟩ := rd_more h hr k
  obtain ⟨s1, s2, e1, e2, e3⟩ := line_nums ho r'
  rw [e1] at h1; cases h1
  rw [e2] at h2; cases h2
theorem rd_no3 {s : List UInt8} {q n : Nat} {es : List (Nat × Nat × Nat)} {r r1 r2 : List UInt8} {a b : Nat} (h : Rd s q n es r) (hr : r ≠ []) (h1 : numR r 32 = some (a, r1)) (h2 : numR r1 32 = some (b, r2)) (h3 : numR r2 10 = none) : ¬ anyT s := fun k => by
  obtain ⟨e, r', ho, rfl⟩ := rd_more h hr k
  obtain ⟨s1, s2, e1, e2, e3⟩ := line_nums ho r'
  rw [e1] at h1; cases h1
  rw [e2] at h2; cases h2
  rw [e3] at h3; cases h3

/-! ### By lines and words -/
/-- What has been read of the lines of a text. -/
def Ln (s : List UInt8) (q n : Nat) (es : List (Nat × Nat × Nat)) (ls : List (List UInt8)) : Prop := ∃ b, s = b ++ [10] ∧ spl 10 b = (graphT ++ headN q n) :: (es.map lineN ++ ls) ∧ q < 1000000000 ∧ n < 1000000000 ∧ ∀ e ∈ es, okN e
theorem isT_split {s b : List UInt8} (hs : s = b ++ [10]) (k : anyT s) : ∃ (q n : Nat) (es : List (Nat × Nat × Nat)), spl 10 b = (graphT ++ headN q n) :: es.map lineN ∧ q < 1000000000 ∧ n < 1000000000 ∧ ∀ e ∈ es, okN e := by
  obtain ⟨⟨q, n, es⟩, h⟩ := k
  obtain ⟨b', e1, e2⟩ := isT_lines h
  have : b' = b := by
    have := e1.symm.trans hs
    exact List.append_inj_left' this rfl
  subst this
  exact ⟨q, n, es, e2, h.2⟩
theorem no_end {s : List UInt8} (h : ∀ b, s ≠ b ++ [10]) : ¬ anyT s := by
  rintro ⟨⟨q, n, es⟩, hs⟩
  obtain ⟨b, e, _⟩ := isT_lines hs
  exact h b e
theorem no_pre {b h : List UInt8} {ls : List (List UInt8)} (hb : spl 10 b = h :: ls) (hn : ∀ r, h ≠ graphT ++ r) : ¬ anyT (b ++ [10]) := fun k => by
  obtain ⟨q, n, es, e, _⟩ := isT_split rfl k
  rw [hb] at e
  exact hn _ (List.cons.inj e).1
theorem no_nums {b h : List UInt8} {ls : List (List UInt8)} (hb : spl 10 b = (graphT ++ h) :: ls) (hn : numsP h 2 = none) : ¬ anyT (b ++ [10]) := fun k => by
  obtain ⟨q, n, es, e, h1, h2, _⟩ := isT_split rfl k
  rw [hb] at e
  have e1 := List.append_cancel_left (List.cons.inj e).1
  rw [e1, nums_head h1 h2] at hn
  cases hn
theorem nums_len {s : List UInt8} {n : Nat} {l : List Nat} (h : numsP s n = some l) : l.length = n := (nums_some h).1
theorem ln_start {b h : List UInt8} {ls : List (List UInt8)} {q n : Nat} (hb : spl 10 b = (graphT ++ h) :: ls) (hn : numsP h 2 = some [q, n]) : Ln (b ++ [10]) q n [] ls := by
  obtain ⟨_, rfl, hu⟩ := nums_some hn
  exact ⟨b, rfl, hb, hu q (by simp), hu n (by simp), fun e he => by cases he⟩
theorem ln_step {s l : List UInt8} {q n a b c : Nat} {es : List (Nat × Nat × Nat)} {ls : List (List UInt8)} (h : Ln s q n es (l :: ls)) (hn : numsP l 3 = some [a, b, c]) : Ln s q n (es ++ [(a, b, c)]) ls := by
  obtain ⟨t, e1, e2, h1, h2, h3⟩ := h
  obtain ⟨_, rfl, hu⟩ := nums_some hn
  refine ⟨t, e1, by rw [e2]; simp [lineN], h1, h2, fun e he => ?_⟩
  rcases List.mem_append.1 he with he | he
  · exact h3 e he
  · rw [List.mem_singleton] at he
    subst he
    exact ⟨hu a (by simp), hu b (by simp), hu c (by simp)⟩
theorem ln_end {s : List UInt8} {q n : Nat} {es : List (Nat × Nat × Nat)} (h : Ln s q n es []) : IsT s q n es := by
  obtain ⟨t, rfl, e2, h1, h2, h3⟩ := h
  rw [List.append_nil] at e2
  exact isT_of_lines e2 h1 h2 h3
theorem ln_no {s l : List UInt8} {q n : Nat} {es : List (Nat × Nat × Nat)} {ls : List (List UInt8)} (h : Ln s q n es (l :: ls)) (hn : numsP l 3 = none) : ¬ anyT s := fun k => by
  obtain ⟨t, e1, e2, h1, h2, h3⟩ := h
  obtain ⟨q', n', es', e, _, _, ho⟩ := isT_split e1 k
  rw [e2] at e
  have e3 := (List.cons.inj e).2
  have hm : l ∈ es'.map lineN := by rw [← e3]; simp
  obtain ⟨x, hx, rfl⟩ := List.mem_map.1 hm
  rw [nums_line (ho x hx)] at hn
  cases hn

/-! ### Texts of graphs -/
def edN (x : Ed) : Nat × Nat × Nat := (x.f.toNat, x.l.toNat, x.t.toNat)
theorem edI_N {x : Ed} (h : 0 ≤ x.f ∧ 0 ≤ x.l ∧ 0 ≤ x.t) : edI (edN x) = x := by
  obtain ⟨f, l, t⟩ := x
  obtain ⟨h1, h2, h3⟩ := h
  have h1 : 0 ≤ f := h1
  have h2 : 0 ≤ l := h2
  have h3 : 0 ≤ t := h3
  simp only [edI, edN, Ed.mk.injEq]
  omega
def txtN (G : Gr) : List UInt8 := prT G.q.toNat G.n.toNat (G.es.map edN)
theorem txtN_is {G : Gr} (h : Vg G) : IsT (txtN G) G.q.toNat G.n.toNat (G.es.map edN) := by
  have h1 := h.q1; have h2 := h.q2; have h3 := h.n1; have h4 := h.n2
  refine ⟨rfl, by omega, by omega, fun e he => ?_⟩
  obtain ⟨x, hx, rfl⟩ := List.mem_map.1 he
  have := h.ins x hx
  exact ⟨by show x.f.toNat < _; omega, by show x.l.toNat < _; omega, by show x.t.toNat < _; omega⟩
theorem mkG_N {G : Gr} (h : Vg G) : mkG G.q.toNat G.n.toNat (G.es.map edN) = G := by
  have h1 := h.q1; have h3 := h.n1
  have he : (G.es.map edN).map edI = G.es := by
    rw [List.map_map]
    conv => rhs; rw [← List.map_id G.es]
    refine List.map_congr_left (fun x hx => ?_)
    have := h.ins x hx
    exact edI_N (by omega)
  obtain ⟨q, n, es⟩ := G
  simp only [mkG, Gr.mk.injEq]
  refine ⟨?_, ?_, he⟩
  · show ((q.toNat : Nat) : Int) = q
    have : 1 ≤ q := h1
    omega
  · show ((n.toNat : Nat) : Int) = n
    have : 0 ≤ n := h3
    omega
theorem par_txt {G : Gr} (h : Vg G) (hl : (txtN G).length ≤ 65536) : parA (txtN G) = (G, 0) := by
  rw [parA_is hl (txtN_is h), mkG_N h]
  exact chkd_ok (chkG_ok.2 h)
theorem mkG_txt {q n : Nat} {es : List (Nat × Nat × Nat)} : txtN (mkG q n es) = prT q n es := by
  unfold txtN mkG
  have : (es.map edI).map edN = es := by
    rw [List.map_map]
    conv => rhs; rw [← List.map_id es]
    exact List.map_congr_left (fun e _ => rfl)
  simp only [this]
  rfl
/-- What is parsed is the text of the result. -/
theorem par_back {s : List UInt8} (h : (parA s).2 = 0) : txtN (parA s).1 = s ∧ chkG (parA s).1 = 0 := by
  by_cases hs : 65536 < s.length
  · rw [parA_long hs] at h; cases h
  by_cases ha : anyT s
  · obtain ⟨⟨q, n, es⟩, hi⟩ := ha
    rw [parA_is (by omega) hi] at h ⊢
    by_cases hc : chkG (mkG q n es) = 0
    · rw [chkd_ok hc]
      exact ⟨by rw [mkG_txt]; exact hi.1.symm, hc⟩
    · rw [chkd_bad hc] at h; exact absurd h hc
  · rw [parA_no (by omega) ha] at h; cases h
theorem par_empty {s : List UInt8} (h : (parA s).2 ≠ 0) : (parA s).1 = gr0 := by
  by_cases hs : 65536 < s.length
  · rw [parA_long hs]
  by_cases ha : anyT s
  · obtain ⟨⟨q, n, es⟩, hi⟩ := ha
    rw [parA_is (by omega) hi] at h ⊢
    by_cases hc : chkG (mkG q n es) = 0
    · rw [chkd_ok hc] at h; exact absurd rfl h
    · rw [chkd_bad hc]
  · rw [parA_no (by omega) ha]
end Go.Proofs.YtcfmpplhghkagaaGreatDoor
namespace Go.Proofs.YtcfmpplhghkagaaGreatDoor
open Go

theorem all_take {l : List UInt8} {k : Nat} (hk : k < l.length) (h : (l.take k).all isD = true) (hd : isD l[k] = true) : (l.take (k + 1)).all isD = true := by
  rw [List.take_succ_eq_append_getElem hk, List.all_append, h]; simp [hd]
theorem valD_take {l : List UInt8} {k : Nat} (hk : k < l.length) : valD (l.take (k + 1)) = 10 * valD (l.take k) + (l[k].toNat - 48) := by
  rw [List.take_succ_eq_append_getElem hk, valD_snoc]
theorem valD_lt : ∀ (l : List UInt8), l.all isD = true → valD l < 10 ^ l.length := by
  intro l
  induction h : l.length generalizing l with
  | zero =>
    intro _
    have : l = [] := List.length_eq_zero_iff.1 h
    subst this; decide
  | succ n ih =>
    intro ha
    obtain rfl | ⟨l', b, rfl⟩ := List.eq_nil_or_concat l
    · simp at h
    rw [List.concat_eq_append] at *
    rw [List.all_append, Bool.and_eq_true] at ha
    have h1 := ih l' (by simpa using h) ha.1
    have hb : isD b = true := by simpa using ha.2
    unfold isD at hb
    rw [Bool.and_eq_true, decide_eq_true_eq, decide_eq_true_eq] at hb
    rw [valD_snoc, Nat.pow_succ]; omega
theorem take_while {l : List UInt8} {k : Nat} (_hk : k ≤ l.length) (hall : (l.take k).all isD = true) : l.takeWhile isD = l.take k ++ (l.drop k).takeWhile isD := by
  conv => lhs; rw [← List.take_append_drop k l]
  exact List.takeWhile_append_of_pos (fun b hb => List.all_eq_true.1 hall b hb)
/-- What the loop over the digits says of a number. -/
theorem num_many {l : List UInt8} {e : UInt8} (hk : 10 ≤ l.length) (hall : (l.take 10).all isD = true) : numR l e = none := by
  unfold numR
  simp only
  rw [if_neg]
  rintro ⟨_, h2, _⟩
  rw [take_while hk hall, List.length_append, List.length_take] at h2
  omega
theorem num_stop {l : List UInt8} {k : Nat} (hk : k ≤ l.length) (hall : (l.take k).all isD = true) (hs : ∀ h : k < l.length, isD l[k] = false) : l.takeWhile isD = l.take k := by
  rw [take_while hk hall]
  have : (l.drop k).takeWhile isD = [] := by
    by_cases h : k < l.length
    · rw [List.drop_eq_getElem_cons h, List.takeWhile_cons_of_neg (by rw [hs h]; simp)]
    · rw [List.drop_eq_nil_of_le (by omega)]; rfl
  rw [this, List.append_nil]
theorem num_some {l : List UInt8} {e : UInt8} {k : Nat} (h0 : 0 < k) (h9 : k ≤ 9) (hk : k < l.length) (hall : (l.take k).all isD = true) (hd : isD l[k] = false) (hz : l[0] ≠ 48 ∨ k = 1) (he : l[k] = e) : numR l e = some (valD (l.take k), l.drop (k + 1)) := by
  have ht := num_stop (Nat.le_of_lt hk) hall (fun _ => hd)
  have hl : (l.take k).length = k := by rw [List.length_take]; omega
  unfold numR
  simp only [ht, hl]
  rw [if_pos]
  refine ⟨?_, h9, ?_⟩
  · unfold canD
    rw [hall, hl]
    have e1 : (l.take k).isEmpty = false := by
      cases h : l.take k with
      | nil => rw [h] at hl; simp at hl; omega
      | cons a b => rfl
    rw [e1]
    rcases hz with hz | hz
    · have : (l.take k).head? = some l[0] := by
        rw [List.head?_take, if_neg (by omega), List.head?_eq_getElem?, List.getElem?_eq_getElem (by omega)]
      rw [this]; simp [hz]
    · simp [hz]
  · rw [List.drop_eq_getElem_cons hk, he]; rfl
theorem num_none {l : List UInt8} {e : UInt8} {k : Nat} (hk : k ≤ l.length) (hall : (l.take k).all isD = true) (hs : ∀ h : k < l.length, isD l[k] = false) (hb : k = 0 ∨ 9 < k ∨ ((∃ h : 0 < l.length, l[0] = 48) ∧ 1 < k) ∨ l.length = k ∨ ∃ h : k < l.length, l[k] ≠ e) : numR l e = none := by
  have ht := num_stop hk hall hs
  have hl : (l.take k).length = k := by rw [List.length_take]; omega
  unfold numR
  simp only [ht, hl]
  rw [if_neg]
  rintro ⟨h1, h2, h3⟩
  rcases hb with h | h | ⟨⟨h, h'⟩, hk1⟩ | h | ⟨h, h'⟩
  · subst h; cases h1
  · omega
  · unfold canD at h1
    have hh : (l.take k).head? = some 48 := by
      rw [List.head?_take, if_neg (by omega), List.head?_eq_getElem?, List.getElem?_eq_getElem h, h']
    rw [hh, hl] at h1
    simp at h1
    omega
  · rw [List.drop_eq_nil_of_le (by omega)] at h3; cases h3
  · rw [List.drop_eq_getElem_cons h] at h3
    exact h' (Option.some.inj h3)
/-- A number taken off a text, and the rest; -1 and the text if there is none. -/
def numV (s : ByteArray) (e : UInt8) : Int × ByteArray := match numR s.data.toList e with
  | some (n, r) => (n, ⟨r.toArray⟩)
  | none => (-1, s)
theorem numV_none {s : ByteArray} {e : UInt8} (h : numR s.data.toList e = none) : numV s e = (-1, s) := by unfold numV; rw [h]
theorem numV_some {s : ByteArray} {e : UInt8} {n : Nat} {r : List UInt8} (h : numR s.data.toList e = some (n, r)) : numV s e = ((n : Int), ⟨r.toArray⟩) := by unfold numV; rw [h]
theorem numV_size (s : ByteArray) (e : UInt8) : (numV s e).2.size ≤ s.size ∧ (0 ≤ (numV s e).1 → (numV s e).2.size < s.size) := by
  cases h : numR s.data.toList e with
  | none => rw [numV_none h]; exact ⟨Nat.le_refl _, fun h => absurd h (show ¬ (0 : Int) ≤ -1 by decide)⟩
  | some p =>
    obtain ⟨n, r⟩ := p
    rw [numV_some h]
    have := (numR_some h).1
    have e1 := congrArg List.length this
    simp only [List.length_append, List.length_cons] at e1
    have e2 : s.data.toList.length = s.size := by simp
    have e3 : (⟨r.toArray⟩ : ByteArray).size = r.length := by simp [ByteArray.size]
    rw [e3]
    constructor
    · omega
    · intro _; omega
theorem numV_bd (s : ByteArray) (e : UInt8) : -1 ≤ (numV s e).1 ∧ (numV s e).1 < 1000000000 := by
  cases h : numR s.data.toList e with
  | none => rw [numV_none h]; exact (show (-1 : Int) ≤ -1 ∧ (-1 : Int) < 1000000000 by decide)
  | some p =>
    obtain ⟨n, r⟩ := p
    rw [numV_some h]
    have := (numR_some h).2
    exact ⟨by show (-1 : Int) ≤ (n : Int); omega, by show ((n : Nat) : Int) < 1000000000; omega⟩
theorem numV_neg {s : ByteArray} {e : UInt8} (h : (numV s e).1 < 0) : numR s.data.toList e = none := by
  cases h1 : numR s.data.toList e with
  | none => rfl
  | some p =>
    obtain ⟨n, r⟩ := p
    rw [numV_some h1] at h
    exact absurd h (by show ¬ ((n : Nat) : Int) < 0; omega)
theorem numV_pos {s : ByteArray} {e : UInt8} (h : 0 ≤ (numV s e).1) : ∃ n : Nat, (numV s e).1 = n ∧ numR s.data.toList e = some (n, (numV s e).2.data.toList) := by
  cases h1 : numR s.data.toList e with
  | none => rw [numV_none h1] at h; exact absurd h (show ¬ (0 : Int) ≤ -1 by decide)
  | some p =>
    obtain ⟨n, r⟩ := p
    rw [numV_some h1]
    exact ⟨n, rfl, rfl⟩

/-! ### Words by the library -/
theorem parse_dig : ∀ (l : List UInt8) (acc : Nat), l.all isD = true → (acc + 1) * 10 ^ l.length ≤ 10 ^ 10 → Lib.parseUint10 acc l = .ok (l.foldl (fun n b => 10 * n + (b.toNat - 48)) acc)
  | [], acc, _, _ => rfl
  | c :: r, acc, h, hb => by
    rw [List.all_cons, Bool.and_eq_true] at h
    have hc := h.1
    unfold isD at hc
    rw [Bool.and_eq_true, decide_eq_true_eq, decide_eq_true_eq] at hc
    rw [List.length_cons, Nat.pow_succ] at hb
    have h1 : 1 ≤ 10 ^ r.length := Nat.one_le_pow _ _ (by omega)
    have h2 : (acc + 1) * 10 * 1 ≤ (acc + 1) * 10 * 10 ^ r.length := Nat.mul_le_mul_left _ h1
    have h3 : (acc + 1) * (10 ^ r.length * 10) = (acc + 1) * 10 * 10 ^ r.length := by rw [Nat.mul_comm (10 ^ r.length) 10, Nat.mul_assoc]
    have h4 : (10 : Nat) ^ 10 = 10000000000 := by decide
    rw [Lib.parseUint10, if_pos hc, if_neg (by omega), if_neg (by omega)]
    have h5 : (acc * 10 + (c.toNat - 48) + 1) * 10 ^ r.length ≤ (acc + 1) * 10 * 10 ^ r.length := Nat.mul_le_mul_right _ (by omega)
    rw [parse_dig r _ h.2 (by omega), List.foldl_cons, Nat.mul_comm acc 10]
theorem atoi_word {x : List UInt8} (h : wordN x = true) : Lib.atoiAll x = .ok (valD x : Int) ∧ (valD x : Int) ≤ 999999999 := by
  obtain ⟨e, hv⟩ := wordN_val h
  unfold wordN at h
  rw [Bool.and_eq_true, decide_eq_true_eq] at h
  obtain ⟨hc, hl⟩ := h
  unfold canD at hc
  rw [Bool.and_eq_true, Bool.and_eq_true] at hc
  obtain ⟨⟨ha, hn⟩, _⟩ := hc
  refine ⟨?_, by omega⟩
  cases x with
  | nil => cases hn
  | cons c r =>
    have hd : isD c = true := by rw [List.all_cons, Bool.and_eq_true] at ha; exact ha.1
    unfold isD at hd
    rw [Bool.and_eq_true, decide_eq_true_eq, decide_eq_true_eq] at hd
    have hp : Lib.parseMag (c :: r) = .ok (valD (c :: r)) := by
      unfold Lib.parseMag
      rw [if_neg (by simp), parse_dig (c :: r) 0 ha]
      · rfl
      · show 1 * 10 ^ (c :: r).length ≤ 10 ^ 10
        rw [Nat.one_mul]
        exact Nat.pow_le_pow_right (by omega) (by omega)
    unfold Lib.atoiAll
    simp only
    rw [if_neg (by omega), hp]
    simp only
    rw [if_neg (by omega), if_neg (by omega), if_neg (by omega)]
theorem itoa_pos {v : Int} (h : 0 ≤ v) : Lib.itoa v = dec v.toNat := by
  unfold Lib.itoa
  first
    | rw [if_neg (by omega)]
    | (rw [if_pos (by omega)])
theorem atoi_other {x : List UInt8} {v : Int} (h : wordN x = false) (h0 : 0 ≤ v) (h9 : v ≤ 999999999) : Lib.itoa v ≠ x := by
  rw [itoa_pos h0]
  rintro rfl
  rw [wordN_dec (by omega)] at h
  cases h
theorem word_back {x : List UInt8} (h : wordN x = true) : Lib.itoa (valD x : Int) = x := by
  rw [itoa_pos (by omega), Int.toNat_natCast]; exact (wordN_val h).1

/-! ### Sizes -/
theorem dec_len {u : Nat} (h : u < 1000000000) : (dec u).length ≤ 9 := nine.2 h
theorem line_len {e : Nat × Nat × Nat} (h : okN e) : (lineT e).length ≤ 30 := by
  have h1 := dec_len h.1; have h2 := dec_len h.2.1; have h3 := dec_len h.2.2
  unfold lineT
  simp only [List.length_append, List.length_cons, List.length_nil]; omega
theorem body_len : ∀ {es : List (Nat × Nat × Nat)}, (∀ e ∈ es, okN e) → (bodyT es).length ≤ 30 * es.length
  | [], _ => by simp [bodyT]
  | e :: es, h => by
    have h1 := line_len (h e (by simp))
    have h2 := body_len (fun x hx => h x (List.mem_cons_of_mem _ hx))
    have e1 : bodyT (e :: es) = lineT e ++ bodyT es := by simp [bodyT]
    rw [e1, List.length_append, List.length_cons]; omega
theorem prT_len {q n : Nat} {es : List (Nat × Nat × Nat)} (hq : q < 1000000000) (hn : n < 1000000000) (he : ∀ e ∈ es, okN e) : (prT q n es).length ≤ 30 * (es.length + 1) := by
  have h1 := dec_len hq; have h2 := dec_len hn; have h3 := body_len he
  unfold prT
  simp only [List.length_append, List.length_cons, show graphT.length = 6 from rfl]; omega
theorem txtN_len {G : Gr} (h : Vg G) : (txtN G).length ≤ 30 * (G.es.length + 1) := by
  have := txtN_is h
  have h1 := prT_len this.2.1 this.2.2.1 this.2.2.2
  rw [List.length_map] at h1
  exact h1
end Go.Proofs.YtcfmpplhghkagaaGreatDoor
namespace Go.Proofs.YtcfmpplhghkagaaGreatDoor
open Go.RowKit

theorem ret_strL {a b : ByteArray} (h : a.data.toList = b.data.toList) : Ending.returned (.string a) = .returned (.string b) := by
  congr 2
  exact ByteArray.ext (Array.toList_inj.1 h)
theorem ret_numL {a b : Int} {s t : ByteArray} (h : a = b) (k : s.data.toList = t.data.toList) : Ending.returned (.tuple #[.int .i64 a, .string s]) = .returned (.tuple #[.int .i64 b, .string t]) := by
  have : s = t := ByteArray.ext (Array.toList_inj.1 k)
  rw [h, this]
theorem ext_drop (s : ByteArray) (k : Nat) : (s.extract k s.size).data.toList = s.data.toList.drop k := by
  rw [ByteArray.data_extract, Array.toList_extract, List.extract_eq_take_drop]
  exact List.take_of_length_le (by rw [List.length_drop]; simp)
def decS (n : Nat) : ByteArray := ⟨(dec n).toArray⟩
theorem bytes_one (w : World) (x : UInt8) : Lib.Bytes (w.alloc (.cells #[.int .u8 (x.toNat : Int)] 5)) w.heap.size 0 ⟨#[x]⟩ := fun i hi => by
  have hi0 : i = 0 := by simp [ByteArray.size] at hi; omega
  subst hi0
  exact (VRow.new w 5 [.int .u8 (x.toNat : Int)]).at 0 rfl
set_option maxRecDepth 100000 in
set_option maxHeartbeats 1000000 in
theorem rDecimal_any (n : Nat) (hn : n < 1000000000) (w : World) : Calls Tryz.prog 35 #[.int .i64 n] w fun e w' => e = .returned (.string (decS n)) ∧ RowKit.Below w.heap.size w w' := by
  have HL := hidI (dec_len hn)
  obtain ⟨D, hD⟩ : ∃ D, dec n = D := ⟨_, rfl⟩
  have HD := hidI hD
  clear hD
  go_enter Tryz.func35, Tryz.ntmps35
  go_wp2
  go_loopw [0, 3] (fun iv sv wr => ∃ (m : Nat) (acc : ByteArray), iv = .int .i64 m ∧ m < 1000000000 ∧ sv = .string acc ∧ Hid (D = dec m ++ acc.data.toList) ∧ RowKit.Below w.heap.size w wr) (fun iv _ _ => (intOf iv).toNat)
  case atStart => exact ⟨n, ⟨#[]⟩, rfl, hn, rfl, by unfold Hid; rw [← HD.out]; simp, RowKit.Below.refl _ _⟩
  case round =>
    obtain ⟨m, acc, rfl, hm, rfl, HA, hB⟩ := hrel
    have hz : acc.size ≤ 9 := by
      have e1 := congrArg List.length HA.out
      rw [← HD.out, List.length_append] at e1
      have e2 : acc.data.toList.length = acc.size := by simp
      have := HL.out
      omega
    obtain ⟨x, hx⟩ : ∃ x : UInt8, (x.toNat : Int) = 48 + (m : Int) % 10 ∧ x = UInt8.ofNat (48 + m % 10) := ⟨UInt8.ofNat (48 + m % 10), by rw [d_of _ (by omega)]; omega, rfl⟩
    have HC : (convert 55 9 (Value.slice (some ⟨wr.heap.size, 0, none⟩) 1 1)).run Tryz.prog (wr.alloc (.cells #[.int .u8 (48 + (m : Int) % 10)] 5)) = .ok (Value.string ⟨#[x]⟩) (wr.alloc (.cells #[.int .u8 (48 + (m : Int) % 10)] 5)) := by
      rw [← hx.1]
      exact Lib.run_convert_whole (P := Tryz.prog) (wr.alloc (.cells #[.int .u8 (x.toNat : Int)] 5)) 55 5 9 Tryz.underlying55 Tryz.underlying5 Tryz.underlying9 _ _ ⟨#[x]⟩ (bytes_one wr x) 1
    have HX := hidI hx.2
    have hz1 : (⟨#[x]⟩ : ByteArray).size = 1 := rfl
    have HZ : Hid ((⟨#[x]⟩ ++ acc : ByteArray).data.toList = x :: acc.data.toList) := by unfold Hid; simp
    have hB1 := hB.alloc hB.size (.cells #[.int .u8 (48 + (m : Int) % 10)] 5)
    clear hx
    by_cases h10 : m < 10
    · have h0 : ((m : Int) / 10 == 0) = true := by rw [beq_iff_eq]; omega
      go_wp2
      go_ret
      refine ⟨ret_strL ?_, hB1⟩
      rw [HZ.out]
      show x :: acc.data.toList = dec n
      rw [HD.out, HA.out, show dec m = [UInt8.ofNat (48 + m)] from Lib.decDigits_one h10, HX.out, show m % 10 = m by omega]
      rfl
    · have h0 : ((m : Int) / 10 == 0) = false := by rw [beq_eq_false_iff_ne]; omega
      go_wp2
      go_roundw
      case rel => exact ⟨m / 10, _, by go_num, by omega, rfl, by unfold Hid; rw [HZ.out, HA.out, show dec m = _ from dec_step m h10, HX.out]; simp, hB1⟩
      case measure => simp [intOf]; omega

theorem isD_t {b : UInt8} (h1 : 48 ≤ (b.toNat : Int)) (h2 : (b.toNat : Int) ≤ 57) : isD b = true := by unfold isD; simp; omega
theorem isD_f {b : UInt8} (h : ¬ (48 ≤ (b.toNat : Int) ∧ (b.toNat : Int) ≤ 57)) : isD b = false := by unfold isD; simp; omega
set_option maxRecDepth 100000 in
set_option maxHeartbeats 1000000 in
theorem rNumber_any (s : ByteArray) (e : UInt8) (w : World) (hs : s.size ≤ 1000000) : Calls Tryz.prog 40 #[.string s, .int .u8 (e.toNat : Int)] w fun en w' => en = .returned (.tuple #[.int .i64 (numV s e).1, .string (numV s e).2]) ∧ Dr w w' := by
  obtain ⟨V, hV⟩ : ∃ V, numV s e = V := ⟨_, rfl⟩
  have HV := hidI hV
  rw [hV]
  clear hV
  have hsl : s.data.toList.length = s.size := by simp
  have HSL := hidI hsl
  clear hsl
  go_enter Tryz.func40, Tryz.ntmps40
  go_upto_block 0 with fail
  go_cut [6, 7] (fun nv kv wx => wx = w ∧ ∃ (k v : Nat), k ≤ s.size ∧ k ≤ 10 ∧ kv = .int .i64 k ∧ nv = .int .i64 v ∧ v < 10000000000 ∧ Hid (v = valD (s.data.toList.take k)) ∧ Hid ((s.data.toList.take k).all isD = true) ∧ Hid (k < 10 → ∀ h : k < s.data.toList.length, isD s.data.toList[k] = false))
  case first =>
    go_wp2_with fail
    go_loop [6, 7] (fun nv kv => ∃ (k v : Nat), k ≤ s.size ∧ k ≤ 10 ∧ kv = .int .i64 k ∧ nv = .int .i64 v ∧ Hid (v = valD (s.data.toList.take k)) ∧ v < 10000000000 ∧ Hid ((s.data.toList.take k).all isD = true)) (fun _ kv => 10 - (intOf kv).toNat)
    case atStart => exact ⟨0, 0, by omega, by omega, rfl, rfl, rfl, by omega, by rfl⟩
    case round =>
      obtain ⟨k, v, hk, hk10, rfl, rfl, HVV, hvb, HALL⟩ := hrel
      have HKL : Hid (k ≤ s.data.toList.length) := by unfold Hid; rw [HSL.out]; exact hk
      by_cases hlt : k < s.size
      · have HG : Hid (s.data.toList[k]'(by rw [HSL.out]; exact hlt) = s[k]) := rfl
        by_cases h10 : k < 10
        · have bB : decide ((k : Int) < 10) = true := decide_eq_true (by omega)
          by_cases hd1 : 48 ≤ (s[k].toNat : Int)
          · have bC : decide (48 ≤ (s[k].toNat : Int)) = true := decide_eq_true hd1
            by_cases hd2 : (s[k].toNat : Int) ≤ 57
            · have bD : decide ((s[k].toNat : Int) ≤ 57) = true := decide_eq_true hd2
              have HT : Hid (valD (s.data.toList.take (k + 1)) = 10 * v + (s[k].toNat - 48)) := by
                unfold Hid; rw [valD_take (by rw [HSL.out]; exact hlt), HVV.out]; rfl
              have HA2 : Hid ((s.data.toList.take (k + 1)).all isD = true) := all_take (by rw [HSL.out]; exact hlt) HALL.out (isD_t hd1 hd2)
              have hvv : v < 10 ^ k := by
                have := valD_lt _ HALL.out
                rw [List.length_take, HSL.out, ← HVV.out, Nat.min_eq_left hk] at this
                exact this
              have hv9 : v < 1000000000 := Nat.lt_of_lt_of_le hvv (Nat.pow_le_pow_right (by omega) (by omega : k ≤ 9))
              clear hvv
              go_wp2
              go_round
              case rel => exact ⟨k + 1, 10 * v + (s[k].toNat - 48), by omega, by omega, by go_num, by go_num, HT.out.symm, by omega, HA2.out⟩
              case measure => simp [intOf]; omega
            · have bD : decide ((s[k].toNat : Int) ≤ 57) = false := decide_eq_false hd2
              have HF : Hid (k < 10 → ∀ h : k < s.data.toList.length, isD s.data.toList[k] = false) := fun _ h => by rw [HG.out]; exact isD_f (fun h => hd2 h.2)
              go_wp2_with fail
              go_meet
              exact ⟨rfl, k, v, hk, hk10, rfl, rfl, hvb, HVV, HALL, HF⟩
          · have bC : decide (48 ≤ (s[k].toNat : Int)) = false := decide_eq_false hd1
            have HF : Hid (k < 10 → ∀ h : k < s.data.toList.length, isD s.data.toList[k] = false) := fun _ h => by rw [HG.out]; exact isD_f (fun h => hd1 h.1)
            go_wp2_with fail
            go_meet
            exact ⟨rfl, k, v, hk, hk10, rfl, rfl, hvb, HVV, HALL, HF⟩
        · have bB : decide ((k : Int) < 10) = false := decide_eq_false (by omega)
          have HF : Hid (k < 10 → ∀ h : k < s.data.toList.length, isD s.data.toList[k] = false) := fun h => absurd h h10
          go_wp2_with fail
          go_meet
          exact ⟨rfl, k, v, hk, hk10, rfl, rfl, hvb, HVV, HALL, HF⟩
      · have bA : decide (k < s.size) = false := decide_eq_false hlt
        have bA2 : decide ((k : Int) < (s.size : Int)) = false := decide_eq_false (by omega)
        have HF : Hid (k < 10 → ∀ h : k < s.data.toList.length, isD s.data.toList[k] = false) := fun _ h => absurd (by rw [HSL.out] at h; exact h) hlt
        go_wp2_with fail
        go_meet
        exact ⟨rfl, k, v, hk, hk10, rfl, rfl, hvb, HVV, HALL, HF⟩
  case rest =>
    obtain ⟨hw, k, v, hk, hk10, rfl, rfl, hvb, HVV, HALL, HF⟩ := hcut
    subst hw
    have HKL : Hid (k ≤ s.data.toList.length) := by unfold Hid; rw [HSL.out]; exact hk
    by_cases h0 : k = 0
    · have hv : V = (-1, s) := HV.out.symm.trans (numV_none (num_none HKL.out HALL.out (HF.out (by omega)) (.inl h0)))
      subst hv
      subst h0
      go_wp2
      go_ret2
      exact ⟨rfl, Dr.refl _⟩
    · have eK : ((k : Int) == 0) = false := by rw [beq_eq_false_iff_ne]; omega
      by_cases h9 : 9 < k
      · have hv : V = (-1, s) := HV.out.symm.trans (numV_none (by
          have : k = 10 := by omega
          subst this
          exact num_many HKL.out HALL.out))
        subst hv
        have e9 : decide (9 < (k : Int)) = true := decide_eq_true (by omega)
        go_wp2
        go_ret2
        exact ⟨rfl, Dr.refl _⟩
      · have e9 : decide (9 < (k : Int)) = false := decide_eq_false (by omega)
        have HF2 := hidI (HF.out (by omega))
        have hs0 : 0 < s.size := by omega
        have HG0 : Hid (s.data.toList[0]'(by rw [HSL.out]; exact hs0) = s[0]) := rfl
        by_cases hz : s[0] = 48 ∧ 1 < k
        · have hv : V = (-1, s) := HV.out.symm.trans (numV_none (num_none HKL.out HALL.out HF2.out (.inr (.inr (.inl ⟨⟨by rw [HSL.out]; exact hs0, by rw [HG0.out]; exact hz.1⟩, hz.2⟩)))))
          subst hv
          have eZ : ((s[0].toNat : Int) == 48) = true := by rw [hz.1]; rfl
          have e1 : decide (1 < (k : Int)) = true := decide_eq_true (by omega)
          clear hz
          go_wp2
          go_ret2
          exact ⟨rfl, Dr.refl _⟩
        · have HZ : Hid (s.data.toList[0]'(by rw [HSL.out]; exact hs0) ≠ 48 ∨ k = 1) := by
            unfold Hid
            by_cases e : k = 1
            · exact .inr e
            · exact .inl (fun h => hz ⟨by rw [← HG0.out]; exact h, by omega⟩)
          have hZ : (((s[0].toNat : Int) == 48) = false) ∨ (((s[0].toNat : Int) == 48) = true ∧ decide (1 < (k : Int)) = false) := by
            by_cases e : s[0] = 48
            · exact .inr ⟨by rw [e]; rfl, decide_eq_false (fun h => hz ⟨e, by omega⟩)⟩
            · refine .inl ?_
              rw [beq_eq_false_iff_ne]
              intro h
              apply e
              apply UInt8.toNat_inj.1
              show s[0].toNat = 48
              omega
          clear hz
          by_cases hL : s.size = k
          · have hv : V = (-1, s) := HV.out.symm.trans (numV_none (num_none HKL.out HALL.out HF2.out (.inr (.inr (.inr (.inl (by rw [HSL.out]; exact hL)))))))
            subst hv
            have eL : decide ((s.size : Int) ≤ (k : Int)) = true := decide_eq_true (by omega)
            have eL2 : decide (s.size ≤ k) = true := decide_eq_true (by omega)
            clear hL
            rcases hZ with hZ | ⟨hZ, hZ1⟩
            · go_wp2
              go_ret2
              exact ⟨rfl, Dr.refl _⟩
            · go_wp2
              go_ret2
              exact ⟨rfl, Dr.refl _⟩
          · have eL : decide ((s.size : Int) ≤ (k : Int)) = false := decide_eq_false (by omega)
            have eL2 : decide (s.size ≤ k) = false := decide_eq_false (by omega)
            have hlt : k < s.size := by omega
            have HG : Hid (s.data.toList[k]'(by rw [HSL.out]; exact hlt) = s[k]) := rfl
            by_cases he : s[k] = e
            · have hv : V = ((v : Int), ⟨(s.data.toList.drop (k + 1)).toArray⟩) := by
                rw [← HV.out, HVV.out]
                exact numV_some (num_some (by omega) (by omega) (by rw [HSL.out]; exact hlt) HALL.out (HF2.out _) HZ.out (by rw [HG.out]; exact he))
              subst hv
              have eE : ((s[k].toNat : Int) != (e.toNat : Int)) = false := by rw [he]; simp
              have eE2 : ((s[k].toNat : Int) == (e.toNat : Int)) = true := by rw [he]; simp
              clear he
              rcases hZ with hZ | ⟨hZ, hZ1⟩
              · go_wp2
                (refine wp_region_quiet_lit (by kernel_rfl) (by kernel_rfl) ?_; (repeat (first | go_big_quiet_step (fail) | quiet_step (fail))); refine wpQuiet_nil ?_; intro _ hwq; obtain ⟨nq, hwq2⟩ := hwq; subst hwq2)
                go_wp2
                go_ret2
                exact ⟨ret_numL rfl (ext_drop s (k + 1)), ⟨_, rfl⟩⟩
              · go_wp2
                (refine wp_region_quiet_lit (by kernel_rfl) (by kernel_rfl) ?_; (repeat (first | go_big_quiet_step (fail) | quiet_step (fail))); refine wpQuiet_nil ?_; intro _ hwq; obtain ⟨nq, hwq2⟩ := hwq; subst hwq2)
                go_wp2
                go_ret2
                exact ⟨ret_numL rfl (ext_drop s (k + 1)), ⟨_, rfl⟩⟩
            · have hv : V = (-1, s) := HV.out.symm.trans (numV_none (num_none HKL.out HALL.out HF2.out (.inr (.inr (.inr (.inr ⟨by rw [HSL.out]; exact hlt, by rw [HG.out]; exact he⟩))))))
              subst hv
              have hne : (s[k].toNat : Int) ≠ (e.toNat : Int) := fun h => he (UInt8.toNat_inj.1 (by omega))
              have eE : ((s[k].toNat : Int) != (e.toNat : Int)) = true := by simpa using hne
              have eE2 : ((s[k].toNat : Int) == (e.toNat : Int)) = false := by simpa using hne
              clear he hne
              rcases hZ with hZ | ⟨hZ, hZ1⟩
              · go_wp2
                go_ret2
                exact ⟨rfl, Dr.refl _⟩
              · go_wp2
                go_ret2
                exact ⟨rfl, Dr.refl _⟩
end Go.Proofs.YtcfmpplhghkagaaGreatDoor
namespace Go.Proofs.YtcfmpplhghkagaaGreatDoor
open Go.RowKit Go.Sort Go.Shelf Go.Lib

/-- What the library's variables hold. -/
structure LM (w : World) : Prop where
  tab : Lib.TabIs Tryz.prog w "internal/strconv.uint64pow10" .u64 Lib.pow10Tab
  mx : ∃ m, w.cell? ⟨0, 0, none⟩ = some (.int .i64 m)
  syn : ∃ te pe, w.cell? ⟨2, 0, none⟩ = some (.iface te pe)
  rng : ∃ te pe, w.cell? ⟨3, 0, none⟩ = some (.iface te pe)
theorem LM.below {w w' : World} (h : LM w) (hB : RowKit.Below w.heap.size w w') : LM w' := by
  obtain ⟨ht, ⟨m, hm⟩, ⟨t1, p1, h1⟩, ⟨t2, p2, h2⟩⟩ := h
  refine ⟨?_, ⟨m, (hB.cell (World.block_lt_of_cell? w _ hm)).trans hm⟩, ⟨t1, p1, (hB.cell (World.block_lt_of_cell? w _ h1)).trans h1⟩, ⟨t2, p2, (hB.cell (World.block_lt_of_cell? w _ h2)).trans h2⟩⟩
  have hgn : Tryz.prog.globalNamed "internal/strconv.uint64pow10" = some 1 := by kernel_rfl
  unfold Lib.TabIs World.var? at ht ⊢
  rw [hgn] at ht ⊢
  simp only [Option.bind_some] at ht ⊢
  have hlt : 1 < w.heap.size := by
    rcases Nat.lt_or_ge 1 w.heap.size with h' | h'
    · exact h'
    · rw [Array.getElem?_eq_none h'] at ht; cases ht
  rw [hB.block 1 hlt]
  exact ht
theorem LM.dr {w w' : World} (h : LM w) (hD : Dr w w') : LM w' := h.below (hD.below _)

/-- The pieces of a text. -/
def RetSp (c : UInt8) (s : ByteArray) (w : World) (e : Ending) (w' : World) : Prop :=
  ∃ ls : List ByteArray, ls.map (·.data.toList) = spl c s.data.toList ∧ e = .returned (.slice (some ⟨w.heap.size, 0, none⟩) ls.length ls.length) ∧ Sl w' Value.string (some ⟨w.heap.size, 0, none⟩) ls ∧ RowKit.Below w.heap.size w w'
theorem split_any (c : UInt8) (s : ByteArray) (w : World) (hs : s.size ≤ 1000000) (hm : LM w) : Calls Tryz.prog 37 #[.string s, .string ⟨#[c]⟩] w (RetSp c s w) := by
  obtain ⟨m, hm⟩ := hm.mx
  refine (Tryz.strings_Split s ⟨#[c]⟩ m w (by omega) hm (Nat.le_refl 1)).mono ?_
  rintro e w' ⟨rfl, rfl⟩
  have hc : Lib.countB s ⟨#[c]⟩ = s.data.toList.count c := Lib.count_one c s.data.toList
  have hl := Lib.splitB_all ⟨#[c]⟩ (Nat.le_refl 1) 0 _ s rfl
  refine ⟨Lib.splitB ⟨#[c]⟩ 0 (Lib.countB s ⟨#[c]⟩) s, ?_, by rw [hl], Sl.of_vrow (VRow.new w _ _), (RowKit.Below.refl _ _).alloc (Nat.le_refl _) _⟩
  rw [Lib.splitB_data]
  exact splitK_spl c _ _ hc.symm
theorem itoaG_any (v : Int) (h : 0 ≤ v ∧ v ≤ 999999999) (w : World) (hm : LM w) : Calls Tryz.prog 33 #[.int .i64 v] w fun e w' => e = .returned (.string ⟨(Lib.itoa v).toArray⟩) ∧ RowKit.Below w.heap.size w w' := by
  refine (Tryz.strconv_Itoa v (by omega) (by omega) w hm.tab).mono ?_
  rintro e w' ⟨rfl, k, os, rfl⟩
  exact ⟨rfl, Lib.below_grow _ w (Nat.le_refl _) k os⟩
theorem atoi_yes (x : ByteArray) (hx : x.size ≤ 1000000) (h : wordN x.data.toList = true) (w : World) : Calls Tryz.prog 58 #[.string x] w fun e w' => e = .returned (.tuple #[.int .i64 (valD x.data.toList : Int), .nilIface]) ∧ RowKit.Below w.heap.size w w' := by
  refine (Tryz.strconv_Atoi_ok x (by omega) _ (atoi_word h).1 w).mono ?_
  rintro e w' ⟨rfl, hw⟩
  refine ⟨rfl, ?_⟩
  rcases hw with rfl | ⟨t, rfl⟩
  · exact RowKit.Below.refl _ _
  · exact Lib.bytesWorld_below _ _ _
/-- What is known of a word that is no number. -/
def RetAt (x : ByteArray) (w : World) (e : Ending) (w' : World) : Prop :=
  ∃ v g, e = .returned (.tuple #[.int .i64 v, g]) ∧ ((g = .nilIface ∧ (0 ≤ v → v ≤ 999999999 → (⟨(Lib.itoa v).toArray⟩ : ByteArray) ≠ x)) ∨ ∃ t p, g = .iface t p) ∧ RowKit.Below w.heap.size w w'
theorem atoi_no (x : ByteArray) (hx : x.size ≤ 1000000) (h : wordN x.data.toList = false) (w : World) (hm : LM w) : Calls Tryz.prog 58 #[.string x] w (RetAt x w) := by
  match ha : Lib.atoiAll x.data.toList with
  | .ok v =>
    refine (Tryz.strconv_Atoi_ok x (by omega) _ ha w).mono ?_
    rintro e w' ⟨rfl, hw⟩
    refine ⟨v, .nilIface, rfl, .inl ⟨rfl, fun h0 h9 e => ?_⟩, ?_⟩
    · exact atoi_other h h0 h9 (by rw [← e])
    · rcases hw with rfl | ⟨t, rfl⟩
      · exact RowKit.Below.refl _ _
      · exact Lib.bytesWorld_below _ _ _
  | .«syntax» =>
    obtain ⟨te, pe, hv⟩ := hm.syn
    refine (Tryz.strconv_Atoi_syntax x (by omega) ha _ w hv (.inr ⟨te, pe, rfl⟩)).mono ?_
    rintro e w' ⟨N, rfl, _, _, hB⟩
    exact ⟨_, _, rfl, .inr ⟨_, _, rfl⟩, hB⟩
  | .range =>
    obtain ⟨te, pe, hv⟩ := hm.rng
    refine (Tryz.strconv_Atoi_range x (by omega) ha _ w hv (.inr ⟨te, pe, rfl⟩)).mono ?_
    rintro e w' ⟨N, rfl, _, _, hB⟩
    exact ⟨_, _, rfl, .inr ⟨_, _, rfl⟩, hB⟩
end Go.Proofs.YtcfmpplhghkagaaGreatDoor
namespace Go.Proofs.YtcfmpplhghkagaaGreatDoor
open Go.ChangeShapes Go.WideShapes Go.ChangeAt Go.RowKit

section
variable {H : Type} {enc : TypeId × Value → H}
/-- As returnsInHanded_of_change_and, with the world's shape. -/
theorem handed_and_shaped {a : Assume} {C : Checked} {os : Os} {f : FuncId} {fn : Func} {s : ChangeSpec} {conds : List PathCond} {apart fresh handsOn again : Bool} {X : World → Array Value → Prop}
    (hX : ∀ (w w' : World) (args : Array Value), w.heap = w'.heap → X w args → X w' args)
    (own : ownKnob C.prog.godebug = none) (started : os.Started) (noInit : C.prog.inits.idxOf? f = none) (hfn : C.prog.funcs[f]? = some fn)
    (witness : ∃ (w : World) (tape : Tape) (i : Input), w.os = os ∧ (w.forCall tape i).Shaped C.prog ∧ i.vars = [] ∧ Input.okWide C.prog (w.forCall tape i) .any w.heap.size f i ∧
      ((s.pre enc C.prog fn conds apart (w.forCall tape i).memory i.args ∧ X (w.forCall tape i).memory i.args) ∧ sizedMet enc C.prog fn (OpenSpec.ofChange s) apart (w.forCall tape i).memory i.args) ∧ a.holds C.prog (lone (Frame.enter C.prog f i.args .normal) [] (w.forCall tape i)))
    (contract : ∀ (W : World) (base : Nat) (args : Array Value) (ds gs : List (DataW H)) (before : List MemPlace),
      (∀ (j : Nat) t v, fn.params[j]? = some t → args[j]? = some v → Value.okWide C.prog W .any base t v) →
      DataW.Whole enc C.prog fn.params.toList s.vars apart W args.toList ds gs before → X W args → W.ShapedOpen C.prog →
      Calls C.prog f args W fun e W' => ∃ v, e = .returned v ∧ s.post enc C.prog fn apart fresh handsOn again W args v W') :
    ReturnsInHanded a C os f .any (fun w args => (s.pre enc C.prog fn conds apart w args ∧ X w args) ∧ sizedMet enc C.prog fn (OpenSpec.ofChange s) apart w args) (s.post enc C.prog fn apart fresh handsOn again) := by
  refine returnsInHanded_of_calls own started noInit witness ?_
  intro w tape i _ hsh _ hok hpre hholds
  obtain ⟨_, _, _, fn', hfn', _, _, _, _, hval⟩ := hok
  have e : fn' = fn := Option.some.inj (hfn'.symm.trans hfn)
  subst e
  obtain ⟨⟨⟨ds, gs, before, hw, hc⟩, hx⟩, hz⟩ := hpre
  have hw' := DataW.Whole.of_heap (w' := w.forCall tape i) (by rfl) hw
  refine (contract (w.forCall tape i) w.heap.size i.args ds gs before hval hw' (hX _ _ _ (by rfl) hx) hsh).mono fun e W' ⟨v, he, hp⟩ => ?_
  subst he
  exact ChangeSpec.post_blind hp
end
theorem iface_of_trod {P : Program} {w : World} {sp : Nat → Bool} {fuel : Nat} {t : TypeId} {cs : List Value} {nm : String} {d : DataW Unit} {p : List MemPlace} {ms} (ht : P.underlying t = some (.interface ms))
    (h : DataW.trod (fun _ => ()) P w 0 sp false fuel t cs = some (.iface nm d, p)) : ∃ u v, cs = [.iface u v] := by
  cases fuel with
  | zero => simp [DataW.trod] at h
  | succ fuel =>
    simp only [DataW.trod, ht] at h
    split at h <;> first
      | exact ⟨_, _, rfl⟩
      | (exfalso; simp_all)
theorem tab_of_reads {W : World} {name : String} {k : IntKind} {zs : List Int} {g : Nat} {t e : TypeId} {n : Nat}
    (hg : Tryz.prog.globalNamed name = some g) (hty : (Tryz.prog.globals[g]?).map (·.type) = some t) (ht : Tryz.prog.underlying t = some (.array n e)) (he : Tryz.prog.underlying e = some (.int k)) (hce : Tryz.prog.cellsOf e = 1) (hct : Tryz.prog.cellsOf t = n)
    (h : Lib.VarReads Tryz.prog W name (Lib.tabData k zs)) : Lib.TabIs Tryz.prog W name k zs := by
  obtain ⟨g', t', cs, fuel, p, hg', ht', hvar, hd⟩ := h
  obtain rfl := Option.some.inj (hg.symm.trans hg')
  obtain rfl := Option.some.inj (hty.symm.trans ht')
  unfold Lib.TabIs
  rw [hvar, ← Lib.cells_of_tab ht he hce hct hd]
theorem iface_of_reads {W : World} {name nm : String} {d : DataW Unit} {g : Nat} {t : TypeId} {ms}
    (hg : Tryz.prog.globalNamed name = some g) (hty : (Tryz.prog.globals[g]?).map (·.type) = some t) (ht : Tryz.prog.underlying t = some (.interface ms))
    (h : Lib.VarReads Tryz.prog W name (.iface nm d)) : ∃ te pe, W.cell? ⟨g, 0, none⟩ = some (.iface te pe) := by
  obtain ⟨g', t', cs, fuel, p, hg', ht', hvar, hd⟩ := h
  obtain rfl := Option.some.inj (hg.symm.trans hg')
  obtain rfl := Option.some.inj (hty.symm.trans ht')
  obtain ⟨u, v, e⟩ := iface_of_trod ht hd
  refine ⟨u, v, ?_⟩
  rw [World.var?_cell hg hvar 0]
  have : cs[0]? = cs.toList[0]? := by simp
  rw [this, e]; rfl
theorem pow_is : (Rows.laid_internal_strconv_uint64pow10 : DataW Unit) = Lib.tabData .u64 Lib.pow10Tab := by kernel_rfl
theorem lm_of {l : List (String × DataW Unit)} {W : World} (h : laidMet Tryz.prog l W) (hsh : W.ShapedOpen Tryz.prog)
    (h1 : ("internal/strconv.uint64pow10", (Rows.laid_internal_strconv_uint64pow10 : DataW Unit)) ∈ l) (h2 : ("strconv.ErrSyntax", (Rows.laid_strconv_ErrSyntax : DataW Unit)) ∈ l) (h3 : ("strconv.ErrRange", (Rows.laid_strconv_ErrRange : DataW Unit)) ∈ l) : LM W := by
  have r1 := Lib.laidMet.reads h h1
  rw [pow_is] at r1
  exact ⟨tab_of_reads (g := 1) (t := 131) (e := 107) (n := 20) (by kernel_rfl) (by kernel_rfl) Tryz.underlying131 Tryz.underlying107 (by kernel_rfl) (by kernel_rfl) r1, Tryz.laysM146.s1_3 W hsh,
    iface_of_reads (g := 2) (t := 60) (by kernel_rfl) (by kernel_rfl) Tryz.underlying60 (Lib.laidMet.reads h h2), iface_of_reads (g := 3) (t := 60) (by kernel_rfl) (by kernel_rfl) Tryz.underlying60 (Lib.laidMet.reads h h3)⟩
end Go.Proofs.YtcfmpplhghkagaaGreatDoor
namespace Go.Proofs.YtcfmpplhghkagaaGreatDoor
open Go.RowKit Go.Sort Go.Shelf Go.Lib

def inS (st : List Int) (s : Int) (x : Ed) : Bool := decide (x.t = s) && decide (x.f ∈ st)
def outS (st : List Int) (s : Int) (x : Ed) : Bool := decide (x.f = s) && decide (x.t ∈ st)
theorem own_sl' {w : World} {B e n c : Nat} {p : Option Addr} {l : List Int} (h : w.ownsRow B e 1 (.slice p l.length c) n (l.map (Value.int .i64))) : Sl w (Value.int .i64) p l := by
  obtain ⟨p', c', he, hs⟩ := own_sl h
  cases he
  exact hs
def boN : Value → Nat | .bool true => 1 | _ => 0
theorem essP_in (es : List Ed) (st : List Int) (s : Int) : essP es st s = (es.any (inS st s) && es.any (outS st s)) := rfl
theorem flen_le {α : Type} (f : α → Bool) (l : List α) (k : Nat) (h : k ≤ l.length) : ((l.take k).filter f).length ≤ k := Nat.le_trans (List.length_filter_le _ _) (by rw [List.length_take]; omega)

set_option maxRecDepth 100000 in
set_option maxHeartbeats 4000000 in
theorem rEss_any (G : Gr) (p : Option Addr) (c : Nat) (w : World) (hin : Sg 3 w edE p G.es) (hl : G.es.length ≤ 10000) :
    Calls Tryz.prog 9 #[(.agg #[.int .i64 G.q, .int .i64 G.n, .slice p G.es.length c])] w (RetEs (essA G).1 (essA G).2.1 (essA G).2.2 w) := by
  have HIN := hidI hin
  clear hin
  obtain ⟨i0, hi0, hz0, hz1, hz3⟩ := info_parts infoIn
  obtain ⟨w0, hw0⟩ : ∃ w0, w0 = (w.alloc (.cells #[.int .i64 G.q, .int .i64 G.n, .slice p G.es.length c] 24)).alloc (.cells #[.int .i64 0, .int .i64 0, .slice none 0 0] 24) := ⟨_, rfl⟩
  have b0 : VRow w0 w.heap.size 24 [.int .i64 G.q, .int .i64 G.n, .slice p G.es.length c] := by subst hw0; exact (VRow.new w _ _).alloc _
  have b1 : VRow w0 (w.heap.size + 1) 24 [.int .i64 0, .int .i64 0, .slice none 0 0] := by subst hw0; exact VRow.new1 w _ _ _
  have hB0 : RowKit.Below w.heap.size w w0 := by subst hw0; exact ((RowKit.Below.refl _ _).alloc (Nat.le_refl _) _).alloc (by simp) _
  obtain ⟨r, hr⟩ : ∃ r, chkG G = r := ⟨_, rfl⟩
  by_cases hr0 : r = 0
  · subst hr0
    have HR := hidI hr
    have HV := hidI (chkG_ok.1 hr)
    obtain ⟨N, hNt⟩ : ∃ N : Nat, N = G.n.toNat := ⟨_, rfl⟩
    have HK : Hid (essA G = (partA G (ess G.es (upto N)), ess G.es (upto N), 0)) := by rw [hNt]; exact essA_ok hr
    clear hr
    go_enter Tryz.func9, Tryz.ntmps9
    go_wp2_with fail
    rw [← hw0]
    clear hw0
    refine (rCheck_r G p c _ 0 HR.out (HIN.out.below hB0) (by omega)).mono ?_
    rintro e w1 ⟨rfl, hB1⟩
    have x1 := hB0.trans (hB1.mono hB0.size)
    have c0 := b0.below hB1 b0.lt
    have c1 := b1.below hB1 b1.lt
    have f1 := c0.at 1 rfl
    clear hB1 b0 b1 hB0
    have hz : w.heap.size + 1 < w1.heap.size := c1.lt
    have hn0 := HV.out.n1; have hn1 := HV.out.n2
    have HN : Hid ((N : Int) = G.n) := by unfold Hid; omega
    have HU : Hid (St G.n (upto N)) := by rw [hNt]; exact St.upto hn0
    clear hNt
    go_wp2
    go_loopw [5, 6] (fun ov iv wr => ∃ k : Nat, k ≤ N ∧ iv = .int .i64 k ∧ wr.ownsRow w1.heap.size 3 1 ov k ((upto k).map (Value.int .i64)) ∧ RowKit.Below w1.heap.size w1 wr) (fun _ iv _ => N - (intOf iv).toNat)
    case atStart => exact ⟨0, by omega, rfl, World.ownsRow_nil _ _ _ _, RowKit.Below.refl _ _⟩
    case round =>
      obtain ⟨k, hk, rfl, hown, hB⟩ := hrel
      have hNN := HN.out
      by_cases hlt : (k : Int) < G.n
      · have hkN : k + 1 ≤ N := by omega
        clear hNN
        have hnew := cell_one_at wr (.int .i64 (k : Int)) 3 wr.heap.size rfl
        have HUS := hidI (upto_succ k)
        generalize upto k = M at *
        have f1r := (c0.below hB c0.lt).at 1 rfl
        go_wp2_with (at_builtin; refine wpList_append_own _ rfl _ _ 30 rfl w1.heap.size 3 i0 (.int .i64 0) 1 8 Tryz.underlying30 hi0 hz0 hz1 hz3 rfl (by decide) _ _ _ rfl (hown.alloc _) ⟨wr.heap.size, 0, none⟩ 1 1 [.int .i64 (k : Int)] rfl rfl hnew (by simp [Value.oneCell']) (by simp [maxLen]; omega) (by omega) (by rw [World.size_alloc]; have := hB.size; omega) ?_; intro v' w2 hown' hgrow _)
        go_roundw
        case rel => exact ⟨k + 1, hkN, by go_num, by rw [HUS.out, List.map_append]; exact hown', (hB.alloc hB.size _).grown hgrow (Nat.le_trans hB.size (by simp)) (fun j e => (hown.lt j e).1)⟩
        case measure => simp [intOf]; omega
      · obtain rfl : N = k := by omega
        clear hNN
        obtain ⟨w2, rfl⟩ : ∃ w2 : World, w2 = wr := ⟨_, rfl⟩
        have x2 := x1.trans (hB.mono x1.size)
        have d0 := c0.below hB c0.lt
        have d1 := c1.below hB c1.lt
        have f1r := d0.at 1 rfl
        have hge := hB.size
        clear hB x1 c0 c1 f1
        go_wp2
        clear hlt f1r
        go_loopw [5, 7] (fun sv cv wr => ∃ (st : List Int) (ch : Bool), cv = .bool ch ∧ Hid (St G.n st) ∧ Hid (ess G.es st = ess G.es (upto N)) ∧ Hid (ch = false → (essS G.es st).length = st.length) ∧ wr.ownsRow w1.heap.size 3 1 sv st.length (st.map (Value.int .i64)) ∧ RowKit.Below w2.heap.size w2 wr) (fun sv cv _ => 2 * slLen sv + boN cv)
        case atStart => exact ⟨upto N, true, rfl, HU, rfl, (fun h => by simp at h), by rw [upto_len]; exact hown, RowKit.Below.refl _ _⟩
        case round =>
          clear hown
          obtain ⟨st, ch, rfl, HST, HE, HC, hown, hB⟩ := hrel
          obtain ⟨ps, cs, rfl, _⟩ := own_sl hown
          obtain ⟨wo, rfl⟩ : ∃ wo : World, wo = wr := ⟨_, rfl⟩
          have hsl : st.length ≤ 64 := by have := HST.out.len hn0; omega
          have x3 := x2.trans (hB.mono x2.size)
          have e0 := d0.below hB d0.lt
          have e1 := d1.below hB d1.lt
          have hge3 := hB.size
          cases ch
          · have HSE := hidI (HC.out rfl)
            have HKK : Hid (essA G = (partA G st, st, 0)) := by
              have := HE.out
              rw [ess_stop HSE.out] at this
              rw [Hid, HK.out, ← this]
            have hst3 := HST.out.srt
            clear HE HC HSE HK HU
            obtain ⟨ps', cs', hpe, hsl1⟩ := own_sl hown
            cases hpe
            have k0 := e0.at 0 rfl; have k1 := e0.at 1 rfl; have k2 := e0.at 2 rfl
            go_wp2_with fail
            refine (rPart_any G p c st ps cs wo (HIN.out.below x3) hsl1 hl (by omega)).mono ?_
            generalize partA G st = R at *
            rintro e w4 ⟨p4, m4, c4, rfl, hown4, hB4⟩
            have x4 := x3.trans (hB4.mono x3.size)
            have e14 := e1.below hB4 e1.lt
            have hz3 : w.heap.size + 1 < wo.heap.size := e1.lt
            have hown5 := hown.below hB4
            have j0 := e14.at 0 rfl; have j1 := e14.at 1 rfl; have j2 := e14.at 2 rfl
            have z0 := e14.frozen 0; have z1 := e14.frozen 1; have z2 := e14.frozen 2
            go_wp2
            have r6 := VRow.set (i := 2) (.slice p4 m4 c4) (VRow.set (i := 1) (.int .i64 R.n) (VRow.set (i := 0) (.int .i64 R.q) e14))
            have y0 := r6.at 0 rfl; have y1 := r6.at 1 rfl; have y2 := r6.at 2 rfl
            have o6 := ownsRow_setCell_below (a := (⟨w.heap.size + 1, 2, none⟩ : Addr)) (ownsRow_setCell_below (a := (⟨w.heap.size + 1, 1, none⟩ : Addr)) (ownsRow_setCell_below (a := (⟨w.heap.size + 1, 0, none⟩ : Addr)) hown4 hz3 (.int .i64 R.q)) hz3 (.int .i64 R.n)) hz3 (.slice p4 m4 c4)
            have o7 := ownsRow_setCell_below (a := (⟨w.heap.size + 1, 2, none⟩ : Addr)) (ownsRow_setCell_below (a := (⟨w.heap.size + 1, 1, none⟩ : Addr)) (ownsRow_setCell_below (a := (⟨w.heap.size + 1, 0, none⟩ : Addr)) hown5 hz (.int .i64 R.q)) hz (.int .i64 R.n)) hz (.slice p4 m4 c4)
            have x6 : RowKit.Below w.heap.size w (((w4.setCell (⟨w.heap.size + 1, 0, none⟩ : Addr) (.int .i64 R.q)).setCell (⟨w.heap.size + 1, 1, none⟩ : Addr) (.int .i64 R.n)).setCell (⟨w.heap.size + 1, 2, none⟩ : Addr) (.slice p4 m4 c4)) :=
              ((x4.setCell (show w.heap.size ≤ w.heap.size + 1 by omega) _).setCell (show w.heap.size ≤ w.heap.size + 1 by omega) _).setCell (show w.heap.size ≤ w.heap.size + 1 by omega) _
            refine bodyPost_ret (v := .tuple #[.agg #[.int .i64 R.q, .int .i64 R.n, .slice p4 m4 c4], .slice ps st.length cs, .int .i64 0]) (by simp [results, Tryz.results9, go_sem, y0, y1, y2]) rfl ?_
            exact RetEs.of HKK.out (own_conv o6 rfl (by omega)) ⟨o7.1, o7.2.imp id (fun ⟨g, cap, cur, a, b, z⟩ => ⟨g, cap, cur, a, Nat.le_trans (show w.heap.size ≤ w1.heap.size by omega) b, z⟩)⟩ x6
          · clear HC
            go_wp2
            go_loopw [7, 8, 9] (fun cv kv iv wr => ∃ (k : Nat) (ch : Bool) (v : Value), k ≤ st.length ∧ iv = .int .i64 k ∧ cv = .bool ch ∧ kv = v ∧ Hid (if ch = true then ((st.take k).filter (essP G.es st)).length < k else ((st.take k).filter (essP G.es st)).length = k) ∧
                wr.ownsRow wo.heap.size 3 1 v ((st.take k).filter (essP G.es st)).length (((st.take k).filter (essP G.es st)).map (Value.int .i64)) ∧ RowKit.Below wo.heap.size wo wr) (fun _ _ iv _ => st.length - (intOf iv).toNat)
            case atStart => exact ⟨0, false, _, by omega, rfl, rfl, rfl, (by rw [if_neg (by simp)]; rfl), World.ownsRow_nil _ _ _ _, RowKit.Below.refl _ _⟩
            case round =>
              obtain ⟨k, ch, kv, hk, rfl, rfl, rfl, HF, hownk, hBk⟩ := hrel
              obtain ⟨w3, rfl⟩ : ∃ w3 : World, w3 = wr := ⟨_, rfl⟩
              have hown3 := hown.below hBk
              have hgk := hBk.size
              by_cases hlt : k < st.length
              · have HFS := hidI (filter_snoc (essP G.es st) st k hlt)
                have HFL := hidI (flen_le (essP G.es st) st k hk)
                have HPI := hidI (essP_in G.es st st[k])
                obtain ⟨b1, o1, rfl, hb1, hc1⟩ := (own_sl' hown3).get k hlt
                have s1 := hc1 k hlt
                clear hc1
                generalize st[k] = s at *
                generalize (st.take k).filter (essP G.es st) = M at *
                go_wp2
                go_loopw [10, 11, 12] (fun iv ov jv wx => ∃ j : Nat, j ≤ G.es.length ∧ jv = .int .i64 j ∧ iv = .bool ((G.es.take j).any (inS st s)) ∧ ov = .bool ((G.es.take j).any (outS st s)) ∧ RowKit.Below w3.heap.size w3 wx) (fun _ _ jv _ => G.es.length - (intOf jv).toNat)
                case atStart => exact ⟨0, by omega, rfl, rfl, rfl, RowKit.Below.refl _ _⟩
                case round =>
                  obtain ⟨j, hj, rfl, rfl, rfl, hBx⟩ := hrel
                  have x5 := hBk.trans (hBx.mono hBk.size)
                  have g0 := e0.below x5 e0.lt
                  have hslx := own_sl' (hown3.below hBx)
                  have s1x := (hBx.cell (p := (⟨b1, o1 + k, none⟩ : Addr)) hb1).trans s1
                  have f2 := g0.at 2 rfl
                  by_cases hjl : j < G.es.length
                  · obtain ⟨b3, o3, rfl, hb3, q0, q1, q2⟩ := (HIN.out.below (x3.trans (x5.mono x3.size))).get3 j hjl rfl
                    have HA1 := hidI (any_snoc (inS st s) G.es j hjl); have HA2 := hidI (any_snoc (outS st s) G.es j hjl)
                    generalize (G.es.take j).any (inS st s) = a1 at *
                    generalize (G.es.take j).any (outS st s) = a2 at *
                    generalize G.es[j] = x at *
                    obtain ⟨r1, hr1⟩ : ∃ r, decide (x.f ∈ st) = r := ⟨_, rfl⟩
                    obtain ⟨r2, hr2⟩ : ∃ r, decide (x.t ∈ st) = r := ⟨_, rfl⟩
                    have ho1 : (a1 = true ∧ Hid ((G.es.take (j + 1)).any (inS st s) = true)) ∨ (a1 = false ∧ (x.t == s) = false ∧ Hid ((G.es.take (j + 1)).any (inS st s) = false)) ∨ (a1 = false ∧ (x.t == s) = true ∧ Hid ((G.es.take (j + 1)).any (inS st s) = r1)) := by
                      unfold Hid
                      rw [HA1.out]
                      cases a1
                      · by_cases h : x.t = s
                        · exact .inr (.inr ⟨rfl, by simpa using h, by simp [inS, h, hr1]⟩)
                        · exact .inr (.inl ⟨rfl, by simpa using h, by simp [inS, h]⟩)
                      · exact .inl ⟨rfl, rfl⟩
                    have ho2 : (a2 = true ∧ Hid ((G.es.take (j + 1)).any (outS st s) = true)) ∨ (a2 = false ∧ (x.f == s) = false ∧ Hid ((G.es.take (j + 1)).any (outS st s) = false)) ∨ (a2 = false ∧ (x.f == s) = true ∧ Hid ((G.es.take (j + 1)).any (outS st s) = r2)) := by
                      unfold Hid
                      rw [HA2.out]
                      cases a2
                      · by_cases h : x.f = s
                        · exact .inr (.inr ⟨rfl, by simpa using h, by simp [outS, h, hr2]⟩)
                        · exact .inr (.inl ⟨rfl, by simpa using h, by simp [outS, h]⟩)
                      · exact .inl ⟨rfl, rfl⟩
                    clear HA1 HA2
                    obtain ⟨W1, hW1⟩ : ∃ W1, W1 = wr.alloc (.cells #[.int .i64 x.f, .int .i64 x.l, .int .i64 x.t] 44) := ⟨_, rfl⟩
                    have y0 : VRow W1 wr.heap.size 44 [.int .i64 x.f, .int .i64 x.l, .int .i64 x.t] := by subst hW1; exact VRow.new wr _ _
                    have HS1 : Sl W1 (Value.int .i64) (some ⟨b1, o1, none⟩) st := by subst hW1; exact hslx.below ((RowKit.Below.refl _ _).alloc (Nat.le_refl _) _)
                    have hB1 : RowKit.Below w3.heap.size w3 W1 := by subst hW1; exact hBx.alloc hBx.size _
                    have s2 := (hB1.cell (p := (⟨b1, o1 + k, none⟩ : Addr)) hb1).trans s1
                    clear s1x
                    go_upto_region 20 with fail
                    rw [← hW1]
                    clear hW1 q0 q1 q2 f2
                    have u0 := y0.at 0 rfl; have u2 := y0.at 2 rfl
                    have HC1 := fun (n : Nat) => Calls.quiet_of_same (rHas_r st (some ⟨b1, o1, none⟩) cs x.f r1 (W1.drewN n) HS1 (by omega) hr1)
                    rcases ho1 with ⟨rfl, HV1⟩ | ⟨rfl, d1, HV1⟩ | ⟨rfl, d1, HV1⟩
                    all_goals
                      (refine wp_region_quiet_lit (by kernel_rfl) (by kernel_rfl) ?_; (repeat (first | go_big_quiet_step ((go_at_call 28; with_reducible exact HC1 _)) | quiet_step ((go_at_call 28; with_reducible exact HC1 _)))); refine wpQuiet_nil ?_; intro _ hwq; obtain ⟨nq, hwq2⟩ := hwq; subst hwq2)
                      have HS2 : Sl (W1.drewN nq) (Value.int .i64) (some ⟨b1, o1, none⟩) st := HS1
                      have hBq : RowKit.Below w3.heap.size w3 (W1.drewN nq) := below_dN hB1 nq
                      have u0q : (W1.drewN nq).cell? ⟨wr.heap.size, 0, none⟩ = some (.int .i64 x.f) := u0
                      have u2q : (W1.drewN nq).cell? ⟨wr.heap.size, 2, none⟩ = some (.int .i64 x.t) := u2
                      have s2q : (W1.drewN nq).cell? ⟨b1, o1 + k, none⟩ = some (.int .i64 s) := s2
                      clear u0 u2 s2 HS1 hB1 HC1 y0
                      generalize W1.drewN nq = W2 at *
                      have HC2 := fun (n : Nat) => Calls.quiet_of_same (rHas_r st (some ⟨b1, o1, none⟩) cs x.t r2 (W2.drewN n) HS2 (by omega) hr2)
                      rcases ho2 with ⟨rfl, HV2⟩ | ⟨rfl, d2, HV2⟩ | ⟨rfl, d2, HV2⟩
                      all_goals
                        go_wp2_with fail
                        (refine wp_region_quiet_lit (by kernel_rfl) (by kernel_rfl) ?_; (repeat (first | go_big_quiet_step ((go_at_call 28; with_reducible exact HC2 _)) | quiet_step ((go_at_call 28; with_reducible exact HC2 _)))); refine wpQuiet_nil ?_; intro _ hwq; obtain ⟨nq, hwq2⟩ := hwq; subst hwq2)
                        go_wp2_with fail
                        go_roundw
                        case rel => exact ⟨j + 1, by omega, by go_num, by rw [HV1.out], by rw [HV2.out], below_dN hBq nq⟩
                        case measure => simp [intOf]; omega
                  · obtain rfl : j = G.es.length := by omega
                    rw [List.take_length]
                    have HP : Hid ((G.es.any (inS st s) && G.es.any (outS st s)) = essP G.es st s) := HPI.out.symm
                    generalize G.es.any (inS st s) = a1 at *
                    generalize G.es.any (outS st s) = a2 at *
                    have hownx := hownk.below hBx
                    have hszx := hBx.size
                    cases ha : (a1 && a2)
                    · have HN : Hid (List.filter (essP G.es st) (st.take (k + 1)) = M) := by rw [Hid, HFS.out, ← HP.out, ha]; simp
                      have ha2 : a1 = false ∨ (a1 = true ∧ a2 = false) := by cases a1 <;> simp_all
                      rcases ha2 with rfl | ⟨rfl, rfl⟩
                      all_goals
                        go_wp2_with fail
                        go_roundw
                        case rel => exact ⟨k + 1, true, _, by omega, by go_num, rfl, rfl, (by rw [HN.out, if_pos rfl]; have := HFL.out; unfold Hid; omega), by rw [HN.out]; exact hownx, x5⟩
                        case measure => simp [intOf]; omega
                    · have HN : Hid (List.filter (essP G.es st) (st.take (k + 1)) = M ++ [s]) := by rw [Hid, HFS.out, ← HP.out, ha]; simp
                      have ha2 : a1 = true ∧ a2 = true := by cases a1 <;> simp_all
                      obtain ⟨rfl, rfl⟩ := ha2
                      have hnew := cell_one_at wr (.int .i64 s) 3 wr.heap.size rfl
                      have hML := HFL.out
                      go_wp2_with (at_builtin; refine wpList_append_own _ rfl _ _ 30 rfl wo.heap.size 3 i0 (.int .i64 0) 1 8 Tryz.underlying30 hi0 hz0 hz1 hz3 rfl (by decide) _ _ _ rfl (hownx.alloc _) ⟨wr.heap.size, 0, none⟩ 1 1 [.int .i64 s] rfl rfl hnew (by simp [Value.oneCell']) (by simp [maxLen]; omega) (by omega) (by rw [World.size_alloc]; omega) ?_; intro v' w4 hown' hgrow _)
                      go_roundw
                      case rel =>
                        refine ⟨k + 1, ch, _, by omega, by go_num, rfl, rfl, ?_, ?_, (x5.alloc x5.size _).grown hgrow (Nat.le_trans x5.size (by simp)) (fun j e => ?_)⟩
                        · rw [HN.out, List.length_append, List.length_singleton]
                          have := HF.out
                          unfold Hid
                          cases ch <;> simp at this ⊢ <;> omega
                        · rw [HN.out, List.length_append, List.map_append]; exact hown'
                        · exact (hownx.lt j e).1
                      case measure => simp [intOf]; omega
              · obtain rfl : k = st.length := by omega
                rw [List.take_length] at hownk
                have HF : Hid (if ch = true then (essS G.es st).length < st.length else (essS G.es st).length = st.length) := by have := HF.out; rw [List.take_length] at this; exact this
                have HSF : Hid (St G.n (essS G.es st)) := HST.out.filter _
                have HEG : Hid (ess G.es (essS G.es st) = ess G.es (upto N)) := by
                  have h := HF.out
                  cases ch
                  · rw [if_neg (by simp)] at h
                    rw [Hid, essS_eq h]; exact HE.out
                  · rw [if_pos rfl] at h
                    rw [Hid, ← ess_go (by omega)]; exact HE.out
                have HCC : Hid (ch = false → (essS G.es (essS G.es st)).length = (essS G.es st).length) := by
                  intro hc
                  have h := HF.out
                  rw [if_neg (by rw [hc]; simp)] at h
                  rw [essS_eq h, h]
                have hownk : w3.ownsRow wo.heap.size 3 1 _ (essS G.es st).length ((essS G.es st).map (Value.int .i64)) := hownk
                have hM : 2 * (essS G.es st).length + (if ch = true then 1 else 0) < 2 * st.length + 1 := by
                  have h := HF.out
                  cases ch
                  · rw [if_neg (by simp)] at h ⊢; omega
                  · rw [if_pos rfl] at h ⊢; omega
                clear HF HE
                obtain ⟨q, d, rfl, _⟩ := own_sl hownk
                go_wp2_with fail
                go_roundw
                case rel => exact ⟨essS G.es st, ch, rfl, HSF, HEG, HCC, ⟨hownk.1, hownk.2.imp id (fun ⟨g, cap, cur, a, b, z⟩ => ⟨g, cap, cur, a, Nat.le_trans (show w1.heap.size ≤ wo.heap.size by omega) b, z⟩)⟩, hB.trans (hBk.mono hB.size)⟩
                case measure => cases ch <;> simp [slLen, boN] at hM ⊢ <;> omega
  · have HK : Hid (essA G = (⟨0, 0, []⟩, [], 1)) := essA_bad (by rw [hr]; exact hr0)
    have hrb : (r == 0) = false := by simpa using hr0
    have HR := hidI hr
    clear hr
    go_enter Tryz.func9, Tryz.ntmps9
    go_wp2_with fail
    rw [← hw0]
    clear hw0
    refine (rCheck_r G p c _ r HR.out (HIN.out.below hB0) (by omega)).mono ?_
    rintro e w1 ⟨rfl, hB1⟩
    have x1 := hB0.trans (hB1.mono hB0.size)
    have c1 := b1.below hB1 b1.lt
    have j0 := c1.at 0 rfl; have j1 := c1.at 1 rfl; have j2 := c1.at 2 rfl
    have z0 := c1.frozen 0; have z1 := c1.frozen 1; have z2 := c1.frozen 2
    go_wp2
    have r6 := VRow.set (i := 2) (.slice none 0 0) (VRow.set (i := 1) (.int .i64 0) (VRow.set (i := 0) (.int .i64 0) c1))
    have y0 := r6.at 0 rfl; have y1 := r6.at 1 rfl; have y2 := r6.at 2 rfl
    have x6 : RowKit.Below w.heap.size w (((w1.setCell (⟨w.heap.size + 1, 0, none⟩ : Addr) (.int .i64 0)).setCell (⟨w.heap.size + 1, 1, none⟩ : Addr) (.int .i64 0)).setCell (⟨w.heap.size + 1, 2, none⟩ : Addr) (.slice none 0 0)) :=
      ((x1.setCell (show w.heap.size ≤ w.heap.size + 1 by omega) _).setCell (show w.heap.size ≤ w.heap.size + 1 by omega) _).setCell (show w.heap.size ≤ w.heap.size + 1 by omega) _
    refine bodyPost_ret (v := .tuple #[.agg #[.int .i64 0, .int .i64 0, .slice none 0 0], .slice none 0 0, .int .i64 1]) (by simp [results, Tryz.results9, go_sem, y0, y1, y2]) rfl ?_
    exact RetEs.of (G := ⟨0, 0, []⟩) (l := []) HK.out (World.ownsRow_nil _ _ _ _) (World.ownsRow_nil _ _ _ _) x6
end Go.Proofs.YtcfmpplhghkagaaGreatDoor
namespace Go.Proofs.YtcfmpplhghkagaaGreatDoor
open Go.RowKit

/-- A set of states each of which has an edge from one of the set, and one to one of it. -/
def Sup (es : List Ed) (C : Int → Prop) : Prop := ∀ s, C s → (∃ x ∈ es, x.t = s ∧ C x.f) ∧ ∃ x ∈ es, x.f = s ∧ C x.t
theorem essP_iff {es : List Ed} {st : List Int} {s : Int} : essP es st s = true ↔ (∃ x ∈ es, x.t = s ∧ x.f ∈ st) ∧ ∃ x ∈ es, x.f = s ∧ x.t ∈ st := by
  simp [essP, cmsE, goesE, List.any_eq_true]
theorem sup_ess {es : List Ed} {C : Int → Prop} (hC : Sup es C) : ∀ n (st : List Int), st.length ≤ n → (∀ s, C s → s ∈ st) → ∀ s, C s → s ∈ ess es st := by
  intro n
  induction n with
  | zero =>
    intro st h hs
    have := essS_le es st
    rw [ess_stop (by omega)]; exact hs
  | succ n ih =>
    intro st h hs
    by_cases e : (essS es st).length = st.length
    · rw [ess_stop e]; exact hs
    · rw [ess_go e]
      refine ih _ (by have := essS_le es st; omega) (fun s hc => ?_)
      obtain ⟨⟨x, hx, e1, c1⟩, y, hy, e2, c2⟩ := hC s hc
      exact List.mem_filter.2 ⟨hs s hc, essP_iff.2 ⟨⟨x, hx, e1, hs _ c1⟩, y, hy, e2, hs _ c2⟩⟩
theorem ess_fix {es : List Ed} : ∀ n (st : List Int), st.length ≤ n → essS es (ess es st) = ess es st ∧ (ess es st).Sublist st := by
  intro n
  induction n with
  | zero =>
    intro st h
    have := essS_le es st
    rw [ess_stop (by omega)]; exact ⟨essS_eq (by omega), List.Sublist.refl _⟩
  | succ n ih =>
    intro st h
    by_cases e : (essS es st).length = st.length
    · rw [ess_stop e]; exact ⟨essS_eq e, List.Sublist.refl _⟩
    · rw [ess_go e]
      obtain ⟨a, b⟩ := ih (essS es st) (by have := essS_le es st; omega)
      exact ⟨a, b.trans List.filter_sublist⟩
/-- The states of the essential part. -/
def essT (G : Gr) : List Int := ess G.es (upto G.n.toNat)
theorem essT_st {G : Gr} (h : Vg G) : St G.n (essT G) := by
  have hs := (ess_fix (es := G.es) _ (upto G.n.toNat) (Nat.le_refl _)).2
  have hu := St.upto h.n1
  exact ⟨hu.srt.sublist hs, fun x hx => hu.ins x (hs.subset hx)⟩
theorem essT_P {G : Gr} {s : Int} (hs : s ∈ essT G) : essP G.es (essT G) s = true := by
  have h := (ess_fix (es := G.es) _ (upto G.n.toNat) (Nat.le_refl _)).1
  have : s ∈ essS G.es (essT G) := by rw [show essS G.es (essT G) = essT G from h]; exact hs
  exact (List.mem_filter.1 this).2
theorem essA_t {G : Gr} (h : Vg G) : essA G = (partA G (essT G), essT G, 0) := essA_ok (chkG_ok.2 h)
theorem iof_at {l : List Int} (hs : l.Pairwise (· < ·)) {i : Nat} (hi : i < l.length) : l.idxOf l[i] = i := by
  have hm : l[i] ∈ l := List.getElem_mem _
  have e := iof_get hm
  have hl := iof_lt hm
  rcases Nat.lt_trichotomy (l.idxOf l[i]) i with h | h | h
  · have := List.pairwise_iff_getElem.1 hs _ _ hl hi h; omega
  · exact h
  · have := List.pairwise_iff_getElem.1 hs _ _ hi hl h; omega
/-- Each state of the essential part has an edge to it and one from it. -/
theorem ess_edges {G : Gr} (h : Vg G) {t : Int} (h0 : 0 ≤ t) (h1 : t < (partA G (essT G)).n) : (∃ y ∈ (partA G (essT G)).es, y.t = t) ∧ ∃ y ∈ (partA G (essT G)).es, y.f = t := by
  have hs := essT_st h
  have hl : t.toNat < (essT G).length := by have : t < ((essT G).length : Int) := h1; omega
  have hm : (essT G)[t.toNat] ∈ essT G := List.getElem_mem _
  have hx := iof_at hs.srt hl
  obtain ⟨⟨x, hx1, e1, c1⟩, y, hy1, e2, c2⟩ := essP_iff.1 (essT_P hm)
  refine ⟨⟨_, List.mem_filterMap.2 ⟨x, hx1, part_go ⟨c1, by rw [e1]; exact hm⟩⟩, ?_⟩, ⟨_, List.mem_filterMap.2 ⟨y, hy1, part_go ⟨by rw [e2]; exact hm, c2⟩⟩, ?_⟩⟩
  · show (((essT G).idxOf x.t : Nat) : Int) = t
    rw [e1, hx]; omega
  · show (((essT G).idxOf y.f : Nat) : Int) = t
    rw [e2, hx]; omega
/-- The essential part of an essential part is itself. -/
theorem ess_ess {G : Gr} (h : Vg G) : essA (partA G (essT G)) = (partA G (essT G), upto (essT G).length, 0) := by
  have hs := essT_st h
  have hv := part_vg h hs
  have hn : (partA G (essT G)).n.toNat = (essT G).length := by show ((essT G).length : Int).toNat = _; omega
  have hst : ess (partA G (essT G)).es (upto (essT G).length) = upto (essT G).length := by
    refine ess_stop ?_
    have : essS (partA G (essT G)).es (upto (essT G).length) = upto (essT G).length := List.filter_eq_self.2 (fun t ht => by
      rw [mem_upto] at ht
      obtain ⟨⟨x, hx, e1⟩, y, hy, e2⟩ := ess_edges h ht.1 ht.2
      have ix := hv.ins x hx; have iy := hv.ins y hy
      have hnn : (partA G (essT G)).n = ((essT G).length : Int) := rfl
      exact essP_iff.2 ⟨⟨x, hx, e1, mem_upto.2 (by omega)⟩, y, hy, e2, mem_upto.2 (by omega)⟩)
    rw [this]
  rw [essA_ok (chkG_ok.2 hv), hn, hst]
  have := part_all hv
  rw [hn] at this
  rw [this]

/-! ### Closed paths -/
inductive Rch (es : List Ed) (a : Int) : Int → Prop
  | one {x : Ed} : x ∈ es → x.f = a → Rch es a x.t
  | more {x : Ed} : Rch es a x.f → x ∈ es → Rch es a x.t
theorem Rch.trans {es : List Ed} {a b c : Int} (h : Rch es a b) (k : Rch es b c) : Rch es a c := by
  induction k with
  | one hx e => subst e; exact .more h hx
  | more _ hx ih => exact .more ih hx
theorem Rch.head {es : List Ed} {a b : Int} (h : Rch es a b) : ∃ x ∈ es, x.f = a ∧ (x.t = b ∨ Rch es x.t b) := by
  induction h with
  | one hx e => exact ⟨_, hx, e, .inl rfl⟩
  | more _ hx ih =>
    obtain ⟨y, hy, e, h | h⟩ := ih
    · exact ⟨y, hy, e, .inr (.one hx h.symm)⟩
    · exact ⟨y, hy, e, .inr (.more h hx)⟩
theorem Rch.last {es : List Ed} {a b : Int} (h : Rch es a b) : ∃ x ∈ es, x.t = b ∧ (x.f = a ∨ Rch es a x.f) := by
  cases h with
  | one hx e => exact ⟨_, hx, rfl, .inl e⟩
  | more h hx => exact ⟨_, hx, rfl, .inr h⟩
theorem closed_ess {G : Gr} (h : Vg G) {a : Int} (hr : Rch G.es a a) : a ∈ essT G := by
  refine sup_ess (C := fun s => Rch G.es a s ∧ Rch G.es s a) (fun s hs => ⟨?_, ?_⟩) _ _ (Nat.le_refl _) (fun s hs => ?_) a ⟨hr, hr⟩
  · obtain ⟨x, hx, e, h1⟩ := hs.1.last
    refine ⟨x, hx, e, ?_⟩
    rcases h1 with h1 | h1
    · rw [h1]; exact ⟨hr, hr⟩
    · refine ⟨h1, Rch.trans (.one hx rfl) ?_⟩; rw [e]; exact hs.2
  · obtain ⟨x, hx, e, h1⟩ := hs.2.head
    refine ⟨x, hx, e, ?_⟩
    rcases h1 with h1 | h1
    · rw [h1]; exact ⟨hr, hr⟩
    · refine ⟨?_, h1⟩; exact Rch.trans hs.1 (.one hx e)
  · obtain ⟨x, hx, e, _⟩ := hs.1.last
    have := h.ins x hx; have := h.n1
    rw [mem_upto]; omega
end Go.Proofs.YtcfmpplhghkagaaGreatDoor
