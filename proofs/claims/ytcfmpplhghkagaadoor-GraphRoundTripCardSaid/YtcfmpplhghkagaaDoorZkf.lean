/-
  Words, plain lemmas and walks, merged: Jc, Jd, Je, Jf, Jg, Jh, Jp, Dt, Jj.
-/
import Derived.Test.YtcfmpplhghkagaaDoorZke
import Derived.Test.YtcfmpplhghkagaaDoorZka
import Derived.Lib.AtoiAll
import Derived.Lib.SlBytesRow
import Derived.Deep.CutBlock
import Derived.Test.YtcfmpplhghkagaaDoorZkc
import Derived.Lib.AppendIntMem
import Derived.Lib.AtoiErrMem
import Derived.Test.YtcfmpplhghkagaaDoorRows
import Derived.HandedShaped
import Derived.Handed
import Derived.Lib.LaidU8
import Derived.SevenTiedAt
import Derived.ProofKit
import Derived.Orders
import Derived.RegionTactic
set_option linter.unusedVariables false
set_option linter.unusedSimpArgs false
namespace Go.Proofs.YtcfmpplhghkagaaDoor
open Go

abbrev dec := Lib.decDigits
theorem dec_no {c : UInt8} (hc : isD c = false) (u : Nat) : c ∉ dec u := by
  intro h
  have := List.all_eq_true.1 (dec_all u) c h
  rw [hc] at this; cases this
/-- A number and what follows it are taken off a text in one way. -/
theorem dec_inj {c : UInt8} (hc : isD c = false) {a b : Nat} {r s : List UInt8} (h : dec a ++ c :: r = dec b ++ c :: s) : a = b ∧ r = s := by
  have h1 := spl_app c (dec_no hc a) r
  have h2 := spl_app c (dec_no hc b) s
  rw [h, h2] at h1
  have e : dec b = dec a := (List.cons.inj h1).1
  have e2 : a = b := by rw [← dec_val a, ← dec_val b]; exact congrArg valD e.symm
  subst e2
  exact ⟨rfl, (List.cons.inj (List.append_cancel_left h)).2⟩
/-- A number of up to 9 digits, and what must follow it, taken off a text. -/
def numR (s : List UInt8) (e : UInt8) : Option (Nat × List UInt8) :=
  let d := s.takeWhile isD
  if canD d = true ∧ d.length ≤ 9 ∧ (s.drop d.length).head? = some e then some (valD d, s.drop (d.length + 1)) else none
theorem nine {u : Nat} : (dec u).length ≤ 9 ↔ u < 1000000000 := by
  rw [Lib.decDigits_length]
  constructor
  · intro h
    have := Lib.lt_pow_nDigits u
    exact Nat.lt_of_lt_of_le this (Nat.pow_le_pow_right (by omega) h)
  · intro h
    by_cases h0 : Lib.nDigits u ≤ 9
    · exact h0
    · exfalso
      have h9 : ∀ u k : Nat, k + 1 ≤ Lib.nDigits u → 1 ≤ u ∨ k = 0 → 10 ^ k ≤ u ∨ k = 0 := by
        intro u k
        induction k generalizing u with
        | zero => intro _ _; exact .inr rfl
        | succ k ih =>
          intro h1 _
          by_cases hu : u < 10
          · rw [Lib.nDigits_small hu] at h1; omega
          · rw [Lib.nDigits_big hu] at h1
            rcases ih (u / 10) (by omega) (.inl (by omega)) with h2 | h2
            · left; rw [Nat.pow_succ]; omega
            · subst h2; left; omega
      by_cases hu : u < 10
      · rw [Lib.nDigits_small hu] at h0; omega
      · rcases h9 u 9 (by omega) (.inl (by omega)) with h2 | h2
        · omega
        · omega
theorem take_dec {c : UInt8} (hc : isD c = false) (u : Nat) (r : List UInt8) : (dec u ++ c :: r).takeWhile isD = dec u := by
  rw [List.takeWhile_append_of_pos (fun b hb => List.all_eq_true.1 (dec_all u) b hb), List.takeWhile_cons_of_neg (by rw [hc]; simp), List.append_nil]
theorem numR_dec {c : UInt8} (hc : isD c = false) {u : Nat} (hu : u < 1000000000) (r : List UInt8) : numR (dec u ++ c :: r) c = some (u, r) := by
  unfold numR
  simp only [take_dec hc]
  have e1 : (dec u ++ c :: r).drop (dec u).length = c :: r := List.drop_left' rfl
  have e2 : (dec u ++ c :: r).drop ((dec u).length + 1) = r := by rw [← List.drop_drop, e1]; rfl
  rw [e1, e2, dec_val, if_pos ⟨dec_can u, nine.2 hu, rfl⟩]
theorem numR_some {c : UInt8} {s r : List UInt8} {n : Nat} (h : numR s c = some (n, r)) : s = dec n ++ c :: r ∧ n < 1000000000 := by
  unfold numR at h
  simp only at h
  split at h
  · rename_i hc
    obtain ⟨h1, h2, h3⟩ := hc
    cases h
    have e := (can_back h1).1
    refine ⟨?_, nine.1 (by show (Lib.decDigits _).length ≤ 9; rw [e]; exact h2)⟩
    show s = Lib.decDigits _ ++ _
    rw [e]
    have e3 := List.take_append_drop (s.takeWhile isD).length s
    have e4 : s.take (s.takeWhile isD).length = s.takeWhile isD := (List.prefix_iff_eq_take.1 (List.takeWhile_prefix isD)).symm
    rw [e4] at e3
    cases hd : s.drop (s.takeWhile isD).length with
    | nil => rw [hd] at h3; cases h3
    | cons a b =>
      rw [hd] at h3
      cases h3
      have e5 : s.drop ((s.takeWhile isD).length + 1) = b := by rw [← List.drop_drop, hd]; rfl
      rw [e5, ← hd, e3]
  · cases h
/-- The lines of a text. -/
def lineT (e : Nat × Nat × Nat) : List UInt8 := dec e.1 ++ 32 :: (dec e.2.1 ++ 32 :: (dec e.2.2 ++ [10]))
def bodyT (es : List (Nat × Nat × Nat)) : List UInt8 := es.flatMap lineT
def graphT : List UInt8 := [103, 114, 97, 112, 104, 32]
def prT (q n : Nat) (es : List (Nat × Nat × Nat)) : List UInt8 := graphT ++ (dec q ++ 32 :: (dec n ++ 10 :: bodyT es))
def okN (e : Nat × Nat × Nat) : Prop := e.1 < 1000000000 ∧ e.2.1 < 1000000000 ∧ e.2.2 < 1000000000
/-- A text is that of these numbers. -/
def IsT (s : List UInt8) (q n : Nat) (es : List (Nat × Nat × Nat)) : Prop := s = prT q n es ∧ q < 1000000000 ∧ n < 1000000000 ∧ ∀ e ∈ es, okN e
end Go.Proofs.YtcfmpplhghkagaaDoor
namespace Go.Proofs.YtcfmpplhghkagaaDoor
open Go

def joinC (c : UInt8) : List (List UInt8) → List UInt8
  | [] => []
  | [p] => p
  | p :: q :: r => p ++ c :: joinC c (q :: r)
theorem joinC_cons (c : UInt8) (p : List UInt8) {l : List (List UInt8)} (h : l ≠ []) : joinC c (p :: l) = p ++ c :: joinC c l := by
  cases l with
  | nil => exact absurd rfl h
  | cons a b => rfl
theorem joinC_push (c b : UInt8) (p : List UInt8) (l : List (List UInt8)) : joinC c ((b :: p) :: l) = b :: joinC c (p :: l) := by
  cases l <;> rfl
theorem spl_joinC (c : UInt8) : ∀ s : List UInt8, joinC c (spl c s) = s
  | [] => rfl
  | b :: r => by
    have ih := spl_joinC c r
    unfold spl
    split
    · rename_i e
      rw [joinC_cons c [] (spl_ne c r), ih, e]; rfl
    · split
      · rename_i h; exact absurd h (spl_ne c r)
      · rename_i p q h
        rw [joinC_push, ← h, ih]
theorem spl_of_join (c : UInt8) : ∀ {l : List (List UInt8)}, l ≠ [] → (∀ p ∈ l, c ∉ p) → spl c (joinC c l) = l
  | [], h, _ => absurd rfl h
  | [p], _, h => spl_free c (h p (by simp))
  | p :: q :: r, _, h => by
    show spl c (p ++ c :: joinC c (q :: r)) = _
    rw [spl_app c (h p (by simp)), spl_of_join c (by simp) (fun x hx => h x (List.mem_cons_of_mem _ hx))]
theorem spl_pieces (c : UInt8) : ∀ (s : List UInt8), ∀ p ∈ spl c s, c ∉ p
  | [], p, h => by
    simp only [spl, List.mem_singleton] at h
    subst h; simp
  | b :: r, p, h => by
    have ih := spl_pieces c r
    unfold spl at h
    split at h
    · rcases List.mem_cons.1 h with rfl | h
      · simp
      · exact ih p h
    · rename_i hb
      split at h
      · rename_i h0; exact absurd h0 (spl_ne c r)
      · rename_i p' q h0
        rw [h0] at ih
        rcases List.mem_cons.1 h with rfl | h
        · intro hc
          rcases List.mem_cons.1 hc with e | hc
          · exact hb e.symm
          · exact ih p' (by simp) hc
        · exact ih p (List.mem_cons_of_mem _ h)

/-- A line without its end. -/
def lineN (e : Nat × Nat × Nat) : List UInt8 := joinC 32 [dec e.1, dec e.2.1, dec e.2.2]
def headN (q n : Nat) : List UInt8 := joinC 32 [dec q, dec n]
theorem no32 (u : Nat) : (32 : UInt8) ∉ dec u := dec_no (by decide) u
theorem no10 (u : Nat) : (10 : UInt8) ∉ dec u := dec_no (by decide) u
theorem lineN_no (e : Nat × Nat × Nat) : (10 : UInt8) ∉ lineN e := by
  show (10 : UInt8) ∉ dec e.1 ++ 32 :: (dec e.2.1 ++ 32 :: dec e.2.2)
  simp only [List.mem_append, List.mem_cons, not_or]
  exact ⟨no10 _, by decide, no10 _, by decide, no10 _⟩
theorem headN_no (q n : Nat) : (10 : UInt8) ∉ graphT ++ headN q n := by
  show (10 : UInt8) ∉ graphT ++ (dec q ++ 32 :: dec n)
  simp only [List.mem_append, List.mem_cons, not_or]
  exact ⟨by decide, no10 _, by decide, no10 _⟩
theorem lineT_N (e : Nat × Nat × Nat) : lineT e = lineN e ++ [10] := by
  show dec e.1 ++ 32 :: (dec e.2.1 ++ 32 :: (dec e.2.2 ++ [10])) = (dec e.1 ++ 32 :: (dec e.2.1 ++ 32 :: dec e.2.2)) ++ [10]
  simp
theorem join_lines (p : List UInt8) : ∀ es : List (Nat × Nat × Nat), joinC 10 (p :: es.map lineN) ++ [10] = p ++ 10 :: bodyT es
  | [] => by show p ++ [10] = p ++ 10 :: []; rfl
  | e :: es => by
    rw [List.map_cons]
    show (p ++ 10 :: joinC 10 (lineN e :: es.map lineN)) ++ [10] = _
    rw [List.append_assoc, List.cons_append, join_lines (lineN e) es]
    show p ++ 10 :: (lineN e ++ 10 :: bodyT es) = p ++ 10 :: (lineT e ++ bodyT es)
    rw [lineT_N]; simp
theorem prT_lines (q n : Nat) (es : List (Nat × Nat × Nat)) : prT q n es = joinC 10 ((graphT ++ headN q n) :: es.map lineN) ++ [10] := by
  rw [join_lines]
  show graphT ++ (dec q ++ 32 :: (dec n ++ 10 :: bodyT es)) = (graphT ++ (dec q ++ 32 :: dec n)) ++ 10 :: bodyT es
  simp
/-- The lines of a text. -/
theorem isT_lines {s : List UInt8} {q n : Nat} {es : List (Nat × Nat × Nat)} (h : IsT s q n es) : ∃ b, s = b ++ [10] ∧ spl 10 b = (graphT ++ headN q n) :: es.map lineN := by
  refine ⟨joinC 10 ((graphT ++ headN q n) :: es.map lineN), by rw [h.1, prT_lines], spl_of_join 10 (by simp) ?_⟩
  intro p hp
  rcases List.mem_cons.1 hp with rfl | hp
  · exact headN_no q n
  · obtain ⟨e, _, rfl⟩ := List.mem_map.1 hp
    exact lineN_no e
theorem isT_of_lines {b : List UInt8} {q n : Nat} {es : List (Nat × Nat × Nat)} (h : spl 10 b = (graphT ++ headN q n) :: es.map lineN) (hq : q < 1000000000) (hn : n < 1000000000) (he : ∀ e ∈ es, okN e) : IsT (b ++ [10]) q n es := by
  refine ⟨?_, hq, hn, he⟩
  rw [prT_lines, ← h, spl_joinC]

/-- A word is a number of up to 9 digits, as it is printed. -/
def wordN (w : List UInt8) : Bool := canD w && decide (w.length ≤ 9)
theorem wordN_dec {u : Nat} (h : u < 1000000000) : wordN (dec u) = true := by
  unfold wordN; rw [dec_can, decide_eq_true (nine.2 h)]; rfl
theorem wordN_val {w : List UInt8} (h : wordN w = true) : dec (valD w) = w ∧ valD w < 1000000000 := by
  unfold wordN at h
  rw [Bool.and_eq_true, decide_eq_true_eq] at h
  have e := (can_back h.1).1
  exact ⟨e, nine.1 (by show (Lib.decDigits _).length ≤ 9; rw [e]; exact h.2)⟩
/-- The numbers of a line. -/
def numsP (s : List UInt8) (n : Nat) : Option (List Nat) := if (spl 32 s).length = n ∧ (spl 32 s).all wordN = true then some ((spl 32 s).map valD) else none
theorem nums_line {e : Nat × Nat × Nat} (h : okN e) : numsP (lineN e) 3 = some [e.1, e.2.1, e.2.2] := by
  have hs : spl 32 (lineN e) = [dec e.1, dec e.2.1, dec e.2.2] := spl_of_join 32 (by simp) (fun p hp => by
    simp only [List.mem_cons, List.not_mem_nil, or_false] at hp
    rcases hp with rfl | rfl | rfl <;> exact no32 _)
  unfold numsP
  rw [hs, if_pos ⟨rfl, by simp [wordN_dec h.1, wordN_dec h.2.1, wordN_dec h.2.2]⟩]
  simp [dec_val]
theorem nums_head {q n : Nat} (hq : q < 1000000000) (hn : n < 1000000000) : numsP (headN q n) 2 = some [q, n] := by
  have hs : spl 32 (headN q n) = [dec q, dec n] := spl_of_join 32 (by simp) (fun p hp => by
    simp only [List.mem_cons, List.not_mem_nil, or_false] at hp
    rcases hp with rfl | rfl <;> exact no32 _)
  unfold numsP
  rw [hs, if_pos ⟨rfl, by simp [wordN_dec hq, wordN_dec hn]⟩]
  simp [dec_val]
theorem nums_some {s : List UInt8} {n : Nat} {l : List Nat} (h : numsP s n = some l) : l.length = n ∧ s = joinC 32 (l.map dec) ∧ ∀ u ∈ l, u < 1000000000 := by
  unfold numsP at h
  split at h
  · rename_i hc
    cases h
    have hw := List.all_eq_true.1 hc.2
    refine ⟨by rw [List.length_map]; exact hc.1, ?_, fun u hu => ?_⟩
    · rw [List.map_map]
      have e : (spl 32 s).map (dec ∘ valD) = spl 32 s := by
        conv => rhs; rw [← List.map_id (spl 32 s)]
        exact List.map_congr_left (fun w h => (wordN_val (hw w h)).1)
      rw [e, spl_joinC]
    · obtain ⟨w, h, rfl⟩ := List.mem_map.1 hu
      exact (wordN_val (hw w h)).2
  · cases h
end Go.Proofs.YtcfmpplhghkagaaDoor
namespace Go.Proofs.YtcfmpplhghkagaaDoor
open Go

theorem line_inj {e e' : Nat × Nat × Nat} {r r' : List UInt8} (h : lineT e ++ r = lineT e' ++ r') : e = e' ∧ r = r' := by
  obtain ⟨a, b, c⟩ := e
  obtain ⟨a', b', c'⟩ := e'
  have h0 : dec a ++ 32 :: (dec b ++ 32 :: (dec c ++ 10 :: r)) = dec a' ++ 32 :: (dec b' ++ 32 :: (dec c' ++ 10 :: r')) := by
    simpa [lineT] using h
  obtain ⟨rfl, h1⟩ := dec_inj (by decide) h0
  obtain ⟨rfl, h2⟩ := dec_inj (by decide) h1
  obtain ⟨rfl, h3⟩ := dec_inj (by decide) h2
  exact ⟨rfl, h3⟩
theorem lineT_ne (e : Nat × Nat × Nat) : lineT e ≠ [] := by
  unfold lineT
  intro h
  have := congrArg List.length h
  simp at this
theorem body_pre : ∀ (es es' : List (Nat × Nat × Nat)) (r : List UInt8), bodyT es ++ r = bodyT es' → ∃ t, es' = es ++ t ∧ r = bodyT t
  | [], es', r, h => ⟨es', rfl, h⟩
  | e :: es, [], r, h => by
    exfalso
    have h1 : lineT e ++ (bodyT es ++ r) = [] := by simpa [bodyT] using h
    exact lineT_ne e (List.append_eq_nil_iff.1 h1).1
  | e :: es, e' :: es', r, h => by
    have h1 : lineT e ++ (bodyT es ++ r) = lineT e' ++ bodyT es' := by simpa [bodyT] using h
    obtain ⟨rfl, h2⟩ := line_inj h1
    obtain ⟨t, rfl, h3⟩ := body_pre es es' r h2
    exact ⟨t, rfl, h3⟩
theorem body_snoc (es : List (Nat × Nat × Nat)) (e : Nat × Nat × Nat) : bodyT (es ++ [e]) = bodyT es ++ lineT e := by simp [bodyT]
theorem prT_inj {q n q' n' : Nat} {es es' : List (Nat × Nat × Nat)} {r : List UInt8} (h : prT q n es ++ r = prT q' n' es') : q = q' ∧ n = n' ∧ ∃ t, es' = es ++ t ∧ r = bodyT t := by
  unfold prT at h
  rw [List.append_assoc] at h
  have h0 := List.append_cancel_left h
  have h1 : dec q ++ 32 :: (dec n ++ 10 :: (bodyT es ++ r)) = dec q' ++ 32 :: (dec n' ++ 10 :: bodyT es') := by simpa using h0
  obtain ⟨rfl, h2⟩ := dec_inj (by decide) h1
  obtain ⟨rfl, h3⟩ := dec_inj (by decide) h2
  exact ⟨rfl, rfl, body_pre es es' r h3⟩
theorem isT_uniq {s : List UInt8} {q n q' n' : Nat} {es es' : List (Nat × Nat × Nat)} (h : IsT s q n es) (k : IsT s q' n' es') : q = q' ∧ n = n' ∧ es = es' := by
  have e : prT q n es ++ [] = prT q' n' es' := by rw [List.append_nil, ← h.1, ← k.1]
  obtain ⟨h1, h2, t, h3, h4⟩ := prT_inj e
  refine ⟨h1, h2, ?_⟩
  cases t with
  | nil => rw [h3, List.append_nil]
  | cons a t =>
    exfalso
    have : lineT a ++ bodyT t = [] := by simpa [bodyT] using h4.symm
    exact lineT_ne a (List.append_eq_nil_iff.1 this).1

def edI (e : Nat × Nat × Nat) : Ed := ⟨e.1, e.2.1, e.2.2⟩
def mkG (q n : Nat) (es : List (Nat × Nat × Nat)) : Gr := ⟨q, n, es.map edI⟩
def gr0 : Gr := ⟨0, 0, []⟩
/-- A graph that is checked. -/
def chkd (G : Gr) : Gr × Int := if chkG G = 0 then (G, 0) else (gr0, chkG G)
theorem chkd_ok {G : Gr} (h : chkG G = 0) : chkd G = (G, 0) := if_pos h
theorem chkd_bad {G : Gr} (h : chkG G ≠ 0) : chkd G = (gr0, chkG G) := if_neg h
def anyT (s : List UInt8) : Prop := ∃ t : Nat × Nat × List (Nat × Nat × Nat), IsT s t.1 t.2.1 t.2.2
open Classical in
/-- What Parse answers. -/
noncomputable def parA (s : List UInt8) : Gr × Int := if 65536 < s.length then (gr0, 4) else if h : anyT s then chkd (mkG h.choose.1 h.choose.2.1 h.choose.2.2) else (gr0, 3)
theorem parA_long {s : List UInt8} (h : 65536 < s.length) : parA s = (gr0, 4) := if_pos h
theorem parA_is {s : List UInt8} {q n : Nat} {es : List (Nat × Nat × Nat)} (hs : s.length ≤ 65536) (h : IsT s q n es) : parA s = chkd (mkG q n es) := by
  have ha : anyT s := ⟨(q, n, es), h⟩
  unfold parA
  rw [if_neg (by omega), dif_pos ha]
  obtain ⟨h1, h2, h3⟩ := isT_uniq ha.choose_spec h
  rw [h1, h2, h3]
theorem parA_no {s : List UInt8} (hs : s.length ≤ 65536) (h : ¬ anyT s) : parA s = (gr0, 3) := by
  unfold parA
  rw [if_neg (by omega), dif_neg h]

/-! ### By numbers that are taken off -/
theorem no_head {s : List UInt8} (h : s.take 6 ≠ graphT) : ¬ anyT s := by
  rintro ⟨⟨q, n, es⟩, hs, _⟩
  apply h
  rw [hs]
  rfl
theorem no_first {r : List UInt8} (h : numR r 32 = none) : ¬ anyT (graphT ++ r) := by
  rintro ⟨⟨q, n, es⟩, hs, hq, _⟩
  have := List.append_cancel_left hs
  rw [this, numR_dec (by decide) hq] at h
  cases h
theorem no_second {r r' : List UInt8} {q : Nat} (h0 : numR r 32 = some (q, r')) (h : numR r' 10 = none) : ¬ anyT (graphT ++ r) := by
  rintro ⟨⟨q', n, es⟩, hs, hq, hn, _⟩
  have := List.append_cancel_left hs
  rw [this, numR_dec (by decide) hq] at h0
  cases h0
  rw [numR_dec (by decide) hn] at h
  cases h
/-- What has been read of a text. -/
def Rd (s : List UInt8) (q n : Nat) (es : List (Nat × Nat × Nat)) (r : List UInt8) : Prop := s = prT q n es ++ r ∧ q < 1000000000 ∧ n < 1000000000 ∧ ∀ e ∈ es, okN e
theorem rd_start {r r' t : List UInt8} {q n : Nat} (h0 : numR r 32 = some (q, r')) (h1 : numR r' 10 = some (n, t)) : Rd (graphT ++ r) q n [] t := by
  obtain ⟨rfl, hq⟩ := numR_some h0
  obtain ⟨rfl, hn⟩ := numR_some h1
  exact ⟨by simp [prT, bodyT], hq, hn, fun e he => by cases he⟩
theorem rd_end {s : List UInt8} {q n : Nat} {es : List (Nat × Nat × Nat)} (h : Rd s q n es []) : IsT s q n es := ⟨by have := h.1; rwa [List.append_nil] at this, h.2⟩
theorem rd_step {s : List UInt8} {q n : Nat} {es : List (Nat × Nat × Nat)} {r r1 r2 r3 : List UInt8} {a b c : Nat} (h : Rd s q n es r) (h1 : numR r 32 = some (a, r1)) (h2 : numR r1 32 = some (b, r2)) (h3 : numR r2 10 = some (c, r3)) : Rd s q n (es ++ [(a, b, c)]) r3 := by
  obtain ⟨rfl, ha⟩ := numR_some h1
  obtain ⟨rfl, hb⟩ := numR_some h2
  obtain ⟨rfl, hc⟩ := numR_some h3
  refine ⟨?_, h.2.1, h.2.2.1, fun e he => ?_⟩
  · rw [h.1]; simp [prT, body_snoc, lineT]
  · rcases List.mem_append.1 he with he | he
    · exact h.2.2.2 e he
    · rw [List.mem_singleton] at he
      subst he
      exact ⟨ha, hb, hc⟩
theorem rd_more {s : List UInt8} {q n : Nat} {es : List (Nat × Nat × Nat)} {r : List UInt8} (h : Rd s q n es r) (hr : r ≠ []) (k : anyT s) : ∃ e r', okN e ∧ r = lineT e ++ r' := by
  obtain ⟨⟨q', n', es'⟩, hs, hq, hn, he⟩ := k
  have e : prT q n es ++ r = prT q' n' es' := by rw [← h.1]; exact hs
  obtain ⟨h1, h2, t, h3, h4⟩ := prT_inj e
  cases t with
  | nil => exact absurd h4 hr
  | cons a t =>
    refine ⟨a, bodyT t, he a ?_, by rw [h4]; simp [bodyT]⟩
    show a ∈ es'
    rw [h3]
    simp
theorem line_nums {e : Nat × Nat × Nat} (h : okN e) (r : List UInt8) : ∃ r1 r2, numR (lineT e ++ r) 32 = some (e.1, r1) ∧ numR r1 32 = some (e.2.1, r2) ∧ numR r2 10 = some (e.2.2, r) := by
  refine ⟨dec e.2.1 ++ 32 :: (dec e.2.2 ++ 10 :: r), dec e.2.2 ++ 10 :: r, ?_, numR_dec (by decide) h.2.1 _, numR_dec (by decide) h.2.2 _⟩
  have := numR_dec (c := 32) (by decide) h.1 (dec e.2.1 ++ 32 :: (dec e.2.2 ++ 10 :: r))
  rw [← this]
  simp [lineT]
theorem rd_no1 {s : List UInt8} {q n : Nat} {es : List (Nat × Nat × Nat)} {r : List UInt8} (h : Rd s q n es r) (hr : r ≠ []) (h1 : numR r 32 = none) : ¬ anyT s := fun k => by
  obtain ⟨e, r', ho, rfl⟩ := rd_more h hr k
  obtain ⟨r1, r2, e1, e2, e3⟩ := line_nums ho r'
  rw [e1] at h1; cases h1
theorem rd_no2 {s : List UInt8} {q n : Nat} {es : List (Nat × Nat × Nat)} {r r1 : List UInt8} {a : Nat} (h : Rd s q n es r) (hr : r ≠ []) (h1 : numR r 32 = some (a, r1)) (h2 : numR r1 32 = none) : ¬ anyT s := fun k => by
  obtain ⟨e, r', ho, rfl⟩ := rd_more h hr k
  obtain ⟨s1, s2, e1, e2, e3⟩ := line_nums ho r'
  rw [e1] at h1; cases h1
  rw [e2] at h2; cases h2
theorem rd_no3 {s : List UInt8} {q n : Nat} {es : List (Nat × Nat × Nat)} {r r1 r2 : List UInt8} {a b : Nat} (h : Rd s q n es r) (hr : r ≠ []) (h1 : numR r 32 = some (a, r1)) (h2 : numR r1 32 = some (b, r2)) (h3 : numR r2 10 = none) : ¬ anyT s := fun k => by
  obtain ⟨e, r', ho, rfl⟩ := rd_more h hr k
  obtain ⟨s1, s2, e1, e2, e3⟩ := line_nums ho r'
  rw [e1] at h1; cases h1
  rw [e2] at h2; cases h2
  rw [e3] at h3; cases h3

/-! ### By lines and words -/
/-- What has been read of the lines of a text. -/
def Ln (s : List UInt8) (q n : Nat) (es : List (Nat × Nat × Nat)) (ls : List (List UInt8)) : Prop := ∃ b, s = b ++ [10] ∧ spl 10 b = (graphT ++ headN q n) :: (es.map lineN ++ ls) ∧ q < 1000000000 ∧ n < 1000000000 ∧ ∀ e ∈ es, okN e
theorem isT_split {s b : List UInt8} (hs : s = b ++ [10]) (k : anyT s) : ∃ (q n : Nat) (es : List (Nat × Nat × Nat)), spl 10 b = (graphT ++ headN q n) :: es.map lineN ∧ q < 1000000000 ∧ n < 1000000000 ∧ ∀ e ∈ es, okN e := by
  obtain ⟨⟨q, n, es⟩, h⟩ := k
  obtain ⟨b', e1, e2⟩ := isT_lines h
  have : b' = b := by
    have := e1.symm.trans hs
    exact List.append_inj_left' this rfl
  subst this
  exact ⟨q, n, es, e2, h.2⟩
theorem no_end {s : List UInt8} (h : ∀ b, s ≠ b ++ [10]) : ¬ anyT s := by
  rintro ⟨⟨q, n, es⟩, hs⟩
  obtain ⟨b, e, _⟩ := isT_lines hs
  exact h b e
theorem no_pre {b h : List UInt8} {ls : List (List UInt8)} (hb : spl 10 b = h :: ls) (hn : ∀ r, h ≠ graphT ++ r) : ¬ anyT (b ++ [10]) := fun k => by
  obtain ⟨q, n, es, e, _⟩ := isT_split rfl k
  rw [hb] at e
  exact hn _ (List.cons.inj e).1
theorem no_nums {b h : List UInt8} {ls : List (List UInt8)} (hb : spl 10 b = (graphT ++ h) :: ls) (hn : numsP h 2 = none) : ¬ anyT (b ++ [10]) := fun k => by
  obtain ⟨q, n, es, e, h1, h2, _⟩ := isT_split rfl k
  rw [hb] at e
  have e1 := List.append_cancel_left (List.cons.inj e).1
  rw [e1, nums_head h1 h2] at hn
  cases hn
theorem nums_len {s : List UInt8} {n : Nat} {l : List Nat} (h : numsP s n = some l) : l.length = n := (nums_some h).1
theorem ln_start {b h : List UInt8} {ls : List (List UInt8)} {q n : Nat} (hb : spl 10 b = (graphT ++ h) :: ls) (hn : numsP h 2 = some [q, n]) : Ln (b ++ [10]) q n [] ls := by
  obtain ⟨_, rfl, hu⟩ := nums_some hn
  exact ⟨b, rfl, hb, hu q (by simp), hu n (by simp), fun e he => by cases he⟩
theorem ln_step {s l : List UInt8} {q n a b c : Nat} {es : List (Nat × Nat × Nat)} {ls : List (List UInt8)} (h : Ln s q n es (l :: ls)) (hn : numsP l 3 = some [a, b, c]) : Ln s q n (es ++ [(a, b, c)]) ls := by
  obtain ⟨t, e1, e2, h1, h2, h3⟩ := h
  obtain ⟨_, rfl, hu⟩ := nums_some hn
  refine ⟨t, e1, by rw [e2]; simp [lineN], h1, h2, fun e he => ?_⟩
  rcases List.mem_append.1 he with he | he
  · exact h3 e he
  · rw [List.mem_singleton] at he
    subst he
    exact ⟨hu a (by simp), hu b (by simp), hu c (by simp)⟩
theorem ln_end {s : List UInt8} {q n : Nat} {es : List (Nat × Nat × Nat)} (h : Ln s q n es []) : IsT s q n es := by
  obtain ⟨t, rfl, e2, h1, h2, h3⟩ := h
  rw [List.append_nil] at e2
  exact isT_of_lines e2 h1 h2 h3
theorem ln_no {s l : List UInt8} {q n : Nat} {es : List (Nat × Nat × Nat)} {ls : List (List UInt8)} (h : Ln s q n es (l :: ls)) (hn : numsP l 3 = none) : ¬ anyT s := fun k => by
  obtain ⟨t, e1, e2, h1, h2, h3⟩ := h
  obtain ⟨q', n', es', e, _, _, ho⟩ := isT_split e1 k
  rw [e2] at e
  have e3 := (List.cons.inj e).2
  have hm : l ∈ es'.map lineN := by rw [← e3]; simp
  obtain ⟨x, hx, rfl⟩ := List.mem_map.1 hm
  rw [nums_line (ho x hx)] at hn
  cases hn

/-! ### Texts of graphs -/
def edN (x : Ed) : Nat × Nat × Nat := (x.f.toNat, x.l.toNat, x.t.toNat)
theorem edI_N {x : Ed} (h : 0 ≤ x.f ∧ 0 ≤ x.l ∧ 0 ≤ x.t) : edI (edN x) = x := by
  obtain ⟨f, l, t⟩ := x
  obtain ⟨h1, h2, h3⟩ := h
  have h1 : 0 ≤ f := h1
  have h2 : 0 ≤ l := h2
  have h3 : 0 ≤ t := h3
  simp only [edI, edN, Ed.mk.injEq]
  omega
def txtN (G : Gr) : List UInt8 := prT G.q.toNat G.n.toNat (G.es.map edN)
theorem txtN_is {G : Gr} (h : Vg G) : IsT (txtN G) G.q.toNat G.n.toNat (G.es.map edN) := by
  have h1 := h.q1; have h2 := h.q2; have h3 := h.n1; have h4 := h.n2
  refine ⟨rfl, by omega, by omega, fun e he => ?_⟩
  obtain ⟨x, hx, rfl⟩ := List.mem_map.1 he
  have := h.ins x hx
  exact ⟨by show x.f.toNat < _; omega, by show x.l.toNat < _; omega, by show x.t.toNat < _; omega⟩
theorem mkG_N {G : Gr} (h : Vg G) : mkG G.q.toNat G.n.toNat (G.es.map edN) = G := by
  have h1 := h.q1; have h3 := h.n1
  have he : (G.es.map edN).map edI = G.es := by
    rw [List.map_map]
    conv => rhs; rw [← List.map_id G.es]
    refine List.map_congr_left (fun x hx => ?_)
    have := h.ins x hx
    exact edI_N (by omega)
  obtain ⟨q, n, es⟩ := G
  simp only [mkG, Gr.mk.injEq]
  refine ⟨?_, ?_, he⟩
  · show ((q.toNat : Nat) : Int) = q
    have : 1 ≤ q := h1
    omega
  · show ((n.toNat : Nat) : Int) = n
    have : 0 ≤ n := h3
    omega
theorem par_txt {G : Gr} (h : Vg G) (hl : (txtN G).length ≤ 65536) : parA (txtN G) = (G, 0) := by
  rw [parA_is hl (txtN_is h), mkG_N h]
  exact chkd_ok (chkG_ok.2 h)
theorem mkG_txt {q n : Nat} {es : List (Nat × Nat × Nat)} : txtN (mkG q n es) = prT q n es := by
  unfold txtN mkG
  have : (es.map edI).map edN = es := by
    rw [List.map_map]
    conv => rhs; rw [← List.map_id es]
    exact List.map_congr_left (fun e _ => rfl)
  simp only [this]
  rfl
/-- What is parsed is the text of the result. -/
theorem par_back {s : List UInt8} (h : (parA s).2 = 0) : txtN (parA s).1 = s ∧ chkG (parA s).1 = 0 := by
  by_cases hs : 65536 < s.length
  · rw [parA_long hs] at h; cases h
  by_cases ha : anyT s
  · obtain ⟨⟨q, n, es⟩, hi⟩ := ha
    rw [parA_is (by omega) hi] at h ⊢
    by_cases hc : chkG (mkG q n es) = 0
    · rw [chkd_ok hc]
      exact ⟨by rw [mkG_txt]; exact hi.1.symm, hc⟩
    · rw [chkd_bad hc] at h; exact absurd h hc
  · rw [parA_no (by omega) ha] at h; cases h
theorem par_empty {s : List UInt8} (h : (parA s).2 ≠ 0) : (parA s).1 = gr0 := by
  by_cases hs : 65536 < s.length
  · rw [parA_long hs]
  by_cases ha : anyT s
  · obtain ⟨⟨q, n, es⟩, hi⟩ := ha
    rw [parA_is (by omega) hi] at h ⊢
    by_cases hc : chkG (mkG q n es) = 0
    · rw [chkd_ok hc] at h; exact absurd rfl h
    · rw [chkd_bad hc]
  · rw [parA_no (by omega) ha]
end Go.Proofs.YtcfmpplhghkagaaDoor
namespace Go.Proofs.YtcfmpplhghkagaaDoor
open Go

theorem all_take {l : List UInt8} {k : Nat} (hk : k < l.length) (h : (l.take k).all isD = true) (hd : isD l[k] = true) : (l.take (k + 1)).all isD = true := by
  rw [List.take_succ_eq_append_getElem hk, List.all_append, h]; simp [hd]
theorem valD_take {l : List UInt8} {k : Nat} (hk : k < l.length) : valD (l.take (k + 1)) = 10 * valD (l.take k) + (l[k].toNat - 48) := by
  rw [List.take_succ_eq_append_getElem hk, valD_snoc]
theorem valD_lt : ∀ (l : List UInt8), l.all isD = true → valD l < 10 ^ l.length := by
  intro l
  induction h : l.length generalizing l with
  | zero =>
    intro _
    have : l = [] := List.length_eq_zero_iff.1 h
    subst this; decide
  | succ n ih =>
    intro ha
    obtain rfl | ⟨l', b, rfl⟩ := List.eq_nil_or_concat l
    · simp at h
    rw [List.concat_eq_append] at *
    rw [List.all_append, Bool.and_eq_true] at ha
    have h1 := ih l' (by simpa using h) ha.1
    have hb : isD b = true := by simpa using ha.2
    unfold isD at hb
    rw [Bool.and_eq_true, decide_eq_true_eq, decide_eq_true_eq] at hb
    rw [valD_snoc, Nat.pow_succ]; omega
theorem take_while {l : List UInt8} {k : Nat} (_hk : k ≤ l.length) (hall : (l.take k).all isD = true) : l.takeWhile isD = l.take k ++ (l.drop k).takeWhile isD := by
  conv => lhs; rw [← List.take_append_drop k l]
  exact List.takeWhile_append_of_pos (fun b hb => List.all_eq_true.1 hall b hb)
/-- What the loop over the digits says of a number. -/
theorem num_many {l : List UInt8} {e : UInt8} (hk : 10 ≤ l.length) (hall : (l.take 10).all isD = true) : numR l e = none := by
  unfold numR
  simp only
  rw [if_neg]
  rintro ⟨_, h2, _⟩
  rw [take_while hk hall, List.length_append, List.length_take] at h2
  omega
theorem num_stop {l : List UInt8} {k : Nat} (hk : k ≤ l.length) (hall : (l.take k).all isD = true) (hs : ∀ h : k < l.length, isD l[k] = false) : l.takeWhile isD = l.take k := by
  rw [take_while hk hall]
  have : (l.drop k).takeWhile isD = [] := by
    by_cases h : k < l.length
    · rw [List.drop_eq_getElem_cons h, List.takeWhile_cons_of_neg (by rw [hs h]; simp)]
    · rw [List.drop_eq_nil_of_le (by omega)]; rfl
  rw [this, List.append_nil]
theorem num_some {l : List UInt8} {e : UInt8} {k : Nat} (h0 : 0 < k) (h9 : k ≤ 9) (hk : k < l.length) (hall : (l.take k).all isD = true) (hd : isD l[k] = false) (hz : l[0] ≠ 48 ∨ k = 1) (he : l[k] = e) : numR l e = some (valD (l.take k), l.drop (k + 1)) := by
  have ht := num_stop (Nat.le_of_lt hk) hall (fun _ => hd)
  have hl : (l.take k).length = k := by rw [List.length_take]; omega
  unfold numR
  simp only [ht, hl]
  rw [if_pos]
  refine ⟨?_, h9, ?_⟩
  · unfold canD
    rw [hall, hl]
    have e1 : (l.take k).isEmpty = false := by
      cases h : l.take k with
      | nil => rw [h] at hl; simp at hl; omega
      | cons a b => rfl
    rw [e1]
    rcases hz with hz | hz
    · have : (l.take k).head? = some l[0] := by
        rw [List.head?_take, if_neg (by omega), List.head?_eq_getElem?, List.getElem?_eq_getElem (by omega)]
      rw [this]; simp [hz]
    · simp [hz]
  · rw [List.drop_eq_getElem_cons hk, he]; rfl
theorem num_none {l : List UInt8} {e : UInt8} {k : Nat} (hk : k ≤ l.length) (hall : (l.take k).all isD = true) (hs : ∀ h : k < l.length, isD l[k] = false) (hb : k = 0 ∨ 9 < k ∨ ((∃ h : 0 < l.length, l[0] = 48) ∧ 1 < k) ∨ l.length = k ∨ ∃ h : k < l.length, l[k] ≠ e) : numR l e = none := by
  have ht := num_stop hk hall hs
  have hl : (l.take k).length = k := by rw [List.length_take]; omega
  unfold numR
  simp only [ht, hl]
  rw [if_neg]
  rintro ⟨h1, h2, h3⟩
  rcases hb with h | h | ⟨⟨h, h'⟩, hk1⟩ | h | ⟨h, h'⟩
  · subst h; cases h1
  · omega
  · unfold canD at h1
    have hh : (l.take k).head? = some 48 := by
      rw [List.head?_take, if_neg (by omega), List.head?_eq_getElem?, List.getElem?_eq_getElem h, h']
    rw [hh, hl] at h1
    simp at h1
    omega
  · rw [List.drop_eq_nil_of_le (by omega)] at h3; cases h3
  · rw [List.drop_eq_getElem_cons h] at h3
    exact h' (Option.some.inj h3)
/-- A number taken off a text, and the rest; -1 and the text if there is none. -/
def numV (s : ByteArray) (e : UInt8) : Int × ByteArray := match numR s.data.toList e with
  | some (n, r) => (n, ⟨r.toArray⟩)
  | none => (-1, s)
theorem numV_none {s : ByteArray} {e : UInt8} (h : numR s.data.toList e = none) : numV s e = (-1, s) := by unfold numV; rw [h]
theorem numV_some {s : ByteArray} {e : UInt8} {n : Nat} {r : List UInt8} (h : numR s.data.toList e = some (n, r)) : numV s e = ((n : Int), ⟨r.toArray⟩) := by unfold numV; rw [h]
theorem numV_size (s : ByteArray) (e : UInt8) : (numV s e).2.size ≤ s.size ∧ (0 ≤ (numV s e).1 → (numV s e).2.size < s.size) := by
  cases h : numR s.data.toList e with
  | none => rw [numV_none h]; exact ⟨Nat.le_refl _, fun h => absurd h (show ¬ (0 : Int) ≤ -1 by decide)⟩
  | some p =>
    obtain ⟨n, r⟩ := p
    rw [numV_some h]
    have := (numR_some h).1
    have e1 := congrArg List.length this
    simp only [List.length_append, List.length_cons] at e1
    have e2 : s.data.toList.length = s.size := by simp
    have e3 : (⟨r.toArray⟩ : ByteArray).size = r.length := by simp [ByteArray.size]
    rw [e3]
    constructor
    · omega
    · intro _; omega
theorem numV_bd (s : ByteArray) (e : UInt8) : -1 ≤ (numV s e).1 ∧ (numV s e).1 < 1000000000 := by
  cases h : numR s.data.toList e with
  | none => rw [numV_none h]; exact (show (-1 : Int) ≤ -1 ∧ (-1 : Int) < 1000000000 by decide)
  | some p =>
    obtain ⟨n, r⟩ := p
    rw [numV_some h]
    have := (numR_some h).2
    exact ⟨by show (-1 : Int) ≤ (n : Int); omega, by show ((n : Nat) : Int) < 1000000000; omega⟩
theorem numV_neg {s : ByteArray} {e : UInt8} (h : (numV s e).1 < 0) : numR s.data.toList e = none := by
  cases h1 : numR s.data.toList e with
  | none => rfl
  | some p =>
    obtain ⟨n, r⟩ := p
    rw [numV_some h1] at h
    exact absurd h (by show ¬ ((n : Nat) : Int) < 0; omega)
theorem numV_pos {s : ByteArray} {e : UInt8} (h : 0 ≤ (numV s e).1) : ∃ n : Nat, (numV s e).1 = n ∧ numR s.data.toList e = some (n, (numV s e).2.data.toList) := by
  cases h1 : numR s.data.toList e with
  | none => rw [numV_none h1] at h; exact absurd h (show ¬ (0 : Int) ≤ -1 by decide)
  | some p =>
    obtain ⟨n, r⟩ := p
    rw [numV_some h1]
    exact ⟨n, rfl, rfl⟩

/-! ### Words by the library -/
theorem parse_dig : ∀ (l : List UInt8) (acc : Nat), l.all isD = true → (acc + 1) * 10 ^ l.length ≤ 10 ^ 10 → Lib.parseUint10 acc l = .ok (l.foldl (fun n b => 10 * n + (b.toNat - 48)) acc)
  | [], acc, _, _ => rfl
  | c :: r, acc, h, hb => by
    rw [List.all_cons, Bool.and_eq_true] at h
    have hc := h.1
    unfold isD at hc
    rw [Bool.and_eq_true, decide_eq_true_eq, decide_eq_true_eq] at hc
    rw [List.length_cons, Nat.pow_succ] at hb
    have h1 : 1 ≤ 10 ^ r.length := Nat.one_le_pow _ _ (by omega)
    have h2 : (acc + 1) * 10 * 1 ≤ (acc + 1) * 10 * 10 ^ r.length := Nat.mul_le_mul_left _ h1
    have h3 : (acc + 1) * (10 ^ r.length * 10) = (acc + 1) * 10 * 10 ^ r.length := by rw [Nat.mul_comm (10 ^ r.length) 10, Nat.mul_assoc]
    have h4 : (10 : Nat) ^ 10 = 10000000000 := by decide
    rw [Lib.parseUint10, if_pos hc, if_neg (by omega), if_neg (by omega)]
    have h5 : (acc * 10 + (c.toNat - 48) + 1) * 10 ^ r.length ≤ (acc + 1) * 10 * 10 ^ r.length := Nat.mul_le_mul_right _ (by omega)
    rw [parse_dig r _ h.2 (by omega), List.foldl_cons, Nat.mul_comm acc 10]
theorem atoi_word {x : List UInt8} (h : wordN x = true) : Lib.atoiAll x = .ok (valD x : Int) ∧ (valD x : Int) ≤ 999999999 := by
  obtain ⟨e, hv⟩ := wordN_val h
  unfold wordN at h
  rw [Bool.and_eq_true, decide_eq_true_eq] at h
  obtain ⟨hc, hl⟩ := h
  unfold canD at hc
  rw [Bool.and_eq_true, Bool.and_eq_true] at hc
  obtain ⟨⟨ha, hn⟩, _⟩ := hc
  refine ⟨?_, by omega⟩
  cases x with
  | nil => cases hn
  | cons c r =>
    have hd : isD c = true := by rw [List.all_cons, Bool.and_eq_true] at ha; exact ha.1
    unfold isD at hd
    rw [Bool.and_eq_true, decide_eq_true_eq, decide_eq_true_eq] at hd
    have hp : Lib.parseMag (c :: r) = .ok (valD (c :: r)) := by
      unfold Lib.parseMag
      rw [if_neg (by simp), parse_dig (c :: r) 0 ha]
      · rfl
      · show 1 * 10 ^ (c :: r).length ≤ 10 ^ 10
        rw [Nat.one_mul]
        exact Nat.pow_le_pow_right (by omega) (by omega)
    unfold Lib.atoiAll
    simp only
    rw [if_neg (by omega), hp]
    simp only
    rw [if_neg (by omega), if_neg (by omega), if_neg (by omega)]
theorem itoa_pos {v : Int} (h : 0 ≤ v) : Lib.itoa v = dec v.toNat := by
  unfold Lib.itoa
  first
    | rw [if_neg (by omega)]
    | (rw [if_pos (by omega)])
theorem atoi_other {x : List UInt8} {v : Int} (h : wordN x = false) (h0 : 0 ≤ v) (h9 : v ≤ 999999999) : Lib.itoa v ≠ x := by
  rw [itoa_pos h0]
  rintro rfl
  rw [wordN_dec (by omega)] at h
  cases h
theorem word_back {x : List UInt8} (h : wordN x = true) : Lib.itoa (valD x : Int) = x := by
  rw [itoa_pos (by omega), Int.toNat_natCast]; exact (wordN_val h).1

/-! ### Sizes -/
theorem dec_len {u : Nat} (h : u < 1000000000) : (dec u).length ≤ 9 := nine.2 h
theorem line_len {e : Nat × Nat × Nat} (h : okN e) : (lineT e).length ≤ 30 := by
  have h1 := dec_len h.1; have h2 := dec_len h.2.1; have h3 := dec_len h.2.2
  unfold lineT
  simp only [List.length_append, List.length_cons, List.length_nil]; omega
theorem body_len : ∀ {es : List (Nat × Nat × Nat)}, (∀ e ∈ es, okN e) → (bodyT es).length ≤ 30 * es.length
  | [], _ => by simp [bodyT]
  | e :: es, h => by
    have h1 := line_len (h e (by simp))
    have h2 := body_len (fun x hx => h x (List.mem_cons_of_mem _ hx))
    have e1 : bodyT (e :: es) = lineT e ++ bodyT es := by simp [bodyT]
    rw [e1, List.length_append, List.length_cons]; omega
theorem prT_len {q n : Nat} {es : List (Nat × Nat × Nat)} (hq : q < 1000000000) (hn : n < 1000000000) (he : ∀ e ∈ es, okN e) : (prT q n es).length ≤ 30 * (es.length + 1) := by
  have h1 := dec_len hq; have h2 := dec_len hn; have h3 := body_len he
  unfold prT
  simp only [List.length_append, List.length_cons, show graphT.length = 6 from rfl]; omega
theorem txtN_len {G : Gr} (h : Vg G) : (txtN G).length ≤ 30 * (G.es.length + 1) := by
  have := txtN_is h
  have h1 := prT_len this.2.1 this.2.2.1 this.2.2.2
  rw [List.length_map] at h1
  exact h1
end Go.Proofs.YtcfmpplhghkagaaDoor
namespace Go.Proofs.YtcfmpplhghkagaaDoor
open Go.RowKit

theorem ret_strL {a b : ByteArray} (h : a.data.toList = b.data.toList) : Ending.returned (.string a) = .returned (.string b) := by
  congr 2
  exact ByteArray.ext (Array.toList_inj.1 h)
theorem ret_numL {a b : Int} {s t : ByteArray} (h : a = b) (k : s.data.toList = t.data.toList) : Ending.returned (.tuple #[.int .i64 a, .string s]) = .returned (.tuple #[.int .i64 b, .string t]) := by
  have : s = t := ByteArray.ext (Array.toList_inj.1 k)
  rw [h, this]
theorem ext_drop (s : ByteArray) (k : Nat) : (s.extract k s.size).data.toList = s.data.toList.drop k := by
  rw [ByteArray.data_extract, Array.toList_extract, List.extract_eq_take_drop]
  exact List.take_of_length_le (by rw [List.length_drop]; simp)
def decS (n : Nat) : ByteArray := ⟨(dec n).toArray⟩
theorem bytes_one (w : World) (x : UInt8) : Lib.Bytes (w.alloc (.cells #[.int .u8 (x.toNat : Int)] 5)) w.heap.size 0 ⟨#[x]⟩ := fun i hi => by
  have hi0 : i = 0 := by simp [ByteArray.size] at hi; omega
  subst hi0
  exact (VRow.new w 5 [.int .u8 (x.toNat : Int)]).at 0 rfl
theorem isD_t {b : UInt8} (h1 : 48 ≤ (b.toNat : Int)) (h2 : (b.toNat : Int) ≤ 57) : isD b = true := by unfold isD; simp; omega
theorem isD_f {b : UInt8} (h : ¬ (48 ≤ (b.toNat : Int) ∧ (b.toNat : Int) ≤ 57)) : isD b = false := by unfold isD; simp; omega
end Go.Proofs.YtcfmpplhghkagaaDoor
namespace Go.Proofs.YtcfmpplhghkagaaDoor
open Go.RowKit Go.Sort Go.Shelf Go.Lib

/-- What the library's variables hold. -/
structure LM (w : World) : Prop where
  tab : Lib.TabIs Tryd.prog w "internal/strconv.uint64pow10" .u64 Lib.pow10Tab
  mx : ∃ m, w.cell? ⟨0, 0, none⟩ = some (.int .i64 m)
  syn : ∃ te pe, w.cell? ⟨2, 0, none⟩ = some (.iface te pe)
  rng : ∃ te pe, w.cell? ⟨3, 0, none⟩ = some (.iface te pe)
theorem LM.below {w w' : World} (h : LM w) (hB : RowKit.Below w.heap.size w w') : LM w' := by
  obtain ⟨ht, ⟨m, hm⟩, ⟨t1, p1, h1⟩, ⟨t2, p2, h2⟩⟩ := h
  refine ⟨?_, ⟨m, (hB.cell (World.block_lt_of_cell? w _ hm)).trans hm⟩, ⟨t1, p1, (hB.cell (World.block_lt_of_cell? w _ h1)).trans h1⟩, ⟨t2, p2, (hB.cell (World.block_lt_of_cell? w _ h2)).trans h2⟩⟩
  have hgn : Tryd.prog.globalNamed "internal/strconv.uint64pow10" = some 1 := by kernel_rfl
  unfold Lib.TabIs World.var? at ht ⊢
  rw [hgn] at ht ⊢
  simp only [Option.bind_some] at ht ⊢
  have hlt : 1 < w.heap.size := by
    rcases Nat.lt_or_ge 1 w.heap.size with h' | h'
    · exact h'
    · rw [Array.getElem?_eq_none h'] at ht; cases ht
  rw [hB.block 1 hlt]
  exact ht
theorem LM.dr {w w' : World} (h : LM w) (hD : Dr w w') : LM w' := h.below (hD.below _)

/-- The pieces of a text. -/
def RetSp (c : UInt8) (s : ByteArray) (w : World) (e : Ending) (w' : World) : Prop :=
  ∃ ls : List ByteArray, ls.map (·.data.toList) = spl c s.data.toList ∧ e = .returned (.slice (some ⟨w.heap.size, 0, none⟩) ls.length ls.length) ∧ Sl w' Value.string (some ⟨w.heap.size, 0, none⟩) ls ∧ RowKit.Below w.heap.size w w'
theorem split_any (c : UInt8) (s : ByteArray) (w : World) (hs : s.size ≤ 1000000) (hm : LM w) : Calls Tryd.prog 21 #[.string s, .string ⟨#[c]⟩] w (RetSp c s w) := by
  obtain ⟨m, hm⟩ := hm.mx
  refine (Tryd.strings_Split s ⟨#[c]⟩ m w (by omega) hm (Nat.le_refl 1)).mono ?_
  rintro e w' ⟨rfl, rfl⟩
  have hc : Lib.countB s ⟨#[c]⟩ = s.data.toList.count c := Lib.count_one c s.data.toList
  have hl := Lib.splitB_all ⟨#[c]⟩ (Nat.le_refl 1) 0 _ s rfl
  refine ⟨Lib.splitB ⟨#[c]⟩ 0 (Lib.countB s ⟨#[c]⟩) s, ?_, by rw [hl], Sl.of_vrow (VRow.new w _ _), (RowKit.Below.refl _ _).alloc (Nat.le_refl _) _⟩
  rw [Lib.splitB_data]
  exact splitK_spl c _ _ hc.symm
theorem itoaG_any (v : Int) (h : 0 ≤ v ∧ v ≤ 999999999) (w : World) (hm : LM w) : Calls Tryd.prog 18 #[.int .i64 v] w fun e w' => e = .returned (.string ⟨(Lib.itoa v).toArray⟩) ∧ RowKit.Below w.heap.size w w' := by
  refine (Tryd.strconv_Itoa v (by omega) (by omega) w hm.tab).mono ?_
  rintro e w' ⟨rfl, k, os, rfl⟩
  exact ⟨rfl, Lib.below_grow _ w (Nat.le_refl _) k os⟩
theorem atoi_yes (x : ByteArray) (hx : x.size ≤ 1000000) (h : wordN x.data.toList = true) (w : World) : Calls Tryd.prog 37 #[.string x] w fun e w' => e = .returned (.tuple #[.int .i64 (valD x.data.toList : Int), .nilIface]) ∧ RowKit.Below w.heap.size w w' := by
  refine (Tryd.strconv_Atoi_ok x (by omega) _ (atoi_word h).1 w).mono ?_
  rintro e w' ⟨rfl, hw⟩
  refine ⟨rfl, ?_⟩
  rcases hw with rfl | ⟨t, rfl⟩
  · exact RowKit.Below.refl _ _
  · exact Lib.bytesWorld_below _ _ _
/-- What is known of a word that is no number. -/
def RetAt (x : ByteArray) (w : World) (e : Ending) (w' : World) : Prop :=
  ∃ v g, e = .returned (.tuple #[.int .i64 v, g]) ∧ ((g = .nilIface ∧ (0 ≤ v → v ≤ 999999999 → (⟨(Lib.itoa v).toArray⟩ : ByteArray) ≠ x)) ∨ ∃ t p, g = .iface t p) ∧ RowKit.Below w.heap.size w w'
theorem atoi_no (x : ByteArray) (hx : x.size ≤ 1000000) (h : wordN x.data.toList = false) (w : World) (hm : LM w) : Calls Tryd.prog 37 #[.string x] w (RetAt x w) := by
  match ha : Lib.atoiAll x.data.toList with
  | .ok v =>
    refine (Tryd.strconv_Atoi_ok x (by omega) _ ha w).mono ?_
    rintro e w' ⟨rfl, hw⟩
    refine ⟨v, .nilIface, rfl, .inl ⟨rfl, fun h0 h9 e => ?_⟩, ?_⟩
    · exact atoi_other h h0 h9 (by rw [← e])
    · rcases hw with rfl | ⟨t, rfl⟩
      · exact RowKit.Below.refl _ _
      · exact Lib.bytesWorld_below _ _ _
  | .«syntax» =>
    obtain ⟨te, pe, hv⟩ := hm.syn
    refine (Tryd.strconv_Atoi_syntax x (by omega) ha _ w hv (.inr ⟨te, pe, rfl⟩)).mono ?_
    rintro e w' ⟨N, rfl, _, _, hB⟩
    exact ⟨_, _, rfl, .inr ⟨_, _, rfl⟩, hB⟩
  | .range =>
    obtain ⟨te, pe, hv⟩ := hm.rng
    refine (Tryd.strconv_Atoi_range x (by omega) ha _ w hv (.inr ⟨te, pe, rfl⟩)).mono ?_
    rintro e w' ⟨N, rfl, _, _, hB⟩
    exact ⟨_, _, rfl, .inr ⟨_, _, rfl⟩, hB⟩
end Go.Proofs.YtcfmpplhghkagaaDoor
namespace Go.Proofs.YtcfmpplhghkagaaDoor
open Go.ChangeShapes Go.WideShapes Go.ChangeAt Go.RowKit

section
variable {H : Type} {enc : TypeId × Value → H}
/-- As returnsInHanded_of_change_and, with the world's shape. -/
theorem handed_and_shaped {a : Assume} {C : Checked} {os : Os} {f : FuncId} {fn : Func} {s : ChangeSpec} {conds : List PathCond} {apart fresh handsOn again : Bool} {X : World → Array Value → Prop}
    (hX : ∀ (w w' : World) (args : Array Value), w.heap = w'.heap → X w args → X w' args)
    (own : ownKnob C.prog.godebug = none) (started : os.Started) (noInit : C.prog.inits.idxOf? f = none) (hfn : C.prog.funcs[f]? = some fn)
    (witness : ∃ (w : World) (tape : Tape) (i : Input), w.os = os ∧ (w.forCall tape i).Shaped C.prog ∧ i.vars = [] ∧ Input.okWide C.prog (w.forCall tape i) .any w.heap.size f i ∧
      ((s.pre enc C.prog fn conds apart (w.forCall tape i).memory i.args ∧ X (w.forCall tape i).memory i.args) ∧ sizedMet enc C.prog fn (OpenSpec.ofChange s) apart (w.forCall tape i).memory i.args) ∧ a.holds C.prog (lone (Frame.enter C.prog f i.args .normal) [] (w.forCall tape i)))
    (contract : ∀ (W : World) (base : Nat) (args : Array Value) (ds gs : List (DataW H)) (before : List MemPlace),
      (∀ (j : Nat) t v, fn.params[j]? = some t → args[j]? = some v → Value.okWide C.prog W .any base t v) →
      DataW.Whole enc C.prog fn.params.toList s.vars apart W args.toList ds gs before → X W args → W.ShapedOpen C.prog →
      Calls C.prog f args W fun e W' => ∃ v, e = .returned v ∧ s.post enc C.prog fn apart fresh handsOn again W args v W') :
    ReturnsInHanded a C os f .any (fun w args => (s.pre enc C.prog fn conds apart w args ∧ X w args) ∧ sizedMet enc C.prog fn (OpenSpec.ofChange s) apart w args) (s.post enc C.prog fn apart fresh handsOn again) := by
  refine returnsInHanded_of_calls own started noInit witness ?_
  intro w tape i _ hsh _ hok hpre hholds
  obtain ⟨_, _, _, fn', hfn', _, _, _, _, hval⟩ := hok
  have e : fn' = fn := Option.some.inj (hfn'.symm.trans hfn)
  subst e
  obtain ⟨⟨⟨ds, gs, before, hw, hc⟩, hx⟩, hz⟩ := hpre
  have hw' := DataW.Whole.of_heap (w' := w.forCall tape i) (by rfl) hw
  refine (contract (w.forCall tape i) w.heap.size i.args ds gs before hval hw' (hX _ _ _ (by rfl) hx) hsh).mono fun e W' ⟨v, he, hp⟩ => ?_
  subst he
  exact ChangeSpec.post_blind hp
end
theorem iface_of_trod {P : Program} {w : World} {sp : Nat → Bool} {fuel : Nat} {t : TypeId} {cs : List Value} {nm : String} {d : DataW Unit} {p : List MemPlace} {ms} (ht : P.underlying t = some (.interface ms))
    (h : DataW.trod (fun _ => ()) P w 0 sp false fuel t cs = some (.iface nm d, p)) : ∃ u v, cs = [.iface u v] := by
  cases fuel with
  | zero => simp [DataW.trod] at h
  | succ fuel =>
    simp only [DataW.trod, ht] at h
    split at h <;> first
      | exact ⟨_, _, rfl⟩
      | (exfalso; simp_all)
theorem tab_of_reads {W : World} {name : String} {k : IntKind} {zs : List Int} {g : Nat} {t e : TypeId} {n : Nat}
    (hg : Tryd.prog.globalNamed name = some g) (hty : (Tryd.prog.globals[g]?).map (·.type) = some t) (ht : Tryd.prog.underlying t = some (.array n e)) (he : Tryd.prog.underlying e = some (.int k)) (hce : Tryd.prog.cellsOf e = 1) (hct : Tryd.prog.cellsOf t = n)
    (h : Lib.VarReads Tryd.prog W name (Lib.tabData k zs)) : Lib.TabIs Tryd.prog W name k zs := by
  obtain ⟨g', t', cs, fuel, p, hg', ht', hvar, hd⟩ := h
  obtain rfl := Option.some.inj (hg.symm.trans hg')
  obtain rfl := Option.some.inj (hty.symm.trans ht')
  unfold Lib.TabIs
  rw [hvar, ← Lib.cells_of_tab ht he hce hct hd]
theorem iface_of_reads {W : World} {name nm : String} {d : DataW Unit} {g : Nat} {t : TypeId} {ms}
    (hg : Tryd.prog.globalNamed name = some g) (hty : (Tryd.prog.globals[g]?).map (·.type) = some t) (ht : Tryd.prog.underlying t = some (.interface ms))
    (h : Lib.VarReads Tryd.prog W name (.iface nm d)) : ∃ te pe, W.cell? ⟨g, 0, none⟩ = some (.iface te pe) := by
  obtain ⟨g', t', cs, fuel, p, hg', ht', hvar, hd⟩ := h
  obtain rfl := Option.some.inj (hg.symm.trans hg')
  obtain rfl := Option.some.inj (hty.symm.trans ht')
  obtain ⟨u, v, e⟩ := iface_of_trod ht hd
  refine ⟨u, v, ?_⟩
  rw [World.var?_cell hg hvar 0]
  have : cs[0]? = cs.toList[0]? := by simp
  rw [this, e]; rfl
theorem pow_is : (Rows.laid_internal_strconv_uint64pow10 : DataW Unit) = Lib.tabData .u64 Lib.pow10Tab := by kernel_rfl
theorem lm_of {l : List (String × DataW Unit)} {W : World} (h : laidMet Tryd.prog l W) (hsh : W.ShapedOpen Tryd.prog)
    (h1 : ("internal/strconv.uint64pow10", (Rows.laid_internal_strconv_uint64pow10 : DataW Unit)) ∈ l) (h2 : ("strconv.ErrSyntax", (Rows.laid_strconv_ErrSyntax : DataW Unit)) ∈ l) (h3 : ("strconv.ErrRange", (Rows.laid_strconv_ErrRange : DataW Unit)) ∈ l) : LM W := by
  have r1 := Lib.laidMet.reads h h1
  rw [pow_is] at r1
  exact ⟨tab_of_reads (g := 1) (t := 107) (e := 90) (n := 20) (by kernel_rfl) (by kernel_rfl) Tryd.underlying107 Tryd.underlying90 (by kernel_rfl) (by kernel_rfl) r1, Tryd.laysM146.s1_3 W hsh,
    iface_of_reads (g := 2) (t := 51) (by kernel_rfl) (by kernel_rfl) Tryd.underlying51 (Lib.laidMet.reads h h2), iface_of_reads (g := 3) (t := 51) (by kernel_rfl) (by kernel_rfl) Tryd.underlying51 (Lib.laidMet.reads h h3)⟩
end Go.Proofs.YtcfmpplhghkagaaDoor
namespace Go.Proofs.YtcfmpplhghkagaaDoor
open Go

section
variable {P : Program} {ops : Array Oper} {Q : Exit → Act → World → Prop} {md : Region.Mode}
/-- All that an operation waits for is done. -/
def rdyAtD (md : Region.Mode) (ops : Array Oper) (listed : Array Bool) (i : Nat) : Bool := ((ops[i]?).map (·.after.all fun e => !Region.binds md e || listed.getD e.on false)).getD false
theorem mem_readyD {listed : Array Bool} {i : Nat} : i ∈ Region.ready md ops listed ↔ i < ops.size ∧ listed.getD i true = false ∧ rdyAtD md ops listed i = true := by
  unfold Region.ready rdyAtD
  rw [List.mem_filter, List.mem_range, Bool.and_eq_true, Bool.not_eq_true']
theorem getD_falseD {listed : Array Bool} {i : Nat} (h : listed.getD i true = false) : ∃ hi : i < listed.size, listed[i] = false := by
  by_cases hi : i < listed.size
  · refine ⟨hi, ?_⟩
    simpa [Array.getD, hi] using h
  · simp [Array.getD, hi] at h
theorem wpAny_invD (Inv : Array Bool → Act → World → Prop)
    (hstep : ∀ listed a w i, Inv listed a w → i ∈ Region.ready md ops listed → wpOp P ops Q i (Inv (listed.setIfInBounds i true)) a w)
    (hend : ∀ listed a w, Inv listed a w → Region.ready md ops listed = [] → Q .normal a w) :
    ∀ (fuel : Nat) (listed : Array Bool) (a : Act) (w : World), listed.toList.count false ≤ fuel → Inv listed a w → wpAny P md ops Q fuel listed a w
  | 0, listed, a, w, hc, hI => by
    have hr : Region.ready md ops listed = [] := by
      rw [List.eq_nil_iff_forall_not_mem]
      intro i hi
      obtain ⟨hl, he⟩ := getD_falseD (mem_readyD.1 hi).2.1
      have hm : false ∈ listed.toList := by rw [← he]; exact Array.getElem_mem_toList hl
      have := List.count_pos_iff.2 hm
      omega
    exact ⟨hr, hend _ _ _ hI hr⟩
  | fuel + 1, listed, a, w, hc, hI => ⟨hend _ _ _ hI, fun i hi => wpOp_mono (fun a' w' h => wpAny_invD Inv hstep hend fuel _ a' w' (by
      obtain ⟨hl, he⟩ := getD_falseD (mem_readyD.1 hi).2.1
      rw [Array.toList_setIfInBounds, List.count_set (by simpa using hl)]
      have hm : false ∈ listed.toList := by rw [← he]; exact Array.getElem_mem_toList hl
      have := List.count_pos_iff.2 hm
      have e2 : (listed.toList[i]'(by simpa using hl)) = false := by simpa using he
      rw [e2]
      rw [if_pos (by rfl), if_neg (by decide)]
      omega) h) (hstep _ _ _ i hI hi)⟩
/-- Where nothing is ready, all is done. -/
theorem ready_nilD {listed : Array Bool} (hs : listed.size = ops.size) (hd : ((List.range ops.size).all fun i => ((ops[i]?).map (·.after.all fun e => decide (e.on < i))).getD true) = true)
    (h : Region.ready md ops listed = []) : ∀ i, i < ops.size → listed.getD i false = true := by
  intro i
  induction i using Nat.strongRecOn with
  | ind i ih =>
    intro hi
    cases hx : listed.getD i false with
    | true => rfl
    | false =>
      exfalso
      have hl : i < listed.size := by omega
      have hx2 : listed.getD i true = false := by simpa [Array.getD, hl] using hx
      have : i ∈ Region.ready md ops listed := by
        rw [mem_readyD]
        refine ⟨hi, hx2, ?_⟩
        have h1 := List.all_eq_true.1 hd i (List.mem_range.2 hi)
        unfold rdyAtD
        rw [Array.getElem?_eq_getElem hi] at h1 ⊢
        simp only [Option.map_some, Option.getD_some, Array.all_eq_true] at h1 ⊢
        intro j hj
        have h2 := of_decide_eq_true (h1 j hj)
        rw [ih _ h2 (by omega), Bool.or_true]
      rw [h] at this
      cases this
end

/-! ### Frames of which some slots are written -/
def frD (A : Act) (f : Nat → Option Value) : Act := { A with tmps := A.tmps.mapIdx fun i v => (f i).getD v }
theorem fr_noneD (A : Act) : frD A (fun _ => none) = A := by
  unfold frD
  have : (A.tmps.mapIdx fun i v => ((none : Option Value)).getD v) = A.tmps := by apply Array.ext <;> simp
  rw [this]
theorem fr_putD {A : Act} {f : Nat → Option Value} (t : Nat) (v : Value) : (frD A f).put (some t) v = frD A (fun i => if i = t then some v else f i) := by
  unfold frD Act.put
  simp only
  congr 1
  apply Array.ext
  · simp
  · intro i h1 h2
    by_cases e : t = i
    · subst e; simp
    · have e' : ¬ i = t := fun h => e h.symm
      rw [Array.getElem_setIfInBounds_ne (by simpa using h2) e]
      simp [e']
theorem fr_put0D {A : Act} {f : Nat → Option Value} (v : Value) : (frD A f).put none v = frD A f := rfl
theorem fr_eval0D {A : Act} {f : Nat → Option Value} {t : Nat} (h : f t = none) : (frD A f).eval (.tmp t) = A.eval (.tmp t) := by
  show (A.tmps.mapIdx fun i v => (f i).getD v).getD t undef = A.tmps.getD t undef
  by_cases ht : t < A.tmps.size
  · simp [Array.getD, ht, h]
  · simp [Array.getD, ht]
theorem fr_eval1D {A : Act} {f : Nat → Option Value} {t : Nat} {v : Value} (h : f t = some v) (ht : t < A.tmps.size) : (frD A f).eval (.tmp t) = v := by
  show (A.tmps.mapIdx fun i v => (f i).getD v).getD t undef = v
  simp [Array.getD, ht, h]

theorem frD_eval {A : Act} {f : Nat → Option Value} {t : Nat} {v : Value} (h : f t = some v) (ht : t < A.tmps.size) : (frD A f).eval (.tmp t) = v := fr_eval1D h ht
theorem frD_eval_out {A : Act} {f : Nat → Option Value} {t : Nat} (h : f t = none) : (frD A f).eval (.tmp t) = A.eval (.tmp t) := fr_eval0D h
theorem dst_uniqD {ops : Array Oper} (hn : (ops.toList.filterMap (·.dst)).Nodup) {i j : Nat} {o o' : Oper} {t : Nat} (hi : ops[i]? = some o) (hj : ops[j]? = some o') (ht : o.dst = some t) (ht' : o'.dst = some t) : i = j := by
  have key : ∀ (l : List Oper), (l.filterMap (·.dst)).Nodup → ∀ (i j : Nat) (o o' : Oper), l[i]? = some o → l[j]? = some o' → o.dst = some t → o'.dst = some t → i = j := by
    intro l
    induction l with
    | nil => intro _ i j o o' h; simp at h
    | cons x l ih =>
      intro hn i j o o' hi hj h1 h2
      have hn' : (l.filterMap (·.dst)).Nodup := by
        rw [List.filterMap_cons] at hn
        split at hn
        · exact hn
        · exact (List.nodup_cons.1 hn).2
      have hx : ∀ (k : Nat) (o'' : Oper), l[k]? = some o'' → o''.dst = some t → x.dst ≠ some t := by
        intro k o'' hk ho'' he
        rw [List.filterMap_cons, he] at hn
        exact (List.nodup_cons.1 hn).1 (List.mem_filterMap.2 ⟨o'', List.mem_of_getElem? hk, ho''⟩)
      cases i with
      | zero =>
        cases j with
        | zero => rfl
        | succ j => simp at hi hj; subst hi; exact absurd h1 (hx j o' hj h2)
      | succ i =>
        cases j with
        | zero => simp at hi hj; subst hj; exact absurd h2 (hx i o hi h1)
        | succ j => simp at hi hj; rw [ih hn' i j o o' hi hj h1 h2]
  exact key ops.toList hn i j o o' (by simpa using hi) (by simpa using hj) ht ht'

/-- The slots that the region writes: each once. -/
def dstsD (ops : Array Oper) : List Nat := ops.toList.filterMap (·.dst)
section
variable {P : Program} {ops : Array Oper} {Q : Exit → Act → World → Prop}
theorem getD_setD {l : Array Bool} {i j : Nat} (h : l.getD j false = true) : (l.setIfInBounds i true).getD j false = true := by
  by_cases hj : j < l.size
  · by_cases e : i = j
    · subst e; simp [Array.getD, hj]
    · simp [Array.getD, hj] at h
      simp [Array.getD, hj, e, h]
  · simp [Array.getD, hj] at h
/-- What stands in a frame under way: what is done has written its value; nothing else is written. -/
structure InvD (ops : Array Oper) (vals : Nat → Value) (S : World → Prop) (l : Array Bool) (f : Nat → Option Value) (W : World) : Prop where
  sz : l.size = ops.size
  st : S W
  dom : ∀ t, t ∉ dstsD ops → f t = none
  val : ∀ i o t, ops[i]? = some o → o.dst = some t → l.getD i false = true → f t = some (vals i)
/-- A drawn region of which each operation yields a known value, whatever else is done. -/
theorem region_det {id : Nat} {A : Act} {w : World} (hm : P.follows .mixedOrders = true) (vals : Nat → Value) (S : World → Prop)
    (hd : ((List.range ops.size).all fun i => ((ops[i]?).map (·.after.all fun e => decide (e.on < i))).getD true) = true)
    (hn : (dstsD ops).Nodup) (hlt : (dstsD ops).all (fun t => decide (t < A.tmps.size)) = true)
    (h0 : S { w with drawn := w.drawn + 1 })
    (hstep : ∀ (i : Nat) (o : Oper), ops[i]? = some o → ∀ (a : Act) (W : World), S W → a.tmps.size = A.tmps.size →
      (∀ e ∈ o.after, Region.binds .any e = true → ∀ o', ops[e.on]? = some o' → ∀ t, o'.dst = some t → a.tmps[t]? = some (vals e.on)) →
      (∀ t, t ∉ dstsD ops → a.tmps[t]? = A.tmps[t]?) →
      ∀ K : Act → World → Prop, (∀ W', S W' → K (a.put o.dst (vals i)) W') → if Region.wanted o (yielded ops a.tmps) = true then Oper.wp P o a W K Q else K (a.put o.dst undef) W)
    (hend : ∀ f W, S W → (∀ t, t ∉ dstsD ops → f t = none) → (∀ i o t, ops[i]? = some o → o.dst = some t → f t = some (vals i)) → Q .normal (frD A f) W) :
    (Code.region id ops true).wp P Q A w := by
  refine wp_region_any hm (wpAny_invD (fun l a W => ∃ f, a = frD A f ∧ InvD ops vals S l f W) ?_ ?_ _ _ _ _ ?_ ?_)
  · rintro l a W i ⟨f, rfl, hI⟩ hi
    obtain ⟨h1, h2, h3⟩ := mem_readyD.1 hi
    obtain ⟨hl, he⟩ := getD_falseD h2
    have ho : ops[i]? = some ops[i] := Array.getElem?_eq_getElem h1
    refine wpOp_step ho (fun K hK => ?_)
    refine hstep i ops[i] ho (frD A f) W hI.st (by simp [frD]) ?_ ?_ K ?_
    · intro e he' hb o' hoe t hdt
      have h4 : l.getD e.on false = true := by
        unfold rdyAtD at h3
        rw [ho] at h3
        simp only [Option.map_some, Option.getD_some, Array.all_eq_true] at h3
        obtain ⟨k, hk, rfl⟩ := Array.mem_iff_getElem.1 he'
        have := h3 k hk
        rw [Bool.or_eq_true] at this
        rcases this with h5 | h5
        · rw [hb] at h5; cases h5
        · exact h5
      have hv := hI.val e.on o' t hoe hdt h4
      have ht : t < A.tmps.size := by
        have := List.all_eq_true.1 hlt t (by unfold dstsD; exact List.mem_filterMap.2 ⟨o', by have := Array.mem_of_getElem? hoe; simpa using this, hdt⟩)
        exact of_decide_eq_true this
      simp only [frD, Array.getElem?_mapIdx, hv, Option.getD_some]
      rw [Array.getElem?_eq_getElem ht]; rfl
    · intro t ht
      simp only [frD, Array.getElem?_mapIdx, hI.dom t ht, Option.getD_none]
      cases A.tmps[t]? <;> rfl
    · intro W' hS
      refine hK _ _ ⟨(match ops[i].dst with | some t => fun k => if k = t then some (vals i) else f k | none => f), ?_, ?_⟩
      · cases hx : ops[i].dst with
        | none => exact fr_put0D _
        | some t => exact fr_putD t _
      · refine ⟨by simpa using hI.sz, hS, ?_, ?_⟩
        · intro t ht
          cases hx : ops[i].dst with
          | none => exact hI.dom t ht
          | some t' =>
            have : t ≠ t' := by
              rintro rfl
              exact ht (by unfold dstsD; exact List.mem_filterMap.2 ⟨ops[i], by simp, hx⟩)
            show (if t = t' then _ else f t) = none
            rw [if_neg this]; exact hI.dom t ht
        · intro j o t hoj hdt hdone
          by_cases hij : j = i
          · subst hij
            rw [ho] at hoj
            cases hoj
            rw [hdt]
            show (if t = t then some (vals j) else f t) = _
            rw [if_pos rfl]
          · have hold : l.getD j false = true := by
              by_cases hjl : j < l.size
              · simp [Array.getD, hjl, Ne.symm hij] at hdone
                simp [Array.getD, hjl, hdone]
              · simp [Array.getD, hjl] at hdone
            have hv := hI.val j o t hoj hdt hold
            cases hx : ops[i].dst with
            | none => exact hv
            | some t' =>
              show (if t = t' then some (vals i) else f t) = _
              have : t ≠ t' := by
                rintro rfl
                exact hij (dst_uniqD hn hoj ho hdt hx)
              rw [if_neg this]; exact hv
  · rintro l a W ⟨f, rfl, hI⟩ hr
    have hall := ready_nilD hI.sz hd hr
    refine hend f W hI.st hI.dom (fun i o t ho ht => hI.val i o t ho ht (hall i ?_))
    exact (Array.getElem?_eq_some_iff.1 ho).1
  · rw [Array.toList_replicate]
    exact Nat.le_trans List.count_le_length (by simp)
  · exact ⟨_, (fr_noneD A).symm, by simp, h0, fun _ _ => rfl, fun i o t ho ht hx => by
      by_cases hjl : i < ops.size <;> simp [Array.getD, hjl] at hx⟩

/-- The writing of slots, one after the other. -/
def putsD (A : Act) (L : List (Nat × Value)) : Act := L.foldl (fun a p => a.put (some p.1) p.2) A
def updD (g : Nat → Option Value) (p : Nat × Value) : Nat → Option Value := fun k => if k = p.1 then some p.2 else g k
theorem putsD_fr {A : Act} : ∀ (L : List (Nat × Value)) (g : Nat → Option Value), L.foldl (fun a p => a.put (some p.1) p.2) (frD A g) = frD A (L.foldl updD g)
  | [], _ => rfl
  | p :: L, g => by
    rw [List.foldl_cons, List.foldl_cons, fr_putD]
    exact putsD_fr L _
theorem updD_out : ∀ (L : List (Nat × Value)) (g : Nat → Option Value) (t : Nat), t ∉ L.map (·.1) → L.foldl updD g t = g t
  | [], _, _, _ => rfl
  | p :: L, g, t, h => by
    rw [List.map_cons, List.mem_cons, not_or] at h
    rw [List.foldl_cons, updD_out L _ t h.2]
    show (if t = p.1 then some p.2 else g t) = g t
    rw [if_neg h.1]
theorem updD_in : ∀ (L : List (Nat × Value)) (g : Nat → Option Value) (i : Nat) (h : i < L.length), (L.map (·.1)).Nodup → L.foldl updD g L[i].1 = some L[i].2
  | [], _, i, h, _ => by simp at h
  | p :: L, g, 0, _, hn => by
    rw [List.foldl_cons]
    show L.foldl updD (updD g p) p.1 = some p.2
    rw [updD_out L _ p.1 (List.nodup_cons.1 hn).1]
    show (if p.1 = p.1 then some p.2 else g p.1) = some p.2
    rw [if_pos rfl]
  | p :: L, g, i + 1, h, hn => by
    rw [List.foldl_cons]
    exact updD_in L _ i (by simpa using h) (List.nodup_cons.1 hn).2
/-- As region_det, with a list of what the slots hold: for a region each of whose operations has a slot. -/
theorem region_detL {id : Nat} {A : Act} {w : World} (hm : P.follows .mixedOrders = true) (L : List (Nat × Value)) (S : World → Prop)
    (hL : L.map (fun p => some p.1) = ops.toList.map (·.dst))
    (hd : ((List.range ops.size).all fun i => ((ops[i]?).map (·.after.all fun e => decide (e.on < i))).getD true) = true)
    (hnb : decide (L.map (·.1)).Nodup = true) (hlt : (L.map (·.1)).all (fun t => decide (t < A.tmps.size)) = true)
    (h0 : S { w with drawn := w.drawn + 1 })
    (hstep : ∀ (i : Nat) (o : Oper), ops[i]? = some o → ∀ (a : Act) (W : World), S W →
      (∀ e ∈ o.after, Region.binds .any e = true → ∀ p, L[e.on]? = some p → a.tmps[p.1]? = some p.2) →
      (∀ t, (L.map (·.1)).contains t = false → a.tmps[t]? = A.tmps[t]?) →
      ∀ K : Act → World → Prop, (∀ W', S W' → K (a.put o.dst ((L[i]?.map (·.2)).getD undef)) W') → if Region.wanted o (yielded ops a.tmps) = true then Oper.wp P o a W K Q else K (a.put o.dst undef) W)
    (hend : ∀ W, S W → Q .normal (putsD A L) W) :
    (Code.region id ops true).wp P Q A w := by
  have hn := of_decide_eq_true hnb
  have hlen : L.length = ops.size := by
    have := congrArg List.length hL
    simpa using this
  have hdst : dstsD ops = L.map (·.1) := by
    unfold dstsD
    have h1 : ∀ (l : List Oper) (M : List (Nat × Value)), M.map (fun p => some p.1) = l.map (·.dst) → l.filterMap (·.dst) = M.map (·.1) := by
      intro l
      induction l with
      | nil => intro M h; cases M with
        | nil => rfl
        | cons p M => simp at h
      | cons o l ih =>
        intro M h
        cases M with
        | nil => simp at h
        | cons p M =>
          simp only [List.map_cons, List.cons.injEq] at h
          rw [List.filterMap_cons, ← h.1, ih M h.2]; rfl
    exact h1 _ _ hL
  have hat : ∀ (i : Nat) (o : Oper) (t : Nat), ops[i]? = some o → o.dst = some t → ∃ v, L[i]? = some (t, v) := by
    intro i o t ho ht
    have h1 := congrArg (fun l => l[i]?) hL
    simp only [List.getElem?_map] at h1
    rw [show ops.toList[i]? = some o by simpa using ho] at h1
    cases hx : L[i]? with
    | none => rw [hx] at h1; simp at h1
    | some p =>
      rw [hx] at h1
      simp only [Option.map_some, Option.some.injEq] at h1
      rw [ht] at h1
      obtain ⟨a, b⟩ := p
      cases h1
      exact ⟨b, rfl⟩
  refine region_det hm (fun i => (L[i]?.map (·.2)).getD undef) S hd (by rw [hdst]; exact hn) (by rw [hdst]; exact hlt) h0 ?_ ?_
  · intro i o ho a W hS hz hdep hout K hK
    refine hstep i o ho a W hS ?_ (fun t ht => hout t (by rw [hdst]; intro hm; rw [List.contains_iff_mem.2 hm] at ht; cases ht)) K hK
    intro e he hb p hp
    have hel : e.on < ops.size := by rw [← hlen]; exact (List.getElem?_eq_some_iff.1 hp).1
    have ho' : ops[e.on]? = some ops[e.on] := Array.getElem?_eq_getElem hel
    have hdp : ops[e.on].dst = some p.1 := by
      have h1 := congrArg (fun l => l[e.on]?) hL
      simp only [List.getElem?_map] at h1
      rw [hp, show ops.toList[e.on]? = some ops[e.on] by rw [Array.getElem?_toList]; exact ho'] at h1
      simpa using h1.symm
    have := hdep e he hb _ ho' p.1 hdp
    rw [this]
    show some ((L[e.on]?.map (·.2)).getD undef) = _
    rw [hp]; rfl
  · intro f W hS hout hval
    have hf : f = L.foldl updD (fun _ => none) := by
      funext t
      by_cases ht : t ∈ L.map (·.1)
      · obtain ⟨i, hi, he⟩ := List.mem_iff_getElem.1 ht
        have hi' : i < L.length := by simpa using hi
        have h1 := updD_in L (fun _ => none) i hi' hn
        have e2 : L[i].1 = t := by simpa using he
        rw [e2] at h1
        rw [h1]
        have hio : i < ops.size := by omega
        have ho' : ops[i]? = some ops[i] := Array.getElem?_eq_getElem hio
        have hdp : ops[i].dst = some t := by
          have h1 := congrArg (fun l => l[i]?) hL
          simp only [List.getElem?_map] at h1
          rw [List.getElem?_eq_getElem hi', show ops.toList[i]? = some ops[i] by rw [Array.getElem?_toList]; exact ho'] at h1
          simp only [Option.map_some, Option.some.injEq] at h1
          rw [← h1, e2]
        have := hval i _ t ho' hdp
        rw [this, List.getElem?_eq_getElem hi']; rfl
      · rw [hout t (by rw [hdst]; exact ht), updD_out L _ t ht]
    have := hend W hS
    have e : L.foldl (fun a p => a.put (some p.1) p.2) (frD A (fun _ => none)) = frD A f := by rw [putsD_fr, ← hf]
    rw [fr_noneD] at e
    unfold putsD at this
    rw [e] at this
    exact this
end
end Go.Proofs.YtcfmpplhghkagaaDoor
namespace Go.Proofs.YtcfmpplhghkagaaDoor
open Go.RowKit Go.Sort

def decI (v : Int) : ByteArray := decS v.toNat
theorem decI_size {v : Int} (h1 : v < 1000000000) : (decI v).size ≤ 9 := by
  have := dec_len (u := v.toNat) (by omega)
  have e : (decI v).size = (dec v.toNat).length := by show (dec v.toNat).toArray.size = _; simp
  omega
/-- The text of a graph, and the error. -/
def prA (G : Gr) : ByteArray × Int := if chkG G = 0 then (⟨(txtN G).toArray⟩, 0) else (⟨#[]⟩, 1)
/-- The text of a graph's head, and of an edge. -/
def hdB (G : Gr) : ByteArray := ⟨(graphT ++ (dec G.q.toNat ++ 32 :: (dec G.n.toNat ++ [10]))).toArray⟩
def lnB (x : Ed) : ByteArray := ⟨(lineT (edN x)).toArray⟩
def toB (G : Gr) (k : Nat) : ByteArray := ⟨(graphT ++ (dec G.q.toNat ++ 32 :: (dec G.n.toNat ++ 10 :: bodyT ((G.es.take k).map edN)))).toArray⟩
theorem ba_ext {a b : ByteArray} (h : a.data.toList = b.data.toList) : a = b := ByteArray.ext (Array.toList_inj.1 h)
theorem toB_zero (G : Gr) : (⟨#[103, 114, 97, 112, 104, 32]⟩ : ByteArray) ++ decI G.q ++ (⟨#[32]⟩ : ByteArray) ++ decI G.n ++ (⟨#[10]⟩ : ByteArray) = toB G 0 := by
  apply ba_ext
  simp [toB, decI, decS, graphT, bodyT]
theorem toB_succ (G : Gr) (k : Nat) (h : k < G.es.length) : toB G k ++ decI G.es[k].f ++ (⟨#[32]⟩ : ByteArray) ++ decI G.es[k].l ++ (⟨#[32]⟩ : ByteArray) ++ decI G.es[k].t ++ (⟨#[10]⟩ : ByteArray) = toB G (k + 1) := by
  apply ba_ext
  have e : (G.es.take (k + 1)).map edN = (G.es.take k).map edN ++ [edN G.es[k]] := by
    rw [List.take_succ_eq_append_getElem h, List.map_append]; rfl
  unfold toB
  rw [e, body_snoc]
  simp [decI, decS, lineT, edN]
theorem toB_all (G : Gr) : toB G G.es.length = ⟨(txtN G).toArray⟩ := by
  unfold toB txtN prT
  rw [List.take_length]
theorem toB_size {G : Gr} (h : Vg G) (k : Nat) : (toB G k).size ≤ 30 * (k + 1) := by
  have h1 := txtN_is h
  have e : (toB G k).size = (prT G.q.toNat G.n.toNat ((G.es.take k).map edN)).length := by show (List.toArray _).size = _; simp [prT]
  have := prT_len (q := G.q.toNat) (n := G.n.toNat) (es := (G.es.take k).map edN) h1.2.1 h1.2.2.1 (fun e he => by
    obtain ⟨x, hx, rfl⟩ := List.mem_map.1 he
    exact h1.2.2.2 _ (List.mem_map_of_mem (List.mem_of_mem_take hx)))
  rw [List.length_map, List.length_take] at this
  omega

end Go.Proofs.YtcfmpplhghkagaaDoor
