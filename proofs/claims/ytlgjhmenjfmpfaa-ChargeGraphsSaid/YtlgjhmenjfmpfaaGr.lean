/-
  Plain definitions and lemmas on graphs: comparison of edges, valid graphs, edges in order and each once. Nothing here speaks of a program.
-/
import Derived.Test.YtlgjhmenjfmpfaaBase
namespace Go.Proofs.Ytlgjhmenjfmpfaa
open Go.RowKit

/-! ### Comparison -/
def c3 (a b : Int) : Int := if a < b then -1 else if b < a then 1 else 0
theorem c3_bd (a b : Int) : -1 ≤ c3 a b ∧ c3 a b ≤ 1 := by unfold c3; split <;> (try split) <;> omega
theorem c3_neg {a b : Int} : c3 a b < 0 ↔ a < b := by unfold c3; split <;> (try split) <;> omega
theorem c3_pos {a b : Int} : 0 < c3 a b ↔ b < a := by unfold c3; split <;> (try split) <;> omega
theorem c3_zero {a b : Int} : c3 a b = 0 ↔ a = b := by unfold c3; split <;> (try split) <;> omega
/-- How two lists of numbers compare. -/
def cmpL : List Int → List Int → Int
  | [], [] => 0
  | [], _ :: _ => -1
  | _ :: _, [] => 1
  | x :: a, y :: b => if c3 x y = 0 then cmpL a b else c3 x y
theorem cmpL_bd : ∀ a b : List Int, -1 ≤ cmpL a b ∧ cmpL a b ≤ 1
  | [], [] => by simp [cmpL]
  | [], _ :: _ => by simp [cmpL]
  | _ :: _, [] => by simp [cmpL]
  | x :: a, y :: b => by
    have := c3_bd x y; have := cmpL_bd a b
    unfold cmpL; split <;> assumption
structure Ed where
  f : Int
  l : Int
  t : Int
instance : DecidableEq Ed := fun a b =>
  decidable_of_iff (a.f = b.f ∧ a.l = b.l ∧ a.t = b.t) ⟨fun ⟨h1, h2, h3⟩ => by cases a; cases b; simp_all, fun h => by subst h; exact ⟨rfl, rfl, rfl⟩⟩
instance : Inhabited Ed := ⟨⟨0, 0, 0⟩⟩
def edL (x : Ed) : List Int := [x.f, x.l, x.t]
def edE (x : Ed) : List Value := [.int .i64 x.f, .int .i64 x.l, .int .i64 x.t]
def cmpE (a b : Ed) : Int := cmpL (edL a) (edL b)
theorem cmpE_eq (a b : Ed) : cmpE a b = if c3 a.f b.f = 0 then (if c3 a.l b.l = 0 then c3 a.t b.t else c3 a.l b.l) else c3 a.f b.f := by
  unfold cmpE edL cmpL cmpL cmpL cmpL
  split
  · split
    · split
      · rename_i h; exact h.symm
      · rfl
    · rfl
  · rfl
theorem cmpE_bd (a b : Ed) : -1 ≤ cmpE a b ∧ cmpE a b ≤ 1 := cmpL_bd _ _
/-- An edge stands before another one. -/
def ltE (a b : Ed) : Bool := decide (a.f < b.f) || (decide (a.f = b.f) && (decide (a.l < b.l) || (decide (a.l = b.l) && decide (a.t < b.t))))
theorem ltE_iff {a b : Ed} : ltE a b = true ↔ a.f < b.f ∨ (a.f = b.f ∧ (a.l < b.l ∨ (a.l = b.l ∧ a.t < b.t))) := by simp [ltE]
theorem cmpE_neg (a b : Ed) : decide (cmpE a b < 0) = ltE a b := by
  rw [Bool.eq_iff_iff, ltE_iff, decide_eq_true_iff, cmpE_eq]
  have h1 := @c3_neg a.f b.f; have h2 := @c3_neg a.l b.l; have h3 := @c3_neg a.t b.t
  have z1 := @c3_zero a.f b.f; have z2 := @c3_zero a.l b.l
  split
  · rename_i e
    have e1 := z1.1 e
    split
    · rename_i e'
      have e2 := z2.1 e'
      rw [h3]; omega
    · rename_i e'
      have : a.l ≠ b.l := fun h => e' (z2.2 h)
      rw [h2]; omega
  · rename_i e
    have : a.f ≠ b.f := fun h => e (z1.2 h)
    rw [h1]; omega
theorem cmpE_zero {a b : Ed} : cmpE a b = 0 ↔ a = b := by
  rw [cmpE_eq]
  have z1 := @c3_zero a.f b.f; have z2 := @c3_zero a.l b.l; have z3 := @c3_zero a.t b.t
  constructor
  · intro h
    split at h
    · rename_i e
      split at h
      · rename_i e'
        cases a; cases b; simp_all
      · exact absurd h ‹_›
    · exact absurd h ‹_›
  · rintro rfl; simp [z1.2 rfl, z2.2 rfl, z3.2 rfl]
theorem ltE_irrefl (a : Ed) : ltE a a = false := by rw [Bool.eq_false_iff]; intro h; rw [ltE_iff] at h; omega
theorem ltE_trans {a b c : Ed} (h : ltE a b = true) (k : ltE b c = true) : ltE a c = true := by rw [ltE_iff] at *; omega
theorem ltE_total {a b : Ed} (h : ltE a b = false) (k : ltE b a = false) : a = b := by
  rw [Bool.eq_false_iff, ne_eq, ltE_iff] at h k
  cases a; cases b; simp_all; omega
theorem ltE_asymm {a b : Ed} (h : ltE a b = true) : ltE b a = false := by
  rw [Bool.eq_false_iff]; intro k; have := ltE_trans h k; rw [ltE_irrefl] at this; cases this
theorem cmpE_ge (a b : Ed) : decide (0 ≤ cmpE a b) = !ltE a b := by
  rw [← cmpE_neg]; by_cases h : cmpE a b < 0
  · simp [h]
  · simp [h]; omega

/-! ### Valid graphs -/
structure Gr where
  q : Int
  n : Int
  es : List Ed
def eget (l : List Ed) (k : Nat) : Ed := l.getD k ⟨0, 0, 0⟩
theorem eget_eq (l : List Ed) (k : Nat) (h : k < l.length) : eget l k = l[k] := by simp [eget, h]
def outE (q n : Int) (x : Ed) : Bool := decide (x.f < 0) || (decide (x.l < 0) || (decide (x.t < 0) || (decide (n ≤ x.f) || (decide (n ≤ x.t) || decide (q ≤ x.l)))))
theorem outE_iff {q n : Int} {x : Ed} : outE q n x = true ↔ x.f < 0 ∨ x.l < 0 ∨ x.t < 0 ∨ n ≤ x.f ∨ n ≤ x.t ∨ q ≤ x.l := by simp [outE]
theorem outE_no {q n : Int} {x : Ed} : outE q n x = false ↔ 0 ≤ x.f ∧ 0 ≤ x.l ∧ 0 ≤ x.t ∧ x.f < n ∧ x.t < n ∧ x.l < q := by
  rw [Bool.eq_false_iff, ne_eq, outE_iff]; omega
/-- Why the k-th edge does not fit: 0 if it does. -/
def errAt (q n : Int) (l : List Ed) (k : Nat) : Int := if outE q n (eget l k) = true then 2 else if 0 < k ∧ 0 ≤ cmpE (eget l (k - 1)) (eget l k) then 10 else 0
def errTo (q n : Int) (l : List Ed) : Nat → Int
  | 0 => 0
  | k + 1 => if errTo q n l k = 0 then errAt q n l k else errTo q n l k
theorem errTo_stay {q n : Int} {l : List Ed} {k : Nat} (h : errTo q n l k ≠ 0) : ∀ m, k ≤ m → errTo q n l m = errTo q n l k := by
  intro m
  induction m with
  | zero => intro hm; obtain rfl : k = 0 := by omega
            rfl
  | succ m ih =>
    intro hm
    by_cases e : k = m + 1
    · subst e; rfl
    · have := ih (by omega)
      rw [errTo, this, if_neg h]
theorem errTo_hit {q n : Int} {l : List Ed} {k m : Nat} (h0 : errTo q n l k = 0) (h : errAt q n l k ≠ 0) (hm : k < m) : errTo q n l m = errAt q n l k := by
  have h1 : errTo q n l (k + 1) = errAt q n l k := by rw [errTo, if_pos h0]
  rw [errTo_stay (k := k + 1) (by rw [h1]; exact h) m hm, h1]
theorem errTo_next {q n : Int} {l : List Ed} {k : Nat} (h0 : errTo q n l k = 0) (h : errAt q n l k = 0) : errTo q n l (k + 1) = 0 := by rw [errTo, if_pos h0, h]
theorem errAt_out {q n : Int} {l : List Ed} {k : Nat} (hk : k < l.length) (h : outE q n l[k] = true) : errAt q n l k = 2 := by
  unfold errAt; rw [eget_eq l k hk, if_pos h]
theorem errAt_first {q n : Int} {l : List Ed} (hk : 0 < l.length) (h : outE q n l[0] = false) : errAt q n l 0 = 0 := by
  unfold errAt; rw [eget_eq l 0 hk, if_neg (by simp [h]), if_neg (by omega)]
theorem errAt_succ {q n : Int} {l : List Ed} {m : Nat} (hk : m + 1 < l.length) (h : outE q n l[m + 1] = false) : errAt q n l (m + 1) = if 0 ≤ cmpE l[m] l[m + 1] then 10 else 0 := by
  unfold errAt
  rw [eget_eq l (m + 1) hk, if_neg (by simp [h]), Nat.add_sub_cancel, eget_eq l m (by omega)]
  by_cases e : 0 ≤ cmpE l[m] l[m + 1]
  · rw [if_pos ⟨by omega, e⟩, if_pos e]
  · rw [if_neg (fun h => e h.2), if_neg e]
/-- Why a graph is not valid. -/
def chkG (G : Gr) : Int := if G.q < 1 ∨ 256 < G.q then 12 else if G.n < 0 then 2 else if 64 < G.n ∨ 1024 < G.es.length then 4 else errTo G.q G.n G.es G.es.length
theorem chkG_q {G : Gr} (h : G.q < 1 ∨ 256 < G.q) : chkG G = 12 := by unfold chkG; rw [if_pos h]
theorem chkG_n {G : Gr} (h : 1 ≤ G.q) (h2 : G.q ≤ 256) (h3 : G.n < 0) : chkG G = 2 := by unfold chkG; rw [if_neg (by omega), if_pos h3]
theorem chkG_l {G : Gr} (h : 1 ≤ G.q) (h2 : G.q ≤ 256) (h3 : 0 ≤ G.n) (h4 : 64 < G.n ∨ 1024 < G.es.length) : chkG G = 4 := by
  unfold chkG; rw [if_neg (by omega), if_neg (by omega), if_pos h4]
theorem chkG_e {G : Gr} (h : 1 ≤ G.q) (h2 : G.q ≤ 256) (h3 : 0 ≤ G.n) (h4 : G.n ≤ 64) (h5 : G.es.length ≤ 1024) : chkG G = errTo G.q G.n G.es G.es.length := by
  unfold chkG; rw [if_neg (by omega), if_neg (by omega), if_neg (by omega)]
theorem errTo_zero_iff {q n : Int} {l : List Ed} : ∀ {k : Nat}, k ≤ l.length → (errTo q n l k = 0 ↔ (∀ m (hm : m < l.length), m < k → outE q n l[m] = false) ∧ (∀ m (hm : m + 1 < l.length), m + 1 < k → ltE l[m] l[m + 1] = true)) := by
  intro k
  induction k with
  | zero => intro _; simp [errTo]
  | succ k ih =>
    intro hk
    have ih := ih (by omega)
    have hkl : k < l.length := by omega
    constructor
    · intro h
      by_cases h0 : errTo q n l k = 0
      · rw [errTo, if_pos h0] at h
        obtain ⟨i1, i2⟩ := ih.1 h0
        have ho : outE q n l[k] = false := by
          rw [Bool.eq_false_iff]; intro hc; rw [errAt_out hkl hc] at h; omega
        refine ⟨fun m hm hlt => ?_, fun m hm hlt => ?_⟩
        · by_cases e : m = k
          · subst e; exact ho
          · exact i1 m hm (by omega)
        · by_cases e : m + 1 = k
          · subst e
            rw [errAt_succ hkl ho] at h
            by_cases e2 : 0 ≤ cmpE l[m] l[m + 1]
            · rw [if_pos e2] at h; omega
            · have := cmpE_ge l[m] l[m + 1]; rw [decide_eq_false e2] at this; simpa using this.symm
          · exact i2 m hm (by omega)
      · rw [errTo, if_neg h0] at h; exact absurd h h0
    · rintro ⟨i1, i2⟩
      have h0 := ih.2 ⟨fun m hm hlt => i1 m hm (by omega), fun m hm hlt => i2 m hm (by omega)⟩
      rw [errTo, if_pos h0]
      have ho := i1 k hkl (by omega)
      cases k with
      | zero => exact errAt_first hkl ho
      | succ m =>
        rw [errAt_succ hkl ho, if_neg]
        have := i2 m hkl (by omega)
        intro hc
        have h2 := cmpE_ge l[m] l[m + 1]
        rw [decide_eq_true hc, this] at h2; cases h2
theorem sorted_of_steps {l : List Ed} (h : ∀ m (hm : m + 1 < l.length), ltE l[m] l[m + 1] = true) : l.Pairwise (fun a b => ltE a b = true) := by
  rw [List.pairwise_iff_getElem]
  intro i j hi hj hij
  induction j with
  | zero => omega
  | succ j ih =>
    by_cases e : i = j
    · subst e; exact h i hj
    · exact ltE_trans (ih (by omega) (by omega)) (h j hj)
/-- What a valid graph is. -/
structure Vg (G : Gr) : Prop where
  q1 : 1 ≤ G.q
  q2 : G.q ≤ 256
  n1 : 0 ≤ G.n
  n2 : G.n ≤ 64
  len : G.es.length ≤ 1024
  ins : ∀ x ∈ G.es, 0 ≤ x.f ∧ 0 ≤ x.l ∧ 0 ≤ x.t ∧ x.f < G.n ∧ x.t < G.n ∧ x.l < G.q
  srt : G.es.Pairwise (fun a b => ltE a b = true)
theorem chkG_ok {G : Gr} : chkG G = 0 ↔ Vg G := by
  constructor
  · intro h
    unfold chkG at h
    split at h
    · omega
    split at h
    · omega
    split at h
    · omega
    rename_i h1 h2 h3
    obtain ⟨i1, i2⟩ := (errTo_zero_iff (Nat.le_refl _)).1 h
    refine ⟨by omega, by omega, by omega, by omega, by omega, fun x hx => ?_, sorted_of_steps (fun m hm => i2 m hm hm)⟩
    obtain ⟨m, hm, rfl⟩ := List.mem_iff_getElem.1 hx
    exact outE_no.1 (i1 m hm hm)
  · intro V
    rw [chkG_e V.q1 V.q2 V.n1 V.n2 V.len, errTo_zero_iff (Nat.le_refl _)]
    exact ⟨fun m hm _ => outE_no.2 (V.ins _ (List.getElem_mem hm)), fun m hm _ => List.pairwise_iff_getElem.1 V.srt m (m + 1) (by omega) hm (by omega)⟩

/-! ### Edges in order, each once -/
theorem norm_unique : ∀ {a b : List Ed}, a.Pairwise (fun x y => ltE x y = true) → b.Pairwise (fun x y => ltE x y = true) → (∀ x, x ∈ a ↔ x ∈ b) → a = b
  | [], [], _, _, _ => rfl
  | [], y :: b, _, _, h => by have := (h y).2 (by simp); simp at this
  | x :: a, [], _, _, h => by have := (h x).1 (by simp); simp at this
  | x :: a, y :: b, ha, hb, h => by
    have hx := List.pairwise_cons.1 ha
    have hy := List.pairwise_cons.1 hb
    have e : x = y := by
      rcases List.mem_cons.1 ((h x).1 (by simp)) with h1 | h1
      · exact h1
      · rcases List.mem_cons.1 ((h y).2 (by simp)) with h2 | h2
        · exact h2.symm
        · have := ltE_trans (hx.1 y h2) (hy.1 x h1); rw [ltE_irrefl] at this; cases this
    subst e
    congr 1
    refine norm_unique hx.2 hy.2 (fun z => ?_)
    constructor
    · intro hz
      rcases List.mem_cons.1 ((h z).1 (by simp [hz])) with h1 | h1
      · subst h1; have := hx.1 z hz; rw [ltE_irrefl] at this; cases this
      · exact h1
    · intro hz
      rcases List.mem_cons.1 ((h z).2 (by simp [hz])) with h1 | h1
      · subst h1; have := hy.1 z hz; rw [ltE_irrefl] at this; cases this
      · exact h1
/-- One edge more in a list that is in order. -/
def insE (x : Ed) : List Ed → List Ed
  | [] => [x]
  | y :: l => if ltE x y = true then x :: y :: l else if x = y then y :: l else y :: insE x l
theorem mem_insE {x z : Ed} : ∀ {l : List Ed}, z ∈ insE x l ↔ z = x ∨ z ∈ l
  | [] => by simp [insE]
  | y :: l => by
    unfold insE
    split
    · simp
    · split
      · rename_i h; subst h; simp
      · rw [List.mem_cons, mem_insE, List.mem_cons]
        constructor
        · rintro (h | h | h)
          · exact .inr (.inl h)
          · exact .inl h
          · exact .inr (.inr h)
        · rintro (h | h | h)
          · exact .inr (.inl h)
          · exact .inl h
          · exact .inr (.inr h)
theorem insE_srt {x : Ed} : ∀ {l : List Ed}, l.Pairwise (fun a b => ltE a b = true) → (insE x l).Pairwise (fun a b => ltE a b = true)
  | [], _ => by simp [insE]
  | y :: l, h => by
    have hy := List.pairwise_cons.1 h
    unfold insE
    split
    · rename_i hlt
      refine List.pairwise_cons.2 ⟨fun z hz => ?_, h⟩
      rcases List.mem_cons.1 hz with e | e
      · subst e; exact hlt
      · exact ltE_trans hlt (hy.1 z e)
    · split
      · exact h
      · rename_i h1 h2
        refine List.pairwise_cons.2 ⟨fun z hz => ?_, insE_srt hy.2⟩
        rcases mem_insE.1 hz with e | e
        · subst e
          cases hb : ltE y z
          · exact absurd (ltE_total (by simpa using h1) hb) h2
          · rfl
        · exact hy.1 z e
/-- Edges in order, each once. -/
def norm (l : List Ed) : List Ed := l.foldl (fun a x => insE x a) []
theorem norm_gen : ∀ (l a : List Ed), a.Pairwise (fun a b => ltE a b = true) → (l.foldl (fun a x => insE x a) a).Pairwise (fun a b => ltE a b = true) ∧ ∀ x, x ∈ l.foldl (fun a x => insE x a) a ↔ x ∈ a ∨ x ∈ l
  | [], a, h => ⟨h, fun x => by simp⟩
  | y :: l, a, h => by
    obtain ⟨h1, h2⟩ := norm_gen l (insE y a) (insE_srt h)
    refine ⟨h1, fun x => ?_⟩
    rw [List.foldl_cons, h2 x, mem_insE, List.mem_cons]
    constructor
    · rintro ((h | h) | h)
      · exact .inr (.inl h)
      · exact .inl h
      · exact .inr (.inr h)
    · rintro (h | h | h)
      · exact .inl (.inr h)
      · exact .inl (.inl h)
      · exact .inr h
theorem norm_srt (l : List Ed) : (norm l).Pairwise (fun a b => ltE a b = true) := (norm_gen l [] List.Pairwise.nil).1
theorem mem_norm {l : List Ed} {x : Ed} : x ∈ norm l ↔ x ∈ l := by rw [norm, (norm_gen l [] List.Pairwise.nil).2 x]; simp
theorem norm_eq {l a : List Ed} (h : a.Pairwise (fun a b => ltE a b = true)) (hm : ∀ x, x ∈ a ↔ x ∈ l) : a = norm l :=
  norm_unique h (norm_srt l) (fun x => (hm x).trans mem_norm.symm)
theorem norm_snoc (l : List Ed) (x : Ed) : norm (l ++ [x]) = insE x (norm l) := by simp [norm, List.foldl_append]
theorem norm_of_srt {l : List Ed} (h : l.Pairwise (fun a b => ltE a b = true)) : norm l = l := (norm_eq h (fun _ => Iff.rfl)).symm
theorem norm_congr {l m : List Ed} (h : ∀ x, x ∈ l ↔ x ∈ m) : norm l = norm m := norm_eq (norm_srt l) (fun x => mem_norm.trans (h x))
/-- What Make answers. -/
def makeA (q n : Int) (l : List Ed) : Gr × Int := if chkG ⟨q, n, norm l⟩ = 0 then (⟨q, n, norm l⟩, 0) else (⟨0, 0, []⟩, chkG ⟨q, n, norm l⟩)
theorem makeA_ok {q n : Int} {l : List Ed} (h : chkG ⟨q, n, norm l⟩ = 0) : makeA q n l = (⟨q, n, norm l⟩, 0) := by unfold makeA; rw [if_pos h]
theorem makeA_bad {q n : Int} {l : List Ed} (h : chkG ⟨q, n, norm l⟩ ≠ 0) : makeA q n l = (⟨0, 0, []⟩, chkG ⟨q, n, norm l⟩) := by unfold makeA; rw [if_neg h]

/-! ### The same element, once, in a list whose like elements stand together -/
def compact {α : Type} [DecidableEq α] : List α → List α
  | [] => []
  | [x] => [x]
  | x :: y :: l => if x = y then compact (y :: l) else x :: compact (y :: l)
section
variable {α : Type} [DecidableEq α]
theorem compact_snoc (x y : α) : ∀ l : List α, compact (l ++ [x, y]) = if x = y then compact (l ++ [x]) else compact (l ++ [x]) ++ [y]
  | [] => by simp only [List.nil_append, compact]; split <;> simp_all
  | [z] => by
    have ih := compact_snoc x y []
    simp only [List.nil_append] at ih
    simp only [List.cons_append, List.nil_append, compact] at ih ⊢
    split <;> split <;> simp_all
  | z :: u :: l => by
    have ih := compact_snoc x y (u :: l)
    simp only [List.cons_append] at ih ⊢
    rw [compact, compact]
    split
    · exact ih
    · rw [ih]; split <;> rfl
theorem compact_take (l : List α) (m : Nat) (h0 : 0 < m) (h : m < l.length) : compact (l.take (m + 1)) = if l[m - 1] = l[m] then compact (l.take m) else compact (l.take m) ++ [l[m]] := by
  obtain ⟨k, rfl⟩ : ∃ k, m = k + 1 := ⟨m - 1, by omega⟩
  rw [List.take_succ_eq_append_getElem h, List.take_succ_eq_append_getElem (by omega : k < l.length), List.append_assoc]
  exact compact_snoc _ _ _
theorem compact_succ (l : List α) (m : Nat) (h : m + 1 < l.length) : compact (l.take (m + 1 + 1)) = if l[m] = l[m + 1] then compact (l.take (m + 1)) else compact (l.take (m + 1)) ++ [l[m + 1]] := compact_take l (m + 1) (by omega) h
theorem compact_one (l : List α) (h : 0 < l.length) : compact (l.take 1) = l.take 1 := by
  cases l with
  | nil => simp at h
  | cons x l => rfl
theorem compact_len : ∀ l : List α, (compact l).length ≤ l.length
  | [] => by simp [compact]
  | [_] => by simp [compact]
  | x :: y :: l => by
    have := compact_len (y :: l)
    unfold compact; split
    · simp at *; omega
    · simp at *; omega
theorem compact_pos : ∀ l : List α, l ≠ [] → compact l ≠ []
  | [], h => absurd rfl h
  | [_], _ => by simp [compact]
  | x :: y :: l, _ => by
    unfold compact; split
    · exact compact_pos _ (by simp)
    · simp
theorem compact_same (l : List α) (h : ∀ m (hm : m + 1 < l.length), l[m] ≠ l[m + 1]) : compact l = l := by
  induction l with
  | nil => rfl
  | cons x l ih =>
    cases l with
    | nil => rfl
    | cons y l =>
      have h0 := h 0 (by simp)
      simp only [List.getElem_cons_zero, List.getElem_cons_succ] at h0
      rw [compact, if_neg h0, ih (fun m hm => by have := h (m + 1) (by simpa using hm); simpa using this)]
theorem mem_compact {z : α} : ∀ {l : List α}, z ∈ compact l ↔ z ∈ l
  | [] => Iff.rfl
  | [_] => Iff.rfl
  | x :: y :: l => by
    have ih := mem_compact (z := z) (l := y :: l)
    unfold compact; split
    · rename_i e; subst e; rw [ih]; simp
    · rw [List.mem_cons, ih, List.mem_cons (l := y :: l)]
end
theorem compact_srt : ∀ {l : List Ed}, l.Pairwise (fun a b => ltE b a = false) → (compact l).Pairwise (fun a b => ltE a b = true)
  | [], _ => List.Pairwise.nil
  | [_], _ => by simp [compact]
  | x :: y :: l, h => by
    have hx := List.pairwise_cons.1 h
    have ih := compact_srt hx.2
    unfold compact; split
    · exact ih
    · rename_i hne
      refine List.pairwise_cons.2 ⟨fun z hz => ?_, ih⟩
      have hxy : ltE x y = true := by
        cases hb : ltE x y
        · exact absurd (ltE_total hb (hx.1 y (by simp))) hne
        · rfl
      rcases List.mem_cons.1 (mem_compact.1 hz) with e | e
      · subst e; exact hxy
      · have := (List.pairwise_cons.1 hx.2).1 z e
        cases hb : ltE x z
        · have e1 : ltE y z = true := by
            cases hc : ltE y z
            · have e2 := ltE_total hc this
              subst e2; rw [hxy] at hb; cases hb
            · rfl
          have := ltE_trans hxy e1; rw [hb] at this; cases this
        · rfl
def leE (a b : Ed) : Bool := !ltE b a
theorem norm_sort (l : List Ed) : compact (l.mergeSort (fun x y => !ltE y x)) = norm l := by
  have hp : (l.mergeSort (fun x y => !ltE y x)).Pairwise (fun a b => (!ltE b a) = true) :=
    List.pairwise_mergeSort (le := fun x y => !ltE y x) (fun a b c h1 h2 => by
      simp only [Bool.not_eq_true'] at *
      cases hc : ltE c a
      · rfl
      · cases hb : ltE a b
        · have := ltE_total hb h1; subst this; rw [hc] at h2; cases h2
        · have := ltE_trans hc hb; rw [h2] at this; cases this) (fun a b => by
      cases h : ltE a b
      · simp
      · simp [ltE_asymm h]) l
  refine norm_eq (compact_srt (hp.imp (fun h => by simpa using h))) (fun x => ?_)
  rw [mem_compact]; exact List.mem_mergeSort
end Go.Proofs.Ytlgjhmenjfmpfaa
