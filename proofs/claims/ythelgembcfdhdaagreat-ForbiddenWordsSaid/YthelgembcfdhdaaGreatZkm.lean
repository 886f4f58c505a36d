/-
  ForbiddenGraph, ForbiddenWords and ForbiddenMore, side by side: the three statements' proofs lie in the texts that this one imports.
-/
import Derived.Test.YthelgembcfdhdaaGreatZkk
import Derived.Test.YthelgembcfdhdaaGreatZkj
import Derived.Test.YthelgembcfdhdaaGreatZkl
set_option linter.unusedVariables false
set_option linter.unusedSimpArgs false
namespace Go.Proofs.YthelgembcfdhdaaGreat
open Go.RowKit Go.Sort

/-! ### Extending a word letter by letter -/
section
variable {α : Type}
def cutL (left : Bool) (n : Nat) (v : List α) : List α := if left = true then v.take n else v.drop (v.length - n)
def xL (left : Bool) (s : List α) (c : α) : List α := if left = true then c :: s else s ++ [c]
/-- There are m more letters. -/
def Lv (S : List α) (L : List (List α)) (left : Bool) (n : Nat) : Nat → List α → Prop
  | 0, _ => True
  | m + 1, s => ∃ c ∈ S, Av L (xL left s c) ∧ Lv S L left n m (cutL left n (xL left s c))
theorem Lv.anti {S : List α} {L : List (List α)} {left : Bool} {n : Nat} : ∀ {m : Nat} {s : List α}, Lv S L left n (m + 1) s → Lv S L left n m s
  | 0, _, _ => trivial
  | _ + 1, _, h => by
    obtain ⟨c, hc, h1, h2⟩ := h
    exact ⟨c, hc, h1, h2.anti⟩
theorem Lv.le {S : List α} {L : List (List α)} {left : Bool} {n : Nat} {s : List α} {m k : Nat} (h : m ≤ k) (hk : Lv S L left n k s) : Lv S L left n m s := by
  induction h with
  | refl => exact hk
  | step _ ih => exact ih hk.anti
open Classical in
theorem Lv.all {S : List α} {L : List (List α)} {left : Bool} {n : Nat} {A : List (List α)} (hA : ∀ s ∈ A, ∀ c ∈ S, cutL left n (xL left s c) ∈ A) {N : Nat} (hN : A.length ≤ N) {s : List α} (hs : s ∈ A) (h : Lv S L left n N s) : ∀ j, Lv S L left n j s := by
  have hstab : ∃ m, m ≤ A.length ∧ ∀ s ∈ A, Lv S L left n m s → Lv S L left n (m + 1) s := by
    refine Classical.byContradiction fun hno => ?_
    have hlt : ∀ m, m ≤ A.length → (A.filter (fun s => decide (Lv S L left n (m + 1) s))).length < (A.filter (fun s => decide (Lv S L left n m s))).length := by
      intro m hm
      have hle : ∀ B : List (List α), (B.filter (fun s => decide (Lv S L left n (m + 1) s))).length ≤ (B.filter (fun s => decide (Lv S L left n m s))).length ∧ ((B.filter (fun s => decide (Lv S L left n (m + 1) s))).length = (B.filter (fun s => decide (Lv S L left n m s))).length → ∀ s ∈ B, Lv S L left n m s → Lv S L left n (m + 1) s) := by
        intro B
        induction B with
        | nil => exact ⟨by simp, fun _ s hs => by simp at hs⟩
        | cons b B ih =>
          by_cases h1 : Lv S L left n (m + 1) b
          · have h2 := h1.anti
            rw [List.filter_cons_of_pos (by simpa using h1), List.filter_cons_of_pos (by simpa using h2), List.length_cons, List.length_cons]
            refine ⟨by have := ih.1; omega, fun e s hs hl => ?_⟩
            rcases List.mem_cons.1 hs with e1 | e1
            · subst e1; exact h1
            · exact ih.2 (by omega) s e1 hl
          · rw [List.filter_cons_of_neg (by simpa using h1)]
            by_cases h2 : Lv S L left n m b
            · rw [List.filter_cons_of_pos (by simpa using h2), List.length_cons]
              exact ⟨by have := ih.1; omega, fun e => by have := ih.1; omega⟩
            · rw [List.filter_cons_of_neg (by simpa using h2)]
              refine ⟨ih.1, fun e s hs hl => ?_⟩
              rcases List.mem_cons.1 hs with e1 | e1
              · subst e1; exact absurd hl h2
              · exact ih.2 e s e1 hl
      have h3 := hle A
      rcases Nat.lt_or_eq_of_le h3.1 with h4 | h4
      · exact h4
      · exact absurd ⟨m, hm, h3.2 h4⟩ hno
    have hdec : ∀ m, m ≤ A.length + 1 → (A.filter (fun s => decide (Lv S L left n m s))).length + m ≤ A.length := by
      intro m
      induction m with
      | zero => intro _; exact List.length_filter_le _ _
      | succ m ih => intro hm; have := ih (by omega); have := hlt m (by omega); omega
    have := hdec (A.length + 1) (Nat.le_refl _)
    omega
  obtain ⟨m, hm, hst⟩ := hstab
  have hup : ∀ k, ∀ s ∈ A, Lv S L left n m s → Lv S L left n (m + k) s := by
    intro k
    have hst2 : ∀ i, ∀ s ∈ A, Lv S L left n (m + i) s → Lv S L left n (m + i + 1) s := by
      intro i
      induction i with
      | zero => exact hst
      | succ i ih =>
        rintro s hs ⟨c, hc, h1, h2⟩
        exact ⟨c, hc, h1, ih _ (hA s hs c hc) h2⟩
    induction k with
    | zero => intro s _ h; exact h
    | succ k ih => intro s hs h; exact hst2 k s hs (ih s hs h)
  intro j
  have h1 := hup j s hs (h.le (by omega))
  exact h1.le (by omega)
/-- A letter more on the left: nothing longer than a window is forbidden. -/
theorem av_left {L : List (List α)} {n : Nat} (hL : ∀ u ∈ L, u.length ≤ n + 1) {v : List α} {c : α} (hv : Av L v) (hc : Av L (c :: v.take n)) : Av L (c :: v) := fun u hu hi => by
  rcases List.infix_cons_iff.1 hi with h | h
  · refine hc u hu (List.IsPrefix.isInfix ?_)
    have : u <+: (c :: v).take (n + 1) := List.prefix_take_iff.2 ⟨h, hL u hu⟩
    simpa using this
  · exact hv u hu h
theorem av_right {L : List (List α)} {n : Nat} (hL : ∀ u ∈ L, u.length ≤ n + 1) {v : List α} {c : α} (hv : Av L v) (hc : Av L (v.drop (v.length - n) ++ [c])) : Av L (v ++ [c]) := fun u hu hi => by
  rcases List.infix_concat_iff.1 hi with h | h
  · refine hc u hu (List.IsSuffix.isInfix ?_)
    rcases suf_snoc h with e | ⟨z, rfl, hz⟩
    · subst e; exact List.nil_suffix
    · refine suf_snoc' c ?_
      have hzl := hL _ hu
      simp at hzl
      refine List.suffix_of_suffix_length_le hz (List.drop_suffix _ _) ?_
      have := hz.length_le
      rw [List.length_drop]; omega
  · exact hv u hu h
theorem lv_left {S : List α} {L : List (List α)} {n : Nat} (hL : ∀ u ∈ L, u.length ≤ n + 1) : ∀ {j : Nat} {v : List α}, Av L v → Lv S L true n j (v.take n) → ∃ x : List α, x.length = j ∧ (∀ c ∈ x, c ∈ S) ∧ Av L (x ++ v)
  | 0, v, hv, _ => ⟨[], rfl, by simp, by simpa using hv⟩
  | j + 1, v, hv, h => by
    obtain ⟨c, hc, h1, h2⟩ := h
    have h1 : Av L (c :: v.take n) := by simpa [xL] using h1
    have h3 := av_left hL hv h1
    have e : cutL true n (xL true (v.take n) c) = (c :: v).take n := by
      unfold cutL xL
      rw [if_pos rfl, if_pos rfl]
      cases n with
      | zero => rfl
      | succ n => rw [List.take_succ_cons, List.take_succ_cons, List.take_take]; congr 2; omega
    rw [e] at h2
    obtain ⟨x, hx1, hx2, hx3⟩ := lv_left hL h3 h2
    refine ⟨x ++ [c], by simp [hx1], fun d hd => ?_, by simpa using hx3⟩
    rcases List.mem_append.1 hd with e1 | e1
    · exact hx2 d e1
    · rw [List.mem_singleton.1 e1]; exact hc
theorem lv_right {S : List α} {L : List (List α)} {n : Nat} (hL : ∀ u ∈ L, u.length ≤ n + 1) : ∀ {j : Nat} {v : List α}, n ≤ v.length → Av L v → Lv S L false n j (v.drop (v.length - n)) → ∃ y : List α, y.length = j ∧ (∀ c ∈ y, c ∈ S) ∧ Av L (v ++ y)
  | 0, v, _, hv, _ => ⟨[], rfl, by simp, by simpa using hv⟩
  | j + 1, v, hn, hv, h => by
    obtain ⟨c, hc, h1, h2⟩ := h
    have h1 : Av L (v.drop (v.length - n) ++ [c]) := by simpa [xL] using h1
    have h3 := av_right hL hv h1
    have e : cutL false n (xL false (v.drop (v.length - n)) c) = (v ++ [c]).drop ((v ++ [c]).length - n) := by
      unfold cutL xL
      rw [if_neg (by simp), if_neg (by simp)]
      rw [List.length_append, List.length_append, List.length_drop, List.length_singleton]
      rw [show v.length - (v.length - n) + 1 - n = 1 by omega]
      cases n with
      | zero =>
        rw [List.drop_eq_nil_of_le (by simp), List.drop_eq_nil_of_le (by simp)]
      | succ n =>
        rw [List.drop_append_of_le_length (by rw [List.length_drop]; omega), List.drop_append_of_le_length (by omega), List.drop_drop]
        congr 2; omega
    rw [e] at h2
    obtain ⟨y, hy1, hy2, hy3⟩ := lv_right hL (by simp; omega) h3 h2
    refine ⟨c :: y, by simp [hy1], fun d hd => ?_, by simpa using hy3⟩
    rcases List.mem_cons.1 hd with e1 | e1
    · rw [e1]; exact hc
    · exact hy2 d e1
theorem gd_left {S : List α} {L : List (List α)} {n : Nat} : ∀ {j : Nat} {w : List α}, Gd S L w → Lv S L true n j (w.take n)
  | 0, _, _ => trivial
  | j + 1, w, h => by
    obtain ⟨c, hc, h1⟩ := h.left
    refine ⟨c, hc, ?_, ?_⟩
    · have : Av L ((c :: w).take (n + 1)) := h1.av.sub (List.take_prefix _ _).isInfix
      simpa [xL] using this
    · have e : cutL true n (xL true (w.take n) c) = (c :: w).take n := by
        unfold cutL xL
        rw [if_pos rfl, if_pos rfl]
        cases n with
        | zero => rfl
        | succ n => rw [List.take_succ_cons, List.take_succ_cons, List.take_take]; congr 2; omega
      rw [e]; exact gd_left h1
theorem gd_right {S : List α} {L : List (List α)} {n : Nat} : ∀ {j : Nat} {w : List α}, n ≤ w.length → Gd S L w → Lv S L false n j (w.drop (w.length - n))
  | 0, _, _, _ => trivial
  | j + 1, w, hn, h => by
    obtain ⟨c, hc, h1⟩ := h.right
    refine ⟨c, hc, ?_, ?_⟩
    · have : Av L (w.drop (w.length - n) ++ [c]) := h1.av.sub (suf_snoc' c (List.drop_suffix _ _)).isInfix
      simpa [xL] using this
    · have e : cutL false n (xL false (w.drop (w.length - n)) c) = (w ++ [c]).drop ((w ++ [c]).length - n) := by
        unfold cutL xL
        rw [if_neg (by simp), if_neg (by simp)]
        rw [List.length_append, List.length_append, List.length_drop, List.length_singleton]
        rw [show w.length - (w.length - n) + 1 - n = 1 by omega]
        cases n with
        | zero =>
          rw [List.drop_eq_nil_of_le (by simp), List.drop_eq_nil_of_le (by simp)]
        | succ n =>
          rw [List.drop_append_of_le_length (by rw [List.length_drop]; omega), List.drop_append_of_le_length (by omega), List.drop_drop]
          congr 2; omega
      rw [e]; exact gd_right (by simp; omega) h1
/-- All words of n letters. -/
def allW (S : List α) : Nat → List (List α)
  | 0 => [[]]
  | n + 1 => (allW S n).flatMap (fun p => S.map (fun c => c :: p))
theorem allW_len (S : List α) {k : Nat} (hk : S.length ≤ k) : ∀ n, (allW S n).length ≤ k ^ n
  | 0 => by simp [allW]
  | n + 1 => by
    have ih := allW_len S hk n
    have h : ∀ B : List (List α), (B.flatMap (fun p => S.map (fun c => c :: p))).length ≤ B.length * k := by
      intro B
      induction B with
      | nil => simp
      | cons b B ih => rw [List.flatMap_cons, List.length_append, List.length_map, List.length_cons, Nat.succ_mul]; omega
    exact Nat.le_trans (h _) (by rw [Nat.pow_succ]; exact Nat.mul_le_mul_right _ ih)
theorem mem_allW {S : List α} : ∀ {n : Nat} {p : List α}, p ∈ allW S n ↔ p.length = n ∧ ∀ c ∈ p, c ∈ S
  | 0, p => by
    unfold allW
    rw [List.mem_singleton]
    constructor
    · rintro rfl; simp
    · rintro ⟨h, _⟩; exact List.length_eq_zero_iff.1 h
  | n + 1, p => by
    unfold allW
    rw [List.mem_flatMap]
    constructor
    · rintro ⟨p', h1, h2⟩
      obtain ⟨c, hc, rfl⟩ := List.mem_map.1 h2
      obtain ⟨h3, h4⟩ := mem_allW.1 h1
      refine ⟨by simp [h3], fun d hd => ?_⟩
      rcases List.mem_cons.1 hd with e | e
      · rw [e]; exact hc
      · exact h4 d e
    · rintro ⟨h1, h2⟩
      cases p with
      | nil => simp at h1
      | cons c p => exact ⟨p, mem_allW.2 ⟨by simpa using h1, fun d hd => h2 d (by simp [hd])⟩, List.mem_map.2 ⟨c, h2 c (by simp), rfl⟩⟩
theorem cut_mem {S : List α} {left : Bool} {n : Nat} {s : List α} (hs : s ∈ allW S n) {c : α} (hc : c ∈ S) : cutL left n (xL left s c) ∈ allW S n := by
  obtain ⟨h1, h2⟩ := mem_allW.1 hs
  have h3 : ∀ d ∈ xL left s c, d ∈ S := by
    intro d hd
    unfold xL at hd
    split at hd
    · rcases List.mem_cons.1 hd with e | e
      · rw [e]; exact hc
      · exact h2 d e
    · rcases List.mem_append.1 hd with e | e
      · exact h2 d e
      · rw [List.mem_singleton.1 e]; exact hc
  have h4 : (xL left s c).length = n + 1 := by unfold xL; split <;> simp [h1]
  refine mem_allW.2 ⟨?_, fun d hd => h3 d ?_⟩
  · unfold cutL; split
    · rw [List.length_take, h4]; omega
    · rw [List.length_drop, h4]; omega
  · unfold cutL at hd; split at hd
    · exact List.mem_of_mem_take hd
    · exact List.mem_of_mem_drop hd
end
theorem nd_le {α : Type} [DecidableEq α] : ∀ {l m : List α}, l.Nodup → (∀ x ∈ l, x ∈ m) → l.length ≤ m.length
  | [], _, _, _ => by simp
  | a :: l, m, hn, hs => by
    obtain ⟨h1, h2⟩ := List.nodup_cons.1 hn
    have ih := nd_le (l := l) (m := m.erase a) h2 (fun x hx => (List.mem_erase_of_ne (fun e => h1 (by rw [← e]; exact hx))).2 (hs x (by simp [hx])))
    have hm := hs a (by simp)
    have := List.length_erase_of_mem hm
    have h0 : 0 < m.length := List.length_pos_of_mem hm
    rw [List.length_cons]; omega
/-- Allowed, and extendable by any number of single steps on both sides. -/
theorem gd_iff {α : Type} {S : List α} {L : List (List α)} {n N : Nat} (hL : ∀ u ∈ L, u.length ≤ n + 1) (hS : (allW S n).length ≤ N) {w : List α} (hn : n ≤ w.length) (hw : ∀ c ∈ w, c ∈ S) :
    Gd S L w ↔ Av L w ∧ Lv S L true n N (w.take n) ∧ Lv S L false n N (w.drop (w.length - n)) := by
  constructor
  · intro h; exact ⟨h.av, gd_left h, gd_right hn h⟩
  · rintro ⟨h1, h2, h3⟩ m
    have hA : ∀ left, ∀ s ∈ allW S n, ∀ c ∈ S, cutL left n (xL left s c) ∈ allW S n := fun left s hs c hc => cut_mem hs hc
    have m1 : w.take n ∈ allW S n := mem_allW.2 ⟨by rw [List.length_take]; omega, fun c hc => hw c (List.mem_of_mem_take hc)⟩
    have m2 : w.drop (w.length - n) ∈ allW S n := mem_allW.2 ⟨by rw [List.length_drop]; omega, fun c hc => hw c (List.mem_of_mem_drop hc)⟩
    obtain ⟨x, hx1, hx2, hx3⟩ := lv_left hL h1 (Lv.all (hA true) hS m1 h2 m)
    have e : (x ++ w).drop ((x ++ w).length - n) = w.drop (w.length - n) := by
      rw [List.length_append, show x.length + w.length - n = x.length + (w.length - n) by omega, List.drop_append, List.drop_eq_nil_of_le (by omega), List.nil_append]
      congr 1; omega
    obtain ⟨y, hy1, hy2, hy3⟩ := lv_right (v := x ++ w) hL (by simp; omega) hx3 (by rw [e]; exact Lv.all (hA false) hS m2 h3 m)
    exact ⟨x, y, by omega, by omega, hx2, hy2, hy3⟩

/-! ### As the law does it -/
def cutB (left : Bool) (n : Nat) (s : ByteArray) : ByteArray := if left = true then s.extract 0 (min n s.size) else s.extract (s.size - n) s.size
def xB (left : Bool) (s : ByteArray) (a : Nat) : ByteArray := if left = true then ltB.extract a (a + 1) ++ s else wdA s a
def inB (x : ByteArray) (l : List ByteArray) : Bool := l.any (fun u => decide (u = x))
theorem inB_iff {x : ByteArray} {l : List ByteArray} : inB x l = true ↔ x ∈ l := by
  unfold inB
  rw [List.any_eq_true]
  exact ⟨fun ⟨u, hu, he⟩ => by rw [← of_decide_eq_true he]; exact hu, fun h => ⟨x, h, decide_eq_true rfl⟩⟩
def exOne (l : List ByteArray) (left : Bool) (n : Nat) (acc : List ByteArray) (s : ByteArray) (a : Nat) : List ByteArray :=
  if alwA l (xB left s a) = true ∧ inB (cutB left n (xB left s a)) acc = false then acc ++ [cutB left n (xB left s a)] else acc
def exRow (l : List ByteArray) (left : Bool) (n : Nat) (acc : List ByteArray) (s : ByteArray) : Nat → List ByteArray
  | 0 => acc
  | a + 1 => exOne l left n (exRow l left n acc s a) s a
def exAll (q : Nat) (l : List ByteArray) (left : Bool) (n : Nat) (now : List ByteArray) : Nat → List ByteArray
  | 0 => []
  | k + 1 => exRow l left n (exAll q l left n now k) (now.getD k (⟨#[]⟩ : ByteArray)) q
def exStep (q : Nat) (l : List ByteArray) (left : Bool) (n : Nat) (now : List ByteArray) : List ByteArray := exAll q l left n now now.length
def exN (q : Nat) (l : List ByteArray) (left : Bool) (n : Nat) (now : List ByteArray) : Nat → List ByteArray
  | 0 => now
  | i + 1 => exStep q l left n (exN q l left n now i)
def extA (q : Nat) (l : List ByteArray) (left : Bool) (n : Nat) (w : ByteArray) : Bool := decide (0 < (exN q l left n [cutB left n w] 30).length)
theorem bl_cut (left : Bool) (n : Nat) (s : ByteArray) : bl (cutB left n s) = cutL left n (bl s) := by
  unfold cutB cutL
  split
  · rw [bl_ext, List.drop_zero, ← bl_len]
    rcases Nat.le_total n (bl s).length with h | h
    · rw [Nat.min_eq_left h]
    · rw [Nat.min_eq_right h, List.take_length, List.take_of_length_le h]
  · rw [bl_ext, ← bl_len, List.take_length]
theorem bl_x (left : Bool) (s : ByteArray) (a : Nat) (h : a < 16) : bl (xB left s a) = xL left (bl s) (lt (a : Int)) := by
  unfold xB xL
  split
  · have := bl_wd (⟨#[]⟩ : ByteArray) a h
    unfold wdA at this
    rw [bl_app] at this ⊢
    rw [show bl (⟨#[]⟩ : ByteArray) = [] from rfl, List.nil_append, List.nil_append] at this
    rw [this]; rfl
  · exact bl_wd s a h
theorem mem_exOne {l : List ByteArray} {left : Bool} {n : Nat} {acc : List ByteArray} {s : ByteArray} {a : Nat} {z : ByteArray} : z ∈ exOne l left n acc s a ↔ z ∈ acc ∨ (alwA l (xB left s a) = true ∧ z = cutB left n (xB left s a)) := by
  unfold exOne
  split
  · rename_i h
    rw [List.mem_append, List.mem_singleton]
    exact ⟨fun h' => h'.imp id (fun e => ⟨h.1, e⟩), fun h' => h'.imp id (fun e => e.2)⟩
  · rename_i h
    refine ⟨.inl, fun h' => h'.elim id (fun e => ?_)⟩
    exact Classical.byContradiction fun hn => h ⟨e.1, by rw [← e.2, Bool.eq_false_iff]; exact fun hi => hn (inB_iff.1 hi)⟩
theorem mem_exRow {l : List ByteArray} {left : Bool} {n : Nat} {acc : List ByteArray} {s : ByteArray} {z : ByteArray} : ∀ {a : Nat}, z ∈ exRow l left n acc s a ↔ z ∈ acc ∨ ∃ b, b < a ∧ alwA l (xB left s b) = true ∧ z = cutB left n (xB left s b)
  | 0 => by simp [exRow]
  | a + 1 => by
    rw [exRow, mem_exOne, mem_exRow]
    constructor
    · rintro ((h | ⟨b, h1, h2⟩) | h)
      · exact .inl h
      · exact .inr ⟨b, by omega, h2⟩
      · exact .inr ⟨a, by omega, h⟩
    · rintro (h | ⟨b, h1, h2⟩)
      · exact .inl (.inl h)
      · by_cases e : b = a
        · subst e; exact .inr h2
        · exact .inl (.inr ⟨b, by omega, h2⟩)
theorem mem_exAll {q : Nat} {l : List ByteArray} {left : Bool} {n : Nat} {now : List ByteArray} {z : ByteArray} : ∀ {k : Nat}, k ≤ now.length → (z ∈ exAll q l left n now k ↔ ∃ s ∈ now.take k, ∃ b, b < q ∧ alwA l (xB left s b) = true ∧ z = cutB left n (xB left s b))
  | 0, _ => by simp [exAll]
  | k + 1, hk => by
    rw [exAll, mem_exRow, mem_exAll (by omega), List.take_succ_eq_append_getElem (by omega : k < now.length)]
    rw [show now.getD k (⟨#[]⟩ : ByteArray) = now[k] by simp [List.getD, List.getElem?_eq_getElem (by omega : k < now.length)]]
    constructor
    · rintro (⟨s, h1, h2⟩ | h)
      · exact ⟨s, List.mem_append_left _ h1, h2⟩
      · exact ⟨_, List.mem_append_right _ (List.mem_singleton.2 rfl), h⟩
    · rintro ⟨s, h1, h2⟩
      rcases List.mem_append.1 h1 with e | e
      · exact .inl ⟨s, e, h2⟩
      · rw [List.mem_singleton.1 e] at h2; exact .inr h2
theorem mem_exStep {q : Nat} {l : List ByteArray} {left : Bool} {n : Nat} {now : List ByteArray} {z : ByteArray} : z ∈ exStep q l left n now ↔ ∃ s ∈ now, ∃ b, b < q ∧ alwA l (xB left s b) = true ∧ z = cutB left n (xB left s b) := by
  unfold exStep
  rw [mem_exAll (Nat.le_refl _), List.take_length]
theorem exN_front (q : Nat) (l : List ByteArray) (left : Bool) (n : Nat) : ∀ (i : Nat) (now : List ByteArray), exN q l left n now (i + 1) = exN q l left n (exStep q l left n now) i
  | 0, _ => rfl
  | i + 1, now => by rw [exN, exN_front q l left n i now]; rfl
theorem exN_pos {q : Nat} (hq : q ≤ 16) {l : List ByteArray} {left : Bool} {n : Nat} : ∀ {i : Nat} {now : List ByteArray}, 0 < (exN q l left n now i).length ↔ ∃ s ∈ now, Lv (sigL (q : Int)) (Ls l) left n i (bl s)
  | 0, now => by
    rw [exN, List.length_pos_iff_exists_mem]
    exact ⟨fun ⟨s, h⟩ => ⟨s, h, trivial⟩, fun ⟨s, h, _⟩ => ⟨s, h⟩⟩
  | i + 1, now => by
    rw [exN_front, exN_pos hq]
    constructor
    · rintro ⟨z, hz, hl⟩
      obtain ⟨s, hs, b, hb, h1, rfl⟩ := mem_exStep.1 hz
      rw [bl_cut, bl_x left s b (by omega)] at hl
      have h1 := av_iff.1 h1
      rw [bl_x left s b (by omega)] at h1
      exact ⟨s, hs, lt (b : Int), (mem_sig (by omega)).2 ⟨b, by omega, rfl⟩, h1, hl⟩
    · rintro ⟨s, hs, c, hc, h1, h2⟩
      obtain ⟨b, hb, rfl⟩ := (mem_sig (by omega)).1 hc
      have hb' : b < q := by omega
      refine ⟨_, mem_exStep.2 ⟨s, hs, b, hb', av_iff.2 ?_, rfl⟩, ?_⟩
      · rw [bl_x left s b (by omega)]; exact h1
      · rw [bl_cut, bl_x left s b (by omega)]; exact h2
theorem ext_iff {q : Nat} (hq : q ≤ 16) {l : List ByteArray} {left : Bool} {n : Nat} {w : ByteArray} : extA q l left n w = true ↔ Lv (sigL (q : Int)) (Ls l) left n 30 (cutL left n (bl w)) := by
  unfold extA
  rw [decide_eq_true_eq, exN_pos hq]
  constructor
  · rintro ⟨s, hs, h⟩; rw [List.mem_singleton.1 hs, bl_cut] at h; exact h
  · intro h; exact ⟨_, List.mem_singleton.2 rfl, by rw [bl_cut]; exact h⟩
/-- The lists stay short. -/
def ExI (q : Nat) (n : Nat) (acc : List ByteArray) : Prop := acc.Nodup ∧ ∀ z ∈ acc, bl z ∈ allW (sigL (q : Int)) n
theorem ExI.len {q n : Nat} (hq : q ≤ 3) (hn : n ≤ 3) {acc : List ByteArray} (h : ExI q n acc) : acc.length ≤ 27 := by
  have h1 : (acc.map bl).Nodup := by
    unfold List.Nodup
    rw [List.pairwise_map]
    exact h.1.imp (fun hne e => hne (bl_inj e))
  have h2 := nd_le h1 (m := allW (sigL (q : Int)) n) (fun x hx => by obtain ⟨z, hz, rfl⟩ := List.mem_map.1 hx; exact h.2 z hz)
  have h3 := allW_len (sigL (q : Int)) (k := 3) (by unfold sigL; rw [List.length_take]; omega) n
  have h4 : 3 ^ n ≤ 3 ^ 3 := Nat.pow_le_pow_right (by omega) hn
  rw [List.length_map] at h2
  omega
theorem ExI.one {q n : Nat} (hq : q ≤ 16) {l : List ByteArray} {left : Bool} {acc : List ByteArray} {s : ByteArray} {a : Nat} (h : ExI q n acc) (hs : bl s ∈ allW (sigL (q : Int)) n) (ha : a < q) : ExI q n (exOne l left n acc s a) := by
  have hz : bl (cutB left n (xB left s a)) ∈ allW (sigL (q : Int)) n := by
    rw [bl_cut, bl_x left s a (by omega)]
    exact cut_mem hs ((mem_sig (by omega)).2 ⟨a, by omega, rfl⟩)
  refine ⟨?_, fun z hm => ?_⟩
  · unfold exOne
    split
    · rename_i hc
      exact List.nodup_append.2 ⟨h.1, by simp, fun x hx y hy e => by have h2 := hc.2; rw [inB_iff.2 (by rw [← List.mem_singleton.1 hy, ← e]; exact hx)] at h2; cases h2⟩
    · exact h.1
  · rcases mem_exOne.1 hm with e | e
    · exact h.2 z e
    · rw [e.2]; exact hz
theorem ExI.row {q n : Nat} (hq : q ≤ 16) {l : List ByteArray} {left : Bool} {acc : List ByteArray} {s : ByteArray} (h : ExI q n acc) (hs : bl s ∈ allW (sigL (q : Int)) n) : ∀ {a : Nat}, a ≤ q → ExI q n (exRow l left n acc s a)
  | 0, _ => h
  | a + 1, ha => (ExI.row hq h hs (by omega)).one hq hs (by omega)
theorem ExI.all {q n : Nat} (hq : q ≤ 16) {l : List ByteArray} {left : Bool} {now : List ByteArray} (h : ExI q n now) : ∀ {k : Nat}, k ≤ now.length → ExI q n (exAll q l left n now k)
  | 0, _ => ⟨List.nodup_nil, by simp [exAll]⟩
  | k + 1, hk => by
    rw [exAll]
    refine (ExI.all hq h (by omega)).row hq ?_ (Nat.le_refl _)
    rw [show now.getD k (⟨#[]⟩ : ByteArray) = now[k] by simp [List.getD, List.getElem?_eq_getElem (by omega : k < now.length)]]
    exact h.2 _ (List.getElem_mem _)
theorem ExI.n {q n : Nat} (hq : q ≤ 16) {l : List ByteArray} {left : Bool} {now : List ByteArray} (h : ExI q n now) : ∀ i, ExI q n (exN q l left n now i)
  | 0 => h
  | i + 1 => (ExI.n hq h i).all hq (Nat.le_refl _)
theorem okw_sig {q : Int} (hq : q ≤ 16) {w : ByteArray} (hw : Chg.okw q (bl w) = true) : ∀ c ∈ bl w, c ∈ sigL q := fun c hc => by
  have h := List.all_eq_true.1 hw c hc
  unfold Chg.okc at h
  rw [Bool.and_eq_true, decide_eq_true_eq, decide_eq_true_eq] at h
  have h0 : 0 ≤ dg c := h.1
  have h1 : dg c < q := h.2
  exact (mem_sig hq).2 ⟨(dg c).toNat, by omega, by rw [show (((dg c).toNat : Nat) : Int) = dg c by omega]; exact lt_of c h0⟩
theorem ExI.start {q n : Nat} (hq : q ≤ 16) {left : Bool} {w : ByteArray} (hw : Chg.okw (q : Int) (bl w) = true) (hn : n ≤ w.size) : ExI q n [cutB left n w] := by
  refine ⟨by simp, fun z hz => ?_⟩
  rw [List.mem_singleton.1 hz, bl_cut]
  have hs := okw_sig (by omega) hw
  have hl := bl_len w
  refine mem_allW.2 ⟨?_, fun d hd => hs d ?_⟩
  · unfold cutL; split
    · rw [List.length_take]; omega
    · rw [List.length_drop]; omega
  · unfold cutL at hd; split at hd
    · exact List.mem_of_mem_take hd
    · exact List.mem_of_mem_drop hd

/-! ### What the laws say -/
theorem flat_len (f : ByteArray → List ByteArray) (n : Nat) : ∀ (l : List ByteArray), (∀ u ∈ l, (f u).length ≤ n) → (l.flatMap f).length ≤ l.length * n
  | [], _ => by simp
  | u :: l, h => by
    have h1 := flat_len f n l (fun v hv => h v (by simp [hv]))
    have h2 := h u (by simp)
    rw [List.flatMap_cons, List.length_append, List.length_cons, Nat.succ_mul]; omega
theorem insAll_le (l : List ByteArray) : (insAll l).length ≤ l.length := by
  have : ∀ (l s : List ByteArray), (l.foldl (fun s x => insB x s) s).length ≤ s.length + l.length := by
    intro l
    induction l with
    | nil => intro s; simp
    | cons x l ih => intro s; have h1 := ih (insB x s); have h2 := insB_len x s; rw [List.foldl_cons, List.length_cons]; omega
  have h := this l []
  unfold insAll; simpa using h
theorem stA_len {l : List ByteArray} {n : Nat} (hz : ∀ u ∈ l, u.size ≤ n) : (stA l).length ≤ 1 + l.length * n := by
  refine Nat.le_trans (insAll_le _) ?_
  unfold candF
  rw [List.take_length, List.length_cons]
  have := flat_len (fun w => preF l w w.size) n l (fun u hu => Nat.le_trans (preF_len l u u.size) (hz u hu))
  omega
theorem lng_ge : ∀ {l : List ByteArray} {u : ByteArray}, u ∈ l → (u.size : Int) ≤ lngA l := by
  have hm : ∀ (l : List ByteArray) (n : Int), n ≤ l.foldl (fun n w => max n (w.size : Int)) n ∧ ∀ u ∈ l, (u.size : Int) ≤ l.foldl (fun n w => max n (w.size : Int)) n := by
    intro l
    induction l with
    | nil => intro n; exact ⟨Int.le_refl _, by simp⟩
    | cons a l ih =>
      intro n
      obtain ⟨h1, h2⟩ := ih (max n (a.size : Int))
      rw [List.foldl_cons]
      refine ⟨Int.le_trans (Int.le_max_left _ _) h1, fun u hu => ?_⟩
      rcases List.mem_cons.1 hu with e | e
      · rw [e]; exact Int.le_trans (Int.le_max_right _ _) h1
      · exact h2 u e
  intro l u hu
  exact (hm l 0).2 u hu
/-- ForbiddenWords. -/
theorem words_law {q : Nat} {l : List ByteArray} {n : Nat} (hc : chkF (q : Int) l = 0) (hq : q ≤ 3) (hn : n ≤ 3) (hz : ∀ u ∈ l, u.size ≤ n + 1) (hs : (stA l).length ≤ 64) {w : ByteArray} (hw : Chg.okw (q : Int) (bl w) = true) (hnw : n ≤ w.size) :
    accA (graphB (q : Int) l).1 w = (alwA l w && (extA q l true n w && extA q l false n w)) := by
  obtain ⟨_, _, _, hone⟩ := chkF_ok hc
  rw [Bool.eq_iff_iff, words_gd hc hs (fun u hu => oneA_ne (hone u hu)) (fun u hu => oneA_size (hone u hu)) hw, Bool.and_eq_true, Bool.and_eq_true, ext_iff (by omega), ext_iff (by omega), av_iff]
  have h4 : 3 ^ n ≤ 3 ^ 3 := Nat.pow_le_pow_right (by omega) hn
  have h3 := allW_len (sigL (q : Int)) (k := 3) (by unfold sigL; rw [List.length_take]; omega) n
  have := gd_iff (S := sigL (q : Int)) (L := Ls l) (n := n) (N := 30) (fun u hu => by have := hz _ (mem_Ls.1 hu); rw [← bl_len, bl_lb] at this; exact this) (by omega) (w := bl w) (by rw [bl_len]; exact hnw) (okw_sig (by omega) hw)
  rw [this]
  unfold cutL
  simp
theorem av_lb {l : List ByteArray} {v : List UInt8} : Av (Ls l) v ↔ alwA l (lb v) = true := by rw [av_iff, bl_lb]
theorem Gd.weak {α : Type} {S : List α} {L L' : List (List α)} {w : List α} (h : ∀ v, Av L v → Av L' v) (hg : Gd S L w) : Gd S L' w := fun n => by
  obtain ⟨x, y, h1, h2, h3, h4, h5⟩ := hg n
  exact ⟨x, y, h1, h2, h3, h4, h _ h5⟩
/-- ForbiddenMore. -/
theorem more_law {q : Int} {l : List ByteArray} {m : ByteArray} (h1 : Okl q l) (h2 : Okl q (l ++ [m])) (hs1 : (stA (mOf l)).length ≤ 64) (hs2 : (stA (mOf (l ++ [m]))).length ≤ 64) {w : ByteArray} (hw : Chg.okw q (bl w) = true) :
    (accA (graphB q (mOf (l ++ [m]))).1 w = true → accA (graphB q (mOf l)).1 w = true) ∧ (accA (graphB q (mOf (l ++ [m]))).1 w = true → Lib.contains w.data.toList m.data.toList = false) := by
  have ha : ∀ v, Av (Ls (mOf (l ++ [m]))) v → alwA (l ++ [m]) (lb v) = true := fun v hv => by rw [← m_alw h2]; exact av_lb.1 hv
  have hon1 : ∀ u ∈ mOf l, oneA q u = 0 := fun u hu => h1.one u (mem_m.1 hu).1
  have hon2 : ∀ u ∈ mOf (l ++ [m]), oneA q u = 0 := fun u hu => h2.one u (mem_m.1 hu).1
  rw [words_gd (m_chk h1) hs1 (fun u hu => oneA_ne (hon1 u hu)) (fun u hu => oneA_size (hon1 u hu)) hw, words_gd (m_chk h2) hs2 (fun u hu => oneA_ne (hon2 u hu)) (fun u hu => oneA_size (hon2 u hu)) hw]
  constructor
  · refine Gd.weak (fun v hv => ?_)
    have h3 := ha v hv
    rw [av_lb, m_alw h1]
    unfold alwA at h3 ⊢
    rw [List.any_append, Bool.not_or, Bool.and_eq_true] at h3
    exact h3.1
  · intro hg
    have h3 := ha _ hg.av
    rw [lb_bl] at h3
    unfold alwA at h3
    rw [List.any_append, Bool.not_or, Bool.and_eq_true] at h3
    have := h3.2
    simpa using this
end Go.Proofs.YthelgembcfdhdaaGreat
namespace Go.Proofs.YthelgembcfdhdaaGreat
open Go.RowKit Go.Sort Go.Shelf Go.Lib

theorem containsV2_any (l : List ByteArray) (p : Option Addr) (c : Nat) (x : ByteArray) (w : World) (hin : Sl w Value.string p l) (hl : l.length ≤ 9223372036854775807) :
    Calls Tryz.prog 46 #[.slice p l.length c, .string x] w fun e w' => e = .returned (.bool (inB x l)) ∧ w' = w := by
  rcases Nat.eq_zero_or_pos l.length with h0 | h0
  · have : l = [] := List.length_eq_zero_iff.1 h0
    subst this
    refine (Tryz.slices_Contains_string_empty p c x w).mono ?_
    rintro e w' ⟨rfl, hw⟩
    exact ⟨rfl, hw⟩
  · obtain ⟨b, o, rfl, _, hc⟩ := hin.get 0 h0
    refine (Tryz.slices_Contains_string b o l.length c l x w (Nat.le_refl _) hl (fun j hj => by rw [hc j hj]; simp [List.getD, List.getElem?_eq_getElem hj])).mono ?_
    rintro e w' ⟨rfl, hw⟩
    rw [List.take_length]
    refine ⟨?_, hw⟩
    congr 2
    rw [Bool.eq_iff_iff, inB_iff, Lib.containsS_iff]
theorem cloneS_any (l : List ByteArray) (p : Option Addr) (c : Nat) (w : World) (hin : Sl w Value.string p l) (hl : l.length ≤ 100000) :
    Calls Tryz.prog 12 #[.slice p l.length c] w fun e w' => ∃ v, e = .returned v ∧ w'.ownsRow w.heap.size 9 1 v l.length (l.map Value.string) ∧ RowKit.Below w.heap.size w w' := by
  rcases Nat.eq_zero_or_pos l.length with h0 | h0
  · have : l = [] := List.length_eq_zero_iff.1 h0
    subst this
    cases p with
    | none =>
      refine (Tryz.slices_Clone_string_nil 0 c w).mono ?_
      rintro e w' ⟨rfl, rfl⟩
      exact ⟨_, rfl, World.ownsRow_nil _ _ _ _, RowKit.Below.refl _ _⟩
    | some a =>
      refine (Tryz.slices_Clone_string_zero a c w).mono ?_
      rintro e w' ⟨v, rfl, ho, _, hB⟩
      exact ⟨v, rfl, ho, hB⟩
  · obtain ⟨b, off, rfl, hb, hc⟩ := hin.get 0 h0
    refine (Tryz.slices_Clone_string b off l.length c l w (Nat.le_refl _) (by omega) (fun j hj => by rw [hc j hj]; simp [List.getD, List.getElem?_eq_getElem hj])).mono ?_
    rintro e w' ⟨v, rfl, ho, _, hB⟩
    rw [List.take_length] at ho
    exact ⟨v, rfl, ho, hB⟩
theorem ext1_any (left : Bool) (n : Nat) (s : ByteArray) (b4 b3 : Nat) (w : World) (hn : n ≤ 1000000) (hs : s.size ≤ 1000000) (h4 : w.cell? ⟨b4, 0, none⟩ = some (.bool left)) (h3 : w.cell? ⟨b3, 0, none⟩ = some (.int .i64 n)) :
    Calls Tryz.prog 44 #[.string s, .pointer (some ⟨b4, 0, none⟩), .pointer (some ⟨b3, 0, none⟩)] w fun e w' => e = .returned (.string (cutB left n s)) ∧ Dr w w' := by
  cases left
  · have HX : Hid (cutB false n s = s.extract (s.size - n) s.size) := rfl
    rcases Nat.le_total s.size n with h | h
    · have e1 : max 0 ((s.size : Int) - (n : Int)) = 0 := by omega
      have e2 : s.size - n = 0 := by omega
      rw [e2] at HX
      replace HX : Hid (cutB false n s = s) := by rw [Hid, HX.out]; simp
      go_enter Tryz.func44, Tryz.ntmps44
      go_wp2
      go_ret
      exact ⟨by rw [HX.out]; rfl, Dr.refl _⟩
    · have e1 : max 0 ((s.size : Int) - (n : Int)) = ((s.size - n : Nat) : Int) := by omega
      have e2 : ((s.size - n : Nat) : Int) ≤ (s.size : Int) := by omega
      go_enter Tryz.func44, Tryz.ntmps44
      go_wp2
      go_ret
      exact ⟨by rw [HX.out]; rfl, Dr.refl _⟩
  · have HX : Hid (cutB true n s = s.extract 0 (min n s.size)) := rfl
    rcases Nat.le_total s.size n with h | h
    · have e1 : min (n : Int) (s.size : Int) = (s.size : Int) := by omega
      rw [Nat.min_eq_right h] at HX
      replace HX : Hid (cutB true n s = s) := by rw [Hid, HX.out]; simp
      go_enter Tryz.func44, Tryz.ntmps44
      go_wp2
      go_ret
      exact ⟨by rw [HX.out]; rfl, Dr.refl _⟩
    · have e1 : min (n : Int) (s.size : Int) = (n : Int) := by omega
      have e2 : (n : Int) ≤ (s.size : Int) := by omega
      rw [Nat.min_eq_left h] at HX
      go_enter Tryz.func44, Tryz.ntmps44
      go_wp2
      go_ret
      exact ⟨by rw [HX.out]; rfl, Dr.refl _⟩
theorem ext2_any (s u : ByteArray) (b : Nat) (w : World) (hm : Mx w) (hs : s.size < 4294967281) (hb : w.cell? ⟨b, 0, none⟩ = some (.string s)) :
    Calls Tryz.prog 45 #[.string u, .pointer (some ⟨b, 0, none⟩)] w fun e w' => e = .returned (.bool (Lib.contains s.data.toList u.data.toList)) ∧ w' = w := by
  have HC := hidI (sContains_any s u w hm hs)
  generalize Lib.contains s.data.toList u.data.toList = r at *
  go_enter Tryz.func45, Tryz.ntmps45
  go_wp2_with fail
  refine HC.out.mono ?_
  rintro e w' ⟨rfl, hw⟩
  go_wp2
  go_ret
  first | exact ⟨rfl, hw⟩ | exact ⟨rfl, rfl⟩
theorem ecf_any (l : List ByteArray) (p : Option Addr) (c : Nat) (s : ByteArray) (b : Nat) (w : World) (hin : Sl w Value.string p l) (hl : l.length ≤ 9223372036854775807) (hm : Mx w) (hs : s.size < 4294967281) (hb : VRow w b 9 [.string s]) :
    Calls Tryz.prog 25 #[.slice p l.length c, .func (.func 45) #[] #[.pointer (some ⟨b, 0, none⟩)]] w fun e w' => e = .returned (.bool (!alwA l s)) ∧ Dr w w' := by
  have HA : (!alwA l s) = l.any (fun u => Lib.contains s.data.toList u.data.toList) := by unfold alwA; rw [Bool.not_not]
  rw [HA]
  rcases Nat.eq_zero_or_pos l.length with h0 | h0
  · have : l = [] := List.length_eq_zero_iff.1 h0
    subst this
    refine (Tryz.slices_ContainsFunc_empty (α := ByteArray) p c _ w).mono ?_
    rintro e w' ⟨rfl, rfl⟩
    exact ⟨rfl, Dr.refl _⟩
  · obtain ⟨b1, off, rfl, hb1, hc⟩ := hin.get 0 h0
    refine (Tryz.slices_ContainsFunc Value.string (fun u => Lib.contains s.data.toList u.data.toList) 45 #[.pointer (some ⟨b, 0, none⟩)] (enters_of Tryz.func45 (by kernel_rfl) rfl) b1 off l.length c l w ?_ (Nat.le_refl _) hl ?_).mono ?_
    · intro W x hW
      exact (ext2_any s x b W (hm.below hW) hs ((hb.below hW hb.lt).at 0 rfl)).mono (fun e w' h => ⟨h.1, 0, h.2⟩)
    · intro j hj
      rw [hc j hj, getElem!_pos _ j hj]
    · rintro e w' ⟨rfl, q, rfl⟩
      rw [List.take_length]
      exact ⟨rfl, ⟨q, rfl⟩⟩
theorem xB_size (left : Bool) (s : ByteArray) (a : Nat) (h : s.size ≤ 1000) : (xB left s a).size ≤ 1016 := by
  have h2 : (ltB.extract a (a + 1)).size ≤ 16 := by
    have h3 : ltB.size = 16 := rfl
    simp [h3]; omega
  unfold xB
  split
  · rw [ByteArray.size_append]; omega
  · unfold wdA; rw [ByteArray.size_append]; omega
theorem cutB_size (left : Bool) (n : Nat) (s : ByteArray) : (cutB left n s).size ≤ s.size := by
  unfold cutB; split <;> simp <;> omega
theorem allW_size {q n : Nat} {z : ByteArray} (h : bl z ∈ allW (sigL (q : Int)) n) : z.size = n := by rw [← bl_len]; exact (mem_allW.1 h).1

set_option maxRecDepth 100000 in
set_option maxHeartbeats 4000000 in
theorem extends_any (q : Nat) (l : List ByteArray) (p : Option Addr) (c : Nat) (s : ByteArray) (n : Nat) (left : Bool) (w : World) (hin : Sl w Value.string p l) (hl : l.length ≤ 9223372036854775807) (hm : Mx w) (hq : q ≤ 3) (hn : n ≤ 3) (hs : s.size ≤ 1000) (hw : Chg.okw (q : Int) (bl s) = true) (hns : n ≤ s.size) :
    Calls Tryz.prog 19 #[.int .i64 q, .slice p l.length c, .string s, .int .i64 n, .bool left] w fun e w' => e = .returned (.bool (extA q l left n s)) ∧ RowKit.Below w.heap.size w w' := by
  have HIN := hidI hin; have HMX := hidI hm
  obtain ⟨w0, hw0⟩ : ∃ w0, w0 = (w.alloc (.cells #[.int .i64 n] 3)).alloc (.cells #[.bool left] 4) := ⟨_, rfl⟩
  have b3 : VRow w0 w.heap.size 3 [.int .i64 n] := by subst hw0; exact (VRow.new w _ _).alloc _
  have b4 : VRow w0 (w.heap.size + 1) 4 [.bool left] := by subst hw0; exact VRow.new1 w _ _ _
  have hB0 : RowKit.Below w.heap.size w w0 := by subst hw0; exact ((RowKit.Below.refl _ _).alloc (Nat.le_refl _) _).alloc (by simp) _
  have HE0 := hidI (ExI.start (left := left) (by omega : q ≤ 16) hw hns)
  have HX : Hid (extA q l left n s = decide (0 < (exN q l left n [cutB left n s] 30).length)) := rfl
  have HC0 := hidI (fun W (h : RowKit.Below w0.heap.size w0 W) (z : ByteArray) (hz : z.size ≤ 1000000) => ext1_any left n z (w.heap.size + 1) w.heap.size W (by omega) hz ((b4.below h b4.lt).at 0 rfl) ((b3.below h b3.lt).at 0 rfl))
  have H4 := hidI (fun W (h : RowKit.Below w0.heap.size w0 W) => (b4.below h b4.lt).at 0 rfl)
  have hz0 : w0.heap.size = w.heap.size + 2 := by subst hw0; simp
  have HZ0 := hidI hz0
  clear hin hm b3 b4 hw hns hz0
  go_enter Tryz.func19, Tryz.ntmps19
  go_wp2_with fail
  rw [← hw0]
  clear hw0
  refine (HC0.out w0 (RowKit.Below.refl _ _) s (by omega)).mono ?_
  rintro e w1 ⟨rfl, hD1⟩
  have x1 := hD1.below w0.heap.size
  have hsz1 := cutB_size left n s
  obtain ⟨q1, c1, he1, hs1⟩ := own_sl (own_one1 w1 (cutB left n s) (B := w1.heap.size) (Nat.le_refl _))
  have he1' : Value.slice (some ⟨w1.heap.size, 0, none⟩) 1 1 = .slice q1 [cutB left n s].length c1 := he1
  simp only [Value.slice.injEq] at he1'
  obtain ⟨rfl, -, rfl⟩ := he1'
  have x2 := x1.alloc x1.size (.cells #[.string (cutB left n s)] 9)
  clear he1 hD1 x1
  go_wp2_with fail
  go_loopw [12, 23] (fun nv iv W => ∃ (i : Nat) (qk : Option Addr) (ck : Nat), i ≤ 30 ∧ iv = .int .i64 i ∧ nv = .slice qk (exN q l left n [cutB left n s] i).length ck ∧ Sl W Value.string qk (exN q l left n [cutB left n s] i) ∧ RowKit.Below w0.heap.size w0 W) (fun _ iv _ => 30 - (intOf iv).toNat)
  case atStart => exact ⟨0, _, _, by omega, rfl, rfl, hs1, x2⟩
  case round =>
    clear hs1 x2 hsz1
    obtain ⟨i, qk, ck, hi, rfl, rfl, hsl, hB⟩ := hrel
    have HI := hidI (HE0.out.n (l := l) (left := left) (by omega : q ≤ 16) i)
    by_cases hlt : i < 30
    · have hltI : (i : Int) < 30 := by omega
      have HN : Hid (exN q l left n [cutB left n s] (i + 1) = exAll q l left n (exN q l left n [cutB left n s] i) (exN q l left n [cutB left n s] i).length) := rfl
      have HLen := hidI (HI.out.len hq hn)
      generalize exN q l left n [cutB left n s] i = L at *
      obtain ⟨wo, hwo⟩ : ∃ wo : World, wo = wr := ⟨_, rfl⟩
      rw [← hwo] at hsl hB
      have HSL := hidI hsl; have HB := hidI hB
      go_wp2_with fail
      go_loopw [13, 27] (fun v13 kv W => ∃ k : Nat, k ≤ L.length ∧ kv = .int .i64 k ∧ OwS wo.heap.size (exAll q l left n L k) v13 W ∧ RowKit.Below wo.heap.size wo W) (fun _ kv _ => L.length - (intOf kv).toNat)
      case atStart =>
        subst hwo
        exact ⟨0, by omega, rfl, World.ownsRow_nil _ _ _ _, RowKit.Below.refl _ _⟩
      case round =>
        clear hsl hB hwo
        obtain ⟨k, hk, rfl, ho, hB⟩ := hrel
        have hLL := HLen.out
        by_cases hltk : k < L.length
        · have hltkI : (k : Int) < (L.length : Int) := by omega
          obtain ⟨bb, oo, rfl, hb1, hc1⟩ := (HSL.out.below hB).get k hltk
          have e0 := hc1 k hltk
          have HZ := hidI (allW_size (HI.out.2 _ (List.getElem_mem hltk)))
          have HA := hidI (HI.out.all (l := l) (left := left) (by omega : q ≤ 16) (Nat.le_of_lt hltk))
          have HW := hidI (HI.out.2 _ (List.getElem_mem hltk))
          have HR : Hid (exAll q l left n L (k + 1) = exRow l left n (exAll q l left n L k) L[k] q) := by unfold Hid; rw [exAll, show L.getD k (⟨#[]⟩ : ByteArray) = L[k] by simp [List.getD, List.getElem?_eq_getElem hltk]]
          generalize L[k] = z at *
          generalize exAll q l left n L k = acc at *
          clear hc1
          go_wp2_with fail
          go_loopw [13, 32] (fun v13 av W => ∃ a : Nat, a ≤ q ∧ av = .int .i64 a ∧ OwS wo.heap.size (exRow l left n acc z a) v13 W ∧ RowKit.Below wo.heap.size wo W) (fun _ av _ => q - (intOf av).toNat)
          case atStart => exact ⟨0, by omega, rfl, ho, hB⟩
          case round =>
            clear ho hB e0 hb1
            obtain ⟨a, ha, rfl, ho, hB⟩ := hrel
            by_cases hlta : a < q
            · have hltaI : (a : Int) < (q : Int) := by omega
              have hI1 : (a : Int) ≤ (a : Int) + 1 := by omega
              have hI2 : (a : Int) + 1 ≤ 16 := by omega
              have hI3 : ((a : Int) + 1).toNat = a + 1 := by omega
              have HO : Hid (exRow l left n acc z (a + 1) = exOne l left n (exRow l left n acc z a) z a) := rfl
              have HIR := hidI (HA.out.row (l := l) (left := left) (by omega : q ≤ 16) HW.out ha)
              have hrl := HIR.out.len hq hn
              have hzz : z.size ≤ 3 := by rw [HZ.out]; omega
              have hxz := xB_size left z a (by rw [HZ.out]; omega)
              have hcz := cutB_size left n (xB left z a)
              have HOX : Hid (exOne l left n (exRow l left n acc z a) z a = if alwA l (xB left z a) = true ∧ inB (cutB left n (xB left z a)) (exRow l left n acc z a) = false then exRow l left n acc z a ++ [cutB left n (xB left z a)] else exRow l left n acc z a) := rfl
              obtain ⟨wd, hwd0⟩ : ∃ wd, wd = z ++ ({ data := #[48, 49, 50, 51, 52, 53, 54, 55, 56, 57, 97, 98, 99, 100, 101, 102] } : ByteArray).extract a (a + 1) := ⟨_, rfl⟩
              obtain ⟨wl, hwl0⟩ : ∃ wl, wl = ({ data := #[48, 49, 50, 51, 52, 53, 54, 55, 56, 57, 97, 98, 99, 100, 101, 102] } : ByteArray).extract a (a + 1) ++ z := ⟨_, rfl⟩
              have hwd := hidI hwd0.symm; have hwl := hidI hwl0.symm
              have HXX : Hid (xB left z a = if left = true then wl else wd) := by
                rw [Hid, hwd0, hwl0]; rfl
              generalize xB left z a = xx at *
              have HCX := hidI (fun W (h : RowKit.Below w0.heap.size w0 W) => HC0.out W h xx (by omega))
              generalize cutB left n xx = cx at *
              generalize exRow l left n acc z a = R at *
              have hr0 : VRow (wr.alloc (.cells #[.string wd] 9)) wr.heap.size 9 [.string wd] := VRow.new wr _ _
              have hBa : RowKit.Below wo.heap.size wo (wr.alloc (.cells #[.string wd] 9)) := hB.alloc hB.size _
              have k4 := H4.out _ (HB.out.trans (hBa.mono HB.out.size))
              have hoa : OwS wo.heap.size R u13 (wr.alloc (.cells #[.string wd] 9)) := ho.alloc _
              obtain ⟨lf, hlf⟩ : ∃ lf, lf = left := ⟨_, rfl⟩
              rw [← hlf, hwd0] at k4
              have HR0 := hidI hr0
              clear hr0 hwd0 hwl0
              have HLF := hidI hlf
              have HO0 := hidI ho; have HBR := hidI hB
              clear hlf ho hB hoa hBa
              have r17 : VRow (wr.alloc (.cells #[.string xx] 9)) wr.heap.size 9 [.string xx] := VRow.new wr _ _
              have R17 := hidI r17
              clear r17
              cases lf
              case' false =>
                have hxd : xx = wd := by rw [HXX.out, ← HLF.out]; rfl
                have HXD := hidI hxd
                clear hxd HXX
                go_wp2_with fail
                rw [hwd.out, ← HXD.out]
                clear k4
              case' true =>
                have hxd : xx = wl := by rw [HXX.out, ← HLF.out]; rfl
                have HXD := hidI hxd
                clear hxd HXX
                have z17 := HR0.out.frozen 0
                have f17 := HR0.out.at 0 rfl
                rw [← hwd.out] at z17 f17
                go_wp2_with fail
                rw [hwl.out, ← HXD.out]
                clear k4 z17 f17
              all_goals
                clear HR0 hwd hwl HXD HLF
                have hB1 := HBR.out.alloc HBR.out.size (.cells #[.string xx] 9)
                have ho1 : OwS wo.heap.size R u13 (wr.alloc (.cells #[.string xx] 9)) := HO0.out.alloc _
                have xB1 := HB.out.trans (hB1.mono HB.out.size)
                refine (ecf_any l p c xx wr.heap.size _ (HIN.out.below (hB0.trans (xB1.mono hB0.size))) hl (HMX.out.below (hB0.trans (xB1.mono hB0.size))) (by omega) R17.out).mono ?_
                rintro e w5 ⟨rfl, hD5⟩
                have k17 := (hD5.cell _).trans (R17.out.at 0 rfl)
                have hB5 := hB1.trans (hD5.below _)
                have ho5 : OwS wo.heap.size R u13 w5 := ho1.below (hD5.below _)
                have x5 := xB1.trans (hD5.below _)
                clear hB1 ho1 xB1 hD5 HO0 HBR
                cases hal : alwA l xx
                · have HQ : Hid (exRow l left n acc z (a + 1) = R) := by rw [Hid, HO.out, HOX.out, hal]; simp
                  clear hal
                  go_wp2_with fail
                  go_roundw
                  case rel => exact ⟨a + 1, by omega, by go_num, by rw [HQ.out]; exact ho5, hB5⟩
                  case measure => simp [intOf]; omega
                · obtain ⟨q13, c13, hv13, hs13⟩ := own_sl ho5
                  subst hv13
                  have HV := hidI (fun W (hD : Dr w5 W) => containsV2_any R q13 c13 cx W (hs13.dr hD) (by omega))
                  have HOY : Hid (exRow l left n acc z (a + 1) = if inB cx R = false then R ++ [cx] else R) := by rw [Hid, HO.out, HOX.out, hal]; simp
                  clear hal HO HOX hs13
                  go_wp2_with fail
                  refine (HCX.out w5 x5).mono ?_
                  rintro e w6 ⟨rfl, hD6⟩
                  go_wp2_with fail
                  refine (HV.out w6 hD6).mono ?_
                  rintro e w7 ⟨rfl, hw7⟩
                  replace hw7 := hw7.symm
                  subst hw7
                  have ho6 : OwS wo.heap.size R (.slice q13 R.length c13) w6 := ho5.below (hD6.below _)
                  have k6 := (hD6.cell _).trans k17
                  have hB6 := hB5.trans (hD6.below _)
                  have x6 := x5.trans (hD6.below _)
                  clear k17 hB5 x5 ho5 hD6 HV
                  cases hi : inB cx R
                  · have HQ : Hid (exRow l left n acc z (a + 1) = R ++ [cx]) := by rw [Hid, HOY.out, hi]; simp
                    clear hi HOY
                    go_wp2_with fail
                    refine (HCX.out w6 x6).mono ?_
                    rintro e w8 ⟨rfl, hD8⟩
                    have ho8 : OwS wo.heap.size R (.slice q13 R.length c13) w8 := ho6.below (hD8.below _)
                    have hB8 := hB6.trans (hD8.below _)
                    clear ho6 hB6 k6 x6 hD8 HCX
                    obtain ⟨i0, hi0, hz0, hz1, hz3⟩ := info_parts infoStrF
                    have hnew := cell_one_at w8 (.string cx) 9 w8.heap.size rfl
                    have hownA := ho8.alloc (.cells #[.string cx] 9)
                    have hlw := ho8.lt
                    have hsz8 := hB8.size
                    go_wp2_with (at_builtin; refine wpList_append_own _ rfl _ _ 22 rfl wo.heap.size 9 i0 (.string ⟨#[]⟩) 1 16 Tryz.underlying22 hi0 hz0 hz1 hz3 rfl (by decide) _ _ _ rfl hownA ⟨w8.heap.size, 0, none⟩ 1 1 [.string cx] rfl rfl hnew (by simp [Value.oneCell']) (by simp [maxLen]; omega) (by omega) (by rw [World.size_alloc]; omega) ?_; intro v' w9 hown' hgrow _)
                    go_roundw
                    case rel => exact ⟨a + 1, by omega, by go_num, by unfold OwS; rw [HQ.out, List.length_append, List.map_append]; exact hown', (hB8.alloc hB8.size _).grown hgrow (by simp; omega) (fun j e => (hlw j e).1)⟩
                    case measure => simp [intOf]; omega
                  · have HQ : Hid (exRow l left n acc z (a + 1) = R) := by rw [Hid, HOY.out, hi]; simp
                    clear hi HOY
                    go_wp2_with fail
                    go_roundw
                    case rel => exact ⟨a + 1, by omega, by go_num, by rw [HQ.out]; exact ho6, hB6⟩
                    case measure => simp [intOf]; omega
            · obtain rfl : a = q := by omega
              have hltaI : ¬ (a : Int) < (a : Int) := by omega
              go_wp2_with fail
              go_roundw
              case rel => exact ⟨k + 1, by omega, by go_num, by rw [HR.out]; exact ho, hB⟩
              case measure => simp [intOf]; omega
        · obtain rfl : k = L.length := by omega
          have hltkI : ¬ (L.length : Int) < (L.length : Int) := by omega
          obtain ⟨q5, c5, he5, hs5⟩ := own_sl ho
          subst he5
          have hB5 := HB.out.trans (hB.mono HB.out.size)
          go_wp2_with fail
          go_roundw
          case rel => exact ⟨i + 1, q5, c5, by omega, by go_num, by rw [HN.out], by rw [HN.out]; exact hs5, hB5⟩
          case measure => simp [intOf]; omega
    · obtain rfl : i = 30 := by omega
      have hltI : ¬ (30 : Int) < 30 := by omega
      have hBf := hB0.trans (hB.mono hB0.size)
      generalize exN q l left n [cutB left n s] 30 = L at *
      go_wp2_with fail
      go_ret
      refine ⟨ret_bool ?_, hBf⟩
      rw [HX.out]
end Go.Proofs.YthelgembcfdhdaaGreat
namespace Go.Proofs.YthelgembcfdhdaaGreat
open Go.RowKit Go.Sort Go.Shelf Go.Lib

theorem okl_of_err {q : Int} {l : List ByteArray} (h : (redA q l).2 = 0) : Okl q l := by
  unfold redA at h
  by_cases e : errA q l = 0
  · exact Okl.of e
  · rw [if_pos e] at h; exact absurd h e
theorem red_m {q : Int} {l : List ByteArray} (h : Okl q l) (e : errA q l = 0) : redA q l = (mOf l, 0) := by
  unfold redA
  rw [e, if_neg (by simp)]; rfl
theorem red_ok {q : Int} {l : List ByteArray} (h : (redA q l).2 = 0) : redA q l = (mOf l, 0) := by
  have e : errA q l = 0 := by
    unfold redA at h
    by_cases e : errA q l = 0
    · exact e
    · rw [if_pos e] at h; exact absurd h e
  exact red_m (Okl.of e) e
theorem graph_fine {q : Int} {l : List ByteArray} (hc : chkF q l = 0) (hs : (stA l).length ≤ 64) : ∃ G, graphB q l = (G, 0) ∧ Vg G ∧ G.q = q ∧ q ≤ 16 ∧ 1 ≤ q := by
  obtain ⟨h1, h2, _, _⟩ := chkF_ok hc
  have hv := grF_vg h1 h2 hs
  exact ⟨_, graphB_eq hc hs, part_vg hv (essT_st hv), rfl, h2, h1⟩
/-- A word behind words of the call's own: the run. -/
theorem run_app_one (W : World) (B : Nat) (v : Value) (l : List ByteArray) (m : ByteArray) (lm : List ByteArray) (hlm : lm = l ++ [m]) (ty : TypeId) (hown : W.ownsRow B 9 1 v l.length (l.map Value.string)) (hB : B ≤ W.heap.size) (hl : l.length ≤ 1000) :
    ∃ q c W', (Builtin.append_ #[22, 22] ty #[v, .slice (some ⟨W.heap.size, 0, none⟩) 1 1]).run Tryz.prog (W.alloc (.cells #[.string m] 9)) = .ok (.slice q lm.length c) W' ∧ Sl W' Value.string q lm ∧ RowKit.Below B W W' := by
  subst hlm
  have hsl : Sl (W.alloc (.cells #[.string m] 9)) Value.string (some ⟨W.heap.size, 0, none⟩) [m] := vrow_sl [m] (VRow.new W _ _)
  have ho1 : (W.alloc (.cells #[.string m] 9)).ownsRow B 9 1 v l.length (l.map Value.string) := hown.alloc _
  obtain ⟨v', W', h1, h2, h3⟩ := run_app1 (W.alloc (.cells #[.string m] 9)) B ty v l l.length ho1 (some ⟨W.heap.size, 0, none⟩) 1 1 [m] rfl hsl (by omega) (by rw [World.size_alloc]; omega)
  have hlen : (l ++ [m]).length = l.length + 1 := by simp
  rw [← hlen] at h2
  obtain ⟨q, c, rfl, hs⟩ := own_sl h2
  refine ⟨q, c, W', h1, hs, ((RowKit.Below.refl B W).alloc hB _).grown h3 (by rw [World.size_alloc]; omega) (fun j e => (hown.lt j e).1)⟩

/-- An append whose run is known; its guard says yes. -/
theorem wpList_app_run {ops : Array Oper} {rest : List Oper} {o : Oper} {a : Act} {Q : Exit → Act → World → Prop} {w : World} (hw : Region.wanted o (yielded ops a.tmps) = true) (s x : Operand)
    (ho : o.op = .call { callee := .builtin .append, args := #[s, x], argTypes := #[22, 22] }) (v u : Value) (hs : a.eval s = v) (hx : a.eval x = u) (v' : Value) (w' : World)
    (hr : (Builtin.append_ #[22, 22] o.type #[v, u]).run Tryz.prog w = .ok v' w') (h : wpList Tryz.prog ops Q rest (a.put o.dst v') w') : wpList Tryz.prog ops Q (o :: rest) a w :=
  BigFrame.wpList_want hw fun K hK => by
    unfold Oper.wp execOp
    simp only [ho, resolve, invoke, builtin, Sem.run_bind, Sem.run_pure, Result.andThen_ok, List.map_toArray, List.map_cons, List.map_nil, hs, hx, hr]
    exact hK _ _ h

set_option maxRecDepth 100000 in
set_option maxHeartbeats 4000000 in
theorem lawMore_any (q : Int) (l : List ByteArray) (p : Option Addr) (c : Nat) (m s : ByteArray) (w : World) (hin : Sl w Value.string p l) (hl : l.length ≤ 9223372036854775807) (hzm : m.size ≤ maxLen) (hm : Mx w) :
    Calls Tryz.prog 4 #[.int .i64 q, .slice p l.length c, .string m, .string s] w fun e w' => e = .returned (.bool true) ∧ RowKit.Below w.heap.size w w' := by
  have HIN := hidI hin
  have HMX := hidI hm
  have HAW := hidI (fun W (hW : RowKit.Below w.heap.size w W) => awake14_any W (hm.below hW))
  clear hin hm
  by_cases h1 : 4 < l.length
  · have h1I : (4 : Int) < (l.length : Int) := by omega
    go_enter Tryz.func4, Tryz.ntmps4
    go_wp2_with fail
    refine (HAW.out w (RowKit.Below.refl _ _)).mono ?_
    rintro e w2 ⟨rfl, hB2⟩
    go_wp2
    go_ret
    exact ⟨rfl, hB2⟩
  have h1I : ¬ (4 : Int) < (l.length : Int) := by omega
  by_cases h2 : 3 < q
  · go_enter Tryz.func4, Tryz.ntmps4
    go_wp2_with fail
    refine (HAW.out w (RowKit.Below.refl _ _)).mono ?_
    rintro e w2 ⟨rfl, hB2⟩
    go_wp2
    go_ret
    exact ⟨rfl, hB2⟩
  by_cases h3 : 10 < s.size
  · have h3I : (10 : Int) < (s.size : Int) := by omega
    go_enter Tryz.func4, Tryz.ntmps4
    go_wp2_with fail
    refine (HAW.out w (RowKit.Below.refl _ _)).mono ?_
    rintro e w2 ⟨rfl, hB2⟩
    go_wp2
    go_ret
    exact ⟨rfl, hB2⟩
  have h3I : ¬ (10 : Int) < (s.size : Int) := by omega
  obtain ⟨lm, hlm0⟩ : ∃ lm, lm = l ++ [m] := ⟨_, rfl⟩
  have hlen : lm.length ≤ 5 := by rw [hlm0, List.length_append, List.length_singleton]; omega
  have HLM := hidI hlm0
  clear hlm0
  have HCL := hidI (fun W (hW : RowKit.Below w.heap.size w W) => cloneS_any l p c W (HIN.out.below hW) (by omega))
  have HLN := hidI (fun W qq cc (hs : Sl W Value.string qq lm) => fLongest_any lm qq cc W hs (by omega))
  obtain ⟨g, hg⟩ : ∃ g, lngA lm = g := ⟨_, rfl⟩
  rw [hg] at HLN
  have HG := hidI hg
  clear hg
  by_cases h4 : 4 < g
  · go_enter Tryz.func4, Tryz.ntmps4
    go_wp2_with fail
    refine (HCL.out w (RowKit.Below.refl _ _)).mono ?_
    rintro e w1 ⟨v, rfl, ho, hB1⟩
    obtain ⟨q3, c3, w3, hrun, hs3, hB3⟩ := run_app_one w1 w.heap.size v l m lm HLM.out 22 ho hB1.size (by omega)
    have x3 := hB1.trans hB3
    clear ho hB1 hB3
    go_wp2_with (at_builtin; refine wpList_app_run rfl _ _ rfl _ _ rfl rfl _ _ hrun ?_)
    refine (HLN.out w3 q3 c3 hs3).mono ?_
    rintro e w4 ⟨rfl, hw4⟩
    have x4 : RowKit.Below w.heap.size w w4 := by rw [hw4]; exact x3
    clear hw4 hs3 x3 hrun
    go_wp2_with fail
    refine (HAW.out w4 x4).mono ?_
    rintro e w2 ⟨rfl, hB2⟩
    have x2 := x4.trans (hB2.mono x4.size)
    go_wp2
    go_ret
    exact ⟨rfl, x2⟩
  have HZ4 : Hid (∀ u ∈ lm, u.size ≤ 4) := fun u hu => by
    have := lng_ge hu
    rw [HG.out] at this; omega
  have HZl : Hid (Sz l) := fun u hu => by have := HZ4.out u (by rw [HLM.out]; simp [hu]); omega
  have HZm : Hid (Sz lm) := fun u hu => by have := HZ4.out u hu; omega
  have HRA := hidI (fun W (hW : RowKit.Below w.heap.size w W) => fReduce_any q l p c W (HIN.out.below hW) hl HZl.out)
  have HRB := hidI (fun W qq cc (hs : Sl W Value.string qq lm) => fReduce_any q lm qq cc W hs (by omega) HZm.out)
  have HWC := hidI (fun W => wcheck_any q s W (by unfold maxLen; omega))
  have HFA := hidI (@red_ok q l)
  have HFB := hidI (@red_ok q lm)
  have HOA := hidI (@okl_of_err q l)
  have HOB := hidI (@okl_of_err q lm)
  generalize redA q l = xa at *
  generalize redA q lm = xb at *
  obtain ⟨a, e⟩ := xa
  obtain ⟨b, f⟩ := xb
  simp only at HFA HFB HOA HOB
  obtain ⟨k, hk⟩ : ∃ k, wchk q s.data.toList = k := ⟨_, rfl⟩
  rw [hk] at HWC
  have HK := hidI hk
  clear hk
  go_enter Tryz.func4, Tryz.ntmps4
  go_wp2_with fail
  refine (HCL.out w (RowKit.Below.refl _ _)).mono ?_
  rintro e1 w1 ⟨v, rfl, ho, hB1⟩
  obtain ⟨q3, c3, w3, hrun, hs3, hB3⟩ := run_app_one w1 w.heap.size v l m lm HLM.out 22 ho hB1.size (by omega)
  have x3 := hB1.trans hB3
  clear ho hB1 hB3
  go_wp2_with (at_builtin; refine wpList_app_run rfl _ _ rfl _ _ rfl rfl _ _ hrun ?_)
  refine (HLN.out w3 q3 c3 hs3).mono ?_
  rintro e1 w4 ⟨rfl, hw4⟩
  have x4 : RowKit.Below w.heap.size w w4 := by rw [hw4]; exact x3
  clear hw4 hs3 x3 hrun
  go_wp2_with fail
  refine (HRA.out w4 x4).mono ?_
  rintro e1 w5 ⟨q5, n5, c5, rfl, hn5, -, -, hs5, hB5⟩
  replace hn5 : n5 = a.length := hn5
  subst hn5
  have x5 := x4.trans (hB5.mono x4.size)
  have hs5 := hidI hs5
  clear x4 hB5
  go_wp2_with fail
  refine (HCL.out w5 x5).mono ?_
  rintro e1 w6 ⟨v6, rfl, ho6, hB6⟩
  obtain ⟨q7, c7, w7, hrun, hs7, hB7⟩ := run_app_one w6 w5.heap.size v6 l m lm HLM.out 22 ho6 hB6.size (by omega)
  have hB57 := hB6.trans hB7
  have x7 := x5.trans (hB57.mono x5.size)
  have hs57 := hidI (hs5.out.below hB57)
  clear ho6 hB6 hB7 hB57 x5 hs5
  go_wp2_with (at_builtin; refine wpList_app_run rfl _ _ rfl _ _ rfl rfl _ _ hrun ?_)
  refine (HRB.out w7 q7 c7 hs7).mono ?_
  rintro e1 w8 ⟨q8, n8, c8, rfl, hn8, -, -, hs8, hB8⟩
  replace hn8 : n8 = b.length := hn8
  subst hn8
  have x8 := x7.trans (hB8.mono x7.size)
  have hs58 := hidI (hs57.out.below hB8)
  have hs8 := hidI hs8
  clear hrun hs7 x7 hB8 hs57
  by_cases he : e = 0
  · subst he
    by_cases hf : f = 0
    · subst hf
      go_wp2_with fail
      refine (HWC.out w8).mono ?_
      rintro e1 w9 ⟨rfl, hD9⟩
      have x9 := x8.trans (hD9.below _)
      have hs59 := hidI (hs58.out.below (hD9.below _))
      have hs9 := hidI (Sl.below hs8.out (hD9.below _))
      clear x8 hs58 hs8 hD9
      by_cases hk : k = 0
      · subst hk
        have ea : a = mOf l := by have := HFA.out (by trivial); simpa using this
        have eb : b = mOf lm := by have := HFB.out (by trivial); simpa using this
        have HCa : Hid (chkF q a = 0) := by rw [Hid, ea]; exact m_chk (HOA.out (by trivial))
        have HCb : Hid (chkF q b = 0) := by rw [Hid, eb]; exact m_chk (HOB.out (by trivial))
        have HSa : Hid ((stA a).length ≤ 64) := by
          have h4 := stA_len (l := a) (n := 4) (fun u hu => HZ4.out u (by rw [ea] at hu; rw [HLM.out]; simp [(mem_m.1 hu).1]))
          have h5 := redL_len l l.length
          have h6 : a.length ≤ l.length := by rw [ea]; exact h5
          unfold Hid; omega
        have HSb : Hid ((stA b).length ≤ 64) := by
          have h4 := stA_len (l := b) (n := 4) (fun u hu => HZ4.out u (by rw [eb] at hu; exact (mem_m.1 hu).1))
          have h5 := redL_len lm lm.length
          have h6 : b.length ≤ lm.length := by rw [eb]; exact h5
          unfold Hid; omega
        have hok : Chg.okw q (bl s) = true := by
          have hkk : Chg.wchk q s.data.toList = 0 := HK.out
          exact wchk_okw hkk
        have HLAW := hidI (more_law (HOA.out (by trivial)) (by have := HOB.out (by trivial); rw [HLM.out] at this; exact this) (by rw [← ea]; exact HSa.out) (by rw [← HLM.out, ← eb]; exact HSb.out) hok)
        rw [← HLM.out, ← ea, ← eb] at HLAW
        have hla : a.length ≤ 64 := (chkF_ok HCa.out).2.2.1
        have hlb : b.length ≤ 64 := (chkF_ok HCb.out).2.2.1
        have HZa : Hid (Sz a) := fun u hu => by have := HZ4.out u (by rw [ea] at hu; rw [HLM.out]; simp [(mem_m.1 hu).1]); omega
        have HZb : Hid (Sz b) := fun u hu => by have := HZ4.out u (by rw [eb] at hu; exact (mem_m.1 hu).1); omega
        obtain ⟨Ga, hGa, hva, hqa, hq16, hq1⟩ := graph_fine HCa.out HSa.out
        obtain ⟨Gb, hGb, hvb, hqb, _, _⟩ := graph_fine HCb.out HSb.out
        have HGA := hidI (fun W (hW : RowKit.Below w.heap.size w W) (hs : Sl W Value.string q5 a) => fGraph_any q a q5 c5 W hs (by omega) HZa.out (HMX.out.below hW))
        have HGB := hidI (fun W (hW : RowKit.Below w.heap.size w W) (hs : Sl W Value.string q8 b) => fGraph_any q b q8 c8 W hs (by omega) HZb.out (HMX.out.below hW))
        rw [hGa] at HGA
        rw [hGb] at HGB
        rw [hGa, hGb] at HLAW
        have hkk : Chg.wchk q s.data.toList = 0 := HK.out
        have HAA := hidI (fun W pp cc (hs : Sg 3 W edE pp Ga.es) => lAccepts_any Ga pp cc s W hs hva (by rw [hqa]; exact hq16) (by unfold maxLen; omega) (by rw [hqa]; exact hkk) (by omega))
        have HAB := hidI (fun W pp cc (hs : Sg 3 W edE pp Gb.es) => lAccepts_any Gb pp cc s W hs hvb (by rw [hqb]; exact hq16) (by unfold maxLen; omega) (by rw [hqb]; exact hkk) (by omega))
        have HCT := hidI (fun W (hW : RowKit.Below w.heap.size w W) => sContains_any s m W (HMX.out.below hW) (by omega))
        simp only at HLAW
        generalize accA Ga s = x at *
        generalize accA Gb s = y at *
        generalize Lib.contains s.data.toList m.data.toList = z at *
        clear ea eb hok hkk hGa hGb hva hvb hla hlb hqa hqb hq16 hq1
        go_wp2_with fail
        refine (HGA.out w9 x9 hs59.out).mono ?_
        rintro e1 wA ⟨pA, mA, cA, rfl, hmA, hsA, hBA⟩
        replace hmA : mA = Ga.es.length := hmA
        subst hmA
        have xA := x9.trans (hBA.mono x9.size)
        have hs9A := Sl.below hs9.out hBA
        have gA : VRow (wA.alloc (.cells #[.int .i64 Ga.q, .int .i64 Ga.n, .slice pA Ga.es.length cA] 27)) wA.heap.size 27 [.int .i64 Ga.q, .int .i64 Ga.n, .slice pA Ga.es.length cA] := VRow.new wA _ _
        have hbA := (RowKit.Below.refl wA.heap.size wA).alloc (Nat.le_refl _) (.cells #[.int .i64 Ga.q, .int .i64 Ga.n, .slice pA Ga.es.length cA] 27)
        have xA' := hidI (xA.alloc xA.size (.cells #[.int .i64 Ga.q, .int .i64 Ga.n, .slice pA Ga.es.length cA] 27))
        have hsA' := hidI (Sg.below hsA hbA)
        have hsBA := hidI (hs9A.below hbA)
        have gA := hidI gA
        clear x9 hs59 hs9 hBA xA hs9A hbA hsA
        go_wp2_with fail
        refine (HGB.out _ xA'.out hsBA.out).mono ?_
        rintro e1 wB ⟨pB, mB, cB, rfl, hmB, hsB, hBB⟩
        replace hmB : mB = Gb.es.length := hmB
        subst hmB
        have xB := xA'.out.trans (hBB.mono xA'.out.size)
        have gB := gA.out.below hBB gA.out.lt
        have hsAB := hsA'.out.below hBB
        have gB' := gB.alloc (.cells #[.int .i64 Gb.q, .int .i64 Gb.n, .slice pB Gb.es.length cB] 27)
        have kB : VRow (wB.alloc (.cells #[.int .i64 Gb.q, .int .i64 Gb.n, .slice pB Gb.es.length cB] 27)) wB.heap.size 27 [.int .i64 Gb.q, .int .i64 Gb.n, .slice pB Gb.es.length cB] := VRow.new wB _ _
        have hbB := (RowKit.Below.refl wB.heap.size wB).alloc (Nat.le_refl _) (.cells #[.int .i64 Gb.q, .int .i64 Gb.n, .slice pB Gb.es.length cB] 27)
        have xB' := xB.alloc xB.size (.cells #[.int .i64 Gb.q, .int .i64 Gb.n, .slice pB Gb.es.length cB] 27)
        have hsAB' := hidI (hsAB.below hbB)
        have hsB' := hidI (Sg.below hsB hbB)
        obtain ⟨wC, hwC⟩ : ∃ wC, wC = wB.alloc (.cells #[.int .i64 Gb.q, .int .i64 Gb.n, .slice pB Gb.es.length cB] 27) := ⟨_, rfl⟩
        rw [← hwC] at gB' kB xB' hsAB' hsB'
        have a0 := gB'.at 0 rfl; have a1 := gB'.at 1 rfl; have a2 := gB'.at 2 rfl
        have HWC' : Hid (wB.alloc (.cells #[.int .i64 Gb.q, .int .i64 Gb.n, .slice pB Gb.es.length cB] 27) = wC) := hwC.symm
        have HGc := hidI gB'
        have kB := hidI kB
        clear gB hsAB hbB xB hBB hsB hwC gA xA' hsA' hsBA HGA HGB gB'
        go_upto_region 9 with fail
        rw [HWC'.out]
        clear HWC'
        go_wp2_with fail
        refine (HAA.out wC pA cA hsAB'.out).mono ?_
        rintro e1 wD ⟨rfl, hBD⟩
        have xD := xB'.trans (hBD.mono xB'.size)
        have kD := kB.out.below hBD kB.out.lt
        have hsD := hsB'.out.below hBD
        have b0 := kD.at 0 rfl; have b1 := kD.at 1 rfl; have b2 := kD.at 2 rfl
        clear a0 a1 a2 xB' hBD kB kD hsB' hsAB' HGc
        go_wp2_with fail
        refine (HAB.out wD pB cB hsD).mono ?_
        rintro e1 wE ⟨rfl, hBE⟩
        have xE := xD.trans (hBE.mono xD.size)
        clear b0 b1 b2 xD hBE hsD
        cases y
        · cases x <;>
          · go_wp2_with fail
            refine (HAW.out wE xE).mono ?_
            rintro e1 wF ⟨rfl, hBF⟩
            have xF := xE.trans (hBF.mono xE.size)
            go_wp2
            go_ret
            exact ⟨rfl, xF⟩
        · have hx : x = true := HLAW.out.1 rfl
          have hz : z = false := HLAW.out.2 rfl
          subst hx; subst hz
          go_wp2_with fail
          refine (HCT.out wE xE).mono ?_
          rintro e1 wG ⟨rfl, hwG⟩
          have xG : RowKit.Below w.heap.size w wG := by rw [hwG]; exact xE
          clear hwG xE
          go_wp2_with fail
          refine (HAW.out wG xG).mono ?_
          rintro e1 wF ⟨rfl, hBF⟩
          have xF := xG.trans (hBF.mono xG.size)
          go_wp2
          go_ret
          exact ⟨rfl, xF⟩
      · have hkb : (k != 0) = true := by simpa using hk
        go_wp2_with fail
        refine (HAW.out w9 x9).mono ?_
        rintro e1 wA ⟨rfl, hBA⟩
        have xA := x9.trans (hBA.mono x9.size)
        go_wp2
        go_ret
        exact ⟨rfl, xA⟩
    · have hfb : (f != 0) = true := by simpa using hf
      clear hf
      go_wp2_with fail
      refine (HAW.out w8 x8).mono ?_
      rintro e1 wA ⟨rfl, hBA⟩
      have xA := x8.trans (hBA.mono x8.size)
      go_wp2
      go_ret
      exact ⟨rfl, xA⟩
  · have heb : (e != 0) = true := by simpa using he
    clear he
    go_wp2_with fail
    refine (HAW.out w8 x8).mono ?_
    rintro e1 wA ⟨rfl, hBA⟩
    have xA := x8.trans (hBA.mono x8.size)
    go_wp2
    go_ret
    exact ⟨rfl, xA⟩
end Go.Proofs.YthelgembcfdhdaaGreat
namespace Go.Proofs.YthelgembcfdhdaaGreat
open Go.RowKit Go.Sort Go.Shelf Go.Lib

set_option maxRecDepth 100000 in
set_option maxHeartbeats 4000000 in
theorem lawWords14_any (q : Int) (l : List ByteArray) (p : Option Addr) (c : Nat) (s : ByteArray) (w : World) (hin : Sl w Value.string p l) (hl : l.length ≤ 9223372036854775807) (hm : Mx w) :
    Calls Tryz.prog 5 #[.int .i64 q, .slice p l.length c, .string s] w fun e w' => e = .returned (.bool true) ∧ RowKit.Below w.heap.size w w' := by
  have HIN := hidI hin
  have HMX := hidI hm
  have HGR := hidI (rGreat14_any l p c w hin hl)
  have HAW := hidI (fun W (hW : RowKit.Below w.heap.size w W) => awake14_any W (hm.below hW))
  clear hin hm
  cases hg : gr14 l
  case true =>
    rw [hg] at HGR
    clear hg
    go_enter Tryz.func5, Tryz.ntmps5
    go_wp2_with fail
    refine HGR.out.mono ?_
    rintro e w1 ⟨rfl, hw⟩
    have hB : RowKit.Below w.heap.size w w1 := by rw [hw]; exact RowKit.Below.refl _ _
    clear hw
    go_wp2_with fail
    refine (HAW.out w1 hB).mono ?_
    rintro e w2 ⟨rfl, hB2⟩
    have hB3 := hB.trans (hB2.mono hB.size)
    go_wp2
    go_ret
    exact ⟨rfl, hB3⟩
  obtain ⟨hlen, hsz⟩ := gr14_f hg
  have HZ := hidI hsz
  have HG14 := hidI hg
  rw [hg] at HGR
  clear hg hsz
  by_cases h2 : 3 < q
  · go_enter Tryz.func5, Tryz.ntmps5
    go_wp2_with fail
    refine HGR.out.mono ?_
    rintro e w1 ⟨rfl, hw⟩
    have hB : RowKit.Below w.heap.size w w1 := by rw [hw]; exact RowKit.Below.refl _ _
    clear hw
    go_wp2_with fail
    refine (HAW.out w1 hB).mono ?_
    rintro e w2 ⟨rfl, hB2⟩
    have hB3 := hB.trans (hB2.mono hB.size)
    go_wp2
    go_ret
    exact ⟨rfl, hB3⟩
  by_cases h3 : 10 < s.size
  · have h3I : (10 : Int) < (s.size : Int) := by omega
    go_enter Tryz.func5, Tryz.ntmps5
    go_wp2_with fail
    refine HGR.out.mono ?_
    rintro e w1 ⟨rfl, hw⟩
    have hB : RowKit.Below w.heap.size w w1 := by rw [hw]; exact RowKit.Below.refl _ _
    clear hw
    go_wp2_with fail
    refine (HAW.out w1 hB).mono ?_
    rintro e w2 ⟨rfl, hB2⟩
    have hB3 := hB.trans (hB2.mono hB.size)
    go_wp2
    go_ret
    exact ⟨rfl, hB3⟩
  have h3I : ¬ (10 : Int) < (s.size : Int) := by omega
  have HCK := hidI (fun W (hW : RowKit.Below w.heap.size w W) => fCheck_any q l p c W (HIN.out.below hW) hl HZ.out)
  have HWC := hidI (fun W => wcheck_any q s W (by unfold maxLen; omega))
  have HLN := hidI (fun W (hW : RowKit.Below w.heap.size w W) => fLongest_any l p c W (HIN.out.below hW) hl)
  obtain ⟨k1, hk1⟩ : ∃ k, chkF q l = k := ⟨_, rfl⟩
  rw [hk1] at HCK
  have HK1 := hidI hk1
  obtain ⟨k2, hk2⟩ : ∃ k, wchk q s.data.toList = k := ⟨_, rfl⟩
  rw [hk2] at HWC
  have HK2 := hidI hk2
  obtain ⟨g, hgl⟩ : ∃ g, lngA l = g := ⟨_, rfl⟩
  have hg0 := lngA_bd l
  rw [hgl] at HLN hg0
  have HGL := hidI hgl
  clear hk1 hk2 hgl
  go_enter Tryz.func5, Tryz.ntmps5
  go_wp2_with fail
  refine HGR.out.mono ?_
  rintro e w1 ⟨rfl, hw⟩
  have x1 : RowKit.Below w.heap.size w w1 := by rw [hw]; exact RowKit.Below.refl _ _
  clear hw HGR
  go_wp2_with fail
  refine (HCK.out w1 x1).mono ?_
  rintro e w2 ⟨rfl, hB2⟩
  have x2 := x1.trans (hB2.mono x1.size)
  clear hB2 x1
  by_cases hk1 : k1 = 0
  case neg =>
    have hkb : (k1 != 0) = true := by simpa using hk1
    clear hk1
    go_wp2_with fail
    refine (HAW.out w2 x2).mono ?_
    rintro e w3 ⟨rfl, hB3⟩
    have x3 := x2.trans (hB3.mono x2.size)
    go_wp2
    go_ret
    exact ⟨rfl, x3⟩
  subst hk1
  go_wp2_with fail
  refine (HWC.out w2).mono ?_
  rintro e w3 ⟨rfl, hD3⟩
  have x3 := x2.trans (hD3.below _)
  clear x2 hD3
  by_cases hk2 : k2 = 0
  case neg =>
    have hkb : (k2 != 0) = true := by simpa using hk2
    clear hk2
    go_wp2_with fail
    refine (HAW.out w3 x3).mono ?_
    rintro e w4 ⟨rfl, hB4⟩
    have x4 := x3.trans (hB4.mono x3.size)
    go_wp2
    go_ret
    exact ⟨rfl, x4⟩
  subst hk2
  obtain ⟨n, hn⟩ : ∃ n : Nat, max 0 (g - 1) = (n : Int) := ⟨(max 0 (g - 1)).toNat, by omega⟩
  have hwr : IntKind.i64.wrap (g - 1) = g - 1 := by
    have hle : g ≤ 1000001 := by
      rw [← HGL.out]
      have : ∀ (l : List ByteArray), Sz l → ∀ n : Int, n ≤ 1000000 → l.foldl (fun n w => max n (w.size : Int)) n ≤ 1000000 := by
        intro l
        induction l with
        | nil => intro _ n h; exact h
        | cons a l ih => intro hz n h; exact ih (fun u hu => hz u (by simp [hu])) (max n (a.size : Int)) (by have := hz a (by simp); omega)
      have := this l HZ.out 0 (by omega)
      unfold lngA; omega
    rw [IntKind.wrap_i64]; omega
  have HNN := hidI hn
  go_wp2_with fail
  refine (HLN.out w3 x3).mono ?_
  rintro e w4 ⟨rfl, hw4⟩
  have x4 : RowKit.Below w.heap.size w w4 := by rw [hw4]; exact x3
  clear hw4 x3
  by_cases hn3 : 3 < n
  case pos =>
    have hnI : (3 : Int) < (n : Int) := by omega
    go_wp2_with fail
    refine (HAW.out w4 x4).mono ?_
    rintro e w5 ⟨rfl, hB5⟩
    have x5 := x4.trans (hB5.mono x4.size)
    go_wp2
    go_ret
    exact ⟨rfl, x5⟩
  have hnI : ¬ (3 : Int) < (n : Int) := by omega
  by_cases hns : s.size < n
  case pos =>
    have hsI : (s.size : Int) < (n : Int) := by omega
    go_wp2_with fail
    refine (HAW.out w4 x4).mono ?_
    rintro e w5 ⟨rfl, hB5⟩
    have x5 := x4.trans (hB5.mono x4.size)
    go_wp2
    go_ret
    exact ⟨rfl, x5⟩
  have hsI : ¬ (s.size : Int) < (n : Int) := by omega
  obtain ⟨hq1, hq2, hl64, hone⟩ := chkF_ok HK1.out
  obtain ⟨qn, rfl⟩ := Int.eq_ofNat_of_zero_le (show 0 ≤ q by omega)
  have hz4 : ∀ u ∈ l, u.size ≤ n + 1 := fun u hu => by
    have := lng_ge hu
    have h1 := HGL.out; have h2 := HNN.out
    rw [h1] at this; omega
  have hsl : (stA l).length ≤ 64 := by
    have h4 := stA_len (l := l) (n := 4) (fun u hu => by have := hz4 u hu; omega)
    have h6 : l.length ≤ 6 := by
      have := HG14.out
      unfold gr14 at this
      simp only [Bool.or_eq_false_iff, Bool.and_eq_false_iff, decide_eq_false_iff_not] at this
      omega
    omega
  have hkk : Chg.wchk (qn : Int) s.data.toList = 0 := HK2.out
  have hok : Chg.okw (qn : Int) (bl s) = true := wchk_okw hkk
  have HLAW := hidI (words_law HK1.out (by omega) (by omega) hz4 hsl hok (by omega))
  obtain ⟨G, hG, hv, hqG, hq16, _⟩ := graph_fine HK1.out hsl
  rw [hG] at HLAW
  have HGA := hidI (fun W (hW : RowKit.Below w.heap.size w W) => fGraph_any (qn : Int) l p c W (HIN.out.below hW) hl HZ.out (HMX.out.below hW))
  rw [hG] at HGA
  have HAC := hidI (fun W pp cc (hs : Sg 3 W edE pp G.es) => lAccepts_any G pp cc s W hs hv (by rw [hqG]; exact hq16) (by unfold maxLen; omega) (by rw [hqG]; exact hkk) (by omega))
  have HAL := hidI (fun W (hW : RowKit.Below w.heap.size w W) => fAllowed_any (qn : Int) l p c s W (HIN.out.below hW) hl HZ.out (HMX.out.below hW) (by omega))
  rw [show alwR (qn : Int) l s = (alwA l s, 0) by unfold alwR; rw [HK1.out, if_neg (by simp), HK2.out, if_neg (by simp)]] at HAL
  have HE1 := hidI (fun W (hW : RowKit.Below w.heap.size w W) => extends_any qn l p c s n true W (HIN.out.below hW) hl (HMX.out.below hW) (by omega) (by omega) (by omega) hok (by omega))
  have HE2 := hidI (fun W (hW : RowKit.Below w.heap.size w W) => extends_any qn l p c s n false W (HIN.out.below hW) hl (HMX.out.below hW) (by omega) (by omega) (by omega) hok (by omega))
  simp only at HLAW
  generalize accA G s = x at *
  generalize alwA l s = al at *
  generalize extA qn l true n s = e1 at *
  generalize extA qn l false n s = e2 at *
  clear hone hok hkk hG hv hsl hz4 hg0 hqG hq16
  go_wp2_with fail
  refine (HGA.out w4 x4).mono ?_
  rintro e w5 ⟨p5, m5, c5, rfl, hm5, hs5, hB5⟩
  replace hm5 : m5 = G.es.length := hm5
  subst hm5
  have x5 := x4.trans (hB5.mono x4.size)
  have hb5 := (RowKit.Below.refl w5.heap.size w5).alloc (Nat.le_refl _) (.cells #[.int .i64 G.q, .int .i64 G.n, .slice p5 G.es.length c5] 27)
  have g6 : VRow (w5.alloc (.cells #[.int .i64 G.q, .int .i64 G.n, .slice p5 G.es.length c5] 27)) w5.heap.size 27 [.int .i64 G.q, .int .i64 G.n, .slice p5 G.es.length c5] := VRow.new w5 _ _
  have x6 := x5.alloc x5.size (.cells #[.int .i64 G.q, .int .i64 G.n, .slice p5 G.es.length c5] 27)
  have hs6 := hidI (Sg.below hs5 hb5)
  have a0 := g6.at 0 rfl; have a1 := g6.at 1 rfl; have a2 := g6.at 2 rfl
  clear x4 hB5 hs5 x5 hb5 g6
  go_wp2_with fail
  refine (HAC.out _ p5 c5 hs6.out).mono ?_
  rintro e w7 ⟨rfl, hB7⟩
  have x7 := x6.trans (hB7.mono x6.size)
  clear a0 a1 a2 x6 hs6 hB7
  go_wp2_with fail
  refine (HAL.out w7 x7).mono ?_
  rintro e w8 ⟨rfl, hB8⟩
  have x8 := x7.trans (hB8.mono x7.size)
  clear x7 hB8
  cases al
  · have hx : x = false := HLAW.out
    subst hx
    go_wp2_with fail
    refine (HAW.out w8 x8).mono ?_
    rintro e wA ⟨rfl, hBA⟩
    have xA := x8.trans (hBA.mono x8.size)
    go_wp2
    go_ret
    exact ⟨rfl, xA⟩
  · go_wp2_with fail
    refine (HE1.out w8 x8).mono ?_
    rintro e w9 ⟨rfl, hB9⟩
    have x9 := x8.trans (hB9.mono x8.size)
    clear x8 hB9
    cases e1
    · have hx : x = false := HLAW.out
      subst hx
      go_wp2_with fail
      refine (HAW.out w9 x9).mono ?_
      rintro e wA ⟨rfl, hBA⟩
      have xA := x9.trans (hBA.mono x9.size)
      go_wp2
      go_ret
      exact ⟨rfl, xA⟩
    · have hx : x = e2 := HLAW.out
      subst hx
      go_wp2_with fail
      refine (HE2.out w9 x9).mono ?_
      rintro e wB ⟨rfl, hBB⟩
      have xB := x9.trans (hBB.mono x9.size)
      clear x9 hBB
      go_wp2_with fail
      refine (HAW.out wB xB).mono ?_
      rintro e wA ⟨rfl, hBA⟩
      have xA := xB.trans (hBA.mono xB.size)
      go_wp2
      go_ret
      exact ⟨rfl, xA⟩
end Go.Proofs.YthelgembcfdhdaaGreat
namespace Go.Proofs.YthelgembcfdhdaaGreat
open Go.ChangeShapes Go.WideShapes Go.ChangeAt Go.RowKit
open Go.ChangeMaps (open_string shut_string)

set_option maxRecDepth 100000 in
theorem words14_lifted (os : Os) (started : os.Started) (H : Type) (enc : TypeId × Value → H) :
    ReturnsInHanded {} Tryz.checked os 5 .any (Rows.forbiddenWordsSpec.pre6 enc Tryz.prog Tryz.f5 Rows.forbiddenWordsRow.domain false) (Rows.forbiddenWordsSpec.post enc Tryz.prog Tryz.f5 false true false false) := by
  refine returnsInHanded_of_change_shaped (C := Tryz.checked) own started (by kernel_rfl) Tryz.func5
    (ChangeSpec.witness6 (enc := enc) (C := Tryz.checked) false ⟨#[], #[.int .i64 0, .slice none 0 0, .string ⟨#[]⟩], []⟩ 8 (by kernel_rfl) (by kernel_rfl) (by kernel_rfl) (by kernel_rfl)) ?_
  intro W base args ds gs before hval0 hW hcnd _ hsh _
  have hval : ∀ (j : Nat) t v, Tryz.f5.params[j]? = some t → args[j]? = some v → Value.okWide Tryz.prog W .any base t v := hval0
  have hW' := hW
  obtain ⟨p, q, hA0, hV, rfl, hfz, hnd⟩ := hW
  have hA : DataW.TrodAll enc Tryz.prog W 0 (fun _ => true) true Tryz.f5.params.toList args.toList ds p := hA0
  rw [Tryz.params5] at hA hval
  obtain ⟨v0, v1, v2, d0, d1, d2, p0, p1, p2, rfl, rfl, rfl, h0, h1, h2⟩ := trodAll_three hA
  obtain ⟨rfl, rfl⟩ := trodVars_none hV
  have hlt : ∀ x ∈ p0 ++ (p1 ++ p2), x.block < W.heap.size := fun x hx => hW'.lt x (List.mem_append_left _ (by simpa using hx))
  obtain ⟨x, rfl, rfl, rfl, wx⟩ := open_int Tryz.underlying3 (hval 0 3 v0 rfl rfl) h0
  obtain ⟨pa, l, c, rfl, hsl, hz, hl⟩ := strings_in (hval 1 22 v1 rfl rfl) h1 (fun x hx => hlt x (List.mem_append_right _ (List.mem_append_left _ hx)))
  obtain ⟨a1, rfl, rfl, rfl, w1⟩ := open_string Tryz.underlying9 (hval 2 9 v2 rfl rfl) h2
  have hmx : Mx W := Tryz.laysM144.s1_3 W hsh
  refine (lawWords14_any x l pa c a1 W hsl hl hmx).mono fun e W' ⟨he, hB⟩ => ?_
  subst he
  refine ⟨_, rfl, law_post hW' rfl (by kernel_rfl) ?_ rfl rfl rfl hB⟩
  rw [Tryz.params5]
  intro t ht
  simp only [List.mem_cons, List.not_mem_nil, or_false] at ht
  rcases ht with rfl | rfl | rfl
  · exact readIntS
  · exact readStrings
  · exact readString1

theorem forbiddenWords_holds : Rows.ForbiddenWordsSaid :=
  OpenClaim.holds_of_wide 5 Tryz.f5 rfl rfl rfl rfl rfl rfl rfl ⟨rfl, rfl, rfl, rfl, rfl⟩ rfl rfl rfl rfl rfl (by kernel_rfl) Tryz.func5 (by kernel_rfl)
    (of_decide_eq_true (by kernel_rfl)) (by unfold Func.isWrapper; rw [if_neg (of_decide_eq_false (by kernel_rfl))]; exact ⟨rfl, rfl⟩)
    (fun os started H enc _ => words14_lifted os started H enc)
#print axioms forbiddenWords_holds
end Go.Proofs.YthelgembcfdhdaaGreat
namespace Go.Proofs.YthelgembcfdhdaaGreat
open Go.ChangeShapes Go.WideShapes Go.ChangeAt Go.RowKit
open Go.ChangeMaps (open_string shut_string)

set_option maxRecDepth 100000 in
theorem more_lifted (os : Os) (started : os.Started) (H : Type) (enc : TypeId × Value → H) :
    ReturnsInHanded {} Tryz.checked os 4 .any (Rows.forbiddenMoreSpec.pre6 enc Tryz.prog Tryz.f4 Rows.forbiddenMoreRow.domain false) (Rows.forbiddenMoreSpec.post enc Tryz.prog Tryz.f4 false true false false) := by
  refine returnsInHanded_of_change_shaped (C := Tryz.checked) own started (by kernel_rfl) Tryz.func4
    (ChangeSpec.witness6 (enc := enc) (C := Tryz.checked) false ⟨#[], #[.int .i64 0, .slice none 0 0, .string ⟨#[]⟩, .string ⟨#[]⟩], []⟩ 8 (by kernel_rfl) (by kernel_rfl) (by kernel_rfl) (by kernel_rfl)) ?_
  intro W base args ds gs before hval0 hW hcnd _ hsh _
  have hval : ∀ (j : Nat) t v, Tryz.f4.params[j]? = some t → args[j]? = some v → Value.okWide Tryz.prog W .any base t v := hval0
  have hW' := hW
  obtain ⟨p, q, hA0, hV, rfl, hfz, hnd⟩ := hW
  have hA : DataW.TrodAll enc Tryz.prog W 0 (fun _ => true) true Tryz.f4.params.toList args.toList ds p := hA0
  rw [Tryz.params4] at hA hval
  obtain ⟨v0, v1, v2, v3, d0, d1, d2, d3, p0, p1, p2, p3, rfl, rfl, rfl, h0, h1, h2, h3⟩ := trodAll_four hA
  obtain ⟨rfl, rfl⟩ := trodVars_none hV
  have hlt : ∀ x ∈ p0 ++ (p1 ++ (p2 ++ p3)), x.block < W.heap.size := fun x hx => hW'.lt x (List.mem_append_left _ (by simpa using hx))
  obtain ⟨x, rfl, rfl, rfl, wx⟩ := open_int Tryz.underlying3 (hval 0 3 v0 rfl rfl) h0
  obtain ⟨pa, l, c, rfl, hsl, hz, hl⟩ := strings_in (hval 1 22 v1 rfl rfl) h1 (fun x hx => hlt x (List.mem_append_right _ (List.mem_append_left _ hx)))
  obtain ⟨a1, rfl, rfl, rfl, w1⟩ := open_string Tryz.underlying9 (hval 2 9 v2 rfl rfl) h2
  obtain ⟨a2, rfl, rfl, rfl, w2⟩ := open_string Tryz.underlying9 (hval 3 9 v3 rfl rfl) h3
  have hmx : Mx W := Tryz.laysM144.s1_3 W hsh
  refine (lawMore_any x l pa c a1 a2 W hsl hl w1 hmx).mono fun e W' ⟨he, hB⟩ => ?_
  subst he
  refine ⟨_, rfl, law_post hW' rfl (by kernel_rfl) ?_ rfl rfl rfl hB⟩
  rw [Tryz.params4]
  intro t ht
  simp only [List.mem_cons, List.not_mem_nil, or_false] at ht
  rcases ht with rfl | rfl | rfl | rfl
  · exact readIntS
  · exact readStrings
  · exact readString1
  · exact readString1

theorem forbiddenMore_holds : Rows.ForbiddenMoreSaid :=
  OpenClaim.holds_of_wide 4 Tryz.f4 rfl rfl rfl rfl rfl rfl rfl ⟨rfl, rfl, rfl, rfl, rfl⟩ rfl rfl rfl rfl rfl (by kernel_rfl) Tryz.func4 (by kernel_rfl)
    (of_decide_eq_true (by kernel_rfl)) (by unfold Func.isWrapper; rw [if_neg (of_decide_eq_false (by kernel_rfl))]; exact ⟨rfl, rfl⟩)
    (fun os started H enc _ => more_lifted os started H enc)
#print axioms forbiddenMore_holds
end Go.Proofs.YthelgembcfdhdaaGreat
namespace Go.Proofs.YthelgembcfdhdaaGreat
end Go.Proofs.YthelgembcfdhdaaGreat
