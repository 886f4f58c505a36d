/-
  Plain lemmas: lists of numbers in order, and the states that a step reaches. Nothing here speaks of a program.
-/
import Derived.Test.YtlgjhmenjfmpfaaGy
namespace Go.Proofs.Ytlgjhmenjfmpfaa
open Go.RowKit

theorem srt_unique : ∀ {a b : List Int}, a.Pairwise (· < ·) → b.Pairwise (· < ·) → (∀ x, x ∈ a ↔ x ∈ b) → a = b
  | [], [], _, _, _ => rfl
  | [], y :: b, _, _, h => absurd ((h y).2 List.mem_cons_self) (by simp)
  | x :: a, [], _, _, h => absurd ((h x).1 List.mem_cons_self) (by simp)
  | x :: a, y :: b, ha, hb, h => by
    obtain ⟨ha1, ha2⟩ := List.pairwise_cons.1 ha
    obtain ⟨hb1, hb2⟩ := List.pairwise_cons.1 hb
    have e : x = y := by
      rcases List.mem_cons.1 ((h x).1 List.mem_cons_self) with e | hx
      · exact e
      · rcases List.mem_cons.1 ((h y).2 List.mem_cons_self) with e | hy
        · exact e.symm
        · have := ha1 y hy; have := hb1 x hx; omega
    subst e
    rw [srt_unique ha2 hb2 (fun z => ?_)]
    constructor
    · intro hz
      rcases List.mem_cons.1 ((h z).1 (List.mem_cons_of_mem _ hz)) with e | hz'
      · subst e; have := ha1 z hz; omega
      · exact hz'
    · intro hz
      rcases List.mem_cons.1 ((h z).2 (List.mem_cons_of_mem _ hz)) with e | hz'
      · subst e; have := hb1 z hz; omega
      · exact hz'
theorem mem_upto {n : Nat} {x : Int} : x ∈ upto n ↔ 0 ≤ x ∧ x < n := by
  unfold upto
  rw [List.mem_map]
  constructor
  · rintro ⟨i, hi, rfl⟩
    rw [List.mem_range] at hi
    omega
  · intro h
    exact ⟨x.toNat, by rw [List.mem_range]; omega, by omega⟩
theorem nextA_srt (G : Gr) (st : List Int) (b : Int) : (nextA G st b).Pairwise (· < ·) := (upto_srt _).filter _
theorem mem_nextA {G : Gr} {st : List Int} {b t : Int} (hv : Vg G) : t ∈ nextA G st b ↔ ∃ x ∈ G.es, x.t = t ∧ x.l = b ∧ x.f ∈ st := by
  unfold nextA nxP
  rw [List.mem_filter, mem_upto, List.any_eq_true]
  constructor
  · rintro ⟨_, x, hx, h⟩
    simp only [nxE, Bool.and_eq_true, decide_eq_true_eq] at h
    exact ⟨x, hx, h⟩
  · rintro ⟨x, hx, rfl, h1, h2⟩
    have := hv.ins x hx
    have := hv.n1
    exact ⟨⟨by omega, by omega⟩, x, hx, by simp [nxE, h1, h2]⟩
/-- What a step collects: for each state of the set, the ends of its edges with the label. -/
def stepL (es : List Ed) (st : List Int) (b : Int) : List Int := st.flatMap (fun s => (es.filter (fun x => decide (x.f = s) && decide (x.l = b))).map Ed.t)
theorem mem_stepL {es : List Ed} {st : List Int} {b t : Int} : t ∈ stepL es st b ↔ ∃ x ∈ es, x.t = t ∧ x.l = b ∧ x.f ∈ st := by
  unfold stepL
  rw [List.mem_flatMap]
  constructor
  · rintro ⟨s, hs, h⟩
    obtain ⟨x, hx, rfl⟩ := List.mem_map.1 h
    obtain ⟨hx, h⟩ := List.mem_filter.1 hx
    simp only [Bool.and_eq_true, decide_eq_true_eq] at h
    exact ⟨x, hx, rfl, h.2, h.1 ▸ hs⟩
  · rintro ⟨x, hx, rfl, h1, h2⟩
    exact ⟨x.f, h2, List.mem_map.2 ⟨x, List.mem_filter.2 ⟨hx, by simp [h1]⟩, rfl⟩⟩
/-- A list in order, each once, with the members that a step collects, is what the reference finds. -/
theorem step_law {G : Gr} {st l : List Int} {b : Int} (hv : Vg G) (hs : l.Pairwise (· < ·)) (hm : ∀ x, x ∈ l ↔ x ∈ stepL G.es st b) : l = nextA G st b :=
  srt_unique hs (nextA_srt G st b) (fun x => by rw [hm, mem_stepL, mem_nextA hv])
end Go.Proofs.Ytlgjhmenjfmpfaa
