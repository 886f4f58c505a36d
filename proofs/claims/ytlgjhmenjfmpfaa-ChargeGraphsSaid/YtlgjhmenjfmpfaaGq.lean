/-
  Plain definitions and lemmas: the states of the essential part. Nothing here speaks of a program.
-/
import Derived.Test.YtlgjhmenjfmpfaaGp
namespace Go.Proofs.Ytlgjhmenjfmpfaa
open Go.RowKit

def cmsE (es : List Ed) (st : List Int) (s : Int) : Bool := es.any (fun x => decide (x.t = s) && decide (x.f ∈ st))
def goesE (es : List Ed) (st : List Int) (s : Int) : Bool := es.any (fun x => decide (x.f = s) && decide (x.t ∈ st))
/-- One round: states with an edge to them and one from them. -/
def essP (es : List Ed) (st : List Int) (s : Int) : Bool := cmsE es st s && goesE es st s
def essS (es : List Ed) (st : List Int) : List Int := st.filter (essP es st)
theorem essS_le (es : List Ed) (st : List Int) : (essS es st).length ≤ st.length := List.length_filter_le _ _
/-- The states of the essential part. -/
def ess (es : List Ed) (st : List Int) : List Int := if (essS es st).length = st.length then st else ess es (essS es st)
termination_by st.length
decreasing_by
  have := essS_le es st; omega
theorem ess_stop {es : List Ed} {st : List Int} (h : (essS es st).length = st.length) : ess es st = st := by rw [ess, if_pos h]
theorem ess_go {es : List Ed} {st : List Int} (h : ¬ (essS es st).length = st.length) : ess es st = ess es (essS es st) := by rw [ess, if_neg h]
theorem filter_all {p : Int → Bool} : ∀ {l : List Int}, (l.filter p).length = l.length → l.filter p = l := by
  intro l h
  exact List.filter_eq_self.2 (by
    intro a ha
    have := List.length_filter_eq_length_iff.1 h
    exact this a ha)
theorem essS_eq {es : List Ed} {st : List Int} (h : (essS es st).length = st.length) : essS es st = st := filter_all h
theorem essS_srt {es : List Ed} {st : List Int} (h : st.Pairwise (· < ·)) : (essS es st).Pairwise (· < ·) := h.filter _
theorem filter_snoc (p : Int → Bool) (l : List Int) (k : Nat) (h : k < l.length) : (l.take (k + 1)).filter p = (l.take k).filter p ++ (if p l[k] = true then [l[k]] else []) := by
  rw [List.take_succ_eq_append_getElem h, List.filter_append]
  congr 1
  cases hp : p l[k] <;> simp [hp]
theorem any_snoc {α : Type} (p : α → Bool) (l : List α) (k : Nat) (h : k < l.length) : (l.take (k + 1)).any p = ((l.take k).any p || p l[k]) := by
  rw [List.take_succ_eq_append_getElem h, List.any_append]; simp
/-- The numbers below n. -/
def upto (n : Nat) : List Int := (List.range n).map (fun (i : Nat) => (i : Int))
theorem upto_succ (n : Nat) : upto (n + 1) = upto n ++ [(n : Int)] := by simp [upto, List.range_succ]
theorem upto_len (n : Nat) : (upto n).length = n := by simp [upto]
theorem upto_srt (n : Nat) : (upto n).Pairwise (· < ·) := by
  induction n with
  | zero => simp [upto]
  | succ n ih =>
    rw [upto_succ, List.pairwise_append]
    refine ⟨ih, by simp, fun a ha b hb => ?_⟩
    simp only [List.mem_singleton] at hb
    subst hb
    simp only [upto, List.mem_map, List.mem_range] at ha
    obtain ⟨i, hi, rfl⟩ := ha
    omega
/-- The essential part, its states, and the error. -/
def essA (G : Gr) : Gr × List Int × Int := if chkG G = 0 then (partA G (ess G.es (upto G.n.toNat)), ess G.es (upto G.n.toNat), 0) else (⟨0, 0, []⟩, [], 1)
theorem essA_ok {G : Gr} (h : chkG G = 0) : essA G = (partA G (ess G.es (upto G.n.toNat)), ess G.es (upto G.n.toNat), 0) := if_pos h
theorem essA_bad {G : Gr} (h : ¬ chkG G = 0) : essA G = (⟨0, 0, []⟩, [], 1) := if_neg h
end Go.Proofs.Ytlgjhmenjfmpfaa
