/-
  Walks: the graph with all edges turned around (door seat).
-/
import Derived.Test.YtlgjhmenjfmpfaaGw
namespace Go.Proofs.Ytlgjhmenjfmpfaa
open Go.RowKit Go.Sort Go.Shelf Go.Lib

def rvE (x : Ed) : Ed := ⟨x.t, x.l, x.f⟩
/-- The graph with all edges turned around, and the error. -/
def revA (G : Gr) : Gr × Int := if chkG G = 0 then makeA G.q G.n (G.es.map rvE) else (⟨0, 0, []⟩, 1)
theorem rv_snoc (l : List Ed) (k : Nat) (h : k < l.length) : (l.take (k + 1)).map rvE = (l.take k).map rvE ++ [⟨l[k].t, l[k].l, l[k].f⟩] := by
  rw [List.take_succ_eq_append_getElem h, List.map_append]; rfl
theorem sg_len {w : World} {p : Option Addr} {l : List Ed} {B e n : Nat} {p' : Option Addr} {m c : Nat} (h : w.ownsRow B e 3 (.slice p m c) n (cat l)) : m = l.length ∧ Sg 3 w edE p l := by
  obtain ⟨q, d, hv, hs, _, _⟩ := own_sg h
  cases hv
  exact ⟨rfl, hs⟩

end Go.Proofs.Ytlgjhmenjfmpfaa
