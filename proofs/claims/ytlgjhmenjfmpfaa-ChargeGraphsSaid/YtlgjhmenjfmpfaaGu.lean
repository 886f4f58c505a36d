/-
  Walks: the edges that leave a state, of the reference (door seat).
-/
import Derived.Test.YtlgjhmenjfmpfaaGk
import Derived.Test.YtlgjhmenjfmpfaaGp
namespace Go.Proofs.Ytlgjhmenjfmpfaa
open Go.RowKit Go.Sort Go.Shelf Go.Lib

theorem infoIn : (Try.prog.info? 3).map (fun i => (i.zero, i.size, i.bytes)) = some (some (.int .i64 0), 1, 8) := by kernel_rfl
/-- Where edges that leave a state stand, among the first k. -/
def outI (es : List Ed) (s : Int) (k : Nat) : List Int := ((List.range k).filter (fun i => decide (es[i]?.map Ed.f = some s))).map (fun (i : Nat) => (i : Int))
theorem outI_zero (es : List Ed) (s : Int) : outI es s 0 = [] := rfl
theorem outI_succ {es : List Ed} {s : Int} {k : Nat} (h : k < es.length) : outI es s (k + 1) = outI es s k ++ (if es[k].f = s then [(k : Int)] else []) := by
  unfold outI
  rw [List.range_succ, List.filter_append, List.map_append]
  congr 1
  by_cases hs : es[k].f = s <;> simp [h, hs]
theorem outI_len (es : List Ed) (s : Int) (k : Nat) : (outI es s k).length ≤ k := by
  unfold outI
  rw [List.length_map]
  exact Nat.le_trans (List.length_filter_le _ _) (by simp)
/-- Where edges that leave a state stand, and the error. -/
def outA (G : Gr) (s : Int) : List Int × Int := if chkG G = 0 then (if s < 0 ∨ G.n ≤ s then ([], 25) else (outI G.es s G.es.length, 0)) else ([], 1)
/-- A list of numbers in memory of the call's own, and an error. -/
def RetLi (r : List Int) (k : Int) (w : World) (e : Ending) (w' : World) : Prop := ∃ p m c, e = .returned (.tuple #[.slice p m c, .int .i64 k]) ∧ w'.ownsRow w.heap.size 3 1 (.slice p m c) r.length (r.map (Value.int .i64)) ∧ RowKit.Below w.heap.size w w'
theorem RetLi.of {x : List Int × Int} {r : List Int} {k : Int} {w w' : World} {B m : Nat} {v : Value} (hx : x = (r, k)) (h : w'.ownsRow B 3 1 v r.length (r.map (Value.int .i64))) (hm : w.heap.size ≤ B) (hB : RowKit.Below w.heap.size w w') :
    RetLi x.1 x.2 w (.returned (.tuple #[v, .int .i64 k])) w' := by
  subst hx
  obtain ⟨p, c, rfl, _⟩ := own_sl h
  exact ⟨p, _, c, rfl, ⟨h.1, h.2.imp id (fun ⟨g, cap, cur, a, b, z⟩ => ⟨g, cap, cur, a, Nat.le_trans hm b, z⟩)⟩, hB⟩
theorem RetLi.nil {x : List Int × Int} {k : Int} {w w' : World} (hx : x = ([], k)) (hB : RowKit.Below w.heap.size w w') :
    RetLi x.1 x.2 w (.returned (.tuple #[.slice none 0 0, .int .i64 k])) w' := by
  subst hx; exact ⟨none, 0, 0, rfl, World.ownsRow_nil _ _ _ _, hB⟩

end Go.Proofs.Ytlgjhmenjfmpfaa
