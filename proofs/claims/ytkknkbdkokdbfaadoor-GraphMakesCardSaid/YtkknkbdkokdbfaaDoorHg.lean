/-
  Walks: the graph of the example (door seat).
-/
import Derived.Test.YtkknkbdkokdbfaaDoorGm
namespace Go.Proofs.YtkknkbdkokdbfaaDoor
open Go.RowKit Go.Sort Go.Shelf Go.Lib

def goldG : Gr := ⟨2, 2, [⟨0, 0, 0⟩, ⟨0, 1, 1⟩, ⟨1, 0, 0⟩]⟩
set_option maxRecDepth 100000 in
set_option maxHeartbeats 1000000 in
theorem golden_any (w : World) : Calls Tryd.prog 36 #[] w (RetG goldG w) := by
  go_enter Tryd.func36, Tryd.ntmps36
  go_wp2
  have b1 : VRow ((w.alloc (.cells #[.int .i64 2, .int .i64 2, .slice (some ⟨w.heap.size + 1, 0, none⟩) 3 3] 24)).alloc (.cells #[.int .i64 0, .int .i64 0, .int .i64 0, .int .i64 0, .int .i64 1, .int .i64 1, .int .i64 1, .int .i64 0, .int .i64 0] 34)) w.heap.size 24 [.int .i64 2, .int .i64 2, .slice (some ⟨w.heap.size + 1, 0, none⟩) 3 3] := (VRow.new w _ _).alloc _
  have y0 := b1.at 0 rfl; have y1 := b1.at 1 rfl; have y2 := b1.at 2 rfl
  have hown : ((w.alloc (.cells #[.int .i64 2, .int .i64 2, .slice (some ⟨w.heap.size + 1, 0, none⟩) 3 3] 24)).alloc (.cells (cat goldG.es).toArray 34)).ownsRow (w.heap.size + 1) 34 3 (.slice (some ⟨w.heap.size + 1, 0, none⟩) 3 3) 3 (cat goldG.es) :=
    ⟨rfl, .inr ⟨w.heap.size + 1, 3, (cat goldG.es).toArray, rfl, Nat.le_refl _, heap_new1 w _ _, Nat.le_refl _, by simp [maxLen], rfl, rfl⟩⟩
  have x1 : RowKit.Below w.heap.size w ((w.alloc (.cells #[.int .i64 2, .int .i64 2, .slice (some ⟨w.heap.size + 1, 0, none⟩) 3 3] 24)).alloc (.cells (cat goldG.es).toArray 34)) := ((RowKit.Below.refl _ _).alloc (Nat.le_refl _) _).alloc (by simp) _
  refine bodyPost_ret (v := .agg #[.int .i64 2, .int .i64 2, .slice (some ⟨w.heap.size + 1, 0, none⟩) 3 3]) (by simp [results, Tryd.results36, go_sem, y0, y1, y2]) rfl ?_
  exact ⟨_, _, _, rfl, own_conv hown rfl (by omega), x1⟩
end Go.Proofs.YtkknkbdkokdbfaaDoor
