/-
  Walks: whether a list has an edge, or one that a function names (door seat).
-/
import Derived.Test.YtkknkbdkokdbfaaDoorGd
import Derived.Test.YtkknkbdkokdbfaaDoorShelfR
namespace Go.Proofs.YtkknkbdkokdbfaaDoor
open Go.RowKit Go.Sort Go.Shelf Go.Lib

theorem sg_bang {w : World} {b off : Nat} {l : List Ed} (hc : ∀ i (h : i < l.length) j, j < 3 → w.cell? ⟨b, off + i * 3 + j, none⟩ = (edE l[i])[j]?) :
    ∀ j, j < l.length → ∀ i v, (edE l[j]!)[i]? = some v → w.cell? ⟨b, off + j * 3 + i, none⟩ = some v := fun j hj i v hv => by
  rw [getElem!_pos l j hj] at hv
  have hi : i < 3 := by
    have := (List.getElem?_eq_some_iff.1 hv).1
    simpa [edE] using this
  rw [hc j hj i hi, hv]
theorem containsE_any (l : List Ed) (p : Option Addr) (c : Nat) (x : Ed) (w : World) (hl : Sg 3 w edE p l) (h0 : 0 < l.length) (hb : l.length ≤ 100000) :
    Calls Tryd.prog 18 #[.slice p l.length c, .agg #[.int .i64 x.f, .int .i64 x.l, .int .i64 x.t]] w fun e w' => e = .returned (.bool (decide (x ∈ l))) ∧ RowKit.Below w.heap.size w w' := by
  obtain ⟨b, off, rfl, _, hc⟩ := hl.get 0 h0
  have h := AnyQ.slices_Contains Tryd.layContainsE 3 isAggE sizeOfE edE (fun _ => rfl) (fun a b => decide (a = b)) ⟨eqlE, GuardAt.agg (fun x => (edE x).toArray) (by kernel_rfl)⟩ b off l.length c l x w (Nat.le_refl _) (by omega) (sg_bang hc)
  refine Calls.mono h ?_
  rintro e w' ⟨rfl, hB⟩
  rw [List.take_length]
  refine ⟨?_, hB⟩
  congr 2
  rw [Bool.eq_iff_iff, List.any_eq_true, decide_eq_true_eq]
  constructor
  · rintro ⟨y, hy, e⟩; rw [of_decide_eq_true e]; exact hy
  · intro h; exact ⟨x, h, decide_eq_true rfl⟩
theorem containsFE_any (f : Ed → Bool) (g : Nat) (lb : Array Value) (eg : ∀ args w, (callFunc g args).run Tryd.prog w = .ok (.enter g args) w) (l : List Ed) (p : Option Addr) (c : Nat) (w : World)
    (hp : ∀ (W : World) (x : Ed), RowKit.Below w.heap.size w W → Calls Tryd.prog g (#[.agg #[.int .i64 x.f, .int .i64 x.l, .int .i64 x.t]] ++ lb) W fun e w' => e = .returned (.bool (f x)) ∧ RowKit.Below w.heap.size w w')
    (hl : Sg 3 w edE p l) (h0 : 0 < l.length) (hb : l.length ≤ 100000) :
    Calls Tryd.prog 33 #[.slice p l.length c, .func (.func g) #[] lb] w fun e w' => e = .returned (.bool (l.any f)) ∧ RowKit.Below w.heap.size w w' := by
  obtain ⟨b, off, rfl, hlt, hc⟩ := hl.get 0 h0
  have h := AnyQ.slices_ContainsFunc Tryd.layContainsFE 3 isAggE sizeOfE edE (fun _ => rfl) f g lb eg b off l.length c l w hp (Nat.le_refl _) (by omega) hlt (sg_bang hc)
  rw [List.take_length] at h
  exact h
end Go.Proofs.YtkknkbdkokdbfaaDoor
