/-
  Words, plain lemmas and walks, merged: Rj, Rh, Vb, Vc, Sr, Vf, Vg.
-/
import Derived.Test.YtjpilmedlecdhaaGreatDoorZem
import Derived.Test.YtjpilmedlecdhaaGreatDoorZeg
import Derived.Test.YtjpilmedlecdhaaGreatDoorZee
import Derived.Test.YtjpilmedlecdhaaGreatDoorZek
import Derived.Test.YtjpilmedlecdhaaGreatDoorZeh
import Derived.Test.YtjpilmedlecdhaaGreatDoorZef
import Derived.Test.YtjpilmedlecdhaaGreatDoorZei
import Derived.Deep.RegionHeld3
set_option linter.unusedVariables false
set_option linter.unusedSimpArgs false
namespace Go.Proofs.YtjpilmedlecdhaaGreatDoor
open Go.RowKit Go.Sort Go.Shelf Go.Lib

section
variable {P : Program} {ops : Array Oper} {Q : Exit → Act → World → Prop}
theorem getD_set {l : Array Bool} {i j : Nat} (h : l.getD j false = true) : (l.setIfInBounds i true).getD j false = true := by
  by_cases hj : j < l.size
  · by_cases e : i = j
    · subst e; simp [Array.getD, hj]
    · simp [Array.getD, hj] at h
      simp [Array.getD, hj, e, h]
  · simp [Array.getD, hj] at h
theorem rdy_mono {md : Region.Mode} {l : Array Bool} {i j : Nat} (h : rdyAt md ops l j = true) : rdyAt md ops (l.setIfInBounds i true) j = true := by
  unfold rdyAt at h ⊢
  cases ho : ops[j]? with
  | none => rw [ho] at h; simp at h
  | some o =>
    rw [ho] at h
    simp only [Option.map_some, Option.getD_some, Array.all_eq_true] at h ⊢
    intro k hk
    have h1 := h k hk
    rw [Bool.or_eq_true] at h1 ⊢
    exact h1.imp id getD_set
/-- A drawn region, by an invariant over what is done. -/
theorem region_inv {id : Nat} {A : Act} {w : World} (hm : P.follows .mixedOrders = true) (FA : Act → Prop) (Inv : Array Bool → (Nat → Option Value) → World → Prop)
    (hd : ((List.range ops.size).all fun i => ((ops[i]?).map (·.after.all fun e => decide (e.on < i))).getD true) = true)
    (hs : ∀ l f W, Inv l f W → l.size = ops.size) (hFA : FA A) (h0 : Inv (Array.replicate ops.size false) (fun _ => none) { w with drawn := w.drawn + 1 })
    (hstep : ∀ A, FA A → ∀ (l : Array Bool) (f : Nat → Option Value) (W : World) (i : Nat), Inv l f W → i < ops.size → l.getD i false = false → rdyAt .any ops l i = true → (∀ j, l.getD j false = true → rdyAt .any ops l j = true) →
      wpOp P ops Q i (fun a' W' => ∃ f', a' = fr A f' ∧ Inv (l.setIfInBounds i true) f' W') (fr A f) W)
    (hend : ∀ l f W, Inv l f W → (∀ i, i < ops.size → l.getD i false = true) → Q .normal (fr A f) W) :
    (Code.region id ops true).wp P Q A w := by
  refine wp_region_any hm (wpAny_inv (fun l a W => ∃ f, a = fr A f ∧ Inv l f W ∧ ∀ j, l.getD j false = true → rdyAt .any ops l j = true) ?_ ?_ _ _ _ _ ?_ ?_)
  · rintro l a W i ⟨f, rfl, hI, ho⟩ hi
    obtain ⟨h1, h2, h3⟩ := mem_ready.1 hi
    obtain ⟨hl, he⟩ := getD_false h2
    refine wpOp_mono ?_ (hstep A hFA l f W i hI h1 (by simpa [Array.getD, hl] using he) h3 ho)
    rintro a' W' ⟨f', e, hI'⟩
    refine ⟨f', e, hI', fun j hj => ?_⟩
    by_cases ej : i = j
    · subst ej; exact rdy_mono h3
    · refine rdy_mono (ho j ?_)
      by_cases hjl : j < l.size
      · simp [Array.getD, hjl, ej] at hj
        simp [Array.getD, hjl, hj]
      · simp [Array.getD, hjl] at hj
  · rintro l a W ⟨f, rfl, hI, _⟩ hr
    exact hend l f W hI (ready_nil (hs l f W hI) hd hr)
  · rw [Array.toList_replicate]
    exact Nat.le_trans List.count_le_length (by simp)
  · exact ⟨_, (fr_none A).symm, h0, fun j hj => by
      by_cases hjl : j < ops.size <;> simp [Array.getD, hjl] at hj⟩
end

theorem row_own {W : World} {b B : Nat} {t : TypeId} {a c : Value} (h : VRow W b t [a, c]) (hb : B ≤ b) : W.ownsRow B t 2 (.slice (some ⟨b, 0, none⟩) 1 1) 1 [a, c] :=
  ⟨rfl, .inr ⟨b, 1, #[a, c], rfl, hb, h, Nat.le_refl _, by simp [maxLen], rfl, rfl⟩⟩
/-- An operation is done. -/
def dn (l : Array Bool) (j : Nat) : Bool := l.getD j false
theorem gset {l : Array Bool} (hl : l.size = 11) (i j : Nat) (hi : i < 11) : dn (l.setIfInBounds i true) j = (decide (i = j) || dn l j) := by
  unfold dn
  by_cases e : i = j
  · subst e; simp [Array.getD, hl, hi]
  · by_cases hj : j < l.size
    · simp [Array.getD, hj, e]
    · simp [Array.getD, hj, e]
theorem fr_at0 {A : Act} {f : Nat → Option Value} {t : Nat} {v : Value} (h : f t = none) (hv : A.eval (.tmp t) = v) : (fr A f).tmps[t]?.getD undef = v := by
  rw [← hv, ← fr_eval0 h]; simp [Act.eval]
theorem fr_at1 {A : Act} {f : Nat → Option Value} {t : Nat} {v : Value} (h : f t = some v) (ht : t < A.tmps.size) : (fr A f).tmps[t]?.getD undef = v := by
  rw [← fr_eval1 h ht]; simp [Act.eval]
theorem dn_rep (j : Nat) : dn (Array.replicate 11 false) j = false := by
  unfold dn; simp [Array.getD]
/-- The region of the queue and the map: what is done, and what then stands. -/
structure I13 (wr : World) (sv : Value) (ks : ByteArray) (x : Pl) (l : Array Bool) (f : Nat → Option Value) (W : World) : Prop where
  sz : l.size = 11
  dom : ∀ i, i ∉ [9, 10, 45, 46, 47, 48, 49, 50] → f i = none
  bel : RowKit.Below wr.heap.size wr W
  f45 : dn l 0 = true → f 45 = some (.agg #[.int .i64 (-1), sv])
  f46 : dn l 1 = true → ∃ b, f 46 = some (.slice (some ⟨b, 0, none⟩) 1 1) ∧ wr.heap.size ≤ b ∧ VRow W b 69 [.int .i64 (-1), sv]
  f47 : dn l 2 = true → ∃ m, f 47 = some (.map (some m)) ∧ wr.heap.size ≤ m ∧ (dn l 5 = false → W.heap[m]? = some (.map #[] 0)) ∧ (dn l 5 = true → Mp kP okP Value.bool W m (seenP [x]))
  f48 : dn l 3 = true → f 48 = some (.agg #[.int .i64 (-1), sv])
  f49 : dn l 4 = true → f 49 = some (.string ks)
  f50 : dn l 6 = true → f 50 = f 47
  f9 : dn l 7 = true → ∃ b v, f 9 = some (.pointer (some ⟨b, 0, none⟩)) ∧ wr.heap.size ≤ b ∧ VRow W b 70 [v] ∧ (dn l 9 = true → f 46 = some v)
  f10 : dn l 8 = true → ∃ b v, f 10 = some (.pointer (some ⟨b, 0, none⟩)) ∧ wr.heap.size ≤ b ∧ VRow W b 72 [v] ∧ (dn l 10 = true → f 47 = some v)
section
variable {wr : World} {sv : Value} {ks : ByteArray} {x : Pl} {l : Array Bool} {f : Nat → Option Value} {W W' : World}
theorem I13.keep (h : I13 wr sv ks x l f W) (hB : RowKit.Below W.heap.size W W') : I13 wr sv ks x l f W' where
  sz := h.sz
  dom := h.dom
  bel := h.bel.trans (hB.mono h.bel.size)
  f45 := h.f45
  f46 := fun e => by obtain ⟨b, h1, h2, h3⟩ := h.f46 e; exact ⟨b, h1, h2, h3.below hB h3.lt⟩
  f47 := fun e => by
    obtain ⟨m, h1, h2, h3, h4⟩ := h.f47 e
    exact ⟨m, h1, h2, fun e5 => (hB.block m (Array.getElem?_eq_some_iff.1 (h3 e5)).1).trans (h3 e5), fun e5 => (h4 e5).below hB (h4 e5).lt⟩
  f48 := h.f48
  f49 := h.f49
  f50 := h.f50
  f9 := fun e => by obtain ⟨b, v, h1, h2, h3, h4⟩ := h.f9 e; exact ⟨b, v, h1, h2, h3.below hB h3.lt, h4⟩
  f10 := fun e => by obtain ⟨b, v, h1, h2, h3, h4⟩ := h.f10 e; exact ⟨b, v, h1, h2, h3.below hB h3.lt, h4⟩
theorem I13.start (hB : RowKit.Below wr.heap.size wr W) : I13 wr sv ks x (Array.replicate 11 false) (fun _ => none) W where
  sz := by simp
  dom := fun _ _ => rfl
  bel := hB
  f45 := fun e => absurd e (by rw [dn_rep]; decide)
  f46 := fun e => absurd e (by rw [dn_rep]; decide)
  f47 := fun e => absurd e (by rw [dn_rep]; decide)
  f48 := fun e => absurd e (by rw [dn_rep]; decide)
  f49 := fun e => absurd e (by rw [dn_rep]; decide)
  f50 := fun e => absurd e (by rw [dn_rep]; decide)
  f9 := fun e => absurd e (by rw [dn_rep]; decide)
  f10 := fun e => absurd e (by rw [dn_rep]; decide)

theorem I13.op0 (h : I13 wr sv ks x l f W) : I13 wr sv ks x (l.setIfInBounds 0 true) (fun i => if i = 45 then some (.agg #[.int .i64 (-1), sv]) else f i) W := by
  have g := fun j => gset h.sz 0 j (by decide)
  obtain ⟨h1, h2, h3, h4, h5, h6, h7, h8, h9, h10, h11⟩ := h
  constructor
  case sz => first | exact h3 | (simpa [g] using h1) | (simpa [g] using h4) | (simpa [g] using h5) | (simpa [g] using h6) | (simpa [g] using h7) | (simpa [g] using h8) | (simpa [g] using h9) | (simpa [g] using h10) | (simpa [g] using h11)
  case dom => (intro j hj; show (if j = _ then _ else f j) = none; rw [if_neg (by rintro rfl; simp at hj)]; exact h2 j hj)
  case bel => first | exact h3 | (simpa [g] using h1) | (simpa [g] using h4) | (simpa [g] using h5) | (simpa [g] using h6) | (simpa [g] using h7) | (simpa [g] using h8) | (simpa [g] using h9) | (simpa [g] using h10) | (simpa [g] using h11)
  case f45 => simp
  case f46 => first | exact h3 | (simpa [g] using h1) | (simpa [g] using h4) | (simpa [g] using h5) | (simpa [g] using h6) | (simpa [g] using h7) | (simpa [g] using h8) | (simpa [g] using h9) | (simpa [g] using h10) | (simpa [g] using h11)
  case f47 => first | exact h3 | (simpa [g] using h1) | (simpa [g] using h4) | (simpa [g] using h5) | (simpa [g] using h6) | (simpa [g] using h7) | (simpa [g] using h8) | (simpa [g] using h9) | (simpa [g] using h10) | (simpa [g] using h11)
  case f48 => first | exact h3 | (simpa [g] using h1) | (simpa [g] using h4) | (simpa [g] using h5) | (simpa [g] using h6) | (simpa [g] using h7) | (simpa [g] using h8) | (simpa [g] using h9) | (simpa [g] using h10) | (simpa [g] using h11)
  case f49 => first | exact h3 | (simpa [g] using h1) | (simpa [g] using h4) | (simpa [g] using h5) | (simpa [g] using h6) | (simpa [g] using h7) | (simpa [g] using h8) | (simpa [g] using h9) | (simpa [g] using h10) | (simpa [g] using h11)
  case f50 => first | exact h3 | (simpa [g] using h1) | (simpa [g] using h4) | (simpa [g] using h5) | (simpa [g] using h6) | (simpa [g] using h7) | (simpa [g] using h8) | (simpa [g] using h9) | (simpa [g] using h10) | (simpa [g] using h11)
  case f9 => first | exact h3 | (simpa [g] using h1) | (simpa [g] using h4) | (simpa [g] using h5) | (simpa [g] using h6) | (simpa [g] using h7) | (simpa [g] using h8) | (simpa [g] using h9) | (simpa [g] using h10) | (simpa [g] using h11)
  case f10 => first | exact h3 | (simpa [g] using h1) | (simpa [g] using h4) | (simpa [g] using h5) | (simpa [g] using h6) | (simpa [g] using h7) | (simpa [g] using h8) | (simpa [g] using h9) | (simpa [g] using h10) | (simpa [g] using h11)
theorem I13.op3 (h : I13 wr sv ks x l f W) : I13 wr sv ks x (l.setIfInBounds 3 true) (fun i => if i = 48 then some (.agg #[.int .i64 (-1), sv]) else f i) W := by
  have g := fun j => gset h.sz 3 j (by decide)
  obtain ⟨h1, h2, h3, h4, h5, h6, h7, h8, h9, h10, h11⟩ := h
  constructor
  case sz => first | exact h3 | (simpa [g] using h1) | (simpa [g] using h4) | (simpa [g] using h5) | (simpa [g] using h6) | (simpa [g] using h7) | (simpa [g] using h8) | (simpa [g] using h9) | (simpa [g] using h10) | (simpa [g] using h11)
  case dom => (intro j hj; show (if j = _ then _ else f j) = none; rw [if_neg (by rintro rfl; simp at hj)]; exact h2 j hj)
  case bel => first | exact h3 | (simpa [g] using h1) | (simpa [g] using h4) | (simpa [g] using h5) | (simpa [g] using h6) | (simpa [g] using h7) | (simpa [g] using h8) | (simpa [g] using h9) | (simpa [g] using h10) | (simpa [g] using h11)
  case f45 => first | exact h3 | (simpa [g] using h1) | (simpa [g] using h4) | (simpa [g] using h5) | (simpa [g] using h6) | (simpa [g] using h7) | (simpa [g] using h8) | (simpa [g] using h9) | (simpa [g] using h10) | (simpa [g] using h11)
  case f46 => first | exact h3 | (simpa [g] using h1) | (simpa [g] using h4) | (simpa [g] using h5) | (simpa [g] using h6) | (simpa [g] using h7) | (simpa [g] using h8) | (simpa [g] using h9) | (simpa [g] using h10) | (simpa [g] using h11)
  case f47 => first | exact h3 | (simpa [g] using h1) | (simpa [g] using h4) | (simpa [g] using h5) | (simpa [g] using h6) | (simpa [g] using h7) | (simpa [g] using h8) | (simpa [g] using h9) | (simpa [g] using h10) | (simpa [g] using h11)
  case f48 => simp
  case f49 => first | exact h3 | (simpa [g] using h1) | (simpa [g] using h4) | (simpa [g] using h5) | (simpa [g] using h6) | (simpa [g] using h7) | (simpa [g] using h8) | (simpa [g] using h9) | (simpa [g] using h10) | (simpa [g] using h11)
  case f50 => first | exact h3 | (simpa [g] using h1) | (simpa [g] using h4) | (simpa [g] using h5) | (simpa [g] using h6) | (simpa [g] using h7) | (simpa [g] using h8) | (simpa [g] using h9) | (simpa [g] using h10) | (simpa [g] using h11)
  case f9 => first | exact h3 | (simpa [g] using h1) | (simpa [g] using h4) | (simpa [g] using h5) | (simpa [g] using h6) | (simpa [g] using h7) | (simpa [g] using h8) | (simpa [g] using h9) | (simpa [g] using h10) | (simpa [g] using h11)
  case f10 => first | exact h3 | (simpa [g] using h1) | (simpa [g] using h4) | (simpa [g] using h5) | (simpa [g] using h6) | (simpa [g] using h7) | (simpa [g] using h8) | (simpa [g] using h9) | (simpa [g] using h10) | (simpa [g] using h11)
theorem I13.op4 (h : I13 wr sv ks x l f W) : I13 wr sv ks x (l.setIfInBounds 4 true) (fun i => if i = 49 then some (.string ks) else f i) W := by
  have g := fun j => gset h.sz 4 j (by decide)
  obtain ⟨h1, h2, h3, h4, h5, h6, h7, h8, h9, h10, h11⟩ := h
  constructor
  case sz => first | exact h3 | (simpa [g] using h1) | (simpa [g] using h4) | (simpa [g] using h5) | (simpa [g] using h6) | (simpa [g] using h7) | (simpa [g] using h8) | (simpa [g] using h9) | (simpa [g] using h10) | (simpa [g] using h11)
  case dom => (intro j hj; show (if j = _ then _ else f j) = none; rw [if_neg (by rintro rfl; simp at hj)]; exact h2 j hj)
  case bel => first | exact h3 | (simpa [g] using h1) | (simpa [g] using h4) | (simpa [g] using h5) | (simpa [g] using h6) | (simpa [g] using h7) | (simpa [g] using h8) | (simpa [g] using h9) | (simpa [g] using h10) | (simpa [g] using h11)
  case f45 => first | exact h3 | (simpa [g] using h1) | (simpa [g] using h4) | (simpa [g] using h5) | (simpa [g] using h6) | (simpa [g] using h7) | (simpa [g] using h8) | (simpa [g] using h9) | (simpa [g] using h10) | (simpa [g] using h11)
  case f46 => first | exact h3 | (simpa [g] using h1) | (simpa [g] using h4) | (simpa [g] using h5) | (simpa [g] using h6) | (simpa [g] using h7) | (simpa [g] using h8) | (simpa [g] using h9) | (simpa [g] using h10) | (simpa [g] using h11)
  case f47 => first | exact h3 | (simpa [g] using h1) | (simpa [g] using h4) | (simpa [g] using h5) | (simpa [g] using h6) | (simpa [g] using h7) | (simpa [g] using h8) | (simpa [g] using h9) | (simpa [g] using h10) | (simpa [g] using h11)
  case f48 => first | exact h3 | (simpa [g] using h1) | (simpa [g] using h4) | (simpa [g] using h5) | (simpa [g] using h6) | (simpa [g] using h7) | (simpa [g] using h8) | (simpa [g] using h9) | (simpa [g] using h10) | (simpa [g] using h11)
  case f49 => simp
  case f50 => first | exact h3 | (simpa [g] using h1) | (simpa [g] using h4) | (simpa [g] using h5) | (simpa [g] using h6) | (simpa [g] using h7) | (simpa [g] using h8) | (simpa [g] using h9) | (simpa [g] using h10) | (simpa [g] using h11)
  case f9 => first | exact h3 | (simpa [g] using h1) | (simpa [g] using h4) | (simpa [g] using h5) | (simpa [g] using h6) | (simpa [g] using h7) | (simpa [g] using h8) | (simpa [g] using h9) | (simpa [g] using h10) | (simpa [g] using h11)
  case f10 => first | exact h3 | (simpa [g] using h1) | (simpa [g] using h4) | (simpa [g] using h5) | (simpa [g] using h6) | (simpa [g] using h7) | (simpa [g] using h8) | (simpa [g] using h9) | (simpa [g] using h10) | (simpa [g] using h11)
theorem I13.op1 (h : I13 wr sv ks x l f W) (hn : dn l 9 = false) : I13 wr sv ks x (l.setIfInBounds 1 true) (fun i => if i = 46 then some (.slice (some ⟨W.heap.size, 0, none⟩) 1 1) else f i) (W.alloc (.cells #[.int .i64 (-1), sv] 69)) := by
  have g := fun j => gset h.sz 1 j (by decide)
  have hsz := h.bel.size
  have h := h.keep (below_al2 W (.cells #[.int .i64 (-1), sv] 69))
  obtain ⟨h1, h2, h3, h4, h5, h6, h7, h8, h9, h10, h11⟩ := h
  constructor
  case sz => first | exact h3 | (simpa [g] using h1) | (simpa [g] using h4) | (simpa [g] using h5) | (simpa [g] using h6) | (simpa [g] using h7) | (simpa [g] using h8) | (simpa [g] using h9) | (simpa [g] using h10) | (simpa [g] using h11)
  case dom => (intro j hj; show (if j = _ then _ else f j) = none; rw [if_neg (by rintro rfl; simp at hj)]; exact h2 j hj)
  case bel => first | exact h3 | (simpa [g] using h1) | (simpa [g] using h4) | (simpa [g] using h5) | (simpa [g] using h6) | (simpa [g] using h7) | (simpa [g] using h8) | (simpa [g] using h9) | (simpa [g] using h10) | (simpa [g] using h11)
  case f45 => first | exact h3 | (simpa [g] using h1) | (simpa [g] using h4) | (simpa [g] using h5) | (simpa [g] using h6) | (simpa [g] using h7) | (simpa [g] using h8) | (simpa [g] using h9) | (simpa [g] using h10) | (simpa [g] using h11)
  case f46 => (intro _; exact ⟨_, by simp, hsz, VRow.new W _ _⟩)
  case f47 => first | exact h3 | (simpa [g] using h1) | (simpa [g] using h4) | (simpa [g] using h5) | (simpa [g] using h6) | (simpa [g] using h7) | (simpa [g] using h8) | (simpa [g] using h9) | (simpa [g] using h10) | (simpa [g] using h11)
  case f48 => first | exact h3 | (simpa [g] using h1) | (simpa [g] using h4) | (simpa [g] using h5) | (simpa [g] using h6) | (simpa [g] using h7) | (simpa [g] using h8) | (simpa [g] using h9) | (simpa [g] using h10) | (simpa [g] using h11)
  case f49 => first | exact h3 | (simpa [g] using h1) | (simpa [g] using h4) | (simpa [g] using h5) | (simpa [g] using h6) | (simpa [g] using h7) | (simpa [g] using h8) | (simpa [g] using h9) | (simpa [g] using h10) | (simpa [g] using h11)
  case f50 => first | exact h3 | (simpa [g] using h1) | (simpa [g] using h4) | (simpa [g] using h5) | (simpa [g] using h6) | (simpa [g] using h7) | (simpa [g] using h8) | (simpa [g] using h9) | (simpa [g] using h10) | (simpa [g] using h11)
  case f9 => (simp only [g]; simp; simpa [hn] using h10)
  case f10 => first | exact h3 | (simpa [g] using h1) | (simpa [g] using h4) | (simpa [g] using h5) | (simpa [g] using h6) | (simpa [g] using h7) | (simpa [g] using h8) | (simpa [g] using h9) | (simpa [g] using h10) | (simpa [g] using h11)
theorem I13.op2 (h : I13 wr sv ks x l f W) (hn : dn l 5 = false) (hn6 : dn l 6 = false) (hn10 : dn l 10 = false) : I13 wr sv ks x (l.setIfInBounds 2 true) (fun i => if i = 47 then some (.map (some W.heap.size)) else f i) (W.alloc (.map #[] 0)) := by
  have g := fun j => gset h.sz 2 j (by decide)
  have hsz := h.bel.size
  have h := h.keep (below_al2 W (.map #[] 0))
  obtain ⟨h1, h2, h3, h4, h5, h6, h7, h8, h9, h10, h11⟩ := h
  constructor
  case sz => first | exact h3 | (simpa [g] using h1) | (simpa [g] using h4) | (simpa [g] using h5) | (simpa [g] using h6) | (simpa [g] using h7) | (simpa [g] using h8) | (simpa [g] using h9) | (simpa [g] using h10) | (simpa [g] using h11)
  case dom => (intro j hj; show (if j = _ then _ else f j) = none; rw [if_neg (by rintro rfl; simp at hj)]; exact h2 j hj)
  case bel => first | exact h3 | (simpa [g] using h1) | (simpa [g] using h4) | (simpa [g] using h5) | (simpa [g] using h6) | (simpa [g] using h7) | (simpa [g] using h8) | (simpa [g] using h9) | (simpa [g] using h10) | (simpa [g] using h11)
  case f45 => first | exact h3 | (simpa [g] using h1) | (simpa [g] using h4) | (simpa [g] using h5) | (simpa [g] using h6) | (simpa [g] using h7) | (simpa [g] using h8) | (simpa [g] using h9) | (simpa [g] using h10) | (simpa [g] using h11)
  case f46 => first | exact h3 | (simpa [g] using h1) | (simpa [g] using h4) | (simpa [g] using h5) | (simpa [g] using h6) | (simpa [g] using h7) | (simpa [g] using h8) | (simpa [g] using h9) | (simpa [g] using h10) | (simpa [g] using h11)
  case f47 => (intro _; exact ⟨_, by simp, hsz, fun _ => heap_alloc_new W _, fun e => by simp [g, hn] at e⟩)
  case f48 => first | exact h3 | (simpa [g] using h1) | (simpa [g] using h4) | (simpa [g] using h5) | (simpa [g] using h6) | (simpa [g] using h7) | (simpa [g] using h8) | (simpa [g] using h9) | (simpa [g] using h10) | (simpa [g] using h11)
  case f49 => first | exact h3 | (simpa [g] using h1) | (simpa [g] using h4) | (simpa [g] using h5) | (simpa [g] using h6) | (simpa [g] using h7) | (simpa [g] using h8) | (simpa [g] using h9) | (simpa [g] using h10) | (simpa [g] using h11)
  case f50 => (simp [g, hn6])
  case f9 => first | exact h3 | (simpa [g] using h1) | (simpa [g] using h4) | (simpa [g] using h5) | (simpa [g] using h6) | (simpa [g] using h7) | (simpa [g] using h8) | (simpa [g] using h9) | (simpa [g] using h10) | (simpa [g] using h11)
  case f10 => (simp only [g]; simp; simpa [hn10] using h11)
theorem I13.op7 (h : I13 wr sv ks x l f W) (hn : dn l 9 = false) (v : Value) : I13 wr sv ks x (l.setIfInBounds 7 true) (fun i => if i = 9 then some (.pointer (some ⟨W.heap.size, 0, none⟩)) else f i) (W.alloc (.cells #[v] 70)) := by
  have g := fun j => gset h.sz 7 j (by decide)
  have hsz := h.bel.size
  have h := h.keep (below_al2 W (.cells #[v] 70))
  obtain ⟨h1, h2, h3, h4, h5, h6, h7, h8, h9, h10, h11⟩ := h
  constructor
  case sz => first | exact h3 | (simpa [g] using h1) | (simpa [g] using h4) | (simpa [g] using h5) | (simpa [g] using h6) | (simpa [g] using h7) | (simpa [g] using h8) | (simpa [g] using h9) | (simpa [g] using h10) | (simpa [g] using h11)
  case dom => (intro j hj; show (if j = _ then _ else f j) = none; rw [if_neg (by rintro rfl; simp at hj)]; exact h2 j hj)
  case bel => first | exact h3 | (simpa [g] using h1) | (simpa [g] using h4) | (simpa [g] using h5) | (simpa [g] using h6) | (simpa [g] using h7) | (simpa [g] using h8) | (simpa [g] using h9) | (simpa [g] using h10) | (simpa [g] using h11)
  case f45 => first | exact h3 | (simpa [g] using h1) | (simpa [g] using h4) | (simpa [g] using h5) | (simpa [g] using h6) | (simpa [g] using h7) | (simpa [g] using h8) | (simpa [g] using h9) | (simpa [g] using h10) | (simpa [g] using h11)
  case f46 => first | exact h3 | (simpa [g] using h1) | (simpa [g] using h4) | (simpa [g] using h5) | (simpa [g] using h6) | (simpa [g] using h7) | (simpa [g] using h8) | (simpa [g] using h9) | (simpa [g] using h10) | (simpa [g] using h11)
  case f47 => first | exact h3 | (simpa [g] using h1) | (simpa [g] using h4) | (simpa [g] using h5) | (simpa [g] using h6) | (simpa [g] using h7) | (simpa [g] using h8) | (simpa [g] using h9) | (simpa [g] using h10) | (simpa [g] using h11)
  case f48 => first | exact h3 | (simpa [g] using h1) | (simpa [g] using h4) | (simpa [g] using h5) | (simpa [g] using h6) | (simpa [g] using h7) | (simpa [g] using h8) | (simpa [g] using h9) | (simpa [g] using h10) | (simpa [g] using h11)
  case f49 => first | exact h3 | (simpa [g] using h1) | (simpa [g] using h4) | (simpa [g] using h5) | (simpa [g] using h6) | (simpa [g] using h7) | (simpa [g] using h8) | (simpa [g] using h9) | (simpa [g] using h10) | (simpa [g] using h11)
  case f50 => first | exact h3 | (simpa [g] using h1) | (simpa [g] using h4) | (simpa [g] using h5) | (simpa [g] using h6) | (simpa [g] using h7) | (simpa [g] using h8) | (simpa [g] using h9) | (simpa [g] using h10) | (simpa [g] using h11)
  case f9 => (intro _; exact ⟨_, _, by simp, hsz, VRow.new W _ _, fun e => by simp [g, hn] at e⟩)
  case f10 => first | exact h3 | (simpa [g] using h1) | (simpa [g] using h4) | (simpa [g] using h5) | (simpa [g] using h6) | (simpa [g] using h7) | (simpa [g] using h8) | (simpa [g] using h9) | (simpa [g] using h10) | (simpa [g] using h11)
theorem I13.op8 (h : I13 wr sv ks x l f W) (hn : dn l 10 = false) (v : Value) : I13 wr sv ks x (l.setIfInBounds 8 true) (fun i => if i = 10 then some (.pointer (some ⟨W.heap.size, 0, none⟩)) else f i) (W.alloc (.cells #[v] 72)) := by
  have g := fun j => gset h.sz 8 j (by decide)
  have hsz := h.bel.size
  have h := h.keep (below_al2 W (.cells #[v] 72))
  obtain ⟨h1, h2, h3, h4, h5, h6, h7, h8, h9, h10, h11⟩ := h
  constructor
  case sz => first | exact h3 | (simpa [g] using h1) | (simpa [g] using h4) | (simpa [g] using h5) | (simpa [g] using h6) | (simpa [g] using h7) | (simpa [g] using h8) | (simpa [g] using h9) | (simpa [g] using h10) | (simpa [g] using h11)
  case dom => (intro j hj; show (if j = _ then _ else f j) = none; rw [if_neg (by rintro rfl; simp at hj)]; exact h2 j hj)
  case bel => first | exact h3 | (simpa [g] using h1) | (simpa [g] using h4) | (simpa [g] using h5) | (simpa [g] using h6) | (simpa [g] using h7) | (simpa [g] using h8) | (simpa [g] using h9) | (simpa [g] using h10) | (simpa [g] using h11)
  case f45 => first | exact h3 | (simpa [g] using h1) | (simpa [g] using h4) | (simpa [g] using h5) | (simpa [g] using h6) | (simpa [g] using h7) | (simpa [g] using h8) | (simpa [g] using h9) | (simpa [g] using h10) | (simpa [g] using h11)
  case f46 => first | exact h3 | (simpa [g] using h1) | (simpa [g] using h4) | (simpa [g] using h5) | (simpa [g] using h6) | (simpa [g] using h7) | (simpa [g] using h8) | (simpa [g] using h9) | (simpa [g] using h10) | (simpa [g] using h11)
  case f47 => first | exact h3 | (simpa [g] using h1) | (simpa [g] using h4) | (simpa [g] using h5) | (simpa [g] using h6) | (simpa [g] using h7) | (simpa [g] using h8) | (simpa [g] using h9) | (simpa [g] using h10) | (simpa [g] using h11)
  case f48 => first | exact h3 | (simpa [g] using h1) | (simpa [g] using h4) | (simpa [g] using h5) | (simpa [g] using h6) | (simpa [g] using h7) | (simpa [g] using h8) | (simpa [g] using h9) | (simpa [g] using h10) | (simpa [g] using h11)
  case f49 => first | exact h3 | (simpa [g] using h1) | (simpa [g] using h4) | (simpa [g] using h5) | (simpa [g] using h6) | (simpa [g] using h7) | (simpa [g] using h8) | (simpa [g] using h9) | (simpa [g] using h10) | (simpa [g] using h11)
  case f50 => first | exact h3 | (simpa [g] using h1) | (simpa [g] using h4) | (simpa [g] using h5) | (simpa [g] using h6) | (simpa [g] using h7) | (simpa [g] using h8) | (simpa [g] using h9) | (simpa [g] using h10) | (simpa [g] using h11)
  case f9 => first | exact h3 | (simpa [g] using h1) | (simpa [g] using h4) | (simpa [g] using h5) | (simpa [g] using h6) | (simpa [g] using h7) | (simpa [g] using h8) | (simpa [g] using h9) | (simpa [g] using h10) | (simpa [g] using h11)
  case f10 => (intro _; exact ⟨_, _, by simp, hsz, VRow.new W _ _, fun e => by simp [g, hn] at e⟩)
theorem I13.op6 (h : I13 wr sv ks x l f W) (v : Value) (hv : f 47 = some v) : I13 wr sv ks x (l.setIfInBounds 6 true) (fun i => if i = 50 then some v else f i) W := by
  have g := fun j => gset h.sz 6 j (by decide)
  obtain ⟨h1, h2, h3, h4, h5, h6, h7, h8, h9, h10, h11⟩ := h
  constructor
  case dom => (intro j hj; show (if j = _ then _ else f j) = none; rw [if_neg (by rintro rfl; simp at hj)]; exact h2 j hj)
  case f50 => (intro _; simp [hv])
  all_goals first | exact h3 | (simpa [g] using h1) | (simpa [g] using h4) | (simpa [g] using h5) | (simpa [g] using h6) | (simpa [g] using h7) | (simpa [g] using h8) | (simpa [g] using h9) | (simpa [g] using h10) | (simpa [g] using h11)
theorem I13.op5 (h : I13 wr sv ks x l f W) (hx : okP x) (m : Nat) (hm : f 47 = some (.map (some m))) (hb : W.heap[m]? = some (.map #[] 0)) (hwm : wr.heap.size ≤ m) : I13 wr sv ks x (l.setIfInBounds 5 true) f (mapI W m x) := by
  have g := fun j => gset h.sz 5 j (by decide)
  obtain ⟨h1, h2, h3, h4, h5, h6, h7, h8, h9, h10, h11⟩ := h
  have ht := (first_map hx hb).2
  have hM := (first_map hx hb).1
  constructor
  case sz => simpa using h1
  case dom => exact h2
  case bel => exact h3.grown ht.grown h3.size (fun j e => by simp only [Option.some.injEq] at e; omega)
  case f46 => (intro e; obtain ⟨b, k1, k2, k3⟩ := h5 (by simpa [g] using e); exact ⟨b, k1, k2, (KX0.turn ht).vrow k3⟩)
  case f47 => (intro e; exact ⟨m, hm, hwm, fun e5 => by simp [g] at e5, fun _ => hM⟩)
  case f9 => (intro e; obtain ⟨b, v, k1, k2, k3, k4⟩ := h10 (by simpa [g] using e); exact ⟨b, v, k1, k2, (KX0.turn ht).vrow k3, fun e9 => k4 (by simpa [g] using e9)⟩)
  case f10 => (intro e; obtain ⟨b, v, k1, k2, k3, k4⟩ := h11 (by simpa [g] using e); exact ⟨b, v, k1, k2, (KX0.turn ht).vrow k3, fun e9 => k4 (by simpa [g] using e9)⟩)
  all_goals first | exact h3 | (simpa [g] using h1) | (simpa [g] using h4) | (simpa [g] using h5) | (simpa [g] using h6) | (simpa [g] using h7) | (simpa [g] using h8) | (simpa [g] using h9) | (simpa [g] using h10) | (simpa [g] using h11)
theorem map_set {t : TypeId} {b m : Nat} {c : List Value} {o : Obj} (hr : VRow W b t c) (hm : W.heap[m]? = some o) (ho : ∀ a t z, o ≠ .cells a t z) (k : Nat) (v : Value) : (W.setCell ⟨b, k, none⟩ v).heap[m]? = W.heap[m]? := by
  refine Below.heap_setCell _ _ _ _ ?_
  rintro rfl
  have e : W.heap[m]? = _ := hr
  rw [e] at hm
  cases hm
  exact ho _ _ _ rfl
theorem I13.op9 (h : I13 wr sv ks x l f W) (b : Nat) (v0 v : Value) (hb : f 9 = some (.pointer (some ⟨b, 0, none⟩))) (hbw : wr.heap.size ≤ b) (hr : VRow W b 70 [v0]) (hv : f 46 = some v) : I13 wr sv ks x (l.setIfInBounds 9 true) f (W.setCell ⟨b, 0, none⟩ v) := by
  have g := fun j => gset h.sz 9 j (by decide)
  obtain ⟨h1, h2, h3, h4, h5, h6, h7, h8, h9, h10, h11⟩ := h
  constructor
  case sz => simpa using h1
  case dom => exact h2
  case bel => exact h3.setCell hbw _
  case f46 => (intro e; obtain ⟨b', k1, k2, k3⟩ := h5 (by simpa [g] using e); exact ⟨b', k1, k2, (KX0.set hr 0 v (by decide)).vrow k3⟩)
  case f47 =>
    intro e
    obtain ⟨m, k1, k2, k3, k4⟩ := h6 (by simpa [g] using e)
    refine ⟨m, k1, k2, fun e5 => ?_, fun e5 => ?_⟩
    · have k3 := k3 (by simpa [g] using e5)
      exact (map_set hr k3 (by simp) 0 v).trans k3
    · have k4 := k4 (by simpa [g] using e5)
      obtain ⟨es, cl, hes, _⟩ := id k4
      exact k4.same (map_set hr hes (by simp) 0 v)
  case f9 => (intro e; exact ⟨b, v, hb, hbw, hr.set (i := 0) v, fun _ => hv⟩)
  case f10 => (intro e; obtain ⟨b', v', k1, k2, k3, k4⟩ := h11 (by simpa [g] using e); exact ⟨b', v', k1, k2, (KX0.set hr 0 v (by decide)).vrow k3, fun e9 => k4 (by simpa [g] using e9)⟩)
  all_goals first | exact h3 | (simpa [g] using h1) | (simpa [g] using h4) | (simpa [g] using h5) | (simpa [g] using h6) | (simpa [g] using h7) | (simpa [g] using h8) | (simpa [g] using h9) | (simpa [g] using h10) | (simpa [g] using h11)
theorem I13.op10 (h : I13 wr sv ks x l f W) (b : Nat) (v0 v : Value) (hb : f 10 = some (.pointer (some ⟨b, 0, none⟩))) (hbw : wr.heap.size ≤ b) (hr : VRow W b 72 [v0]) (hv : f 47 = some v) : I13 wr sv ks x (l.setIfInBounds 10 true) f (W.setCell ⟨b, 0, none⟩ v) := by
  have g := fun j => gset h.sz 10 j (by decide)
  obtain ⟨h1, h2, h3, h4, h5, h6, h7, h8, h9, h10, h11⟩ := h
  constructor
  case sz => simpa using h1
  case dom => exact h2
  case bel => exact h3.setCell hbw _
  case f46 => (intro e; obtain ⟨b', k1, k2, k3⟩ := h5 (by simpa [g] using e); exact ⟨b', k1, k2, (KX0.set hr 0 v (by decide)).vrow k3⟩)
  case f47 =>
    intro e
    obtain ⟨m, k1, k2, k3, k4⟩ := h6 (by simpa [g] using e)
    refine ⟨m, k1, k2, fun e5 => ?_, fun e5 => ?_⟩
    · have k3 := k3 (by simpa [g] using e5)
      exact (map_set hr k3 (by simp) 0 v).trans k3
    · have k4 := k4 (by simpa [g] using e5)
      obtain ⟨es, cl, hes, _⟩ := id k4
      exact k4.same (map_set hr hes (by simp) 0 v)
  case f9 => (intro e; obtain ⟨b', v', k1, k2, k3, k4⟩ := h10 (by simpa [g] using e); exact ⟨b', v', k1, k2, (KX0.set hr 0 v (by decide)).vrow k3, fun e9 => k4 (by simpa [g] using e9)⟩)
  case f10 => (intro e; exact ⟨b, v, hb, hbw, hr.set (i := 0) v, fun _ => hv⟩)
  all_goals first | exact h3 | (simpa [g] using h1) | (simpa [g] using h4) | (simpa [g] using h5) | (simpa [g] using h6) | (simpa [g] using h7) | (simpa [g] using h8) | (simpa [g] using h9) | (simpa [g] using h10) | (simpa [g] using h11)
end
end Go.Proofs.YtjpilmedlecdhaaGreatDoor
namespace Go.Proofs.YtjpilmedlecdhaaGreatDoor
open Go.RowKit Go.Sort Go.Shelf Go.Lib

set_option maxRecDepth 100000 in
set_option maxHeartbeats 4000000 in
theorem lkCheck_any (T : Tb) (p1 p2 : Option Addr) (c1 c2 : Nat) (G : Gr) (p : Option Addr) (c : Nat) (w : World) (hT : TbIn w T p1 p2 c1 c2) (hG : Sg 3 w edE p G.es) (hl : G.es.length ≤ 9223372036854775807) (ht : T10 w) :
    Calls Tryz.prog 7 #[.agg #[.int .i64 T.q, .int .i64 T.n, .slice p1 T.base.length c1, .slice p2 T.swaps.length c2], (.agg #[.int .i64 G.q, .int .i64 G.n, .slice p G.es.length c])] w fun e w' => e = .returned (.int .i64 (chkL T G)) ∧ RowKit.Below w.heap.size w w' := by
  obtain ⟨i0, hi0, hz0, hz1, hz2⟩ := info_parts (show (Tryz.prog.info? 3).map (fun i => (i.zero, i.size, i.bytes)) = some (some (.int .i64 0), 1, 8) by kernel_rfl)
  obtain ⟨w0, hw0⟩ : ∃ w0, w0 = (w.alloc (.cells #[.int .i64 T.q, .int .i64 T.n, .slice p1 T.base.length c1, .slice p2 T.swaps.length c2] 26)).alloc (.cells #[.int .i64 G.q, .int .i64 G.n, .slice p G.es.length c] 30) := ⟨_, rfl⟩
  have b0 : VRow w0 w.heap.size 26 [.int .i64 T.q, .int .i64 T.n, .slice p1 T.base.length c1, .slice p2 T.swaps.length c2] := by subst hw0; exact (VRow.new w _ _).alloc _
  have b1 : VRow w0 (w.heap.size + 1) 30 [.int .i64 G.q, .int .i64 G.n, .slice p G.es.length c] := by subst hw0; exact VRow.new1 w _ _ _
  have hB0 : RowKit.Below w.heap.size w w0 := by subst hw0; exact ((RowKit.Below.refl _ _).alloc (Nat.le_refl _) _).alloc (by simp) _
  have HC := hidI (lkCheck0_any T p1 p2 c1 c2 G p c w0 (hT.below hB0) (hG.below hB0) hl)
  have HX := hidI (chkL_fit T G)
  have HFZ := hidI (@fit_zero T G)
  have HT := hidI hT; have HG := hidI hG; have H10 := hidI ht
  have a0 := b0.at 0 rfl; have a1 := b0.at 1 rfl; have a2 := b0.at 2 rfl; have a3 := b0.at 3 rfl
  have d0 := b1.at 0 rfl; have d1 := b1.at 1 rfl; have d2 := b1.at 2 rfl
  clear hT hG ht hl
  generalize fitA T G = k at *
  go_enter Tryz.func7, Tryz.ntmps7
  go_upto_region 1 with fail
  rw [← hw0]
  clear hw0
  go_wp2_with fail
  refine HC.out.mono ?_
  rintro e w1 ⟨rfl, hB1⟩
  have x1 := hB0.trans (hB1.mono hB0.size)
  have t1 := b0.below hB1 b0.lt
  have g1 := b1.below hB1 b1.lt
  clear HC a0 a1 a2 a3 d0 d1 d2 b0 b1 hB0 hB1
  by_cases hk : k = 0
  rotate_left
  · have HY : Hid (chkL T G = k) := by rw [Hid, HX.out, if_pos hk]
    have hkb : (k != 0) = true := by simpa using hk
    clear hk t1 g1
    go_wp2
    go_ret
    exact ⟨ret_int HY.out.symm, x1⟩
  obtain ⟨hf, hv, hqq⟩ := HFZ.out hk
  have HX2 : Hid (chkL T G = if rdbl T = false then 14 else kpA T G) := by rw [Hid, HX.out, hk]; rfl
  have HF := hidI hf; have HV := hidI hv; have HQQ := hidI hqq
  subst hk
  have HR := hidI (callsIn_wide.1 (lkReadable_in T p1 p2 c1 c2 w1 (HT.out.below x1) hf))
  have a0 := t1.at 0 rfl; have a1 := t1.at 1 rfl; have a2 := t1.at 2 rfl; have a3 := t1.at 3 rfl
  clear HX HFZ hf hv hqq
  generalize rdbl T = r at *
  go_wp2_with fail
  refine HR.out.mono ?_
  rintro e w2 ⟨rfl, hB2⟩
  have x2 := x1.trans (hB2.mono x1.size)
  have t2 := t1.below hB2 t1.lt
  have g2 := g1.below hB2 g1.lt
  clear a0 a1 a2 a3 t1 g1 x1 hB2 HR
  cases r
  · have HY : Hid (chkL T G = 14) := by rw [Hid, HX2.out]; rfl
    go_wp2
    go_ret
    exact ⟨ret_int HY.out.symm, x2⟩
  have HX3 : Hid (chkL T G = kpA T G) := by rw [Hid, HX2.out]; rfl
  clear HX2
  have a0 := t2.at 0 rfl; have a1 := t2.at 1 rfl; have a2 := t2.at 2 rfl; have a3 := t2.at 3 rfl
  go_wp2_with fail
  refine (lkPairsB_any T p1 p2 c1 c2 w2 (HT.out.swaps.below x2) HT.out.l2 (swaps_ok2 HF.out)).mono ?_
  rintro e w3 ⟨rfl, hSw, hB3⟩
  generalize w2.heap.size + 1 = mb at *
  have x3 := x2.trans (hB3.mono x2.size)
  have t3 := t2.below hB3 t2.lt
  have g3 := g2.below hB3 g2.lt
  clear a0 a1 a2 a3 t2 g2 x2 hB3
  obtain ⟨w4, hw4⟩ : ∃ w4, w4 = (w3.alloc (.cells #[.map (some mb)] 66)).alloc (.cells #[.int .i64 (-1), .slice none 0 0] 69) := ⟨_, rfl⟩
  have hB4 : RowKit.Below w3.heap.size w3 w4 := by subst hw4; exact ((RowKit.Below.refl _ _).alloc (Nat.le_refl _) _).alloc (by simp) _
  have s4 : VRow w4 w3.heap.size 66 [.map (some mb)] := by subst hw4; exact (VRow.new w3 _ _).alloc _
  have st4 : VRow w4 (w3.heap.size + 1) 69 [.int .i64 (-1), .slice none 0 0] := by subst hw4; exact VRow.new1 w3 _ _ _
  have hsz4 : w4.heap.size = w3.heap.size + 2 := by subst hw4; simp
  have x4 := x3.trans (hB4.mono x3.size)
  have t4 := t3.below hB4 t3.lt
  have g4 := g3.below hB4 g3.lt
  have hSw4 : SwB T.swaps w4 mb := MpB.same hSw (hB4.block mb hSw.lt)
  have hmb4 : mb < w3.heap.size := hSw.lt
  have d1 := g4.at 1 rfl
  have hlt3 : w.heap.size + 1 < w3.heap.size := g3.lt
  clear hSw t3 g3 x3 hB4
  go_upto_region 8 with fail
  rw [← hw4]
  clear hw4
  obtain ⟨n, hn⟩ : ∃ n : Nat, G.n = n := ⟨G.n.toNat, by have := HV.out.n1; omega⟩
  have hn64 : n ≤ 64 := by have := HV.out.n2; omega
  have HN : Hid (upto G.n.toNat = upto n) := by rw [Hid, hn]; rfl
  have HNN := hidI hn
  rw [hn] at d1
  have hO4 := World.ownsRow_nil w4 w4.heap.size 3 1
  have HG4 := hidI g4; have HT4 := hidI t4; have HS4 := hidI s4; have HSW4 := hidI hSw4; have HX4 := hidI x4
  clear hn t4 g4 s4 hSw4 x4
  go_wp2
  clear d1
  go_loopw [35] (fun iv wr => ∃ (k : Nat) (pk : Option Addr) (ck : Nat), k ≤ n ∧ iv = .int .i64 k ∧ VRow wr (w3.heap.size + 1) 69 [.int .i64 (-1), .slice pk k ck] ∧ wr.ownsRow w4.heap.size 3 1 (.slice pk k ck) k ((upto k).map (Value.int .i64)) ∧ RowKit.Below (w3.heap.size + 1) w4 wr) (fun iv _ => n - (intOf iv).toNat)
  case atStart => exact ⟨0, none, 0, by omega, rfl, st4, hO4, RowKit.Below.refl _ _⟩
  case round =>
    clear st4 hO4
    obtain ⟨k, pk, ck, hk, rfl, hst, hown, hB⟩ := hrel
    have s1 := hst.at 1 rfl
    by_cases hlt : k < n
    · have hltI : (k : Int) < (n : Int) := by omega
      have hown8 := hown.alloc (.cells #[.int .i64 k] 3)
      have hnew := cell_one_new wr (.int .i64 k) 3
      have hst8 := hst.alloc (.cells #[.int .i64 k] 3)
      have hB8 := hB.alloc (by have := hB.size; omega) (.cells #[.int .i64 k] 3)
      have hwz := hB.size
      have HU : Hid ((upto k).map (Value.int .i64) ++ [.int .i64 (k : Int)] = (upto (k + 1)).map (Value.int .i64)) := by rw [Hid, upto_succ, List.map_append]; rfl
      go_wp2_with (at_builtin; refine wpList_append_own _ rfl _ _ 36 rfl w4.heap.size 3 i0 (.int .i64 0) 1 8 Tryz.underlying36 hi0 hz0 hz1 hz2 rfl (by decide) _ _ _ rfl hown8 ⟨wr.heap.size, 0, none⟩ 1 1 [.int .i64 k] rfl rfl hnew (by simp [Value.oneCell']) (by simp only [maxLen]; omega) (by omega) (by rw [World.size_alloc]; omega) ?_; intro v' w9 hown' hgrow _; rw [HU.out] at hown'; obtain ⟨p9, c9, hv9, _⟩ := own_slT hown'; rw [upto_len] at hv9; subst hv9; have hst9 := hst8.grown hgrow (fun e => by have := (hown8.lt _ e.symm).1; omega); have hB9 := hB8.grown hgrow (by rw [World.size_alloc] at *; omega) (fun j e => by have := (hown8.lt j e).1; omega); have s9 := hst9.at 1 rfl; have f9 := hst9.frozen 1)
      go_roundw
      case rel => exact ⟨k + 1, p9, c9, by omega, by go_num, hst9.set (i := 1) _, (KX0.set (t := 3) hst9 1 _ (by decide)).own hown', hB9.setCell (Nat.le_refl _) _⟩
      case measure => simp [intOf]; omega
    · obtain rfl : k = n := by omega
      have hltI : ¬ (k : Int) < (k : Int) := by omega
      obtain ⟨p9, c9, he9, hsl⟩ := own_slT hown
      rw [upto_len] at he9
      simp only [Value.slice.injEq] at he9
      obtain ⟨rfl, _, rfl⟩ := he9
      have HOK : Hid (okP ((-1 : Int), upto k)) := ⟨⟨by show (-1 : Int) ≤ -1; omega, by show (-1 : Int) < 16; omega⟩, fun x hx => by have := mem_upto.1 hx; omega, by show (upto k).length ≤ 64; rw [upto_len]; exact hn64⟩
      have hXr : RowKit.Below w.heap.size w wr := HX4.out.trans (hB.mono (by omega))
      obtain ⟨ks, hks⟩ : ∃ ks : ByteArray, ks = ⟨(keyB (-1) (upto k)).toArray⟩ := ⟨_, rfl⟩
      have HKP : Hid (kP ((-1 : Int), upto k) = .string ks) := by rw [hks]; rfl
      have HK : Hid (∀ W, RowKit.Below wr.heap.size wr W → Calls Tryz.prog 30 #[.agg #[.int .i64 (-1), .slice pk k ck]] W fun e w' => e = .returned (.string ks) ∧ RowKit.Below W.heap.size W w') := fun W hW => by
        have h := lkKey_any (-1) (upto k) pk ck W HOK.out.1 (hsl.1.below hW) HOK.out.2.1 HOK.out.2.2 (H10.out.below (hXr.trans (hW.mono hXr.size)))
        rw [upto_len] at h; rw [hks]; exact h
      have HSL := hidI hsl
      have HST := hidI hst
      have HB := hidI hB; have HXR := hidI hXr
      have s0 := hst.at 0 rfl
      have hstl := hst.lt
      have hmm := @run_makeMap Tryz.prog
      clear hsl hst hB hXr hown hks
      go_upto_region 13 with fail
      clear hltI
      go_cut [9, 10] (fun vq vs wx => ∃ bq bs ms g, vq = .pointer (some ⟨bq, 0, none⟩) ∧ vs = .pointer (some ⟨bs, 0, none⟩) ∧ QI wr.heap.size bq bs ms g [((-1 : Int), upto k)] wx ∧ RowKit.Below wr.heap.size wr wx ∧ wr.heap.size ≤ bq ∧ wr.heap.size ≤ ms)
      case first =>
        refine region_inv (by kernel_rfl) (fun A => A.tmps.size = 103 ∧ A.eval (.tmp 7) = .pointer (some ⟨w3.heap.size + 1, 0, none⟩)) (I13 wr (.slice pk k ck) ks ((-1 : Int), upto k)) (by kernel_rfl) (fun l f W h => h.sz) ⟨rfl, rfl⟩ (I13.start (below_dN (RowKit.Below.refl _ _) 1)) ?_ ?_
        · rintro A ⟨hAs, hA7⟩ l f W i hI hi hli hr ho
          have hi' : i < 11 := hi
          have hS := hI.bel
          have c0 := (hS.cell hstl).trans s0
          have c1 := (hS.cell hstl).trans s1
          have hcases : i = 0 ∨ i = 1 ∨ i = 2 ∨ i = 3 ∨ i = 4 ∨ i = 5 ∨ i = 6 ∨ i = 7 ∨ i = 8 ∨ i = 9 ∨ i = 10 := by omega
          have e7 := fr_at0 (hI.dom 7 (by simp)) hA7
          clear hi hi'
          rcases hcases with rfl | rfl | rfl | rfl | rfl | rfl | rfl | rfl | rfl | rfl | rfl
          all_goals (have hli' := hli; simp at hli'; have hr' := hr; simp [rdyAt, Region.binds] at hr')
          · refine wpOp_step rfl (fun K hK => ?_)
            go_simp
            exact hK _ _ ⟨_, fr_put 45 _, hI.op0⟩
          · have h0 : dn l 0 = true := by simpa [dn] using hr'
            have n9 : dn l 9 = false := by cases hx : dn l 9 with | false => rfl | true => (have h9 := ho 9 hx; simp [rdyAt, Region.binds, hli'] at h9)
            have e45 := fr_at1 (hI.f45 h0) (show 45 < A.tmps.size by rw [hAs]; decide)
            refine wpOp_step rfl (fun K hK => ?_)
            go_simp
            exact hK _ _ ⟨_, fr_put 46 _, hI.op1 n9⟩
          · have n5 : dn l 5 = false := by cases hx : dn l 5 with | false => rfl | true => (have h9 := ho 5 hx; simp [rdyAt, Region.binds, hli'] at h9)
            have n6 : dn l 6 = false := by cases hx : dn l 6 with | false => rfl | true => (have h9 := ho 6 hx; simp [rdyAt, Region.binds, hli'] at h9)
            have n10 : dn l 10 = false := by cases hx : dn l 10 with | false => rfl | true => (have h9 := ho 10 hx; simp [rdyAt, Region.binds, hli'] at h9)
            refine wpOp_step rfl (fun K hK => ?_)
            go_simp
            exact hK _ _ ⟨_, fr_put 47 _, hI.op2 n5 n6 n10⟩
          · refine wpOp_step rfl (fun K hK => ?_)
            go_simp
            exact hK _ _ ⟨_, fr_put 48 _, hI.op3⟩
          · have h3 : dn l 3 = true := by simpa [dn] using hr'
            have e48 := fr_at1 (hI.f48 h3) (show 48 < A.tmps.size by rw [hAs]; decide)
            refine wpOp_step rfl (fun K hK => ?_)
            go_simp
            refine (HK.out W hS).mono ?_
            rintro e wB ⟨rfl, hBb⟩
            exact hK _ _ ⟨_, fr_put 49 _, (hI.keep hBb).op4⟩
          · have h2 : dn l 2 = true := by simpa [dn] using hr'.1
            have h4 : dn l 4 = true := by simpa [dn] using hr'.2
            obtain ⟨m, hm, hmw, hmb5, _⟩ := hI.f47 h2
            have hrun := first_run HOK.out HKP.out (hmb5 hli)
            have e47 := fr_at1 hm (show 47 < A.tmps.size by rw [hAs]; decide)
            have e49 := fr_at1 (hI.f49 h4) (show 49 < A.tmps.size by rw [hAs]; decide)
            refine wpOp_step rfl (fun K hK => ?_)
            go_simp
            exact hK _ _ ⟨_, rfl, hI.op5 HOK.out m hm (hmb5 hli) hmw⟩
          · have h2 : dn l 2 = true := by simpa [dn] using hr'.1
            obtain ⟨m, hm, hmw, _, _⟩ := hI.f47 h2
            have e47 := fr_at1 hm (show 47 < A.tmps.size by rw [hAs]; decide)
            refine wpOp_step rfl (fun K hK => ?_)
            go_simp
            exact hK _ _ ⟨_, fr_put 50 _, hI.op6 _ hm⟩
          · have n9 : dn l 9 = false := by cases hx : dn l 9 with | false => rfl | true => (have h9 := ho 9 hx; simp [rdyAt, Region.binds, hli'] at h9)
            refine wpOp_step rfl (fun K hK => ?_)
            go_simp
            exact hK _ _ ⟨_, fr_put 9 _, hI.op7 n9 _⟩
          · have n10 : dn l 10 = false := by cases hx : dn l 10 with | false => rfl | true => (have h9 := ho 10 hx; simp [rdyAt, Region.binds, hli'] at h9)
            refine wpOp_step rfl (fun K hK => ?_)
            go_simp
            exact hK _ _ ⟨_, fr_put 10 _, hI.op8 n10 _⟩
          · have h7 : dn l 7 = true := by simpa [dn] using hr'.1
            have h1 : dn l 1 = true := by simpa [dn] using hr'.2.1
            obtain ⟨b, v0, k1, k2, k3, _⟩ := hI.f9 h7
            obtain ⟨b', m1, m2, m3⟩ := hI.f46 h1
            have z0 := k3.frozen 0; have z1 := k3.at 0 rfl
            have e9 := fr_at1 k1 (show 9 < A.tmps.size by rw [hAs]; decide)
            have e46 := fr_at1 m1 (show 46 < A.tmps.size by rw [hAs]; decide)
            refine wpOp_step rfl (fun K hK => ?_)
            go_simp
            exact hK _ _ ⟨_, rfl, hI.op9 b _ _ k1 k2 k3 m1⟩
          · have h8 : dn l 8 = true := by simpa [dn] using hr'.1
            have h6 : dn l 6 = true := by simpa [dn] using hr'.2.1
            have h2 : dn l 2 = true := by
              have h9 := ho 6 h6
              simp [rdyAt, Region.binds] at h9
              simpa [dn] using h9.1
            obtain ⟨b, v0, k1, k2, k3, _⟩ := hI.f10 h8
            obtain ⟨m, hm, hmw, _, _⟩ := hI.f47 h2
            have z0 := k3.frozen 0; have z1 := k3.at 0 rfl
            have e10 := fr_at1 k1 (show 10 < A.tmps.size by rw [hAs]; decide)
            have e50 := fr_at1 ((hI.f50 h6).trans hm) (show 50 < A.tmps.size by rw [hAs]; decide)
            refine wpOp_step rfl (fun K hK => ?_)
            go_simp
            exact hK _ _ ⟨_, rfl, hI.op10 b _ _ k1 k2 k3 hm⟩
        · intro l f W hI hl
          obtain ⟨b9, v9, k1, k2, k3, k4⟩ := hI.f9 (hl 7 (by decide))
          obtain ⟨b10, v10, q1, q2, q3, q4⟩ := hI.f10 (hl 8 (by decide))
          obtain ⟨b1, m1, m2, m3⟩ := hI.f46 (hl 1 (by decide))
          obtain ⟨m, n1, n2, _, n4⟩ := hI.f47 (hl 2 (by decide))
          have hM := n4 (hl 5 (by decide))
          have k4 := k4 (hl 9 (by decide))
          have q4 := q4 (hl 10 (by decide))
          rw [m1] at k4
          rw [n1] at q4
          obtain rfl := Option.some.inj k4
          obtain rfl := Option.some.inj q4
          rw [fr_all hI.dom k1 q1 (hI.f45 (hl 0 (by decide))) m1 n1 (hI.f48 (hl 3 (by decide))) (hI.f49 (hl 4 (by decide))) ((hI.f50 (hl 6 (by decide))).trans n1)]
          have hQ : QI wr.heap.size b9 b10 m b1 [((-1 : Int), upto k)] W := by
            have hs := HSL.out.below hI.bel
            refine ⟨⟨[(((-1 : Int), upto k), (pk, ck))], 1, rfl, k3, ?_, ?_⟩, q3, hM⟩
            · have e : catQ [(((-1 : Int), upto k), (pk, ck))] = [.int .i64 (-1), .slice pk k ck] := by
                show [Value.int .i64 (-1), .slice pk (upto k).length ck] = _
                rw [upto_len]
              rw [e]
              exact row_own m3 m2
            · intro e he
              rw [List.mem_singleton.1 he]; exact hs
          have hBl := hI.bel
          clear m1 n1 k1 q1 k3 q3 m3 hM n4 hI hl
          go_simp
          go_wp2_with fail
          go_meet
          exact ⟨b9, b10, m, b1, rfl, rfl, hQ, hBl, k2, n2⟩
      case rest =>
        obtain ⟨bq, bs, ms, g, rfl, rfl, hQ, hBc, hbq, hms⟩ := hcut
        have kq : ∀ b, b < w3.heap.size + 1 → wc.heap[b]? = w4.heap[b]? := fun b hb => (hBc.block b (by have := HB.out.size; omega)).trans (HB.out.block b hb)
        have hTL : VRow wc w.heap.size 26 [.int .i64 T.q, .int .i64 T.n, .slice p1 T.base.length c1, .slice p2 T.swaps.length c2] := (kq _ (by omega)).trans HT4.out
        have hGL : VRow wc (w.heap.size + 1) 30 [.int .i64 G.q, .int .i64 G.n, .slice p G.es.length c] := (kq _ (by omega)).trans HG4.out
        have hSB : VRow wc w3.heap.size 66 [.map (some mb)] := (kq _ (by omega)).trans HS4.out
        have hSW : SwB T.swaps wc mb := MpB.same HSW4.out (kq _ (by omega))
        have hXC : RowKit.Below w.heap.size w wc := HXR.out.trans (hBc.mono HXR.out.size)
        have HCB : Hid (CB T G p1 p2 c1 c2 p c w (w.heap.size + 1) w3.heap.size mb wr.heap.size wc) := ⟨hTL, hGL, hSB, hSW, hXC, HT.out, HG.out, H10.out, by omega, by omega, by omega, by omega, hBc.size⟩
        have hbc : wr.heap.size ≤ wc.heap.size := hBc.size
        have HXC := hidI hXC
        have HKQ : Hid (kpN T G 1025 0 [((-1 : Int), upto k)] = kpA T G) := by
          unfold Hid kpA stP; rw [HN.out]
        have HOQ : Hid (OkQ G [((-1 : Int), upto k)]) := fun q hq => by
          rw [List.mem_singleton.1 hq]
          refine ⟨?_, by show (-1 : Int) ≤ -1; omega, by show (-1 : Int) < 16; omega⟩
          have := St.upto HV.out.n1
          rw [HN.out] at this; exact this
        generalize w.heap.size + 1 = gb at *
        generalize w3.heap.size = sb at *
        generalize wr.heap.size = bw at *
        clear HG4 HT4 HS4 HSW4 HX4 hBc hTL hGL hSB hSW hXC kq HB HXR HST HSL HK HKP HOK hmm s0 s1 hstl hsz4 hmb4 hlt3 HN HNN
        go_wp2
        go_loopw [12] (fun iv W => ∃ (i g' : Nat) (q : List Pl), iv = .int .i64 i ∧ i ≤ q.length ∧ 1 ≤ q.length ∧ q.length ≤ 1024 ∧ OkQ G q ∧ QI bw bq bs ms g' q W ∧ Hid (kpN T G (1025 - i) i q = kpA T G) ∧ RowKit.Below bw wc W) (fun iv _ => 1025 - (intOf iv).toNat)
        case atStart => exact ⟨0, g, [((-1 : Int), upto k)], rfl, by simp, by simp, by simp, HOQ.out, hQ, HKQ, RowKit.Below.refl _ _⟩
        case round =>
          clear hQ HOQ HKQ
          obtain ⟨i, g', q, rfl, hi1, hq1, hq2, hOq, hQ, hkp, hB⟩ := hrel
          have hwsz := hB.size
          by_cases hlt : i < q.length
          · have hltI : (i : Int) < (q.length : Int) := by omega
            obtain ⟨cap, pp, d, e0, e1, e2, hsl⟩ := hQ.get i hlt
            have hpl := hOq _ (List.getElem_mem hlt)
            have HKE : Hid ((rndP T G q[i] q).2 ≠ 0 → kpA T G = (rndP T G q[i] q).2) := fun he => by
              rw [← hkp.out, show 1025 - i = (1024 - i) + 1 by omega, kpN_err hlt he]
            have HKG : Hid ((rndP T G q[i] q).2 = 0 → kpN T G (1025 - (i + 1)) (i + 1) (rndP T G q[i] q).1 = kpA T G) := fun he => by
              rw [← hkp.out, show 1025 - i = (1025 - (i + 1)) + 1 by omega, kpN_go hlt he]
            have hgr := rnd_grw T G q[i] q
            have HRL : Hid (i + 1 ≤ (rndP T G q[i] q).1.length) := by have := hgr.pre.length_le; unfold Hid; omega
            clear hkp hgr
            generalize q[i] = pl at *
            obtain ⟨W1, hW1⟩ : ∃ W1, W1 = wr.alloc (.cells #[.int .i64 pl.1, .slice pp pl.2.length d] 69) := ⟨_, rfl⟩
            have hp1 : VRow W1 wr.heap.size 69 [.int .i64 pl.1, .slice pp pl.2.length d] := by subst hW1; exact VRow.new wr _ _
            have hB1 : RowKit.Below wr.heap.size wr W1 := by subst hW1; exact (RowKit.Below.refl _ _).alloc (Nat.le_refl _) _
            have hpq : bq < wr.heap.size := by obtain ⟨es, cap, _, h2, _⟩ := hQ.row; exact h2.lt
            have hpm : ms < wr.heap.size := hQ.seen.lt
            have hgl : wr.heap.size ≠ g' := by obtain ⟨cur, fz, e⟩ := hQ.gb; have := (Array.getElem?_eq_some_iff.1 e).1; omega
            have hCS : CSE G bw bq bs ms wr.heap.size pl pp d wc q W1 := ⟨g', hQ.below hB1, hgl, hp1, hsl.below hB1, hB.trans (hB1.mono (Nat.le_trans hbc hwsz)), hOq, hq1, hq2⟩
            have hCB1 := HCB.out.later (hB.trans (hB1.mono (Nat.le_trans hbc hwsz)))
            have f2 := hCB1.tl.at 2 rfl
            clear hQ hB hOq hsl hp1 hB1 hgl hCB1
            go_upto_region 20 with fail
            rw [← hW1]
            clear hW1 e0 e1 e2
            generalize wr.heap.size = pb at *
            have HPL := hidI hpl
            have HR0 : Hid (rB T G pl q 0 = (q, 0)) := rfl
            have HRN : Hid (∀ q', rB T G pl q T.base.length = (q', 0) → rndP T G pl q = rS T G pl (q', 0) T.swaps.length) := fun q' h => by unfold rndP; rw [h]
            have HRB : Hid (∀ j, j ≤ T.base.length → (rB T G pl q j).2 ≠ 0 → kpA T G = (rB T G pl q j).2) := fun j hj he => by
              rw [← rnd_base hj he]; exact HKE.out (by rw [rnd_base hj he]; exact he)
            have HSS : Hid (∀ q' j, rB T G pl q T.base.length = (q', 0) → j ≤ T.swaps.length → (rS T G pl (q', 0) j).2 ≠ 0 → kpA T G = (rS T G pl (q', 0) j).2) := fun q' j h hj he => by
              rw [← h] at he ⊢
              rw [← rnd_swap hj he]; exact HKE.out (by rw [rnd_swap hj he]; exact he)
            have hlen : T.base.length ≤ 16 ∧ T.swaps.length ≤ 64 := by have := pre_all (fmd_split HF.out).1; omega
            clear hpl HKE
            go_wp2
            clear f2
            go_loopw [66] (fun kv Wx => ∃ (j : Nat) (q' : List Pl), j ≤ T.base.length ∧ kv = .int .i64 j ∧ Hid (rB T G pl q j = (q', 0)) ∧ Hid (CSE G bw bq bs ms pb pl pp d wc q' Wx)) (fun kv _ => T.base.length - (intOf kv).toNat)
            case atStart => exact ⟨0, q, by omega, rfl, HR0, hCS⟩
            case round =>
              clear hCS HR0
              obtain ⟨j, q', hj, rfl, hrb, hcs⟩ := hrel
              by_cases hjt : j < T.base.length
              · have hjI : (j : Int) < (T.base.length : Int) := by omega
                obtain ⟨g9, hc9⟩ := hcs.out
                have hCB9 := HCB.out.later hc9.bel
                obtain ⟨b3, o3, rfl, hb3, hc3⟩ := (hCB9.tb.base.below hCB9.x).get j hjt
                have c0 := hc3 j hjt
                have r0 := hc9.row.at 0 rfl; have r1 := hc9.row.at 1 rfl
                have hok := base_okw HF.out j hjt
                rw [bget_eq _ _ hjt] at hok
                rw [← HQQ.out] at hok
                have HFR := hidI (free_step HCB.out hcs.out HF.out HPL.out.2 (j : Int) (WalkArith.wf_i64 (by omega)))
                have HWR := hidI (write_step HCB.out hcs.out HV.out HPL.out.1 hpq hpm hbq hms T.base[j] (j : Int) (by omega) hok.1 hok.2)
                have HN1 : Hid (frW T pl.1 (j : Int) = false → rB T G pl q (j + 1) = (q', 0)) := fun h => by rw [rB_succ, hrb.out, bsP_no h]
                have HN2 : Hid (frW T pl.1 (j : Int) = true → rB T G pl q (j + 1) = ((wrP G q' pl T.base[j] (j : Int)).1, (wrP G q' pl T.base[j] (j : Int)).2)) := fun h => by rw [rB_succ, hrb.out, bsP_go h, bget_eq _ _ hjt]
                generalize T.base[j] = wd at *
                generalize (wrP G q' pl wd (j : Int)).1 = q8 at *
                generalize (wrP G q' pl wd (j : Int)).2 = e8 at *
                generalize frW T pl.1 (j : Int) = fr at *
                clear hok hc3 hb3 hc9 hCB9 hrb
                go_wp2_with fail
                refine HFR.out.mono ?_
                rintro e w8 ⟨rfl, hw8⟩
                subst hw8
                cases fr
                · have HM1 := hidI (HN1.out rfl)
                  clear HN1 HN2
                  go_wp2
                  go_roundw
                  case rel => exact ⟨j + 1, q', by omega, by go_num, HM1, hcs⟩
                  case measure => simp [intOf]; omega
                · have HM2 := hidI (HN2.out rfl)
                  clear HN1 HN2
                  go_wp2_with fail
                  refine HWR.out.mono ?_
                  rintro e w9 ⟨rfl, hcs9⟩
                  have HC9 := hidI hcs9
                  clear hcs9 r0 r1 c0
                  by_cases he : e8 = 0
                  · subst he
                    go_wp2
                    go_roundw
                    case rel => exact ⟨j + 1, q8, by omega, by go_num, HM2, HC9⟩
                    case measure => simp [intOf]; omega
                  · have HY : Hid (chkL T G = e8) := by rw [Hid, HX3.out, HRB.out (j + 1) (by omega) (by rw [HM2.out]; exact he), HM2.out]
                    have heb : (e8 != 0) = true := by simpa using he
                    obtain ⟨g7, hc7⟩ := HC9.out
                    have hx9 := (HCB.out.later hc7.bel).x
                    clear he hc7
                    go_wp2
                    go_ret
                    exact ⟨ret_int HY.out.symm, hx9⟩
              · obtain rfl : j = T.base.length := by omega
                have hjI : ¬ (T.base.length : Int) < (T.base.length : Int) := by omega
                obtain ⟨g9, hc9⟩ := hcs.out
                have hCB9 := HCB.out.later hc9.bel
                have f3 := hCB9.tl.at 3 rfl
                have HRN2 := hidI (HRN.out q' hrb.out)
                have HSS2 : Hid (∀ j, j ≤ T.swaps.length → (rS T G pl (q', 0) j).2 ≠ 0 → kpA T G = (rS T G pl (q', 0) j).2) := fun j hj he => HSS.out q' j hrb.out hj he
                have HR0 : Hid (rS T G pl (q', 0) 0 = (q', 0)) := by unfold Hid rS; rw [List.take_zero]; rfl
                have HQP : Hid (q'.length ≤ 1024) := hc9.l2
                clear hc9 hCB9 HRN HSS HRB hrb
                go_wp2
                clear f3
                go_loopw [86] (fun kv Wx => ∃ (j : Nat) (q2 : List Pl), j ≤ T.swaps.length ∧ kv = .int .i64 j ∧ Hid (rS T G pl (q', 0) j = (q2, 0)) ∧ Hid (CSE G bw bq bs ms pb pl pp d wc q2 Wx)) (fun kv _ => T.swaps.length - (intOf kv).toNat)
                case atStart => exact ⟨0, q', by omega, rfl, HR0, hcs⟩
                case round =>
                  clear hcs HR0
                  obtain ⟨j, q2, hj, rfl, hrb, hcs⟩ := hrel
                  by_cases hjt : j < T.swaps.length
                  · have hjI2 : (j : Int) < (T.swaps.length : Int) := by omega
                    obtain ⟨g9, hc9⟩ := hcs.out
                    have hCB9 := HCB.out.later hc9.bel
                    obtain ⟨b3, o3, rfl, hb3, c0, c1, c2⟩ := (hCB9.tb.swaps.below hCB9.x).get3 j hjt rfl
                    have hok := swap_okw HF.out j hjt
                    rw [← HQQ.out] at hok
                    have hwf := (swaps_ok2 HF.out j hjt).1
                    obtain ⟨W7, hW7⟩ : ∃ W7, W7 = wr.alloc (.cells #[.int .i64 T.swaps[j].i, .int .i64 T.swaps[j].j, .string T.swaps[j].wd] 55) := ⟨_, rfl⟩
                    have hB7 : RowKit.Below wr.heap.size wr W7 := by subst hW7; exact (RowKit.Below.refl _ _).alloc (Nat.le_refl _) _
                    have s7 : VRow W7 wr.heap.size 55 [.int .i64 T.swaps[j].i, .int .i64 T.swaps[j].j, .string T.swaps[j].wd] := by subst hW7; exact VRow.new wr _ _
                    have hcs7 := hidI (hcs.out.below (Nat.le_trans hbc hc9.bel.size) hB7)
                    have hr7 := hc9.row.below hB7 hc9.row.lt
                    have r0 := hr7.at 0 rfl; have r1 := hr7.at 1 rfl
                    have s0 := s7.at 0 rfl; have s2 := s7.at 2 rfl
                    have HFR := hidI (free_step HCB.out hcs7.out HF.out HPL.out.2 T.swaps[j].i hwf)
                    have HWR := hidI (write_step HCB.out hcs7.out HV.out HPL.out.1 hpq hpm hbq hms T.swaps[j].wd (-1) (by omega) hok.1 hok.2)
                    have HN1 : Hid (frW T pl.1 T.swaps[j].i = false → rS T G pl (q', 0) (j + 1) = (q2, 0)) := fun h => by rw [rS_succ _ _ _ _ _ hjt, hrb.out, ssP_no h]
                    have HN2 : Hid (frW T pl.1 T.swaps[j].i = true → rS T G pl (q', 0) (j + 1) = ((wrP G q2 pl T.swaps[j].wd (-1)).1, (wrP G q2 pl T.swaps[j].wd (-1)).2)) := fun h => by rw [rS_succ _ _ _ _ _ hjt, hrb.out, ssP_go h]
                    generalize T.swaps[j] = sw at *
                    generalize (wrP G q2 pl sw.wd (-1)).1 = q8 at *
                    generalize (wrP G q2 pl sw.wd (-1)).2 = e8 at *
                    generalize frW T pl.1 sw.i = fr at *
                    clear hok hb3 hc9 hCB9 hrb hwf s7 hr7 hB7 hcs
                    go_upto_region 31 with fail
                    rw [← hW7]
                    clear hW7 c0 c1 c2
                    generalize wr.heap.size = sbx at *
                    go_wp2_with fail
                    refine HFR.out.mono ?_
                    rintro e w8 ⟨rfl, hw8⟩
                    subst hw8
                    cases fr
                    · have HM1 := hidI (HN1.out rfl)
                      clear HN1 HN2
                      go_wp2
                      go_roundw
                      case rel => exact ⟨j + 1, q2, by omega, by go_num, HM1, hcs7⟩
                      case measure => simp [intOf]; omega
                    · have HM2 := hidI (HN2.out rfl)
                      clear HN1 HN2
                      go_wp2_with fail
                      refine HWR.out.mono ?_
                      rintro e w9 ⟨rfl, hcs9⟩
                      have HC9 := hidI hcs9
                      clear hcs9 r0 r1 s0 s2
                      by_cases he : e8 = 0
                      · subst he
                        go_wp2
                        go_roundw
                        case rel => exact ⟨j + 1, q8, by omega, by go_num, HM2, HC9⟩
                        case measure => simp [intOf]; omega
                      · have HY : Hid (chkL T G = e8) := by rw [Hid, HX3.out, HSS2.out (j + 1) (by omega) (by rw [HM2.out]; exact he), HM2.out]
                        have heb : (e8 != 0) = true := by simpa using he
                        obtain ⟨g7, hc7⟩ := HC9.out
                        have hx9 := (HCB.out.later hc7.bel).x
                        clear he hc7
                        go_wp2
                        go_ret
                        exact ⟨ret_int HY.out.symm, hx9⟩
                  · obtain rfl : j = T.swaps.length := by omega
                    have hjI2 : ¬ (T.swaps.length : Int) < (T.swaps.length : Int) := by omega
                    obtain ⟨g9, hc9⟩ := hcs.out
                    have hrn : rndP T G pl q = (q2, 0) := by rw [HRN2.out, hrb.out]
                    have hkn := HKG.out (by rw [hrn])
                    have hil := HRL.out
                    rw [hrn] at hkn hil
                    have HKN := hidI hkn
                    have HC9 := hidI hc9
                    clear hkn hrn hc9 hcs hrb
                    go_wp2
                    go_roundw
                    case rel => exact ⟨i + 1, g9, q2, by go_num, hil, HC9.out.l1, HC9.out.l2, HC9.out.ok, HC9.out.qi, HKN, HC9.out.bel⟩
                    case measure => simp [intOf]; omega
          · have hltI : ¬ (i : Int) < (q.length : Int) := by omega
            obtain ⟨cap, e0⟩ := hQ.lenbox
            have HY : Hid (chkL T G = 0) := by rw [Hid, HX3.out, ← hkp.out, kpN_end hlt]
            have hx9 := (HCB.out.later hB).x
            clear hQ hB hOq hkp
            go_wp2
            go_ret
            exact ⟨ret_int HY.out.symm, hx9⟩
end Go.Proofs.YtjpilmedlecdhaaGreatDoor
namespace Go.Proofs.YtjpilmedlecdhaaGreatDoor
open Go.RowKit Go.Sort Go.Shelf Go.Lib

/-! ### The label of one letter -/
theorem letv_dig (c : Int) (k : Nat) (h : Chg.dig c = (k : Int)) : Chg.letv k = c := by
  unfold Chg.dig at h; unfold Chg.letv
  split at h
  · rw [if_pos (by omega)]; omega
  · split at h
    · rw [if_neg (by omega)]; omega
    · omega

end Go.Proofs.YtjpilmedlecdhaaGreatDoor
namespace Go.Proofs.YtjpilmedlecdhaaGreatDoor
open Go.RowKit Go.Sort Go.Shelf Go.Lib

theorem one_size (s : ByteArray) (k : Nat) (h : k < s.size) : (s.extract k (k + 1)).size = 1 := by simp; omega
theorem one_get (s : ByteArray) (k : Nat) (h : k < s.size) : (s.extract k (k + 1))[0]'(by rw [one_size s k h]; omega) = s[k] := by
  rw [ByteArray.getElem_extract]; rfl
theorem one_chk {q : Int} (hq : 2 ≤ q) (hq2 : q ≤ 16) (s : ByteArray) (k : Nat) (h : k < s.size) (hw : Chg.okw q s.data.toList = true) : Chg.wchk q (s.extract k (k + 1)).data.toList = 0 := by
  refine Chg.wchk_ok _ _ (by omega) (by omega) (by rw [toL_len, one_size s k h]; omega) ?_
  unfold Chg.okw at hw ⊢
  rw [toL_ext, List.all_eq_true]
  intro c hc
  exact List.all_eq_true.1 hw c (List.mem_of_mem_take (List.mem_of_mem_drop hc))

/-! ### Rows of pairs -/
end Go.Proofs.YtjpilmedlecdhaaGreatDoor
namespace Go.Proofs.YtjpilmedlecdhaaGreatDoor
open Go.RowKit Go.Sort Go.Shelf Go.Lib

def badA (T : Tb) (G : Gr) : List (List Int) × Int := if fitA T G = 0 then (badL T G, 0) else ([], fitA T G)
set_option maxRecDepth 100000 in
set_option maxHeartbeats 1000000 in
theorem lkBad_any (T : Tb) (p1 p2 : Option Addr) (c1 c2 : Nat) (G : Gr) (p : Option Addr) (c : Nat) (w : World) (hin : TbIn w T p1 p2 c1 c2) (hG : Sg 3 w edE p G.es) (hl : G.es.length ≤ 9223372036854775807) :
    Calls Tryz.prog 17 #[(.agg #[.int .i64 T.q, .int .i64 T.n, .slice p1 T.base.length c1, .slice p2 T.swaps.length c2]), (.agg #[.int .i64 G.q, .int .i64 G.n, .slice p G.es.length c])] w (RetLLI (badA T G).1 (badA T G).2 w) := by
  obtain ⟨w0, hw0⟩ : ∃ w0, w0 = (w.alloc (.cells #[.int .i64 T.q, .int .i64 T.n, .slice p1 T.base.length c1, .slice p2 T.swaps.length c2] 26)).alloc (.cells #[.int .i64 G.q, .int .i64 G.n, .slice p G.es.length c] 30) := ⟨_, rfl⟩
  have b0 : VRow w0 w.heap.size 26 [.int .i64 T.q, .int .i64 T.n, .slice p1 T.base.length c1, .slice p2 T.swaps.length c2] := by subst hw0; exact (VRow.new w _ _).alloc _
  have d0 : VRow w0 (w.heap.size + 1) 30 [.int .i64 G.q, .int .i64 G.n, .slice p G.es.length c] := by subst hw0; exact VRow.new1 w _ _ _
  have hB0 : RowKit.Below w.heap.size w w0 := by subst hw0; exact ((RowKit.Below.refl _ _).alloc (Nat.le_refl _) _).alloc (by simp) _
  have HC := hidI (lkCheck0_any T p1 p2 c1 c2 G p c w0 (hin.below hB0) (hG.below hB0) hl)
  have HFZ := hidI (@fit_zero T G)
  have HB := hidI (fun W (hB : RowKit.Below w.heap.size w W) (h1 : fmd T = true) (h2 : Vg G) (h3 : G.q = T.q) => lkbad_any T p1 p2 c1 c2 G p c W (hin.below hB) (hG.below hB) h1 h2 h3)
  have HX1 : Hid (fitA T G = 0 → badA T G = (badL T G, 0)) := fun h => by unfold badA; rw [if_pos h]
  have HX2 : Hid (fitA T G ≠ 0 → badA T G = ([], fitA T G)) := fun h => by unfold badA; rw [if_neg h]
  have a0 := b0.at 0 rfl; have a1 := b0.at 1 rfl; have a2 := b0.at 2 rfl; have a3 := b0.at 3 rfl
  have e0 := d0.at 0 rfl; have e1 := d0.at 1 rfl; have e2 := d0.at 2 rfl
  clear hin hG
  generalize fitA T G = k at *
  generalize badA T G = R at *
  go_enter Tryz.func17, Tryz.ntmps17
  go_upto_region 1 with fail
  rw [← hw0]
  clear hw0
  go_wp2_with fail
  refine HC.out.mono ?_
  rintro e w1 ⟨rfl, hB1⟩
  have x1 := hB0.trans (hB1.mono hB0.size)
  have t1 := b0.below hB1 b0.lt
  have g1 := d0.below hB1 d0.lt
  clear a0 a1 a2 a3 e0 e1 e2 b0 d0 hB1 HC
  by_cases hk : k = 0
  · obtain ⟨h1, h2, h3⟩ := HFZ.out hk
    have HR := hidI (HX1.out hk)
    have HBB := hidI (HB.out w1 x1 h1 h2 h3)
    clear h1 h2 h3 HFZ HX1 HX2 HB
    subst hk
    have a0 := t1.at 0 rfl; have a1 := t1.at 1 rfl; have a2 := t1.at 2 rfl; have a3 := t1.at 3 rfl
    have e0 := g1.at 0 rfl; have e1 := g1.at 1 rfl; have e2 := g1.at 2 rfl
    go_wp2_with fail
    refine HBB.out.mono ?_
    rintro e w2 ⟨q, d, X, rfl, hr, hB2⟩
    go_wp2
    go_ret2
    exact ⟨q, d, X, by rw [HR.out]; rfl, by rw [HR.out]; exact hr, x1.trans (hB2.mono x1.size)⟩
  · have HR := hidI (HX2.out hk)
    have hkn : (k != 0) = true := by simpa using hk
    clear hk HFZ HX1 HX2 HB t1 g1
    go_wp2
    go_ret2
    exact ⟨none, 0, [], by rw [HR.out]; rfl, by rw [HR.out]; exact LLr.nil _ _, x1⟩

theorem lists_ne {L M : List (List Int)} {k : Nat} (h1 : k < L.length) (h2 : k < M.length) (h : L[k] ≠ M[k]) : L ≠ M := fun e => by subst e; exact h rfl
theorem lists_eq {L M : List (List Int)} (hl : L.length = M.length) (h : ∀ j (h1 : j < L.length) (h2 : j < M.length), j < L.length → L[j] = M[j]) : L = M :=
  List.ext_getElem hl (fun j h1 h2 => h j h1 h2 h1)
end Go.Proofs.YtjpilmedlecdhaaGreatDoor
namespace Go.Proofs.YtjpilmedlecdhaaGreatDoor
open Go.RowKit Go.Sort Go.Shelf Go.Lib

end Go.Proofs.YtjpilmedlecdhaaGreatDoor
namespace Go.Proofs.YtjpilmedlecdhaaGreatDoor
open Go.RowKit Go.Sort Go.Shelf Go.Lib

set_option maxRecDepth 100000 in
set_option maxHeartbeats 4000000 in
theorem rlkSame_eq (T : Tb) (p1 p2 q1 q2 : Option Addr) (c1 c2 d1 d2 : Nat) (w : World) (hin : TbIn w T p1 p2 c1 c2) (hin' : TbIn w T q1 q2 d1 d2) :
    Calls Tryz.prog 22 #[(.agg #[.int .i64 T.q, .int .i64 T.n, .slice p1 T.base.length c1, .slice p2 T.swaps.length c2]), .agg #[.int .i64 T.q, .int .i64 T.n, .slice q1 T.base.length d1, .slice q2 T.swaps.length d2]] w fun e w' => e = .returned (.bool true) ∧ RowKit.Below w.heap.size w w' := by
  obtain ⟨w0, hw0⟩ : ∃ w0, w0 = (w.alloc (.cells #[.int .i64 T.q, .int .i64 T.n, .slice p1 T.base.length c1, .slice p2 T.swaps.length c2] 26)).alloc (.cells #[.int .i64 T.q, .int .i64 T.n, .slice q1 T.base.length d1, .slice q2 T.swaps.length d2] 26) := ⟨_, rfl⟩
  have b0 : VRow w0 w.heap.size 26 [.int .i64 T.q, .int .i64 T.n, .slice p1 T.base.length c1, .slice p2 T.swaps.length c2] := by subst hw0; exact (VRow.new w _ _).alloc _
  have b1 : VRow w0 (w.heap.size + 1) 26 [.int .i64 T.q, .int .i64 T.n, .slice q1 T.base.length d1, .slice q2 T.swaps.length d2] := by subst hw0; exact VRow.new1 w _ _ _
  have hB0 : RowKit.Below w.heap.size w w0 := by subst hw0; exact ((RowKit.Below.refl _ _).alloc (Nat.le_refl _) _).alloc (by simp) _
  have HA := hidI (hin.below hB0); have HB := hidI (hin'.below hB0)
  have HB0 := hidI hB0; have HR := hidI b0; have HS := hidI b1
  have h1 := hin.l1; have h2 := hin.l2
  have k1 : (T.q != T.q) = false := by simp
  have k2 : (T.n != T.n) = false := by simp
  have k3 : ((T.base.length : Int) != (T.base.length : Int)) = false := by simp
  have k4 : ((T.swaps.length : Int) != (T.swaps.length : Int)) = false := by simp
  have f0 := b0.at 0 rfl; have f1 := b0.at 1 rfl; have f2 := b0.at 2 rfl; have f3 := b0.at 3 rfl
  have g0 := b1.at 0 rfl; have g1 := b1.at 1 rfl; have g2 := b1.at 2 rfl; have g3 := b1.at 3 rfl
  clear hin hin' hB0 b0 b1
  go_enter Tryz.func22, Tryz.ntmps22
  go_upto_region 1 with fail
  rw [← hw0]
  clear hw0
  go_wp2_with fail
  clear k1 k2 k3 k4 f0 f1 f2 f3 g0 g1 g2 g3
  go_loopw [5] (fun iv wr => ∃ k : Nat, k ≤ T.base.length ∧ iv = .int .i64 k ∧ Dr w0 wr) (fun iv _ => T.base.length - (intOf iv).toNat)
  case atStart => exact ⟨0, by omega, rfl, Dr.refl _⟩
  case round =>
    obtain ⟨k, hk, rfl, hD⟩ := hrel
    have ha := HR.out.dr hD; have hb := HS.out.dr hD
    have f2 := ha.at 2 rfl; have g2 := hb.at 2 rfl
    by_cases hlt : k < T.base.length
    · have hltI : (k : Int) < (T.base.length : Int) := by omega
      obtain ⟨bb, oo, rfl, hbb, hc⟩ := (HA.out.base.dr hD).get k hlt
      obtain ⟨bb', oo', rfl, hbb', hc'⟩ := (HB.out.base.dr hD).get k hlt
      have e0 := hc k hlt
      have e1 := hc' k hlt
      have hbt := bts_t (rfl : T.base[k] = T.base[k])
      have hbn : (T.base[k].toList != T.base[k].toList) = false := by simp
      clear hc hc' ha hb
      generalize T.base[k] = s at *
      go_wp2_with fail
      (refine wp_region_quiet_lit (by kernel_rfl) (by kernel_rfl) ?_; (repeat (first | go_big_quiet_step (fail) | quiet_step (fail))); refine wpQuiet_nil ?_; intro _ hwq; obtain ⟨nq, hwq2⟩ := hwq; subst hwq2)
      go_wp2_with fail
      go_roundw
      case rel => exact ⟨k + 1, by omega, by go_num, hD.one _⟩
      case measure => simp [intOf]; omega
    · obtain rfl : k = T.base.length := by omega
      have hltI : ¬ (T.base.length : Int) < (T.base.length : Int) := by omega
      obtain ⟨wo, hwo⟩ : ∃ wo, wo = wr := ⟨_, rfl⟩
      clear ha hb
      go_wp2_with fail
      clear f2 g2
      go_loopw [6] (fun iv wr => ∃ k : Nat, k ≤ T.swaps.length ∧ iv = .int .i64 k ∧ Dr w0 wr) (fun iv _ => T.swaps.length - (intOf iv).toNat)
      case atStart => exact ⟨0, by omega, rfl, hD⟩
      case round =>
        clear hD hwo
        obtain ⟨k, hk, rfl, hD⟩ := hrel
        have ha := HR.out.dr hD; have hb := HS.out.dr hD
        have f3 := ha.at 3 rfl; have g3 := hb.at 3 rfl
        by_cases hlt : k < T.swaps.length
        · have hltI : (k : Int) < (T.swaps.length : Int) := by omega
          obtain ⟨bb, oo, rfl, hbb, e0, e1, e2⟩ := (HA.out.swaps.below (hD.below _)).get3 k hlt rfl
          obtain ⟨bb', oo', rfl, hbb', n0, n1, n2⟩ := (HB.out.swaps.below (hD.below _)).get3 k hlt rfl
          generalize T.swaps[k] = s at *
          obtain ⟨si, sj, sw⟩ := s
          have hbt := bts_t (rfl : sw = sw)
          have hi1 : (si == si) = true := by simp
          have hj1 : (sj == sj) = true := by simp
          clear ha hb
          go_wp2_with fail
          (refine wp_region_quiet_lit (by kernel_rfl) (by kernel_rfl) ?_; (repeat (first | go_big_quiet_step (fail) | quiet_step (fail))); refine wpQuiet_nil ?_; intro _ hwq; obtain ⟨nq, hwq2⟩ := hwq; subst hwq2)
          go_wp2_with fail
          go_roundw
          case rel => exact ⟨k + 1, by omega, by go_num, hD.one _⟩
          case measure => simp [intOf]; omega
        · obtain rfl : k = T.swaps.length := by omega
          have hltI : ¬ (T.swaps.length : Int) < (T.swaps.length : Int) := by omega
          go_wp2_with fail
          go_ret
          exact ⟨rfl, HB0.out.trans (hD.below _)⟩
end Go.Proofs.YtjpilmedlecdhaaGreatDoor
