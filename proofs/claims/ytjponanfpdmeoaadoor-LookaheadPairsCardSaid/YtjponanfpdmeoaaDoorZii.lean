/-
  Words, plain lemmas and walks, merged: Rd, Re, Rf, Rg, Ri, Rj.
-/
import Derived.Test.YtjponanfpdmeoaaDoorZih
import Derived.Deep.RegionWith
import Derived.Orders
import Derived.RegionTactic
set_option linter.unusedVariables false
set_option linter.unusedSimpArgs false
namespace Go.Proofs.YtjponanfpdmeoaaDoor
open Go.RowKit Go.Sort Go.Shelf Go.Lib

/-! ### Blocks of one type are kept -/
/-- All blocks of one type, but one, are kept. -/
def KX1 (t : TypeId) (b : Nat) (W W' : World) : Prop := ∀ (i : Nat) (cur : Array Value) (fz : Nat × Nat), i ≠ b → W.heap[i]? = some (.cells cur t fz) → W'.heap[i]? = some (.cells cur t fz)
/-- All blocks of one type are kept. -/
def KX0 (t : TypeId) (W W' : World) : Prop := ∀ (i : Nat) (cur : Array Value) (fz : Nat × Nat), W.heap[i]? = some (.cells cur t fz) → W'.heap[i]? = some (.cells cur t fz)
section
variable {t t' : TypeId} {b : Nat} {X Y Z : World}
theorem KX0.refl (t : TypeId) (X : World) : KX0 t X X := fun _ _ _ h => h
theorem KX0.trans (h : KX0 t X Y) (k : KX0 t Y Z) : KX0 t X Z := fun i c f e => k i c f (h i c f e)
theorem KX1.trans (h : KX1 t b X Y) (k : KX1 t b Y Z) : KX1 t b X Z := fun i c f hn e => k i c f hn (h i c f hn e)
theorem KX0.one (h : KX0 t X Y) (b : Nat) : KX1 t b X Y := fun i c f _ e => h i c f e
theorem KX0.below (h : RowKit.Below X.heap.size X Y) : KX0 t X Y := fun i _ _ e => (h.block i (Array.getElem?_eq_some_iff.1 e).1).trans e
theorem KX0.turn (h : X.mapTurned Y b) : KX0 t X Y := fun i c f e => by
  obtain ⟨es, clock, es', clock', hb, rfl⟩ := h
  by_cases hi : i = b
  · subst hi; rw [hb] at e; cases e
  · exact (ChangeMaps.heap_setBlock_other hb _ hi).trans e
theorem KX0.grown {r : Option Nat} (h : X.grownBy Y r) (hr : ∀ k, r = some k → ∃ cur fz, X.heap[k]? = some (.cells cur t' fz)) (hne : t ≠ t') : KX0 t X Y := fun i c f e =>
  (h.block i (Array.getElem?_eq_some_iff.1 e).1 (fun er => by
    obtain ⟨c', f', e'⟩ := hr i er.symm
    rw [e] at e'; cases e'; exact hne rfl)).trans e
theorem KX0.set {cur : Array Value} {fz : Nat × Nat} (hb : X.heap[b]? = some (.cells cur t' fz)) (k : Nat) (v : Value) (hne : t ≠ t') : KX0 t X (X.setCell ⟨b, k, none⟩ v) := fun i c z e => by
  have hn : i ≠ b := by rintro rfl; rw [hb] at e; cases e; exact hne rfl
  exact (Below.heap_setCell _ _ _ _ hn).trans e
theorem KX1.set (t : TypeId) (b : Nat) (X : World) (k : Nat) (v : Value) : KX1 t b X (X.setCell ⟨b, k, none⟩ v) := fun _ _ _ hn e => (Below.heap_setCell _ _ _ _ hn).trans e
theorem KX0.vrow {l : List Value} (h : KX0 t X Y) (r : VRow X b t l) : VRow Y b t l := h _ _ _ r
theorem KX1.vrow {l : List Value} {i : Nat} (h : KX1 t b X Y) (r : VRow X i t l) (hn : i ≠ b) : VRow Y i t l := h _ _ _ hn r
theorem KX0.own {B n s : Nat} {v : Value} {xs : List Value} (h : KX0 t X Y) (ho : X.ownsRow B t s v n xs) : Y.ownsRow B t s v n xs := by
  refine ⟨ho.1, ho.2.imp id ?_⟩
  rintro ⟨g, cap, cur, e1, e2, e3, e4⟩
  exact ⟨g, cap, cur, e1, e2, h _ _ _ e3, e4⟩
theorem own_typed {B n s : Nat} {v : Value} {xs : List Value} (ho : X.ownsRow B t s v n xs) : ∀ k, v.ownBlock = some k → ∃ cur fz, X.heap[k]? = some (.cells cur t fz) := by
  intro k hk
  rcases ho.2 with ⟨rfl, _⟩ | ⟨g, cap, cur, rfl, _, hg, _⟩
  · cases hk
  · cases hk; exact ⟨_, _, hg⟩
end

/-- All maps are kept. -/
def KXm (W W' : World) : Prop := ∀ (i : Nat) (es : Array MapEntry) (cl : Nat), W.heap[i]? = some (.map es cl) → W'.heap[i]? = some (.map es cl)
section
variable {t' : TypeId} {b : Nat} {X Y Z : World}
theorem KXm.trans (h : KXm X Y) (k : KXm Y Z) : KXm X Z := fun i c f e => k i c f (h i c f e)
theorem KXm.below (h : RowKit.Below X.heap.size X Y) : KXm X Y := fun i _ _ e => (h.block i (Array.getElem?_eq_some_iff.1 e).1).trans e
theorem KXm.grown {r : Option Nat} (h : X.grownBy Y r) (hr : ∀ k, r = some k → ∃ cur fz, X.heap[k]? = some (.cells cur t' fz)) : KXm X Y := fun i c f e =>
  (h.block i (Array.getElem?_eq_some_iff.1 e).1 (fun er => by
    obtain ⟨c', f', e'⟩ := hr i er.symm
    rw [e] at e'; cases e')).trans e
theorem KXm.set {cur : Array Value} {fz : Nat × Nat} (hb : X.heap[b]? = some (.cells cur t' fz)) (k : Nat) (v : Value) : KXm X (X.setCell ⟨b, k, none⟩ v) := fun i c z e => by
  have hn : i ≠ b := by rintro rfl; rw [hb] at e; cases e
  exact (Below.heap_setCell _ _ _ _ hn).trans e
end


/-! ### Lists of numbers in blocks of their type -/
def SlT (w : World) (p : Option Addr) (l : List Int) : Prop := Sl w (Value.int .i64) p l ∧ ∀ b o z, p = some ⟨b, o, z⟩ → ∃ cur fz, w.heap[b]? = some (.cells cur 3 fz)
theorem SlT.keep {w w' : World} {p : Option Addr} {l : List Int} (h : SlT w p l) (k : KX0 3 w w') : SlT w' p l := by
  obtain ⟨h1, h2⟩ := h
  refine ⟨?_, fun b o z e => ?_⟩
  · rcases h1 with h1 | ⟨b, off, rfl, hb, hc⟩
    · exact .inl h1
    · obtain ⟨cur, fz, e⟩ := h2 b off none rfl
      have e' := k _ _ _ e
      exact .inr ⟨b, off, rfl, (Array.getElem?_eq_some_iff.1 e').1, fun i hi => (World.cell?_of_block (w := w) (a := ⟨b, off + i, none⟩) (e'.trans e.symm)).trans (hc i hi)⟩
  · obtain ⟨cur, fz, e⟩ := h2 b o z e
    exact ⟨cur, fz, k _ _ _ e⟩
theorem SlT.below {w w' : World} {p : Option Addr} {l : List Int} (h : SlT w p l) (hB : RowKit.Below w.heap.size w w') : SlT w' p l := h.keep (KX0.below hB)
theorem own_slT {w : World} {B n : Nat} {v : Value} {l : List Int} (h : w.ownsRow B 3 1 v n (l.map (Value.int .i64))) : ∃ p c, v = .slice p l.length c ∧ SlT w p l := by
  obtain ⟨p, c, rfl, hs⟩ := own_sl h
  refine ⟨p, c, rfl, hs, fun b o z e => ?_⟩
  rcases h.2 with ⟨e1, _⟩ | ⟨g, cap, cur, e1, _, hg, _⟩
  · simp only [Value.slice.injEq] at e1; rw [e1.1] at e; cases e
  · simp only [Value.slice.injEq] at e1; rw [e1.1] at e; cases e; exact ⟨_, _, hg⟩
def LsT (l : List Int) (w : World) (e : Ending) (w' : World) : Prop := ∃ q d, e = .returned (.slice q l.length d) ∧ SlT w' q l ∧ RowKit.Below w.heap.size w w'

/-! ### Rows of places -/
abbrev QE := Pl × (Option Addr × Nat)
def qeE (x : QE) : List Value := [.int .i64 x.1.1, .slice x.2.1 x.1.2.length x.2.2]
def catQ (l : List QE) : List Value := l.flatMap qeE
theorem catQ_len (l : List QE) : (catQ l).length = l.length * 2 := by
  induction l with
  | nil => rfl
  | cons x l ih =>
    have e : catQ (x :: l) = qeE x ++ catQ l := rfl
    have e2 : (qeE x).length = 2 := rfl
    rw [e, List.length_append, ih, e2, List.length_cons]; omega
theorem catQ_app (a b : List QE) : catQ (a ++ b) = catQ a ++ catQ b := List.flatMap_append
theorem catQ_get : ∀ (l : List QE) (k : Nat) (h : k < l.length) (j : Nat), j < 2 → (catQ l)[k * 2 + j]? = (qeE l[k])[j]?
  | [], k, h, j, hj => by simp at h
  | x :: l, 0, h, j, hj => by
    show (qeE x ++ catQ l)[0 * 2 + j]? = _
    rw [Nat.zero_mul, Nat.zero_add, List.getElem?_append_left (by show j < 2; exact hj)]; rfl
  | x :: l, k + 1, h, j, hj => by
    show (qeE x ++ catQ l)[(k + 1) * 2 + j]? = _
    rw [List.getElem?_append_right (by show 2 ≤ _; omega), show (k + 1) * 2 + j - (qeE x).length = k * 2 + j by show (k + 1) * 2 + j - 2 = _; omega]
    exact catQ_get l k (by simpa using h) j hj
theorem catQ_one (l : List QE) : ∀ v ∈ catQ l, v.oneCell' = true := by
  intro v hv
  obtain ⟨x, _, hx⟩ := List.mem_flatMap.1 hv
  simp only [qeE, List.mem_cons, List.not_mem_nil, or_false] at hx
  rcases hx with rfl | rfl <;> rfl
theorem ownQ_cell {w : World} {B e n cap g : Nat} {l : List QE} (h : w.ownsRow B e 2 (.slice (some ⟨g, 0, none⟩) n cap) n (catQ l)) (k : Nat) (hk : k < l.length) (j : Nat) (hj : j < 2) : w.cell? ⟨g, k * 2 + j, none⟩ = (qeE l[k])[j]? := by
  have hn : l.length = n := by have := h.1; rw [catQ_len] at this; omega
  rcases h.2 with ⟨e0, _⟩ | ⟨g', cap', cur, e0, hg, hh, hc, hm, hs, ht⟩
  · cases e0
  · cases e0
    rw [← catQ_get l k hk j hj, ← ht]
    have hlt : k * 2 + j < n * 2 := by omega
    simp only [World.cell?, hh]
    rw [List.getElem?_take, if_pos hlt, Array.getElem?_toList]
    simp
theorem ownQ_shape {w : World} {B e n : Nat} {v : Value} {xs : List Value} (h : w.ownsRow B e 2 v n xs) (hn : 0 < n) : ∃ g cap, v = .slice (some ⟨g, 0, none⟩) n cap := by
  rcases h.2 with ⟨rfl, h0⟩ | ⟨g, cap, cur, rfl, _⟩
  · omega
  · exact ⟨g, cap, rfl⟩
theorem infoP : (Tryd.prog.info? 53).map (fun i => (i.zero, i.size, i.bytes)) = some (some (.agg #[.int .i64 0, .slice none 0 0]), 2, 32) := by kernel_rfl

/-! ### Places that were seen -/
def okP (p : Pl) : Prop := (-1 ≤ p.1 ∧ p.1 < 16) ∧ (∀ x ∈ p.2, 0 ≤ x ∧ x < 100) ∧ p.2.length ≤ 64
def kP (p : Pl) : Value := .string ⟨(keyB p.1 p.2).toArray⟩
theorem keyP : KeyBy Tryd.prog 9 kP okP where
  law := Maps.string_keyed Tryd.underlying9
  reads := fun a ha => ⟨.string (keyB a.1 a.2), by
    have h1 := keyB_len ha.1 ha.2.1
    have h2 := ha.2.2
    have h3 : (⟨(keyB a.1 a.2).toArray⟩ : ByteArray).size ≤ maxLen := by show (keyB a.1 a.2).toArray.size ≤ maxLen; rw [List.size_toArray]; unfold maxLen; omega
    simp [keyOf, mapKey, kP, Tryd.underlying9]; exact h3⟩
  inj := fun a b ha hb h => by
    obtain ⟨h1, h2⟩ := keyB_inj ha.1 hb.1 ha.2.1 hb.2.1 (by simpa [kP] using h)
    exact Prod.ext h1 h2
theorem zeroBo (w : World) : (zeroValue 4).run Tryd.prog w = .ok (.bool false) w := by kernel_rfl
def seenP (q : List Pl) (p : Pl) : Option Bool := if p ∈ q then some true else none
theorem seenP_snoc (q : List Pl) (x : Pl) (p : Pl) : mset (seenP q) x true p = seenP (q ++ [x]) p := by
  unfold seenP mset
  by_cases h : p = x
  · subst h; simp
  · rw [if_neg h]; simp [h]
theorem seen_look {w : World} {b : Nat} {q : List Pl} (h : Mp kP okP Value.bool w b (seenP q)) {p : Pl} (hp : okP p) :
    (Instr.lookup 56 (.map (some b)) (kP p) false).run Tryd.prog w = .ok (.bool (decide (p ∈ q))) w := by
  have := h.look keyP Tryd.underlying56 (zeroBo w) p hp false
  unfold seenP at this
  by_cases hm : p ∈ q
  · rw [if_pos hm] at this; rw [decide_eq_true hm]; exact this
  · rw [if_neg hm] at this; rw [decide_eq_false hm]; exact this

/-! ### The queue, and what was seen -/
structure QI (bw bq bs ms g : Nat) (q : List Pl) (W : World) : Prop where
  row : ∃ (es : List QE) (cap : Nat), es.map (·.1) = q ∧ VRow W bq 54 [.slice (some ⟨g, 0, none⟩) q.length cap] ∧ W.ownsRow bw 53 2 (.slice (some ⟨g, 0, none⟩) q.length cap) q.length (catQ es) ∧ ∀ e ∈ es, SlT W e.2.1 e.1.2
  box : VRow W bs 56 [.map (some ms)]
  seen : Mp kP okP Value.bool W ms (seenP q)
theorem QI.keep {bw bq bs ms g : Nat} {q : List Pl} {W W' : World} (h : QI bw bq bs ms g q W) (k : ∀ t, KX0 t W W') (m : KXm W W') : QI bw bq bs ms g q W' where
  row := by
    obtain ⟨es, cap, h1, h2, h3, h4⟩ := h.row
    exact ⟨es, cap, h1, (k _).vrow h2, (k _).own h3, fun e he => (h4 e he).keep (k _)⟩
  box := (k _).vrow h.box
  seen := h.seen.same (by
    obtain ⟨es, cl, hb, _⟩ := h.seen
    rw [hb]; exact m _ _ _ hb)
theorem QI.below {bw bq bs ms g : Nat} {q : List Pl} {W W' : World} (h : QI bw bq bs ms g q W) (hB : RowKit.Below W.heap.size W W') : QI bw bq bs ms g q W' := h.keep (fun _ => KX0.below hB) (KXm.below hB)
/-- The queue's own block. -/
theorem QI.gb {bw bq bs ms g : Nat} {q : List Pl} {W : World} (h : QI bw bq bs ms g q W) : ∃ cur fz, W.heap[g]? = some (.cells cur 53 fz) := by
  obtain ⟨es, cap, h1, h2, h3, h4⟩ := h.row
  exact own_typed h3 g rfl
theorem QI.gw {bw bq bs ms g : Nat} {q : List Pl} {W : World} (h : QI bw bq bs ms g q W) : bw ≤ g := by
  obtain ⟨es, cap, h1, h2, h3, h4⟩ := h.row
  exact (h3.lt g rfl).1
/-- The queue's own block is none that holds one place. -/
theorem QI.ne {bw bq bs ms g pb : Nat} {q : List Pl} {W : World} (h : QI bw bq bs ms g q W) (hq : 2 ≤ q.length) {a b : Value} (r : VRow W pb 53 [a, b]) : pb ≠ g := by
  rintro rfl
  obtain ⟨es, cap, h1, h2, h3, h4⟩ := h.row
  have hl : es.length = q.length := by rw [← h1, List.length_map]
  rcases h3.2 with ⟨e0, _⟩ | ⟨g', cap', cur, e0, hg, hh, hc, hm, hs, ht⟩
  · cases e0
  · simp only [Value.slice.injEq, Option.some.injEq, Addr.mk.injEq] at e0
    obtain ⟨⟨rfl, _⟩, _⟩ := e0
    have hr : W.heap[pb]? = _ := r
    rw [hh] at hr
    have h6 := congrArg List.length ht
    rw [List.length_take, catQ_len] at h6
    simp only [Option.some.injEq, Obj.cells.injEq] at hr
    have h7 : cur.toList.length = 2 := by rw [hr.1]; rfl
    omega
/-- The queue, whose own block is the old one or a longer one. -/
def QP (bw bq bs ms g : Nat) (q : List Pl) (w' : World) : Prop := ∃ g', (g' = g ∨ 2 ≤ q.length) ∧ QI bw bq bs ms g' q w'
/-- All but three blocks are kept. -/
structure KW (bq ms g : Nat) (W W' : World) : Prop where
  sz : W.heap.size ≤ W'.heap.size
  blk : ∀ i, i < W.heap.size → i ≠ bq → i ≠ ms → i ≠ g → W'.heap[i]? = W.heap[i]?
theorem KW.trans {bq ms g : Nat} {X Y Z : World} (h : KW bq ms g X Y) (k : KW bq ms g Y Z) : KW bq ms g X Z :=
  ⟨Nat.le_trans h.sz k.sz, fun i a b c d => (k.blk i (Nat.lt_of_lt_of_le a h.sz) b c d).trans (h.blk i a b c d)⟩
theorem KW.below {bq ms g : Nat} {X Y : World} (h : RowKit.Below X.heap.size X Y) : KW bq ms g X Y := ⟨h.size, fun i a _ _ _ => h.block i a⟩
theorem KW.turn {bq ms g : Nat} {X Y : World} (h : X.mapTurned Y ms) : KW bq ms g X Y := ⟨h.grown.size, fun i a _ c _ => h.grown.block i a (fun e => c (by cases e; rfl))⟩
theorem KW.grown {bq ms g : Nat} {X Y : World} (h : X.grownBy Y (some g)) : KW bq ms g X Y := ⟨h.size, fun i a _ _ d => h.block i a (fun e => d (by cases e; rfl))⟩
theorem KW.set {bq ms g : Nat} (X : World) (k : Nat) (v : Value) : KW bq ms g X (X.setCell ⟨bq, k, none⟩ v) := ⟨by simp, fun i _ b _ _ => Below.heap_setCell _ _ _ _ b⟩
theorem KW.vrow {bq ms g i : Nat} {t : TypeId} {l : List Value} {W W' : World} (h : KW bq ms g W W') (r : VRow W i t l) (h1 : i ≠ bq) (h2 : i ≠ ms) (h3 : i ≠ g) : VRow W' i t l := (h.blk i r.lt h1 h2 h3).trans r
theorem seen_store {bw bq bs ms g : Nat} {q : List Pl} {W : World} (h : QI bw bq bs ms g q W) {x : Pl} (hx : okP x) :
    ∃ wm, (Instr.mapUpdate 56 (.map (some ms)) (kP x) (.bool true)).run Tryd.prog W = .ok () wm ∧ Mp kP okP Value.bool wm ms (seenP (q ++ [x])) ∧ W.mapTurned wm ms := by
  obtain ⟨wm, h1, h2, h3⟩ := h.seen.store keyP Tryd.underlying56 x hx true
  exact ⟨wm, h1, h2.congr (seenP_snoc q x), h3⟩
theorem below_al2 (w : World) (o : Obj) : RowKit.Below w.heap.size w (w.alloc o) := (RowKit.Below.refl _ _).alloc (Nat.le_refl _) o
/-- A further place. -/
theorem queue_push {bw bq bs ms g : Nat} {q : List Pl} {es : List QE} {cap : Nat} {W : World} (hes : es.map (·.1) = q) (hq : VRow W bq 54 [.slice (some ⟨g, 0, none⟩) q.length cap])
    (ho : W.ownsRow bw 53 2 (.slice (some ⟨g, 0, none⟩) q.length cap) q.length (catQ es)) (hsl : ∀ e ∈ es, SlT W e.2.1 e.1.2) (hbx : VRow W bs 56 [.map (some ms)])
    {x : QE} (hs : Mp kP okP Value.bool W ms (seenP (q ++ [x.1]))) (hx : SlT W x.2.1 x.1.2) {v' : Value} {w9 : World}
    (h9 : w9.ownsRow bw 53 2 v' (q.length + 1) (catQ es ++ catQ [x])) (hg : (W.alloc (.cells (qeE x).toArray 53)).grownBy w9 (some g)) (hbq : bw ≤ bq) (hW : bw ≤ W.heap.size) :
    ∃ g' cap', v' = .slice (some ⟨g', 0, none⟩) (q.length + 1) cap' ∧ w9.frozen? ⟨bq, 0, none⟩ = false ∧ (∃ u, w9.cell? ⟨bq, 0, none⟩ = some u) ∧ RowKit.Below bw W (w9.setCell ⟨bq, 0, none⟩ v') ∧ KW bq ms g W (w9.setCell ⟨bq, 0, none⟩ v') ∧ QI bw bq bs ms g' (q ++ [x.1]) (w9.setCell ⟨bq, 0, none⟩ v') := by
  have hA := below_al2 W (.cells (qeE x).toArray 53)
  have hty := own_typed (ho.alloc (.cells (qeE x).toArray 53))
  have hty' : ∀ k, some g = some k → ∃ cur fz, (W.alloc (.cells (qeE x).toArray 53)).heap[k]? = some (.cells cur 53 fz) := fun k hk => hty k hk
  have k9 : ∀ t, t ≠ 53 → KX0 t W w9 := fun t ht => (KX0.below hA).trans (KX0.grown hg hty' ht)
  have r9 : VRow w9 bq 54 [.slice (some ⟨g, 0, none⟩) q.length cap] := (k9 54 (by decide)).vrow hq
  have r10 := r9.set (i := 0) v'
  have kk : ∀ t, t ≠ 53 → t ≠ 54 → KX0 t W (w9.setCell ⟨bq, 0, none⟩ v') := fun t h1 h2 => (k9 t h1).trans (KX0.set r9 0 v' h2)
  have km : KXm W (w9.setCell ⟨bq, 0, none⟩ v') := ((KXm.below hA).trans (KXm.grown hg hty')).trans (KXm.set r9 0 _)
  obtain ⟨g', c', rfl⟩ := ownQ_shape h9 (by omega)
  have hB9 : RowKit.Below bw W w9 := (hA.mono hW).grown hg (by rw [World.size_alloc]; omega) (fun j e => (ho.lt j e).1)
  have hms : ∃ es cl, W.heap[ms]? = some (.map es cl) := by
    obtain ⟨es, cl, hb, _⟩ := hs
    exact ⟨es, cl, hb⟩
  refine ⟨g', c', rfl, r9.frozen 0, ⟨_, r9.at 0 rfl⟩, hB9.setCell hbq _, ((KW.below hA).trans (KW.grown hg)).trans (KW.set _ _ _), ⟨es ++ [x], c', ?_, ?_, ?_, ?_⟩, (kk _ (by decide) (by decide)).vrow hbx, ?_⟩
  · rw [List.map_append, hes]; rfl
  · rw [List.length_append, List.length_singleton]; exact r10
  · rw [List.length_append, List.length_singleton, catQ_app]; exact (KX0.set (t := 53) r9 0 _ (by decide)).own h9
  · intro e he
    rcases List.mem_append.1 he with he | he
    · exact (hsl e he).keep (kk _ (by decide) (by decide))
    · rw [List.mem_singleton.1 he]; exact hx.keep (kk _ (by decide) (by decide))
  · obtain ⟨es, cl, hb⟩ := hms
    exact hs.same (by rw [hb]; exact km _ _ _ hb)

set_option maxRecDepth 100000 in
set_option maxHeartbeats 2000000 in
theorem lkFollowT_any (G : Gr) (p : Option Addr) (c : Nat) (st : List Int) (q : Option Addr) (d : Nat) (s : ByteArray) (w : World) (hin : Sg 3 w edE p G.es) (hst : SlT w q st) (hv : Vg G) (hS : St G.n st) (hw : Chg.okw G.q s.data.toList = true) (hs : s.size ≤ 65536) :
    Calls Tryd.prog 21 #[(.agg #[.int .i64 G.q, .int .i64 G.n, .slice p G.es.length c]), .slice q st.length d, .string s] w (LsT (endA G st (ltr s)) w) := by
  have HIN := hidI hin; have HV := hidI hv; have HS := hidI hS; have HW := hidI hw
  have HST := hidI hst
  have hn1 := hv.n1; have hn2 := hv.n2
  clear hin hst hv hS hw
  obtain ⟨w0, hw0⟩ : ∃ w0, w0 = w.alloc (.cells #[.int .i64 G.q, .int .i64 G.n, .slice p G.es.length c] 28) := ⟨_, rfl⟩
  have b0 : VRow w0 w.heap.size 28 [.int .i64 G.q, .int .i64 G.n, .slice p G.es.length c] := by subst hw0; exact VRow.new w _ _
  have hB0 : RowKit.Below w.heap.size w w0 := by subst hw0; exact (RowKit.Below.refl _ _).alloc (Nat.le_refl _) _
  have hE0 : endA G st ((ltr s).take 0) = st := rfl
  go_enter Tryd.func21, Tryd.ntmps21
  go_wp2
  rw [← hw0]
  clear hw0
  go_loopw [1, 10] (fun sv iv wr => ∃ (k : Nat) (qk : Option Addr) (dk : Nat), k ≤ s.size ∧ sv = .slice qk (endA G st ((ltr s).take k)).length dk ∧ iv = .int .i64 k ∧ SlT wr qk (endA G st ((ltr s).take k)) ∧ RowKit.Below w0.heap.size w0 wr) (fun _ iv _ => s.size - (intOf iv).toNat)
  case atStart => exact ⟨0, q, d, by omega, by rw [hE0], rfl, by rw [hE0]; exact HST.out.below hB0, RowKit.Below.refl _ _⟩
  case round =>
    obtain ⟨k, qk, dk, hk, rfl, rfl, hsl, hB⟩ := hrel
    have HSK := hidI (endA_st G st HS.out ((ltr s).take k))
    have xr := hB0.trans (hB.mono hB0.size)
    by_cases hlt : k < s.size
    · have HN : Hid (endA G st ((ltr s).take (k + 1)) = nextA G (endA G st ((ltr s).take k)) (Chg.dig (s[k].toNat : Int))) := by rw [Hid, ltr_take s k hlt, endA_snoc]
      generalize endA G st ((ltr s).take k) = L at *
      have hltN : (k : Int) < (s.size : Int) := by omega
      have hd := okw_at HW.out k hlt
      have hdx := idx_dig s[k] hd.1
      generalize Chg.dig (s[k].toNat : Int) = b at *
      have r0 := b0.below hB b0.lt
      have HI := hidI (fun W => Tryd.strings_IndexByte ⟨#[48, 49, 50, 51, 52, 53, 54, 55, 56, 57, 97, 98, 99, 100, 101, 102]⟩ (s[k].toNat : Int) W)
      rw [show Lib.indexByte (⟨#[48, 49, 50, 51, 52, 53, 54, 55, 56, 57, 97, 98, 99, 100, 101, 102]⟩ : ByteArray).data.toList ((s[k].toNat : Int)).toNat.toUInt8 = b from hdx] at HI
      have hlen := HSK.out.len hn1
      have HC := hidI HSK.out.chk
      have HSL := hidI hsl
      have HD := hidI hd
      clear hd
      have HXR := hidI xr
      clear hsl xr hdx
      go_upto_region 4 with fail
      have g0 := r0.at 0 rfl; have g1 := r0.at 1 rfl; have g2 := r0.at 2 rfl
      have zb : w.heap.size < wr.heap.size := r0.lt
      have HIX : Hid (∀ W, RowKit.Below wr.heap.size wr W → Sg 3 W edE p G.es) := fun W h => HIN.out.below (HXR.out.trans (h.mono HXR.out.size))
      have HSX : Hid (∀ W, RowKit.Below wr.heap.size wr W → Sl W (Value.int .i64) qk L) := fun W h => HSL.out.1.below h
      have HBR := hidI hB
      clear r0 hB
      go_region_held3 (fun w' => w'.cell? ⟨w.heap.size, 0, none⟩ = some (.int .i64 G.q) ∧ w'.cell? ⟨w.heap.size, 1, none⟩ = some (.int .i64 G.n) ∧ w'.cell? ⟨w.heap.size, 2, none⟩ = some (.slice p G.es.length c) ∧ RowKit.Below wr.heap.size wr w')
        (first | (go_split_ands; refine ⟨?_, ?_, ?_, ?_⟩ <;> first | assumption | (go_keep; done) | exact RowKit.Below.refl _ _ | exact below_drewN (RowKit.Below.refl _ _) 1 | exact (hBb.cell (Nat.lt_of_lt_of_le zb (RowKit.Below.size (by assumption)))).trans (by assumption) | exact RowKit.Below.trans (by assumption) (hBb.mono (RowKit.Below.size (by assumption)))))
        (first
          | (go_at_call 39; (with_reducible refine (HI.out _).mono ?_); rintro e wA ⟨rfl, rfl⟩)
          | (go_at_call 38; go_split_ands; (with_reducible refine (callsIn_wide.1 (gStep_in G p c L qk dk b _ (HIX.out _ (by assumption)) (HSX.out _ (by assumption)) HV.out (by omega) HC.out HD.out.1 HD.out.2)).mono ?_); rintro e wB ⟨p', m', c', rfl, hown, hBb⟩; have hwz := RowKit.Below.size (show RowKit.Below wr.heap.size wr _ by assumption); have hfin := own_baseI hown hwz; have hBf := RowKit.Below.trans (show RowKit.Below wr.heap.size wr _ by assumption) (hBb.mono hwz)))
      all_goals
        obtain ⟨q9, c9, he9, hs9⟩ := own_slT hfin
        simp only [Value.slice.injEq] at he9
        obtain ⟨rfl, rfl, rfl⟩ := he9
        have hBn := HBR.out.trans (hBf.mono HBR.out.size)
        go_wp2_with fail
        go_roundw
        case rel => exact ⟨k + 1, _, _, by omega, by rw [HN.out], by go_num, by rw [HN.out]; exact hs9, hBn⟩
        case measure => simp [intOf]; omega
    · obtain rfl : k = s.size := by omega
      have hltN : ¬ (s.size : Int) < (s.size : Int) := by omega
      rw [ltr_all] at *
      generalize endA G st (ltr s) = L at *
      go_wp2
      go_ret
      exact ⟨_, _, rfl, hsl, xr⟩
end Go.Proofs.YtjponanfpdmeoaaDoor
namespace Go.Proofs.YtjponanfpdmeoaaDoor
open Go.RowKit Go.Sort Go.Shelf Go.Lib

set_option maxRecDepth 100000 in
set_option maxHeartbeats 1000000 in
theorem lkFree_any (T : Tb) (hf : fmd T = true) (sb pb mb : Nat) (x j : Int) (v : Value) (w : World) (h1 : VRow w sb 50 [.map (some mb)]) (h2 : VRow w pb 53 [.int .i64 x, v]) (h3 : SwB T.swaps w mb)
    (hx : (Lit.int .i64 x).wf = true) (hj : (Lit.int .i64 j).wf = true) :
    Calls Tryd.prog 22 #[.int .i64 j, .pointer (some ⟨sb, 0, none⟩), .pointer (some ⟨pb, 0, none⟩)] w fun e w' => e = .returned (.bool (frW T x j)) ∧ w' = w := by
  have hlk := SwB.look hf h3 x j hx hj
  have a0 := h1.at 0 rfl
  have b0 := h2.at 0 rfl
  have HF : Hid (frW T x j = (swapW T.swaps x j).isNone) := rfl
  clear h1 h2 h3 hx hj
  generalize swapW T.swaps x j = o at *
  cases o with
  | none =>
    change (Instr.lookup 50 (.map (some mb)) (.agg #[.int .i64 x, .int .i64 j]) true).run Tryd.prog w = .ok (.tuple #[.string ⟨#[]⟩, .bool false]) w at hlk
    go_enter Tryd.func22, Tryd.ntmps22
    go_wp2
    go_ret
    exact ⟨by rw [HF.out]; rfl, rfl⟩
  | some u =>
    change (Instr.lookup 50 (.map (some mb)) (.agg #[.int .i64 x, .int .i64 j]) true).run Tryd.prog w = .ok (.tuple #[.string u, .bool true]) w at hlk
    go_enter Tryd.func22, Tryd.ntmps22
    go_wp2
    go_ret
    exact ⟨by rw [HF.out]; rfl, rfl⟩

theorem cell_newQ (w : World) (x : QE) : ∀ (j : Nat) (u : Value), (catQ [x])[j]? = some u → (w.alloc (.cells (qeE x).toArray 53)).cell? ((⟨w.heap.size, 0, none⟩ : Addr).add j) = some u := by
  intro j u hu
  rw [show (⟨w.heap.size, 0, none⟩ : Addr).add j = ⟨w.heap.size, 0 + j, none⟩ by unfold Addr.add; split <;> simp_all, Nat.zero_add]
  have h : VRow (w.alloc (.cells (qeE x).toArray 53)) w.heap.size 53 (qeE x) := VRow.new w _ _
  rw [h.cell]
  simpa [catQ] using hu

set_option maxRecDepth 100000 in
set_option maxHeartbeats 4000000 in
theorem lkWrite_any (G : Gr) (p : Option Addr) (c : Nat) (bw gb bs bq ms g : Nat) (q : List Pl) (pl : Pl) (pp : Option Addr) (d : Nat) (wd : ByteArray) (last : Int) (w : World)
    (hQ : QI bw bq bs ms g q w) (hG : VRow w gb 28 [.int .i64 G.q, .int .i64 G.n, .slice p G.es.length c]) (hin : Sg 3 w edE p G.es) (hv : Vg G) (hpl : SlT w pp pl.2) (hst : St G.n pl.2) (hw : Chg.okw G.q wd.data.toList = true) (hs : wd.size ≤ 65536)
    (ht : T10 w) (hl : -1 ≤ last ∧ last < 16) (hq1 : 1 ≤ q.length) (hq : q.length ≤ 1024) (hms : bw ≤ ms) (hbq : bw ≤ bq) (hbw : bw ≤ w.heap.size) :
    Calls Tryd.prog 20 #[.agg #[.int .i64 pl.1, .slice pp pl.2.length d], .string wd, .int .i64 last, .pointer (some ⟨gb, 0, none⟩), .pointer (some ⟨bs, 0, none⟩), .pointer (some ⟨bq, 0, none⟩)] w fun e w' =>
      e = .returned (.int .i64 (wrP G q pl wd last).2) ∧ QP bw bq bs ms g (wrP G q pl wd last).1 w' ∧ KW bq ms g w w' ∧ RowKit.Below bw w w' := by
  obtain ⟨i0, hi0, hz0, hz1, hz2⟩ := info_parts infoP
  obtain ⟨nx, hnx⟩ : ∃ nx, nx = endA G pl.2 (ltr wd) := ⟨_, rfl⟩
  have hS2 : St G.n nx := by rw [hnx]; exact endA_st G pl.2 hst _
  have hn2 := hv.n2; have hn1 := hv.n1
  have HOK : Hid (okP (last, nx)) := ⟨hl, fun x hx => by have := hS2.ins x hx; omega, by have := hS2.len hn1; show nx.length ≤ 64; omega⟩
  have hnl : nx.length ≤ 64 := HOK.out.2.2
  have HWR : Hid (wrP G q pl wd last = if nx = [] then (q, 13) else if (last, nx) ∈ q then (q, 0) else if q.length = 1024 then (q, 4) else (q ++ [(last, nx)], 0)) := by rw [Hid, hnx]; rfl
  obtain ⟨w1, hw1⟩ : ∃ w1, w1 = w.alloc (.cells #[.int .i64 pl.1, .slice pp pl.2.length d] 53) := ⟨_, rfl⟩
  have b1 : VRow w1 w.heap.size 53 [.int .i64 pl.1, .slice pp pl.2.length d] := by subst hw1; exact VRow.new w _ _
  have hB1 : RowKit.Below w.heap.size w w1 := by subst hw1; exact (RowKit.Below.refl _ _).alloc (Nat.le_refl _) _
  have a1 := b1.at 1 rfl
  have g1 := hG.below hB1 hG.lt
  have e0 := g1.at 0 rfl; have e1 := g1.at 1 rfl; have e2 := g1.at 2 rfl
  have HF := hidI (lkFollowT_any G p c pl.2 pp d wd w1 (hin.below hB1) (hpl.below hB1) hv hst hw hs)
  rw [← hnx] at HF
  have HQ := hidI hQ
  have HT := hidI ht
  have hq0 := hQ.box.lt
  have hbb : bs < w.heap.size := hQ.box.lt
  clear hQ hG hin hv hpl hst hw hs hnx hS2 b1 g1 hn2 hn1 ht
  go_enter Tryd.func20, Tryd.ntmps20
  go_upto_region 1 with fail
  rw [← hw1]
  clear hw1
  go_wp2_with fail
  refine HF.out.mono ?_
  rintro e w2 ⟨qn, dn, rfl, hsn, hB2⟩
  have hB3 := hB1.trans (hB2.mono hB1.size)
  clear HF a1 e0 e1 e2 hB1 hB2
  obtain ⟨w3, hw3⟩ : ∃ w3, w3 = w2.alloc (.cells #[.int .i64 last, .slice qn nx.length dn] 53) := ⟨_, rfl⟩
  have b3 : VRow w3 w2.heap.size 53 [.int .i64 last, .slice qn nx.length dn] := by subst hw3; exact VRow.new w2 _ _
  have hB4 : RowKit.Below w2.heap.size w2 w3 := by subst hw3; exact (RowKit.Below.refl _ _).alloc (Nat.le_refl _) _
  have hBw : RowKit.Below w.heap.size w w3 := hB3.trans (hB4.mono hB3.size)
  have hs3 := hsn.below hB4
  have c0 := b3.at 0 rfl; have c1 := b3.at 1 rfl
  have HQ3 := hidI (HQ.out.below hBw)
  obtain ⟨ks, hks⟩ : ∃ ks : ByteArray, ks = ⟨(keyB last nx).toArray⟩ := ⟨_, rfl⟩
  have HKP : Hid (kP (last, nx) = .string ks) := by rw [hks]; rfl
  have HK : Hid (∀ W, RowKit.Below w3.heap.size w3 W → Calls Tryd.prog 19 #[.agg #[.int .i64 last, .slice qn nx.length dn]] W fun e w' => e = .returned (.string ks) ∧ RowKit.Below W.heap.size W w') := fun W hW => by
    rw [hks]; exact lkKey_any last nx qn dn W HOK.out.1 (hs3.1.below hW) HOK.out.2.1 HOK.out.2.2 (HT.out.below (hBw.trans (hW.mono hBw.size)))
  have HS3 := hidI hs3
  have k0 := HQ3.out.box.at 0 rfl
  have hnb : w2.heap.size < w3.heap.size := b3.lt
  have hbs3 : bs < w3.heap.size := Nat.lt_of_lt_of_le hbb hBw.size
  have HL : Hid (∀ W, RowKit.Below w3.heap.size w3 W → (Instr.lookup 56 (.map (some ms)) (.string ks) false).run Tryd.prog W = .ok (.bool (decide ((last, nx) ∈ q))) W) := fun W hW => by
    rw [← HKP.out]; exact seen_look (HQ3.out.below hW).seen HOK.out
  have HB3 := hidI b3
  have hBw2 := hidI hBw
  clear hB3 hB4 hsn hs3 hks HT b3 hBw
  go_upto_region 2 with fail
  rw [← hw3]
  clear hw3
  generalize w2.heap.size = nb at *
  by_cases hn : nx = []
  · have hW0 : Hid (wrP G q pl wd last = (q, 13)) := by rw [Hid, HWR.out, if_pos hn]
    have hl0 : (nx.length : Int) = 0 := by rw [hn]; rfl
    clear hn
    go_wp2
    go_ret
    rw [hW0.out]
    exact ⟨rfl, ⟨g, .inl rfl, HQ3.out⟩, KW.below hBw2.out, hBw2.out.mono hbw⟩
  have hl0 : ¬ (nx.length : Int) = 0 := by have := List.length_pos_iff.2 hn; omega
  by_cases hm : (last, nx) ∈ q
  · have hW0 : Hid (wrP G q pl wd last = (q, 0)) := by rw [Hid, HWR.out, if_neg hn, if_pos hm]
    rw [decide_eq_true hm] at HL
    clear hm hn
    go_upto_region 4 with fail
    go_region_held3 (fun w' => w'.cell? ⟨bs, 0, none⟩ = some (.map (some ms)) ∧ w'.cell? ⟨nb, 0, none⟩ = some (.int .i64 last) ∧ w'.cell? ⟨nb, 1, none⟩ = some (.slice qn nx.length dn) ∧ RowKit.Below w3.heap.size w3 w' ∧ (Instr.lookup 56 (.map (some ms)) (.string ks) false).run Tryd.prog w' = .ok (.bool true) w')
      (first | (go_split_ands; refine ⟨?_, ?_, ?_, ?_, ?_⟩ <;> first | assumption | (go_keep; done) | exact below_dN (RowKit.Below.refl _ _) 1 | exact HL.out _ (below_dN (RowKit.Below.refl _ _) 1) | exact (RowKit.Below.cell (by assumption) hbs3).trans k0 | exact (RowKit.Below.cell (by assumption) hnb).trans c0 | exact (RowKit.Below.cell (by assumption) hnb).trans c1 | exact HL.out _ (by assumption)))
      (first | (go_at_call 19; go_split_ands; with_reducible refine (HK.out _ (by assumption)).mono ?_; rintro e wA ⟨rfl, hBa⟩; have hBz := RowKit.Below.trans (show RowKit.Below w3.heap.size w3 _ by assumption) (hBa.mono (RowKit.Below.size (by assumption)))))
    all_goals
      have hBX : RowKit.Below w.heap.size w wA := hBw2.out.trans (hBz.mono hBw2.out.size)
      have hQX := HQ3.out.below hBz
      go_wp2
      go_ret
      rw [hW0.out]
      exact ⟨rfl, ⟨g, .inl rfl, hQX⟩, KW.below hBX, hBX.mono hbw⟩
  rw [decide_eq_false hm] at HL
  by_cases hq4 : q.length = 1024
  · have hW0 : Hid (wrP G q pl wd last = (q, 4)) := by rw [Hid, HWR.out, if_neg hn, if_neg hm, if_pos hq4]
    have hq5 : (q.length : Int) = 1024 := by omega
    clear hm hn hq4
    go_upto_region 4 with fail
    go_region_held3 (fun w' => w'.cell? ⟨bs, 0, none⟩ = some (.map (some ms)) ∧ w'.cell? ⟨nb, 0, none⟩ = some (.int .i64 last) ∧ w'.cell? ⟨nb, 1, none⟩ = some (.slice qn nx.length dn) ∧ RowKit.Below w3.heap.size w3 w' ∧ (Instr.lookup 56 (.map (some ms)) (.string ks) false).run Tryd.prog w' = .ok (.bool false) w')
      (first | (go_split_ands; refine ⟨?_, ?_, ?_, ?_, ?_⟩ <;> first | assumption | (go_keep; done) | exact below_dN (RowKit.Below.refl _ _) 1 | exact HL.out _ (below_dN (RowKit.Below.refl _ _) 1) | exact (RowKit.Below.cell (by assumption) hbs3).trans k0 | exact (RowKit.Below.cell (by assumption) hnb).trans c0 | exact (RowKit.Below.cell (by assumption) hnb).trans c1 | exact HL.out _ (by assumption)))
      (first | (go_at_call 19; go_split_ands; with_reducible refine (HK.out _ (by assumption)).mono ?_; rintro e wA ⟨rfl, hBa⟩; have hBz := RowKit.Below.trans (show RowKit.Below w3.heap.size w3 _ by assumption) (hBa.mono (RowKit.Below.size (by assumption)))))
    all_goals
      have hBX : RowKit.Below w.heap.size w wA := hBw2.out.trans (hBz.mono hBw2.out.size)
      have hQX := HQ3.out.below hBz
      obtain ⟨es, cap, h1, h2, h3, h4⟩ := hQX.row
      have q0 := h2.at 0 rfl
      clear h1 h2 h3 h4
      go_wp2
      go_ret
      rw [hW0.out]
      exact ⟨rfl, ⟨g, .inl rfl, hQX⟩, KW.below hBX, hBX.mono hbw⟩
  · have hW0 : Hid (wrP G q pl wd last = (q ++ [(last, nx)], 0)) := by rw [Hid, HWR.out, if_neg hn, if_neg hm, if_neg hq4]
    have hq5 : ¬ (q.length : Int) = 1024 := by omega
    clear hm hn hq4
    go_upto_region 4 with fail
    go_region_held3 (fun w' => w'.cell? ⟨bs, 0, none⟩ = some (.map (some ms)) ∧ w'.cell? ⟨nb, 0, none⟩ = some (.int .i64 last) ∧ w'.cell? ⟨nb, 1, none⟩ = some (.slice qn nx.length dn) ∧ RowKit.Below w3.heap.size w3 w' ∧ (Instr.lookup 56 (.map (some ms)) (.string ks) false).run Tryd.prog w' = .ok (.bool false) w')
      (first | (go_split_ands; refine ⟨?_, ?_, ?_, ?_, ?_⟩ <;> first | assumption | (go_keep; done) | exact below_dN (RowKit.Below.refl _ _) 1 | exact HL.out _ (below_dN (RowKit.Below.refl _ _) 1) | exact (RowKit.Below.cell (by assumption) hbs3).trans k0 | exact (RowKit.Below.cell (by assumption) hnb).trans c0 | exact (RowKit.Below.cell (by assumption) hnb).trans c1 | exact HL.out _ (by assumption)))
      (first | (go_at_call 19; go_split_ands; with_reducible refine (HK.out _ (by assumption)).mono ?_; rintro e wA ⟨rfl, hBa⟩; have hBz := RowKit.Below.trans (show RowKit.Below w3.heap.size w3 _ by assumption) (hBa.mono (RowKit.Below.size (by assumption)))))
    all_goals
      have HBX : Hid (RowKit.Below w.heap.size w wA) := hBw2.out.trans (hBz.mono hBw2.out.size)
      have HQX := hidI (HQ3.out.below hBz)
      have HBZ := hidI hBz
      obtain ⟨es, cap, h1, h2, h3, h4⟩ := HQX.out.row
      have q0 := h2.at 0 rfl
      have HNS : Hid (∀ W, RowKit.Below wA.heap.size wA W → ∃ wm, (Instr.mapUpdate 56 (.map (some ms)) (.string ks) (.bool true)).run Tryd.prog W = .ok () wm ∧ Mp kP okP Value.bool wm ms (seenP (q ++ [(last, nx)])) ∧ W.mapTurned wm ms ∧ W.cell? ⟨bs, 0, none⟩ = some (.map (some ms))) := fun W hW => by
        obtain ⟨wm, y1, y2, y3⟩ := seen_store (HQX.out.below hW) HOK.out
        rw [HKP.out] at y1
        exact ⟨wm, y1, y2, y3, (HQX.out.below hW).box.at 0 rfl⟩
      clear h1 h2 h3 h4 hBz
      have k0A := (RowKit.Below.cell HBZ.out hbs3).trans k0
      have c0A := (RowKit.Below.cell HBZ.out hnb).trans c0
      have c1A := (RowKit.Below.cell HBZ.out hnb).trans c1
      go_upto_region 8 with fail
      go_cut [] (fun wx => Mp kP okP Value.bool wx ms (seenP (q ++ [(last, nx)])) ∧ ∃ wB, RowKit.Below wA.heap.size wA wB ∧ wB.mapTurned wx ms)
      case first =>
        go_region_with (go_at_call 19; refine (HK.out _ (RowKit.Below.trans HBZ.out ((below_dN (RowKit.Below.refl _ _) 1).mono HBZ.out.size))).mono ?_; rintro e wB ⟨rfl, hBb⟩; have hBAB := RowKit.Below.trans (below_dN (RowKit.Below.refl wA.heap.size wA) 1) hBb; obtain ⟨wm, hst, hPN, hturn, hcB⟩ := HNS.out wB hBAB)
        all_goals
          go_wp2_with fail
          go_meet
          exact ⟨hPN, wB, hBAB, hturn⟩
      case rest =>
        obtain ⟨hPN, wB, hBAB, hturn⟩ := hcut
        have kA : ∀ t, KX0 t wA wc := fun t => (KX0.below hBAB).trans (KX0.turn hturn)
        have KWA : KW bq ms g wA wc := (KW.below hBAB).trans (KW.turn hturn)
        have hwA : bw ≤ wA.heap.size := Nat.le_trans hbw HBX.out.size
        have hwB : bw ≤ wB.heap.size := Nat.le_trans hwA hBAB.size
        have hBx : RowKit.Below bw w wc := ((HBX.out.mono hbw).trans (hBAB.mono hwA)).grown hturn.grown hwB (fun j e => by cases e; exact hms)
        have hwx : bw ≤ wc.heap.size := Nat.le_trans hwB hturn.grown.size
        have hwsz : w.heap.size ≤ wc.heap.size := Nat.le_trans HBX.out.size KWA.sz
        obtain ⟨es', cap', h1, h2, h3, h4⟩ := HQX.out.row
        have rsx := (kA _).vrow h2
        have osx := (kA _).own h3
        have hbx := (kA _).vrow HQX.out.box
        have HSL : Hid (∀ e ∈ es', SlT wc e.2.1 e.1.2) := fun e he => (h4 e he).keep (kA _)
        have HX := hidI ((HS3.out.below HBZ.out).keep (kA _))
        have nbx := (kA _).vrow (HB3.out.below HBZ.out HB3.out.lt)
        have HKW := hidI ((KW.below HBX.out).trans KWA)
        have hoS := osx.alloc (.cells (qeE (((last, nx), (qn, dn)) : QE)).toArray 53)
        have hnew := cell_newQ wc (((last, nx), (qn, dn)) : QE)
        have HPN := hidI hPN
        have HES := hidI h1
        clear kA KWA hturn hBAB hPN h1 h2 h3 h4 q0 k0A c0A c1A
        have q0 := rsx.at 0 rfl
        have c0 := nbx.at 0 rfl; have c1 := nbx.at 1 rfl
        have hql : q.length + 1 ≤ 1025 := by omega
        go_wp2_with (at_builtin; refine wpList_append_own _ rfl _ _ 54 rfl bw 53 i0 _ 2 32 Tryd.underlying54 hi0 hz0 hz1 hz2 rfl (by decide) _ _ _ rfl hoS ⟨wc.heap.size, 0, none⟩ 1 1 (catQ [((last, nx), (qn, dn))]) rfl rfl hnew (catQ_one _) (by simp only [maxLen]; omega) (by omega) (by rw [World.size_alloc]; omega) ?_; intro v' w9 hown' hgrow _; obtain ⟨g9, cap9, rfl, z0, ⟨u9, z1⟩, y1, y2, y3⟩ := queue_push HES.out rsx osx HSL.out hbx (x := ((last, nx), (qn, dn))) HPN.out HX.out hown' hgrow hbq hwx)
        go_ret
        rw [hW0.out]
        exact ⟨rfl, ⟨g9, .inr (by rw [List.length_append, List.length_singleton]; omega), y3⟩, HKW.out.trans y2, hBx.trans y1⟩
end Go.Proofs.YtjponanfpdmeoaaDoor
namespace Go.Proofs.YtjponanfpdmeoaaDoor
open Go.RowKit Go.Sort Go.Shelf Go.Lib

/-! ### Words of a formed table -/
theorem base_okw {T : Tb} (hf : fmd T = true) (k : Nat) (hk : k < T.base.length) : Chg.okw T.q (bget T.base k).data.toList = true ∧ (bget T.base k).size ≤ 65536 := by
  have hN := pre_all (fmd_split hf).1
  have h := allB_get (fmd_split hf).2.2.1 k hk
  unfold wOk at h
  simp only [Bool.and_eq_true, decide_eq_true_eq] at h
  exact ⟨wchk_okw h.2.1, by omega⟩
theorem swap_okw {T : Tb} (hf : fmd T = true) (k : Nat) (hk : k < T.swaps.length) : Chg.okw T.q T.swaps[k].wd.data.toList = true ∧ T.swaps[k].wd.size ≤ 65536 := by
  have hN := pre_all (fmd_split hf).1
  have h := allB_get (fmd_split hf).2.2.2 k (by rw [List.length_map]; exact hk)
  unfold wOk at h
  rw [bget_eq _ _ (by rw [List.length_map]; exact hk), List.getElem_map] at h
  simp only [Bool.and_eq_true, decide_eq_true_eq] at h
  exact ⟨wchk_okw h.2.1, by omega⟩

/-! ### Places stay places -/
def OkQ (G : Gr) (q : List Pl) : Prop := ∀ p ∈ q, St G.n p.2 ∧ -1 ≤ p.1 ∧ p.1 < 16
theorem OkQ.wr {G : Gr} {q : List Pl} (h : OkQ G q) {p : Pl} (hp : St G.n p.2) (w : ByteArray) {last : Int} (h1 : -1 ≤ last) (h2 : last < 16) : OkQ G (wrP G q p w last).1 := by
  unfold wrP
  split
  · exact h
  · split
    · exact h
    · split
      · exact h
      · intro x hx
        rcases List.mem_append.1 hx with hx | hx
        · exact h x hx
        · rw [List.mem_singleton.1 hx]; exact ⟨endA_st G p.2 hp _, h1, h2⟩
theorem OkQ.bs {T : Tb} {G : Gr} {p : Pl} {x : List Pl × Int} (h : OkQ G x.1) (hp : St G.n p.2) {j : Nat} (hj : j < 16) : OkQ G (bsP T G p x j).1 := by
  unfold bsP; split
  · exact h
  · split
    · exact h.wr hp _ (by omega) (by omega)
    · exact h
theorem OkQ.ss {T : Tb} {G : Gr} {p : Pl} {x : List Pl × Int} (h : OkQ G x.1) (hp : St G.n p.2) (s : Sw) : OkQ G (ssP T G p x s).1 := by
  unfold ssP; split
  · exact h
  · split
    · exact h.wr hp _ (by omega) (by omega)
    · exact h
theorem OkQ.rb {T : Tb} {G : Gr} {p : Pl} {q : List Pl} (h : OkQ G q) (hp : St G.n p.2) : ∀ k, k ≤ 16 → OkQ G (rB T G p q k).1
  | 0, _ => h
  | k + 1, hk => by rw [rB_succ]; exact (OkQ.rb h hp k (by omega)).bs hp (by omega)
theorem OkQ.rs {T : Tb} {G : Gr} {p : Pl} {x : List Pl × Int} (h : OkQ G x.1) (hp : St G.n p.2) : ∀ k, k ≤ T.swaps.length → OkQ G (rS T G p x k).1
  | 0, _ => by unfold rS; rw [List.take_zero]; exact h
  | k + 1, hk => by rw [rS_succ _ _ _ _ _ (by omega)]; exact (OkQ.rs h hp k (by omega)).ss hp _
theorem bsP_err {T : Tb} {G : Gr} {p : Pl} {x : List Pl × Int} (h : x.2 ≠ 0) (j : Nat) : bsP T G p x j = x := if_pos h
theorem ssP_err {T : Tb} {G : Gr} {p : Pl} {x : List Pl × Int} (h : x.2 ≠ 0) (s : Sw) : ssP T G p x s = x := if_pos h
theorem bsP_go {T : Tb} {G : Gr} {p : Pl} {q : List Pl} {j : Nat} (h : frW T p.1 (j : Int) = true) : bsP T G p (q, 0) j = wrP G q p (bget T.base j) (j : Int) := by unfold bsP; simp [h]
theorem bsP_no {T : Tb} {G : Gr} {p : Pl} {q : List Pl} {j : Nat} (h : frW T p.1 (j : Int) = false) : bsP T G p (q, 0) j = (q, 0) := by unfold bsP; simp [h]
theorem ssP_go {T : Tb} {G : Gr} {p : Pl} {q : List Pl} {s : Sw} (h : frW T p.1 s.i = true) : ssP T G p (q, 0) s = wrP G q p s.wd (-1) := by unfold ssP; simp [h]
theorem ssP_no {T : Tb} {G : Gr} {p : Pl} {q : List Pl} {s : Sw} (h : frW T p.1 s.i = false) : ssP T G p (q, 0) s = (q, 0) := by unfold ssP; simp [h]
theorem foldl_bs_err {T : Tb} {G : Gr} {p : Pl} {x : List Pl × Int} (h : x.2 ≠ 0) : ∀ l : List Nat, l.foldl (bsP T G p) x = x
  | [] => rfl
  | a :: l => by rw [List.foldl_cons, bsP_err h]; exact foldl_bs_err h l
theorem foldl_ss_err {T : Tb} {G : Gr} {p : Pl} {x : List Pl × Int} (h : x.2 ≠ 0) : ∀ l : List Sw, l.foldl (ssP T G p) x = x
  | [] => rfl
  | a :: l => by rw [List.foldl_cons, ssP_err h]; exact foldl_ss_err h l
theorem rS_err {T : Tb} {G : Gr} {p : Pl} {x : List Pl × Int} (h : x.2 ≠ 0) (k : Nat) : rS T G p x k = x := foldl_ss_err h _
theorem rB_stop {T : Tb} {G : Gr} {p : Pl} {q : List Pl} {k : Nat} (h : (rB T G p q k).2 ≠ 0) : ∀ m, rB T G p q (k + m) = rB T G p q k
  | 0 => rfl
  | m + 1 => by rw [← Nat.add_assoc, rB_succ, rB_stop h m, bsP_err h]
theorem rS_stop {T : Tb} {G : Gr} {p : Pl} {x : List Pl × Int} {k : Nat} (h : (rS T G p x k).2 ≠ 0) : ∀ m, k + m ≤ T.swaps.length → rS T G p x (k + m) = rS T G p x k
  | 0, _ => rfl
  | m + 1, hm => by rw [← Nat.add_assoc, rS_succ _ _ _ _ _ (by omega), rS_stop h m (by omega), ssP_err h]
/-- An error among the Base words ends the round. -/
theorem rnd_base {T : Tb} {G : Gr} {p : Pl} {q : List Pl} {k : Nat} (hk : k ≤ T.base.length) (h : (rB T G p q k).2 ≠ 0) : (rndP T G p q).2 = (rB T G p q k).2 := by
  have h1 := rB_stop h (T.base.length - k)
  rw [Nat.add_sub_cancel' hk] at h1
  unfold rndP
  rw [h1, rS_err h]
theorem rnd_swap {T : Tb} {G : Gr} {p : Pl} {q : List Pl} {k : Nat} (hk : k ≤ T.swaps.length) (h : (rS T G p (rB T G p q T.base.length) k).2 ≠ 0) : (rndP T G p q).2 = (rS T G p (rB T G p q T.base.length) k).2 := by
  have h1 := rS_stop h (T.swaps.length - k) (by omega)
  rw [Nat.add_sub_cancel' hk] at h1
  unfold rndP
  rw [h1]
theorem kpN_err {T : Tb} {G : Gr} {f i : Nat} {q : List Pl} (h : i < q.length) (he : (rndP T G q[i] q).2 ≠ 0) : kpN T G (f + 1) i q = (rndP T G q[i] q).2 := by rw [kpN, dif_pos h, if_pos he]
theorem kpN_go {T : Tb} {G : Gr} {f i : Nat} {q : List Pl} (h : i < q.length) (he : (rndP T G q[i] q).2 = 0) : kpN T G (f + 1) i q = kpN T G f (i + 1) (rndP T G q[i] q).1 := by rw [kpN, dif_pos h, if_neg (by omega)]
theorem kpN_end {T : Tb} {G : Gr} {f i : Nat} {q : List Pl} (h : ¬ i < q.length) : kpN T G f i q = 0 := by
  cases f with
  | zero => rfl
  | succ f => rw [kpN, dif_neg h]
/-- Lists of numbers are kept. -/
theorem QI.nums {bw bq bs ms g : Nat} {q : List Pl} {W W' : World} (h : QI bw bq bs ms g q W) (k : KW bq ms g W W') : KX0 3 W W' := fun i cur fz e => by
  obtain ⟨es, cap, h1, h2, h3, h4⟩ := h.row
  obtain ⟨cg, fg, eg⟩ := h.gb
  obtain ⟨em, cl, em1, _⟩ := h.seen
  have hq : W.heap[bq]? = _ := h2
  refine (k.blk i (Array.getElem?_eq_some_iff.1 e).1 ?_ ?_ ?_).trans e
  · rintro rfl; rw [hq] at e; simp only [Option.some.injEq, Obj.cells.injEq] at e; exact absurd e.2.1 (by decide)
  · rintro rfl; rw [em1] at e; cases e
  · rintro rfl; rw [eg] at e; simp only [Option.some.injEq, Obj.cells.injEq] at e; exact absurd e.2.1 (by decide)
/-- An entry of the queue. -/
theorem QI.get {bw bq bs ms g : Nat} {q : List Pl} {W : World} (h : QI bw bq bs ms g q W) (i : Nat) (hi : i < q.length) :
    ∃ cap pp d, W.cell? ⟨bq, 0, none⟩ = some (.slice (some ⟨g, 0, none⟩) q.length cap) ∧ W.cell? ⟨g, i * 2, none⟩ = some (.int .i64 q[i].1) ∧ W.cell? ⟨g, i * 2 + 1, none⟩ = some (.slice pp q[i].2.length d) ∧ SlT W pp q[i].2 := by
  obtain ⟨es, cap, h1, h2, h3, h4⟩ := h.row
  have hl : es.length = q.length := by rw [← h1, List.length_map]
  have hi' : i < es.length := by omega
  have he : es[i].1 = q[i] := by subst h1; rw [List.getElem_map]
  have c0 := ownQ_cell h3 i hi' 0 (by omega)
  have c1 := ownQ_cell h3 i hi' 1 (by omega)
  have hs := h4 es[i] (List.getElem_mem hi')
  rw [he] at hs
  refine ⟨cap, es[i].2.1, es[i].2.2, h2.at 0 rfl, ?_, ?_, hs⟩
  · rw [← he]; exact c0
  · rw [← he]; exact c1
theorem QI.lenbox {bw bq bs ms g : Nat} {q : List Pl} {W : World} (h : QI bw bq bs ms g q W) : ∃ cap, W.cell? ⟨bq, 0, none⟩ = some (.slice (some ⟨g, 0, none⟩) q.length cap) := by
  obtain ⟨es, cap, h1, h2, h3, h4⟩ := h.row
  exact ⟨cap, h2.at 0 rfl⟩
end Go.Proofs.YtjponanfpdmeoaaDoor
namespace Go.Proofs.YtjponanfpdmeoaaDoor
open Go.RowKit Go.Sort Go.Shelf Go.Lib

theorem chkL_fit (T : Tb) (G : Gr) : chkL T G = if fitA T G ≠ 0 then fitA T G else if rdbl T = false then 14 else kpA T G := by
  unfold chkL fitA
  by_cases h1 : fmd T = false ∨ chkG G ≠ 0
  · rw [if_pos h1, if_pos h1]; simp
  · rw [if_neg h1, if_neg h1]
    by_cases h2 : G.q ≠ T.q
    · rw [if_pos h2, if_pos h2]; simp
    · rw [if_neg h2, if_neg h2]; simp
theorem fit_zero {T : Tb} {G : Gr} (h : fitA T G = 0) : fmd T = true ∧ Vg G ∧ G.q = T.q := by
  unfold fitA at h
  split at h
  · cases h
  · rename_i h1
    split at h
    · cases h
    · rename_i h2
      refine ⟨?_, chkG_ok.1 (Classical.byContradiction fun e => h1 (.inr e)), Classical.byContradiction h2⟩
      cases hx : fmd T
      · exact absurd (.inl hx) h1
      · rfl

theorem below_alz {w W : World} (h : RowKit.Below w.heap.size w W) (o : Obj) : RowKit.Below w.heap.size w (W.alloc o) := h.alloc h.size o
/-- The first entry of a map. -/
def mapI (W : World) (m : Nat) (x : Pl) : World := Go.ChangeMaps.setBlock W m (.map #[⟨kP x, .bool true, 0⟩] 1)
theorem first_run {x : Pl} (hx : okP x) {ks : ByteArray} (hk : kP x = .string ks) {W : World} {m : Nat} (h : W.heap[m]? = some (.map #[] 0)) :
    (Instr.mapUpdate 56 (.map (some m)) (.string ks) (.bool true)).run Tryd.prog W = .ok () (mapI W m x) := by
  rw [← hk]
  obtain ⟨kl, hkey⟩ := keyP.reads x hx
  have h0 : ∀ e ∈ (#[] : Array MapEntry).toList, ∃ l, keyOf Tryd.prog 9 e.key = some l := by simp
  rcases keyP.law.find W hkey _ h0 with ⟨h1, _⟩ | ⟨j, e0, h1, h2', h3'⟩
  · simp [Instr.mapUpdate, run_underlying Tryd.underlying56, MapKept.run_getObj_map h, keyP.law.check W false hkey, h1, MapKept.run_setObj_map _ h, Result.andThen, mapI, Go.ChangeMaps.setBlock]
  · simp at h2'
theorem first_map {x : Pl} (hx : okP x) {W : World} {m : Nat} (h : W.heap[m]? = some (.map #[] 0)) :
    Mp kP okP Value.bool (mapI W m x) m (seenP [x]) ∧ W.mapTurned (mapI W m x) m := by
  obtain ⟨ks, hk⟩ : ∃ ks, kP x = .string ks := ⟨_, rfl⟩
  have h0 : Mp kP okP Value.bool W m (fun _ => none) := ⟨#[], 0, h, by simp, by simp, by simp⟩
  obtain ⟨wm, h1, h2, h3⟩ := h0.store keyP Tryd.underlying56 x hx true
  have h4 := first_run hx hk h
  rw [hk] at h1
  rw [h4] at h1
  cases h1
  exact ⟨h2.congr (fun p => by unfold mset seenP; by_cases e : p = x <;> simp [e]), h3⟩

/-- Where a round of Check stands: the queue, and the place that is looked at. -/
structure CS (G : Gr) (bw bq bs ms pb : Nat) (pl : Pl) (pp : Option Addr) (d : Nat) (wc : World) (q : List Pl) (g : Nat) (W : World) : Prop where
  qi : QI bw bq bs ms g q W
  ne : pb ≠ g
  row : VRow W pb 53 [.int .i64 pl.1, .slice pp pl.2.length d]
  sl : SlT W pp pl.2
  bel : RowKit.Below bw wc W
  ok : OkQ G q
  l1 : 1 ≤ q.length
  l2 : q.length ≤ 1024
/-- The same, with some block. -/
def CSE (G : Gr) (bw bq bs ms pb : Nat) (pl : Pl) (pp : Option Addr) (d : Nat) (wc : World) (q : List Pl) (W : World) : Prop := ∃ g, CS G bw bq bs ms pb pl pp d wc q g W
/-- What stands below. -/
structure CB (T : Tb) (G : Gr) (p1 p2 : Option Addr) (c1 c2 : Nat) (p : Option Addr) (c : Nat) (w : World) (gb sb mb bw : Nat) (wc : World) : Prop where
  tl : VRow wc w.heap.size 25 [.int .i64 T.q, .int .i64 T.n, .slice p1 T.base.length c1, .slice p2 T.swaps.length c2]
  gl : VRow wc gb 28 [.int .i64 G.q, .int .i64 G.n, .slice p G.es.length c]
  sbx : VRow wc sb 50 [.map (some mb)]
  sw : SwB T.swaps wc mb
  x : RowKit.Below w.heap.size w wc
  tb : TbIn w T p1 p2 c1 c2
  g : Sg 3 w edE p G.es
  t10 : T10 w
  h1 : w.heap.size < bw
  h2 : gb < bw
  h3 : sb < bw
  h4 : mb < bw
  h5 : bw ≤ wc.heap.size
section
variable {T : Tb} {G : Gr} {p1 p2 : Option Addr} {c1 c2 : Nat} {p : Option Addr} {c : Nat} {w : World} {gb sb mb bw bq bs ms pb : Nat} {pl : Pl} {pp : Option Addr} {d : Nat} {wc W : World} {q : List Pl}
theorem CB.later (h : CB T G p1 p2 c1 c2 p c w gb sb mb bw wc) (hB : RowKit.Below bw wc W) : CB T G p1 p2 c1 c2 p c w gb sb mb bw W where
  tl := (hB.block _ h.h1).trans h.tl
  gl := (hB.block _ h.h2).trans h.gl
  sbx := (hB.block _ h.h3).trans h.sbx
  sw := MpB.same h.sw (hB.block _ h.h4)
  x := h.x.trans (hB.mono (Nat.le_of_lt h.h1))
  tb := h.tb
  g := h.g
  t10 := h.t10
  h1 := h.h1
  h2 := h.h2
  h3 := h.h3
  h4 := h.h4
  h5 := Nat.le_trans h.h5 hB.size
theorem free_step (h : CB T G p1 p2 c1 c2 p c w gb sb mb bw wc) (hs : CSE G bw bq bs ms pb pl pp d wc q W) (hf : fmd T = true) (hl : -1 ≤ pl.1 ∧ pl.1 < 16) (j : Int) (hj : (Lit.int .i64 j).wf = true) :
    Calls Tryd.prog 22 #[.int .i64 j, .pointer (some ⟨sb, 0, none⟩), .pointer (some ⟨pb, 0, none⟩)] W fun e w' => e = .returned (.bool (frW T pl.1 j)) ∧ w' = W := by
  obtain ⟨g, hs⟩ := hs
  have h2 := h.later hs.bel
  exact lkFree_any T hf sb pb mb pl.1 j _ W h2.sbx hs.row h2.sw (WalkArith.wf_i64 (by omega)) hj
theorem write_step (h : CB T G p1 p2 c1 c2 p c w gb sb mb bw wc) (hs : CSE G bw bq bs ms pb pl pp d wc q W) (hv : Vg G) (hl : St G.n pl.2) (hpq : bq < pb) (hpm : ms < pb) (hbq : bw ≤ bq) (hms : bw ≤ ms) (wd : ByteArray) (last : Int) (hla : -1 ≤ last ∧ last < 16) (hw : Chg.okw G.q wd.data.toList = true) (hz : wd.size ≤ 65536) :
    Calls Tryd.prog 20 #[.agg #[.int .i64 pl.1, .slice pp pl.2.length d], .string wd, .int .i64 last, .pointer (some ⟨gb, 0, none⟩), .pointer (some ⟨bs, 0, none⟩), .pointer (some ⟨bq, 0, none⟩)] W fun e w' =>
      e = .returned (.int .i64 (wrP G q pl wd last).2) ∧ CSE G bw bq bs ms pb pl pp d wc (wrP G q pl wd last).1 w' := by
  obtain ⟨g, hs⟩ := hs
  have h2 := h.later hs.bel
  refine (lkWrite_any G p c bw gb bs bq ms g q pl pp d wd last W hs.qi h2.gl (h2.g.below h2.x) hv hs.sl hl hw hz (h2.t10.below h2.x) hla hs.l1 hs.l2 hms hbq h2.h5).mono ?_
  rintro e w' ⟨he, ⟨g', hg, hq⟩, hk, hB⟩
  have hr := hk.vrow hs.row (by omega) (by omega) hs.ne
  have hgrw := wrP_grw G q pl wd last
  refine ⟨he, g', hq, ?_, hr, hs.sl.keep (hs.qi.nums hk), hs.bel.trans hB, hs.ok.wr hl wd hla.1 hla.2, Nat.le_trans hs.l1 hgrw.pre.length_le, hgrw.len hs.l2⟩
  rcases hg with rfl | hg
  · exact hs.ne
  · exact hq.ne hg hr
theorem CSE.below {W' : World} (hs : CSE G bw bq bs ms pb pl pp d wc q W) (hW : bw ≤ W.heap.size) (hB : RowKit.Below W.heap.size W W') : CSE G bw bq bs ms pb pl pp d wc q W' := by
  obtain ⟨g, h⟩ := hs
  exact ⟨g, h.qi.below hB, h.ne, h.row.below hB h.row.lt, h.sl.below hB, h.bel.trans (hB.mono hW), h.ok, h.l1, h.l2⟩
end

end Go.Proofs.YtjponanfpdmeoaaDoor
namespace Go.Proofs.YtjponanfpdmeoaaDoor
open Go

section
variable {P : Program} {ops : Array Oper} {Q : Exit → Act → World → Prop} {md : Region.Mode}
/-- All that an operation waits for is done. -/
def rdyAt (md : Region.Mode) (ops : Array Oper) (listed : Array Bool) (i : Nat) : Bool := ((ops[i]?).map (·.after.all fun e => !Region.binds md e || listed.getD e.on false)).getD false
theorem mem_ready {listed : Array Bool} {i : Nat} : i ∈ Region.ready md ops listed ↔ i < ops.size ∧ listed.getD i true = false ∧ rdyAt md ops listed i = true := by
  unfold Region.ready rdyAt
  rw [List.mem_filter, List.mem_range, Bool.and_eq_true, Bool.not_eq_true']
theorem getD_false {listed : Array Bool} {i : Nat} (h : listed.getD i true = false) : ∃ hi : i < listed.size, listed[i] = false := by
  by_cases hi : i < listed.size
  · refine ⟨hi, ?_⟩
    simpa [Array.getD, hi] using h
  · simp [Array.getD, hi] at h
theorem wpAny_inv (Inv : Array Bool → Act → World → Prop)
    (hstep : ∀ listed a w i, Inv listed a w → i ∈ Region.ready md ops listed → wpOp P ops Q i (Inv (listed.setIfInBounds i true)) a w)
    (hend : ∀ listed a w, Inv listed a w → Region.ready md ops listed = [] → Q .normal a w) :
    ∀ (fuel : Nat) (listed : Array Bool) (a : Act) (w : World), listed.toList.count false ≤ fuel → Inv listed a w → wpAny P md ops Q fuel listed a w
  | 0, listed, a, w, hc, hI => by
    have hr : Region.ready md ops listed = [] := by
      rw [List.eq_nil_iff_forall_not_mem]
      intro i hi
      obtain ⟨hl, he⟩ := getD_false (mem_ready.1 hi).2.1
      have hm : false ∈ listed.toList := by rw [← he]; exact Array.getElem_mem_toList hl
      have := List.count_pos_iff.2 hm
      omega
    exact ⟨hr, hend _ _ _ hI hr⟩
  | fuel + 1, listed, a, w, hc, hI => ⟨hend _ _ _ hI, fun i hi => wpOp_mono (fun a' w' h => wpAny_inv Inv hstep hend fuel _ a' w' (by
      obtain ⟨hl, he⟩ := getD_false (mem_ready.1 hi).2.1
      rw [Array.toList_setIfInBounds, List.count_set (by simpa using hl)]
      have hm : false ∈ listed.toList := by rw [← he]; exact Array.getElem_mem_toList hl
      have := List.count_pos_iff.2 hm
      have e2 : (listed.toList[i]'(by simpa using hl)) = false := by simpa using he
      rw [e2]
      rw [if_pos (by rfl), if_neg (by decide)]
      omega) h) (hstep _ _ _ i hI hi)⟩
/-- Where nothing is ready, all is done. -/
theorem ready_nil {listed : Array Bool} (hs : listed.size = ops.size) (hd : ((List.range ops.size).all fun i => ((ops[i]?).map (·.after.all fun e => decide (e.on < i))).getD true) = true)
    (h : Region.ready md ops listed = []) : ∀ i, i < ops.size → listed.getD i false = true := by
  intro i
  induction i using Nat.strongRecOn with
  | ind i ih =>
    intro hi
    cases hx : listed.getD i false with
    | true => rfl
    | false =>
      exfalso
      have hl : i < listed.size := by omega
      have hx2 : listed.getD i true = false := by simpa [Array.getD, hl] using hx
      have : i ∈ Region.ready md ops listed := by
        rw [mem_ready]
        refine ⟨hi, hx2, ?_⟩
        have h1 := List.all_eq_true.1 hd i (List.mem_range.2 hi)
        unfold rdyAt
        rw [Array.getElem?_eq_getElem hi] at h1 ⊢
        simp only [Option.map_some, Option.getD_some, Array.all_eq_true] at h1 ⊢
        intro j hj
        have h2 := of_decide_eq_true (h1 j hj)
        rw [ih _ h2 (by omega), Bool.or_true]
      rw [h] at this
      cases this
end

/-! ### Frames of which some slots are written -/
def fr (A : Act) (f : Nat → Option Value) : Act := { A with tmps := A.tmps.mapIdx fun i v => (f i).getD v }
theorem fr_none (A : Act) : fr A (fun _ => none) = A := by
  unfold fr
  have : (A.tmps.mapIdx fun i v => ((none : Option Value)).getD v) = A.tmps := by apply Array.ext <;> simp
  rw [this]
theorem fr_put {A : Act} {f : Nat → Option Value} (t : Nat) (v : Value) : (fr A f).put (some t) v = fr A (fun i => if i = t then some v else f i) := by
  unfold fr Act.put
  simp only
  congr 1
  apply Array.ext
  · simp
  · intro i h1 h2
    by_cases e : t = i
    · subst e; simp
    · have e' : ¬ i = t := fun h => e h.symm
      rw [Array.getElem_setIfInBounds_ne (by simpa using h2) e]
      simp [e']
theorem fr_put0 {A : Act} {f : Nat → Option Value} (v : Value) : (fr A f).put none v = fr A f := rfl
theorem fr_eval0 {A : Act} {f : Nat → Option Value} {t : Nat} (h : f t = none) : (fr A f).eval (.tmp t) = A.eval (.tmp t) := by
  show (A.tmps.mapIdx fun i v => (f i).getD v).getD t undef = A.tmps.getD t undef
  by_cases ht : t < A.tmps.size
  · simp [Array.getD, ht, h]
  · simp [Array.getD, ht]
theorem fr_eval1 {A : Act} {f : Nat → Option Value} {t : Nat} {v : Value} (h : f t = some v) (ht : t < A.tmps.size) : (fr A f).eval (.tmp t) = v := by
  show (A.tmps.mapIdx fun i v => (f i).getD v).getD t undef = v
  simp [Array.getD, ht, h]
theorem fr_all {A : Act} {f : Nat → Option Value} {u9 u10 u45 u46 u47 u48 u49 u50 : Value} (h : ∀ i, i ∉ [9, 10, 45, 46, 47, 48, 49, 50] → f i = none)
    (h9 : f 9 = some u9) (h10 : f 10 = some u10) (h45 : f 45 = some u45) (h46 : f 46 = some u46) (h47 : f 47 = some u47) (h48 : f 48 = some u48) (h49 : f 49 = some u49) (h50 : f 50 = some u50) :
    fr A f = (((((((A.put (some 9) u9).put (some 10) u10).put (some 45) u45).put (some 46) u46).put (some 47) u47).put (some 48) u48).put (some 49) u49).put (some 50) u50 := by
  rw [show A = fr A (fun _ => none) from (fr_none A).symm]
  simp only [fr_put]
  rw [fr_none]
  congr 1
  funext i
  by_cases e50 : i = 50
  · subst e50; simpa using h50
  by_cases e49 : i = 49
  · subst e49; simpa using h49
  by_cases e48 : i = 48
  · subst e48; simpa using h48
  by_cases e47 : i = 47
  · subst e47; simpa using h47
  by_cases e46 : i = 46
  · subst e46; simpa using h46
  by_cases e45 : i = 45
  · subst e45; simpa using h45
  by_cases e10 : i = 10
  · subst e10; simpa using h10
  by_cases e9 : i = 9
  · subst e9; simpa using h9
  simp [e50, e49, e48, e47, e46, e45, e10, e9]
  exact h i (by simp [e50, e49, e48, e47, e46, e45, e10, e9])
end Go.Proofs.YtjponanfpdmeoaaDoor
namespace Go.Proofs.YtjponanfpdmeoaaDoor
open Go.RowKit Go.Sort Go.Shelf Go.Lib

section
variable {P : Program} {ops : Array Oper} {Q : Exit → Act → World → Prop}
theorem getD_set {l : Array Bool} {i j : Nat} (h : l.getD j false = true) : (l.setIfInBounds i true).getD j false = true := by
  by_cases hj : j < l.size
  · by_cases e : i = j
    · subst e; simp [Array.getD, hj]
    · simp [Array.getD, hj] at h
      simp [Array.getD, hj, e, h]
  · simp [Array.getD, hj] at h
theorem rdy_mono {md : Region.Mode} {l : Array Bool} {i j : Nat} (h : rdyAt md ops l j = true) : rdyAt md ops (l.setIfInBounds i true) j = true := by
  unfold rdyAt at h ⊢
  cases ho : ops[j]? with
  | none => rw [ho] at h; simp at h
  | some o =>
    rw [ho] at h
    simp only [Option.map_some, Option.getD_some, Array.all_eq_true] at h ⊢
    intro k hk
    have h1 := h k hk
    rw [Bool.or_eq_true] at h1 ⊢
    exact h1.imp id getD_set
/-- A drawn region, by an invariant over what is done. -/
theorem region_inv {id : Nat} {A : Act} {w : World} (hm : P.follows .mixedOrders = true) (FA : Act → Prop) (Inv : Array Bool → (Nat → Option Value) → World → Prop)
    (hd : ((List.range ops.size).all fun i => ((ops[i]?).map (·.after.all fun e => decide (e.on < i))).getD true) = true)
    (hs : ∀ l f W, Inv l f W → l.size = ops.size) (hFA : FA A) (h0 : Inv (Array.replicate ops.size false) (fun _ => none) { w with drawn := w.drawn + 1 })
    (hstep : ∀ A, FA A → ∀ (l : Array Bool) (f : Nat → Option Value) (W : World) (i : Nat), Inv l f W → i < ops.size → l.getD i false = false → rdyAt .any ops l i = true → (∀ j, l.getD j false = true → rdyAt .any ops l j = true) →
      wpOp P ops Q i (fun a' W' => ∃ f', a' = fr A f' ∧ Inv (l.setIfInBounds i true) f' W') (fr A f) W)
    (hend : ∀ l f W, Inv l f W → (∀ i, i < ops.size → l.getD i false = true) → Q .normal (fr A f) W) :
    (Code.region id ops true).wp P Q A w := by
  refine wp_region_any hm (wpAny_inv (fun l a W => ∃ f, a = fr A f ∧ Inv l f W ∧ ∀ j, l.getD j false = true → rdyAt .any ops l j = true) ?_ ?_ _ _ _ _ ?_ ?_)
  · rintro l a W i ⟨f, rfl, hI, ho⟩ hi
    obtain ⟨h1, h2, h3⟩ := mem_ready.1 hi
    obtain ⟨hl, he⟩ := getD_false h2
    refine wpOp_mono ?_ (hstep A hFA l f W i hI h1 (by simpa [Array.getD, hl] using he) h3 ho)
    rintro a' W' ⟨f', e, hI'⟩
    refine ⟨f', e, hI', fun j hj => ?_⟩
    by_cases ej : i = j
    · subst ej; exact rdy_mono h3
    · refine rdy_mono (ho j ?_)
      by_cases hjl : j < l.size
      · simp [Array.getD, hjl, ej] at hj
        simp [Array.getD, hjl, hj]
      · simp [Array.getD, hjl] at hj
  · rintro l a W ⟨f, rfl, hI, _⟩ hr
    exact hend l f W hI (ready_nil (hs l f W hI) hd hr)
  · rw [Array.toList_replicate]
    exact Nat.le_trans List.count_le_length (by simp)
  · exact ⟨_, (fr_none A).symm, h0, fun j hj => by
      by_cases hjl : j < ops.size <;> simp [Array.getD, hjl] at hj⟩
end

theorem row_own {W : World} {b B : Nat} {t : TypeId} {a c : Value} (h : VRow W b t [a, c]) (hb : B ≤ b) : W.ownsRow B t 2 (.slice (some ⟨b, 0, none⟩) 1 1) 1 [a, c] :=
  ⟨rfl, .inr ⟨b, 1, #[a, c], rfl, hb, h, Nat.le_refl _, by simp [maxLen], rfl, rfl⟩⟩
/-- An operation is done. -/
def dn (l : Array Bool) (j : Nat) : Bool := l.getD j false
theorem gset {l : Array Bool} (hl : l.size = 11) (i j : Nat) (hi : i < 11) : dn (l.setIfInBounds i true) j = (decide (i = j) || dn l j) := by
  unfold dn
  by_cases e : i = j
  · subst e; simp [Array.getD, hl, hi]
  · by_cases hj : j < l.size
    · simp [Array.getD, hj, e]
    · simp [Array.getD, hj, e]
theorem fr_at0 {A : Act} {f : Nat → Option Value} {t : Nat} {v : Value} (h : f t = none) (hv : A.eval (.tmp t) = v) : (fr A f).tmps[t]?.getD undef = v := by
  rw [← hv, ← fr_eval0 h]; simp [Act.eval]
theorem fr_at1 {A : Act} {f : Nat → Option Value} {t : Nat} {v : Value} (h : f t = some v) (ht : t < A.tmps.size) : (fr A f).tmps[t]?.getD undef = v := by
  rw [← fr_eval1 h ht]; simp [Act.eval]
theorem dn_rep (j : Nat) : dn (Array.replicate 11 false) j = false := by
  unfold dn; simp [Array.getD]
/-- The region of the queue and the map: what is done, and what then stands. -/
structure I13 (wr : World) (sv : Value) (ks : ByteArray) (x : Pl) (l : Array Bool) (f : Nat → Option Value) (W : World) : Prop where
  sz : l.size = 11
  dom : ∀ i, i ∉ [9, 10, 45, 46, 47, 48, 49, 50] → f i = none
  bel : RowKit.Below wr.heap.size wr W
  f45 : dn l 0 = true → f 45 = some (.agg #[.int .i64 (-1), sv])
  f46 : dn l 1 = true → ∃ b, f 46 = some (.slice (some ⟨b, 0, none⟩) 1 1) ∧ wr.heap.size ≤ b ∧ VRow W b 53 [.int .i64 (-1), sv]
  f47 : dn l 2 = true → ∃ m, f 47 = some (.map (some m)) ∧ wr.heap.size ≤ m ∧ (dn l 5 = false → W.heap[m]? = some (.map #[] 0)) ∧ (dn l 5 = true → Mp kP okP Value.bool W m (seenP [x]))
  f48 : dn l 3 = true → f 48 = some (.agg #[.int .i64 (-1), sv])
  f49 : dn l 4 = true → f 49 = some (.string ks)
  f50 : dn l 6 = true → f 50 = f 47
  f9 : dn l 7 = true → ∃ b v, f 9 = some (.pointer (some ⟨b, 0, none⟩)) ∧ wr.heap.size ≤ b ∧ VRow W b 54 [v] ∧ (dn l 9 = true → f 46 = some v)
  f10 : dn l 8 = true → ∃ b v, f 10 = some (.pointer (some ⟨b, 0, none⟩)) ∧ wr.heap.size ≤ b ∧ VRow W b 56 [v] ∧ (dn l 10 = true → f 47 = some v)
section
variable {wr : World} {sv : Value} {ks : ByteArray} {x : Pl} {l : Array Bool} {f : Nat → Option Value} {W W' : World}
theorem I13.keep (h : I13 wr sv ks x l f W) (hB : RowKit.Below W.heap.size W W') : I13 wr sv ks x l f W' where
  sz := h.sz
  dom := h.dom
  bel := h.bel.trans (hB.mono h.bel.size)
  f45 := h.f45
  f46 := fun e => by obtain ⟨b, h1, h2, h3⟩ := h.f46 e; exact ⟨b, h1, h2, h3.below hB h3.lt⟩
  f47 := fun e => by
    obtain ⟨m, h1, h2, h3, h4⟩ := h.f47 e
    exact ⟨m, h1, h2, fun e5 => (hB.block m (Array.getElem?_eq_some_iff.1 (h3 e5)).1).trans (h3 e5), fun e5 => (h4 e5).below hB (h4 e5).lt⟩
  f48 := h.f48
  f49 := h.f49
  f50 := h.f50
  f9 := fun e => by obtain ⟨b, v, h1, h2, h3, h4⟩ := h.f9 e; exact ⟨b, v, h1, h2, h3.below hB h3.lt, h4⟩
  f10 := fun e => by obtain ⟨b, v, h1, h2, h3, h4⟩ := h.f10 e; exact ⟨b, v, h1, h2, h3.below hB h3.lt, h4⟩
theorem I13.start (hB : RowKit.Below wr.heap.size wr W) : I13 wr sv ks x (Array.replicate 11 false) (fun _ => none) W where
  sz := by simp
  dom := fun _ _ => rfl
  bel := hB
  f45 := fun e => absurd e (by rw [dn_rep]; decide)
  f46 := fun e => absurd e (by rw [dn_rep]; decide)
  f47 := fun e => absurd e (by rw [dn_rep]; decide)
  f48 := fun e => absurd e (by rw [dn_rep]; decide)
  f49 := fun e => absurd e (by rw [dn_rep]; decide)
  f50 := fun e => absurd e (by rw [dn_rep]; decide)
  f9 := fun e => absurd e (by rw [dn_rep]; decide)
  f10 := fun e => absurd e (by rw [dn_rep]; decide)

theorem I13.op0 (h : I13 wr sv ks x l f W) : I13 wr sv ks x (l.setIfInBounds 0 true) (fun i => if i = 45 then some (.agg #[.int .i64 (-1), sv]) else f i) W := by
  have g := fun j => gset h.sz 0 j (by decide)
  obtain ⟨h1, h2, h3, h4, h5, h6, h7, h8, h9, h10, h11⟩ := h
  constructor
  case sz => first | exact h3 | (simpa [g] using h1) | (simpa [g] using h4) | (simpa [g] using h5) | (simpa [g] using h6) | (simpa [g] using h7) | (simpa [g] using h8) | (simpa [g] using h9) | (simpa [g] using h10) | (simpa [g] using h11)
  case dom => (intro j hj; show (if j = _ then _ else f j) = none; rw [if_neg (by rintro rfl; simp at hj)]; exact h2 j hj)
  case bel => first | exact h3 | (simpa [g] using h1) | (simpa [g] using h4) | (simpa [g] using h5) | (simpa [g] using h6) | (simpa [g] using h7) | (simpa [g] using h8) | (simpa [g] using h9) | (simpa [g] using h10) | (simpa [g] using h11)
  case f45 => simp
  case f46 => first | exact h3 | (simpa [g] using h1) | (simpa [g] using h4) | (simpa [g] using h5) | (simpa [g] using h6) | (simpa [g] using h7) | (simpa [g] using h8) | (simpa [g] using h9) | (simpa [g] using h10) | (simpa [g] using h11)
  case f47 => first | exact h3 | (simpa [g] using h1) | (simpa [g] using h4) | (simpa [g] using h5) | (simpa [g] using h6) | (simpa [g] using h7) | (simpa [g] using h8) | (simpa [g] using h9) | (simpa [g] using h10) | (simpa [g] using h11)
  case f48 => first | exact h3 | (simpa [g] using h1) | (simpa [g] using h4) | (simpa [g] using h5) | (simpa [g] using h6) | (simpa [g] using h7) | (simpa [g] using h8) | (simpa [g] using h9) | (simpa [g] using h10) | (simpa [g] using h11)
  case f49 => first | exact h3 | (simpa [g] using h1) | (simpa [g] using h4) | (simpa [g] using h5) | (simpa [g] using h6) | (simpa [g] using h7) | (simpa [g] using h8) | (simpa [g] using h9) | (simpa [g] using h10) | (simpa [g] using h11)
  case f50 => first | exact h3 | (simpa [g] using h1) | (simpa [g] using h4) | (simpa [g] using h5) | (simpa [g] using h6) | (simpa [g] using h7) | (simpa [g] using h8) | (simpa [g] using h9) | (simpa [g] using h10) | (simpa [g] using h11)
  case f9 => first | exact h3 | (simpa [g] using h1) | (simpa [g] using h4) | (simpa [g] using h5) | (simpa [g] using h6) | (simpa [g] using h7) | (simpa [g] using h8) | (simpa [g] using h9) | (simpa [g] using h10) | (simpa [g] using h11)
  case f10 => first | exact h3 | (simpa [g] using h1) | (simpa [g] using h4) | (simpa [g] using h5) | (simpa [g] using h6) | (simpa [g] using h7) | (simpa [g] using h8) | (simpa [g] using h9) | (simpa [g] using h10) | (simpa [g] using h11)
theorem I13.op3 (h : I13 wr sv ks x l f W) : I13 wr sv ks x (l.setIfInBounds 3 true) (fun i => if i = 48 then some (.agg #[.int .i64 (-1), sv]) else f i) W := by
  have g := fun j => gset h.sz 3 j (by decide)
  obtain ⟨h1, h2, h3, h4, h5, h6, h7, h8, h9, h10, h11⟩ := h
  constructor
  case sz => first | exact h3 | (simpa [g] using h1) | (simpa [g] using h4) | (simpa [g] using h5) | (simpa [g] using h6) | (simpa [g] using h7) | (simpa [g] using h8) | (simpa [g] using h9) | (simpa [g] using h10) | (simpa [g] using h11)
  case dom => (intro j hj; show (if j = _ then _ else f j) = none; rw [if_neg (by rintro rfl; simp at hj)]; exact h2 j hj)
  case bel => first | exact h3 | (simpa [g] using h1) | (simpa [g] using h4) | (simpa [g] using h5) | (simpa [g] using h6) | (simpa [g] using h7) | (simpa [g] using h8) | (simpa [g] using h9) | (simpa [g] using h10) | (simpa [g] using h11)
  case f45 => first | exact h3 | (simpa [g] using h1) | (simpa [g] using h4) | (simpa [g] using h5) | (simpa [g] using h6) | (simpa [g] using h7) | (simpa [g] using h8) | (simpa [g] using h9) | (simpa [g] using h10) | (simpa [g] using h11)
  case f46 => first | exact h3 | (simpa [g] using h1) | (simpa [g] using h4) | (simpa [g] using h5) | (simpa [g] using h6) | (simpa [g] using h7) | (simpa [g] using h8) | (simpa [g] using h9) | (simpa [g] using h10) | (simpa [g] using h11)
  case f47 => first | exact h3 | (simpa [g] using h1) | (simpa [g] using h4) | (simpa [g] using h5) | (simpa [g] using h6) | (simpa [g] using h7) | (simpa [g] using h8) | (simpa [g] using h9) | (simpa [g] using h10) | (simpa [g] using h11)
  case f48 => simp
  case f49 => first | exact h3 | (simpa [g] using h1) | (simpa [g] using h4) | (simpa [g] using h5) | (simpa [g] using h6) | (simpa [g] using h7) | (simpa [g] using h8) | (simpa [g] using h9) | (simpa [g] using h10) | (simpa [g] using h11)
  case f50 => first | exact h3 | (simpa [g] using h1) | (simpa [g] using h4) | (simpa [g] using h5) | (simpa [g] using h6) | (simpa [g] using h7) | (simpa [g] using h8) | (simpa [g] using h9) | (simpa [g] using h10) | (simpa [g] using h11)
  case f9 => first | exact h3 | (simpa [g] using h1) | (simpa [g] using h4) | (simpa [g] using h5) | (simpa [g] using h6) | (simpa [g] using h7) | (simpa [g] using h8) | (simpa [g] using h9) | (simpa [g] using h10) | (simpa [g] using h11)
  case f10 => first | exact h3 | (simpa [g] using h1) | (simpa [g] using h4) | (simpa [g] using h5) | (simpa [g] using h6) | (simpa [g] using h7) | (simpa [g] using h8) | (simpa [g] using h9) | (simpa [g] using h10) | (simpa [g] using h11)
theorem I13.op4 (h : I13 wr sv ks x l f W) : I13 wr sv ks x (l.setIfInBounds 4 true) (fun i => if i = 49 then some (.string ks) else f i) W := by
  have g := fun j => gset h.sz 4 j (by decide)
  obtain ⟨h1, h2, h3, h4, h5, h6, h7, h8, h9, h10, h11⟩ := h
  constructor
  case sz => first | exact h3 | (simpa [g] using h1) | (simpa [g] using h4) | (simpa [g] using h5) | (simpa [g] using h6) | (simpa [g] using h7) | (simpa [g] using h8) | (simpa [g] using h9) | (simpa [g] using h10) | (simpa [g] using h11)
  case dom => (intro j hj; show (if j = _ then _ else f j) = none; rw [if_neg (by rintro rfl; simp at hj)]; exact h2 j hj)
  case bel => first | exact h3 | (simpa [g] using h1) | (simpa [g] using h4) | (simpa [g] using h5) | (simpa [g] using h6) | (simpa [g] using h7) | (simpa [g] using h8) | (simpa [g] using h9) | (simpa [g] using h10) | (simpa [g] using h11)
  case f45 => first | exact h3 | (simpa [g] using h1) | (simpa [g] using h4) | (simpa [g] using h5) | (simpa [g] using h6) | (simpa [g] using h7) | (simpa [g] using h8) | (simpa [g] using h9) | (simpa [g] using h10) | (simpa [g] using h11)
  case f46 => first | exact h3 | (simpa [g] using h1) | (simpa [g] using h4) | (simpa [g] using h5) | (simpa [g] using h6) | (simpa [g] using h7) | (simpa [g] using h8) | (simpa [g] using h9) | (simpa [g] using h10) | (simpa [g] using h11)
  case f47 => first | exact h3 | (simpa [g] using h1) | (simpa [g] using h4) | (simpa [g] using h5) | (simpa [g] using h6) | (simpa [g] using h7) | (simpa [g] using h8) | (simpa [g] using h9) | (simpa [g] using h10) | (simpa [g] using h11)
  case f48 => first | exact h3 | (simpa [g] using h1) | (simpa [g] using h4) | (simpa [g] using h5) | (simpa [g] using h6) | (simpa [g] using h7) | (simpa [g] using h8) | (simpa [g] using h9) | (simpa [g] using h10) | (simpa [g] using h11)
  case f49 => simp
  case f50 => first | exact h3 | (simpa [g] using h1) | (simpa [g] using h4) | (simpa [g] using h5) | (simpa [g] using h6) | (simpa [g] using h7) | (simpa [g] using h8) | (simpa [g] using h9) | (simpa [g] using h10) | (simpa [g] using h11)
  case f9 => first | exact h3 | (simpa [g] using h1) | (simpa [g] using h4) | (simpa [g] using h5) | (simpa [g] using h6) | (simpa [g] using h7) | (simpa [g] using h8) | (simpa [g] using h9) | (simpa [g] using h10) | (simpa [g] using h11)
  case f10 => first | exact h3 | (simpa [g] using h1) | (simpa [g] using h4) | (simpa [g] using h5) | (simpa [g] using h6) | (simpa [g] using h7) | (simpa [g] using h8) | (simpa [g] using h9) | (simpa [g] using h10) | (simpa [g] using h11)
theorem I13.op1 (h : I13 wr sv ks x l f W) (hn : dn l 9 = false) : I13 wr sv ks x (l.setIfInBounds 1 true) (fun i => if i = 46 then some (.slice (some ⟨W.heap.size, 0, none⟩) 1 1) else f i) (W.alloc (.cells #[.int .i64 (-1), sv] 53)) := by
  have g := fun j => gset h.sz 1 j (by decide)
  have hsz := h.bel.size
  have h := h.keep (below_al2 W (.cells #[.int .i64 (-1), sv] 53))
  obtain ⟨h1, h2, h3, h4, h5, h6, h7, h8, h9, h10, h11⟩ := h
  constructor
  case sz => first | exact h3 | (simpa [g] using h1) | (simpa [g] using h4) | (simpa [g] using h5) | (simpa [g] using h6) | (simpa [g] using h7) | (simpa [g] using h8) | (simpa [g] using h9) | (simpa [g] using h10) | (simpa [g] using h11)
  case dom => (intro j hj; show (if j = _ then _ else f j) = none; rw [if_neg (by rintro rfl; simp at hj)]; exact h2 j hj)
  case bel => first | exact h3 | (simpa [g] using h1) | (simpa [g] using h4) | (simpa [g] using h5) | (simpa [g] using h6) | (simpa [g] using h7) | (simpa [g] using h8) | (simpa [g] using h9) | (simpa [g] using h10) | (simpa [g] using h11)
  case f45 => first | exact h3 | (simpa [g] using h1) | (simpa [g] using h4) | (simpa [g] using h5) | (simpa [g] using h6) | (simpa [g] using h7) | (simpa [g] using h8) | (simpa [g] using h9) | (simpa [g] using h10) | (simpa [g] using h11)
  case f46 => (intro _; exact ⟨_, by simp, hsz, VRow.new W _ _⟩)
  case f47 => first | exact h3 | (simpa [g] using h1) | (simpa [g] using h4) | (simpa [g] using h5) | (simpa [g] using h6) | (simpa [g] using h7) | (simpa [g] using h8) | (simpa [g] using h9) | (simpa [g] using h10) | (simpa [g] using h11)
  case f48 => first | exact h3 | (simpa [g] using h1) | (simpa [g] using h4) | (simpa [g] using h5) | (simpa [g] using h6) | (simpa [g] using h7) | (simpa [g] using h8) | (simpa [g] using h9) | (simpa [g] using h10) | (simpa [g] using h11)
  case f49 => first | exact h3 | (simpa [g] using h1) | (simpa [g] using h4) | (simpa [g] using h5) | (simpa [g] using h6) | (simpa [g] using h7) | (simpa [g] using h8) | (simpa [g] using h9) | (simpa [g] using h10) | (simpa [g] using h11)
  case f50 => first | exact h3 | (simpa [g] using h1) | (simpa [g] using h4) | (simpa [g] using h5) | (simpa [g] using h6) | (simpa [g] using h7) | (simpa [g] using h8) | (simpa [g] using h9) | (simpa [g] using h10) | (simpa [g] using h11)
  case f9 => (simp only [g]; simp; simpa [hn] using h10)
  case f10 => first | exact h3 | (simpa [g] using h1) | (simpa [g] using h4) | (simpa [g] using h5) | (simpa [g] using h6) | (simpa [g] using h7) | (simpa [g] using h8) | (simpa [g] using h9) | (simpa [g] using h10) | (simpa [g] using h11)
theorem I13.op2 (h : I13 wr sv ks x l f W) (hn : dn l 5 = false) (hn6 : dn l 6 = false) (hn10 : dn l 10 = false) : I13 wr sv ks x (l.setIfInBounds 2 true) (fun i => if i = 47 then some (.map (some W.heap.size)) else f i) (W.alloc (.map #[] 0)) := by
  have g := fun j => gset h.sz 2 j (by decide)
  have hsz := h.bel.size
  have h := h.keep (below_al2 W (.map #[] 0))
  obtain ⟨h1, h2, h3, h4, h5, h6, h7, h8, h9, h10, h11⟩ := h
  constructor
  case sz => first | exact h3 | (simpa [g] using h1) | (simpa [g] using h4) | (simpa [g] using h5) | (simpa [g] using h6) | (simpa [g] using h7) | (simpa [g] using h8) | (simpa [g] using h9) | (simpa [g] using h10) | (simpa [g] using h11)
  case dom => (intro j hj; show (if j = _ then _ else f j) = none; rw [if_neg (by rintro rfl; simp at hj)]; exact h2 j hj)
  case bel => first | exact h3 | (simpa [g] using h1) | (simpa [g] using h4) | (simpa [g] using h5) | (simpa [g] using h6) | (simpa [g] using h7) | (simpa [g] using h8) | (simpa [g] using h9) | (simpa [g] using h10) | (simpa [g] using h11)
  case f45 => first | exact h3 | (simpa [g] using h1) | (simpa [g] using h4) | (simpa [g] using h5) | (simpa [g] using h6) | (simpa [g] using h7) | (simpa [g] using h8) | (simpa [g] using h9) | (simpa [g] using h10) | (simpa [g] using h11)
  case f46 => first | exact h3 | (simpa [g] using h1) | (simpa [g] using h4) | (simpa [g] using h5) | (simpa [g] using h6) | (simpa [g] using h7) | (simpa [g] using h8) | (simpa [g] using h9) | (simpa [g] using h10) | (simpa [g] using h11)
  case f47 => (intro _; exact ⟨_, by simp, hsz, fun _ => heap_alloc_new W _, fun e => by simp [g, hn] at e⟩)
  case f48 => first | exact h3 | (simpa [g] using h1) | (simpa [g] using h4) | (simpa [g] using h5) | (simpa [g] using h6) | (simpa [g] using h7) | (simpa [g] using h8) | (simpa [g] using h9) | (simpa [g] using h10) | (simpa [g] using h11)
  case f49 => first | exact h3 | (simpa [g] using h1) | (simpa [g] using h4) | (simpa [g] using h5) | (simpa [g] using h6) | (simpa [g] using h7) | (simpa [g] using h8) | (simpa [g] using h9) | (simpa [g] using h10) | (simpa [g] using h11)
  case f50 => (simp [g, hn6])
  case f9 => first | exact h3 | (simpa [g] using h1) | (simpa [g] using h4) | (simpa [g] using h5) | (simpa [g] using h6) | (simpa [g] using h7) | (simpa [g] using h8) | (simpa [g] using h9) | (simpa [g] using h10) | (simpa [g] using h11)
  case f10 => (simp only [g]; simp; simpa [hn10] using h11)
theorem I13.op7 (h : I13 wr sv ks x l f W) (hn : dn l 9 = false) (v : Value) : I13 wr sv ks x (l.setIfInBounds 7 true) (fun i => if i = 9 then some (.pointer (some ⟨W.heap.size, 0, none⟩)) else f i) (W.alloc (.cells #[v] 54)) := by
  have g := fun j => gset h.sz 7 j (by decide)
  have hsz := h.bel.size
  have h := h.keep (below_al2 W (.cells #[v] 54))
  obtain ⟨h1, h2, h3, h4, h5, h6, h7, h8, h9, h10, h11⟩ := h
  constructor
  case sz => first | exact h3 | (simpa [g] using h1) | (simpa [g] using h4) | (simpa [g] using h5) | (simpa [g] using h6) | (simpa [g] using h7) | (simpa [g] using h8) | (simpa [g] using h9) | (simpa [g] using h10) | (simpa [g] using h11)
  case dom => (intro j hj; show (if j = _ then _ else f j) = none; rw [if_neg (by rintro rfl; simp at hj)]; exact h2 j hj)
  case bel => first | exact h3 | (simpa [g] using h1) | (simpa [g] using h4) | (simpa [g] using h5) | (simpa [g] using h6) | (simpa [g] using h7) | (simpa [g] using h8) | (simpa [g] using h9) | (simpa [g] using h10) | (simpa [g] using h11)
  case f45 => first | exact h3 | (simpa [g] using h1) | (simpa [g] using h4) | (simpa [g] using h5) | (simpa [g] using h6) | (simpa [g] using h7) | (simpa [g] using h8) | (simpa [g] using h9) | (simpa [g] using h10) | (simpa [g] using h11)
  case f46 => first | exact h3 | (simpa [g] using h1) | (simpa [g] using h4) | (simpa [g] using h5) | (simpa [g] using h6) | (simpa [g] using h7) | (simpa [g] using h8) | (simpa [g] using h9) | (simpa [g] using h10) | (simpa [g] using h11)
  case f47 => first | exact h3 | (simpa [g] using h1) | (simpa [g] using h4) | (simpa [g] using h5) | (simpa [g] using h6) | (simpa [g] using h7) | (simpa [g] using h8) | (simpa [g] using h9) | (simpa [g] using h10) | (simpa [g] using h11)
  case f48 => first | exact h3 | (simpa [g] using h1) | (simpa [g] using h4) | (simpa [g] using h5) | (simpa [g] using h6) | (simpa [g] using h7) | (simpa [g] using h8) | (simpa [g] using h9) | (simpa [g] using h10) | (simpa [g] using h11)
  case f49 => first | exact h3 | (simpa [g] using h1) | (simpa [g] using h4) | (simpa [g] using h5) | (simpa [g] using h6) | (simpa [g] using h7) | (simpa [g] using h8) | (simpa [g] using h9) | (simpa [g] using h10) | (simpa [g] using h11)
  case f50 => first | exact h3 | (simpa [g] using h1) | (simpa [g] using h4) | (simpa [g] using h5) | (simpa [g] using h6) | (simpa [g] using h7) | (simpa [g] using h8) | (simpa [g] using h9) | (simpa [g] using h10) | (simpa [g] using h11)
  case f9 => (intro _; exact ⟨_, _, by simp, hsz, VRow.new W _ _, fun e => by simp [g, hn] at e⟩)
  case f10 => first | exact h3 | (simpa [g] using h1) | (simpa [g] using h4) | (simpa [g] using h5) | (simpa [g] using h6) | (simpa [g] using h7) | (simpa [g] using h8) | (simpa [g] using h9) | (simpa [g] using h10) | (simpa [g] using h11)
theorem I13.op8 (h : I13 wr sv ks x l f W) (hn : dn l 10 = false) (v : Value) : I13 wr sv ks x (l.setIfInBounds 8 true) (fun i => if i = 10 then some (.pointer (some ⟨W.heap.size, 0, none⟩)) else f i) (W.alloc (.cells #[v] 56)) := by
  have g := fun j => gset h.sz 8 j (by decide)
  have hsz := h.bel.size
  have h := h.keep (below_al2 W (.cells #[v] 56))
  obtain ⟨h1, h2, h3, h4, h5, h6, h7, h8, h9, h10, h11⟩ := h
  constructor
  case sz => first | exact h3 | (simpa [g] using h1) | (simpa [g] using h4) | (simpa [g] using h5) | (simpa [g] using h6) | (simpa [g] using h7) | (simpa [g] using h8) | (simpa [g] using h9) | (simpa [g] using h10) | (simpa [g] using h11)
  case dom => (intro j hj; show (if j = _ then _ else f j) = none; rw [if_neg (by rintro rfl; simp at hj)]; exact h2 j hj)
  case bel => first | exact h3 | (simpa [g] using h1) | (simpa [g] using h4) | (simpa [g] using h5) | (simpa [g] using h6) | (simpa [g] using h7) | (simpa [g] using h8) | (simpa [g] using h9) | (simpa [g] using h10) | (simpa [g] using h11)
  case f45 => first | exact h3 | (simpa [g] using h1) | (simpa [g] using h4) | (simpa [g] using h5) | (simpa [g] using h6) | (simpa [g] using h7) | (simpa [g] using h8) | (simpa [g] using h9) | (simpa [g] using h10) | (simpa [g] using h11)
  case f46 => first | exact h3 | (simpa [g] using h1) | (simpa [g] using h4) | (simpa [g] using h5) | (simpa [g] using h6) | (simpa [g] using h7) | (simpa [g] using h8) | (simpa [g] using h9) | (simpa [g] using h10) | (simpa [g] using h11)
  case f47 => first | exact h3 | (simpa [g] using h1) | (simpa [g] using h4) | (simpa [g] using h5) | (simpa [g] using h6) | (simpa [g] using h7) | (simpa [g] using h8) | (simpa [g] using h9) | (simpa [g] using h10) | (simpa [g] using h11)
  case f48 => first | exact h3 | (simpa [g] using h1) | (simpa [g] using h4) | (simpa [g] using h5) | (simpa [g] using h6) | (simpa [g] using h7) | (simpa [g] using h8) | (simpa [g] using h9) | (simpa [g] using h10) | (simpa [g] using h11)
  case f49 => first | exact h3 | (simpa [g] using h1) | (simpa [g] using h4) | (simpa [g] using h5) | (simpa [g] using h6) | (simpa [g] using h7) | (simpa [g] using h8) | (simpa [g] using h9) | (simpa [g] using h10) | (simpa [g] using h11)
  case f50 => first | exact h3 | (simpa [g] using h1) | (simpa [g] using h4) | (simpa [g] using h5) | (simpa [g] using h6) | (simpa [g] using h7) | (simpa [g] using h8) | (simpa [g] using h9) | (simpa [g] using h10) | (simpa [g] using h11)
  case f9 => first | exact h3 | (simpa [g] using h1) | (simpa [g] using h4) | (simpa [g] using h5) | (simpa [g] using h6) | (simpa [g] using h7) | (simpa [g] using h8) | (simpa [g] using h9) | (simpa [g] using h10) | (simpa [g] using h11)
  case f10 => (intro _; exact ⟨_, _, by simp, hsz, VRow.new W _ _, fun e => by simp [g, hn] at e⟩)
theorem I13.op6 (h : I13 wr sv ks x l f W) (v : Value) (hv : f 47 = some v) : I13 wr sv ks x (l.setIfInBounds 6 true) (fun i => if i = 50 then some v else f i) W := by
  have g := fun j => gset h.sz 6 j (by decide)
  obtain ⟨h1, h2, h3, h4, h5, h6, h7, h8, h9, h10, h11⟩ := h
  constructor
  case dom => (intro j hj; show (if j = _ then _ else f j) = none; rw [if_neg (by rintro rfl; simp at hj)]; exact h2 j hj)
  case f50 => (intro _; simp [hv])
  all_goals first | exact h3 | (simpa [g] using h1) | (simpa [g] using h4) | (simpa [g] using h5) | (simpa [g] using h6) | (simpa [g] using h7) | (simpa [g] using h8) | (simpa [g] using h9) | (simpa [g] using h10) | (simpa [g] using h11)
theorem I13.op5 (h : I13 wr sv ks x l f W) (hx : okP x) (m : Nat) (hm : f 47 = some (.map (some m))) (hb : W.heap[m]? = some (.map #[] 0)) (hwm : wr.heap.size ≤ m) : I13 wr sv ks x (l.setIfInBounds 5 true) f (mapI W m x) := by
  have g := fun j => gset h.sz 5 j (by decide)
  obtain ⟨h1, h2, h3, h4, h5, h6, h7, h8, h9, h10, h11⟩ := h
  have ht := (first_map hx hb).2
  have hM := (first_map hx hb).1
  constructor
  case sz => simpa using h1
  case dom => exact h2
  case bel => exact h3.grown ht.grown h3.size (fun j e => by simp only [Option.some.injEq] at e; omega)
  case f46 => (intro e; obtain ⟨b, k1, k2, k3⟩ := h5 (by simpa [g] using e); exact ⟨b, k1, k2, (KX0.turn ht).vrow k3⟩)
  case f47 => (intro e; exact ⟨m, hm, hwm, fun e5 => by simp [g] at e5, fun _ => hM⟩)
  case f9 => (intro e; obtain ⟨b, v, k1, k2, k3, k4⟩ := h10 (by simpa [g] using e); exact ⟨b, v, k1, k2, (KX0.turn ht).vrow k3, fun e9 => k4 (by simpa [g] using e9)⟩)
  case f10 => (intro e; obtain ⟨b, v, k1, k2, k3, k4⟩ := h11 (by simpa [g] using e); exact ⟨b, v, k1, k2, (KX0.turn ht).vrow k3, fun e9 => k4 (by simpa [g] using e9)⟩)
  all_goals first | exact h3 | (simpa [g] using h1) | (simpa [g] using h4) | (simpa [g] using h5) | (simpa [g] using h6) | (simpa [g] using h7) | (simpa [g] using h8) | (simpa [g] using h9) | (simpa [g] using h10) | (simpa [g] using h11)
theorem map_set {t : TypeId} {b m : Nat} {c : List Value} {o : Obj} (hr : VRow W b t c) (hm : W.heap[m]? = some o) (ho : ∀ a t z, o ≠ .cells a t z) (k : Nat) (v : Value) : (W.setCell ⟨b, k, none⟩ v).heap[m]? = W.heap[m]? := by
  refine Below.heap_setCell _ _ _ _ ?_
  rintro rfl
  have e : W.heap[m]? = _ := hr
  rw [e] at hm
  cases hm
  exact ho _ _ _ rfl
theorem I13.op9 (h : I13 wr sv ks x l f W) (b : Nat) (v0 v : Value) (hb : f 9 = some (.pointer (some ⟨b, 0, none⟩))) (hbw : wr.heap.size ≤ b) (hr : VRow W b 54 [v0]) (hv : f 46 = some v) : I13 wr sv ks x (l.setIfInBounds 9 true) f (W.setCell ⟨b, 0, none⟩ v) := by
  have g := fun j => gset h.sz 9 j (by decide)
  obtain ⟨h1, h2, h3, h4, h5, h6, h7, h8, h9, h10, h11⟩ := h
  constructor
  case sz => simpa using h1
  case dom => exact h2
  case bel => exact h3.setCell hbw _
  case f46 => (intro e; obtain ⟨b', k1, k2, k3⟩ := h5 (by simpa [g] using e); exact ⟨b', k1, k2, (KX0.set hr 0 v (by decide)).vrow k3⟩)
  case f47 =>
    intro e
    obtain ⟨m, k1, k2, k3, k4⟩ := h6 (by simpa [g] using e)
    refine ⟨m, k1, k2, fun e5 => ?_, fun e5 => ?_⟩
    · have k3 := k3 (by simpa [g] using e5)
      exact (map_set hr k3 (by simp) 0 v).trans k3
    · have k4 := k4 (by simpa [g] using e5)
      obtain ⟨es, cl, hes, _⟩ := id k4
      exact k4.same (map_set hr hes (by simp) 0 v)
  case f9 => (intro e; exact ⟨b, v, hb, hbw, hr.set (i := 0) v, fun _ => hv⟩)
  case f10 => (intro e; obtain ⟨b', v', k1, k2, k3, k4⟩ := h11 (by simpa [g] using e); exact ⟨b', v', k1, k2, (KX0.set hr 0 v (by decide)).vrow k3, fun e9 => k4 (by simpa [g] using e9)⟩)
  all_goals first | exact h3 | (simpa [g] using h1) | (simpa [g] using h4) | (simpa [g] using h5) | (simpa [g] using h6) | (simpa [g] using h7) | (simpa [g] using h8) | (simpa [g] using h9) | (simpa [g] using h10) | (simpa [g] using h11)
theorem I13.op10 (h : I13 wr sv ks x l f W) (b : Nat) (v0 v : Value) (hb : f 10 = some (.pointer (some ⟨b, 0, none⟩))) (hbw : wr.heap.size ≤ b) (hr : VRow W b 56 [v0]) (hv : f 47 = some v) : I13 wr sv ks x (l.setIfInBounds 10 true) f (W.setCell ⟨b, 0, none⟩ v) := by
  have g := fun j => gset h.sz 10 j (by decide)
  obtain ⟨h1, h2, h3, h4, h5, h6, h7, h8, h9, h10, h11⟩ := h
  constructor
  case sz => simpa using h1
  case dom => exact h2
  case bel => exact h3.setCell hbw _
  case f46 => (intro e; obtain ⟨b', k1, k2, k3⟩ := h5 (by simpa [g] using e); exact ⟨b', k1, k2, (KX0.set hr 0 v (by decide)).vrow k3⟩)
  case f47 =>
    intro e
    obtain ⟨m, k1, k2, k3, k4⟩ := h6 (by simpa [g] using e)
    refine ⟨m, k1, k2, fun e5 => ?_, fun e5 => ?_⟩
    · have k3 := k3 (by simpa [g] using e5)
      exact (map_set hr k3 (by simp) 0 v).trans k3
    · have k4 := k4 (by simpa [g] using e5)
      obtain ⟨es, cl, hes, _⟩ := id k4
      exact k4.same (map_set hr hes (by simp) 0 v)
  case f9 => (intro e; obtain ⟨b', v', k1, k2, k3, k4⟩ := h10 (by simpa [g] using e); exact ⟨b', v', k1, k2, (KX0.set hr 0 v (by decide)).vrow k3, fun e9 => k4 (by simpa [g] using e9)⟩)
  case f10 => (intro e; exact ⟨b, v, hb, hbw, hr.set (i := 0) v, fun _ => hv⟩)
  all_goals first | exact h3 | (simpa [g] using h1) | (simpa [g] using h4) | (simpa [g] using h5) | (simpa [g] using h6) | (simpa [g] using h7) | (simpa [g] using h8) | (simpa [g] using h9) | (simpa [g] using h10) | (simpa [g] using h11)
end
end Go.Proofs.YtjponanfpdmeoaaDoor
