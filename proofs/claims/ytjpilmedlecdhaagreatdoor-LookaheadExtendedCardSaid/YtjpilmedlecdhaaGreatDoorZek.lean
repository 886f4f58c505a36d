/-
  Words, plain lemmas and walks, merged: Rd, Re, Rf, Rg, Sp, Qd, Cj, Sq.
-/
import Derived.Test.YtjpilmedlecdhaaGreatDoorZej
import Derived.Deep.RegionWith
import Derived.Test.YtjpilmedlecdhaaGreatDoorZei
import Derived.Test.YtjpilmedlecdhaaGreatDoorZeg
set_option linter.unusedVariables false
set_option linter.unusedSimpArgs false
namespace Go.Proofs.YtjpilmedlecdhaaGreatDoor
open Go.RowKit Go.Sort Go.Shelf Go.Lib

/-! ### Blocks of one type are kept -/
/-- All blocks of one type, but one, are kept. -/
def KX1 (t : TypeId) (b : Nat) (W W' : World) : Prop := ∀ (i : Nat) (cur : Array Value) (fz : Nat × Nat), i ≠ b → W.heap[i]? = some (.cells cur t fz) → W'.heap[i]? = some (.cells cur t fz)
/-- All blocks of one type are kept. -/
def KX0 (t : TypeId) (W W' : World) : Prop := ∀ (i : Nat) (cur : Array Value) (fz : Nat × Nat), W.heap[i]? = some (.cells cur t fz) → W'.heap[i]? = some (.cells cur t fz)
section
variable {t t' : TypeId} {b : Nat} {X Y Z : World}
theorem KX0.refl (t : TypeId) (X : World) : KX0 t X X := fun _ _ _ h => h
theorem KX0.trans (h : KX0 t X Y) (k : KX0 t Y Z) : KX0 t X Z := fun i c f e => k i c f (h i c f e)
theorem KX1.trans (h : KX1 t b X Y) (k : KX1 t b Y Z) : KX1 t b X Z := fun i c f hn e => k i c f hn (h i c f hn e)
theorem KX0.one (h : KX0 t X Y) (b : Nat) : KX1 t b X Y := fun i c f _ e => h i c f e
theorem KX0.below (h : RowKit.Below X.heap.size X Y) : KX0 t X Y := fun i _ _ e => (h.block i (Array.getElem?_eq_some_iff.1 e).1).trans e
theorem KX0.turn (h : X.mapTurned Y b) : KX0 t X Y := fun i c f e => by
  obtain ⟨es, clock, es', clock', hb, rfl⟩ := h
  by_cases hi : i = b
  · subst hi; rw [hb] at e; cases e
  · exact (ChangeMaps.heap_setBlock_other hb _ hi).trans e
theorem KX0.grown {r : Option Nat} (h : X.grownBy Y r) (hr : ∀ k, r = some k → ∃ cur fz, X.heap[k]? = some (.cells cur t' fz)) (hne : t ≠ t') : KX0 t X Y := fun i c f e =>
  (h.block i (Array.getElem?_eq_some_iff.1 e).1 (fun er => by
    obtain ⟨c', f', e'⟩ := hr i er.symm
    rw [e] at e'; cases e'; exact hne rfl)).trans e
theorem KX0.set {cur : Array Value} {fz : Nat × Nat} (hb : X.heap[b]? = some (.cells cur t' fz)) (k : Nat) (v : Value) (hne : t ≠ t') : KX0 t X (X.setCell ⟨b, k, none⟩ v) := fun i c z e => by
  have hn : i ≠ b := by rintro rfl; rw [hb] at e; cases e; exact hne rfl
  exact (Below.heap_setCell _ _ _ _ hn).trans e
theorem KX1.set (t : TypeId) (b : Nat) (X : World) (k : Nat) (v : Value) : KX1 t b X (X.setCell ⟨b, k, none⟩ v) := fun _ _ _ hn e => (Below.heap_setCell _ _ _ _ hn).trans e
theorem KX0.vrow {l : List Value} (h : KX0 t X Y) (r : VRow X b t l) : VRow Y b t l := h _ _ _ r
theorem KX1.vrow {l : List Value} {i : Nat} (h : KX1 t b X Y) (r : VRow X i t l) (hn : i ≠ b) : VRow Y i t l := h _ _ _ hn r
theorem KX0.own {B n s : Nat} {v : Value} {xs : List Value} (h : KX0 t X Y) (ho : X.ownsRow B t s v n xs) : Y.ownsRow B t s v n xs := by
  refine ⟨ho.1, ho.2.imp id ?_⟩
  rintro ⟨g, cap, cur, e1, e2, e3, e4⟩
  exact ⟨g, cap, cur, e1, e2, h _ _ _ e3, e4⟩
theorem own_typed {B n s : Nat} {v : Value} {xs : List Value} (ho : X.ownsRow B t s v n xs) : ∀ k, v.ownBlock = some k → ∃ cur fz, X.heap[k]? = some (.cells cur t fz) := by
  intro k hk
  rcases ho.2 with ⟨rfl, _⟩ | ⟨g, cap, cur, rfl, _, hg, _⟩
  · cases hk
  · cases hk; exact ⟨_, _, hg⟩
end

/-- All maps are kept. -/
def KXm (W W' : World) : Prop := ∀ (i : Nat) (es : Array MapEntry) (cl : Nat), W.heap[i]? = some (.map es cl) → W'.heap[i]? = some (.map es cl)
section
variable {t' : TypeId} {b : Nat} {X Y Z : World}
theorem KXm.trans (h : KXm X Y) (k : KXm Y Z) : KXm X Z := fun i c f e => k i c f (h i c f e)
theorem KXm.below (h : RowKit.Below X.heap.size X Y) : KXm X Y := fun i _ _ e => (h.block i (Array.getElem?_eq_some_iff.1 e).1).trans e
theorem KXm.grown {r : Option Nat} (h : X.grownBy Y r) (hr : ∀ k, r = some k → ∃ cur fz, X.heap[k]? = some (.cells cur t' fz)) : KXm X Y := fun i c f e =>
  (h.block i (Array.getElem?_eq_some_iff.1 e).1 (fun er => by
    obtain ⟨c', f', e'⟩ := hr i er.symm
    rw [e] at e'; cases e')).trans e
theorem KXm.set {cur : Array Value} {fz : Nat × Nat} (hb : X.heap[b]? = some (.cells cur t' fz)) (k : Nat) (v : Value) : KXm X (X.setCell ⟨b, k, none⟩ v) := fun i c z e => by
  have hn : i ≠ b := by rintro rfl; rw [hb] at e; cases e
  exact (Below.heap_setCell _ _ _ _ hn).trans e
end


/-! ### Lists of numbers in blocks of their type -/
def SlT (w : World) (p : Option Addr) (l : List Int) : Prop := Sl w (Value.int .i64) p l ∧ ∀ b o z, p = some ⟨b, o, z⟩ → ∃ cur fz, w.heap[b]? = some (.cells cur 3 fz)
theorem SlT.keep {w w' : World} {p : Option Addr} {l : List Int} (h : SlT w p l) (k : KX0 3 w w') : SlT w' p l := by
  obtain ⟨h1, h2⟩ := h
  refine ⟨?_, fun b o z e => ?_⟩
  · rcases h1 with h1 | ⟨b, off, rfl, hb, hc⟩
    · exact .inl h1
    · obtain ⟨cur, fz, e⟩ := h2 b off none rfl
      have e' := k _ _ _ e
      exact .inr ⟨b, off, rfl, (Array.getElem?_eq_some_iff.1 e').1, fun i hi => (World.cell?_of_block (w := w) (a := ⟨b, off + i, none⟩) (e'.trans e.symm)).trans (hc i hi)⟩
  · obtain ⟨cur, fz, e⟩ := h2 b o z e
    exact ⟨cur, fz, k _ _ _ e⟩
theorem SlT.below {w w' : World} {p : Option Addr} {l : List Int} (h : SlT w p l) (hB : RowKit.Below w.heap.size w w') : SlT w' p l := h.keep (KX0.below hB)
theorem own_slT {w : World} {B n : Nat} {v : Value} {l : List Int} (h : w.ownsRow B 3 1 v n (l.map (Value.int .i64))) : ∃ p c, v = .slice p l.length c ∧ SlT w p l := by
  obtain ⟨p, c, rfl, hs⟩ := own_sl h
  refine ⟨p, c, rfl, hs, fun b o z e => ?_⟩
  rcases h.2 with ⟨e1, _⟩ | ⟨g, cap, cur, e1, _, hg, _⟩
  · simp only [Value.slice.injEq] at e1; rw [e1.1] at e; cases e
  · simp only [Value.slice.injEq] at e1; rw [e1.1] at e; cases e; exact ⟨_, _, hg⟩
def LsT (l : List Int) (w : World) (e : Ending) (w' : World) : Prop := ∃ q d, e = .returned (.slice q l.length d) ∧ SlT w' q l ∧ RowKit.Below w.heap.size w w'

/-! ### Rows of places -/
abbrev QE := Pl × (Option Addr × Nat)
def qeE (x : QE) : List Value := [.int .i64 x.1.1, .slice x.2.1 x.1.2.length x.2.2]
def catQ (l : List QE) : List Value := l.flatMap qeE
theorem catQ_len (l : List QE) : (catQ l).length = l.length * 2 := by
  induction l with
  | nil => rfl
  | cons x l ih =>
    have e : catQ (x :: l) = qeE x ++ catQ l := rfl
    have e2 : (qeE x).length = 2 := rfl
    rw [e, List.length_append, ih, e2, List.length_cons]; omega
theorem catQ_app (a b : List QE) : catQ (a ++ b) = catQ a ++ catQ b := List.flatMap_append
theorem catQ_get : ∀ (l : List QE) (k : Nat) (h : k < l.length) (j : Nat), j < 2 → (catQ l)[k * 2 + j]? = (qeE l[k])[j]?
  | [], k, h, j, hj => by simp at h
  | x :: l, 0, h, j, hj => by
    show (qeE x ++ catQ l)[0 * 2 + j]? = _
    rw [Nat.zero_mul, Nat.zero_add, List.getElem?_append_left (by show j < 2; exact hj)]; rfl
  | x :: l, k + 1, h, j, hj => by
    show (qeE x ++ catQ l)[(k + 1) * 2 + j]? = _
    rw [List.getElem?_append_right (by show 2 ≤ _; omega), show (k + 1) * 2 + j - (qeE x).length = k * 2 + j by show (k + 1) * 2 + j - 2 = _; omega]
    exact catQ_get l k (by simpa using h) j hj
theorem catQ_one (l : List QE) : ∀ v ∈ catQ l, v.oneCell' = true := by
  intro v hv
  obtain ⟨x, _, hx⟩ := List.mem_flatMap.1 hv
  simp only [qeE, List.mem_cons, List.not_mem_nil, or_false] at hx
  rcases hx with rfl | rfl <;> rfl
theorem ownQ_cell {w : World} {B e n cap g : Nat} {l : List QE} (h : w.ownsRow B e 2 (.slice (some ⟨g, 0, none⟩) n cap) n (catQ l)) (k : Nat) (hk : k < l.length) (j : Nat) (hj : j < 2) : w.cell? ⟨g, k * 2 + j, none⟩ = (qeE l[k])[j]? := by
  have hn : l.length = n := by have := h.1; rw [catQ_len] at this; omega
  rcases h.2 with ⟨e0, _⟩ | ⟨g', cap', cur, e0, hg, hh, hc, hm, hs, ht⟩
  · cases e0
  · cases e0
    rw [← catQ_get l k hk j hj, ← ht]
    have hlt : k * 2 + j < n * 2 := by omega
    simp only [World.cell?, hh]
    rw [List.getElem?_take, if_pos hlt, Array.getElem?_toList]
    simp
theorem ownQ_shape {w : World} {B e n : Nat} {v : Value} {xs : List Value} (h : w.ownsRow B e 2 v n xs) (hn : 0 < n) : ∃ g cap, v = .slice (some ⟨g, 0, none⟩) n cap := by
  rcases h.2 with ⟨rfl, h0⟩ | ⟨g, cap, cur, rfl, _⟩
  · omega
  · exact ⟨g, cap, rfl⟩
theorem infoP : (Tryz.prog.info? 69).map (fun i => (i.zero, i.size, i.bytes)) = some (some (.agg #[.int .i64 0, .slice none 0 0]), 2, 32) := by kernel_rfl

/-! ### Places that were seen -/
def okP (p : Pl) : Prop := (-1 ≤ p.1 ∧ p.1 < 16) ∧ (∀ x ∈ p.2, 0 ≤ x ∧ x < 100) ∧ p.2.length ≤ 64
def kP (p : Pl) : Value := .string ⟨(keyB p.1 p.2).toArray⟩
theorem keyP : KeyBy Tryz.prog 9 kP okP where
  law := Maps.string_keyed Tryz.underlying9
  reads := fun a ha => ⟨.string (keyB a.1 a.2), by
    have h1 := keyB_len ha.1 ha.2.1
    have h2 := ha.2.2
    have h3 : (⟨(keyB a.1 a.2).toArray⟩ : ByteArray).size ≤ maxLen := by show (keyB a.1 a.2).toArray.size ≤ maxLen; rw [List.size_toArray]; unfold maxLen; omega
    simp [keyOf, mapKey, kP, Tryz.underlying9]; exact h3⟩
  inj := fun a b ha hb h => by
    obtain ⟨h1, h2⟩ := keyB_inj ha.1 hb.1 ha.2.1 hb.2.1 (by simpa [kP] using h)
    exact Prod.ext h1 h2
theorem zeroBo (w : World) : (zeroValue 4).run Tryz.prog w = .ok (.bool false) w := by kernel_rfl
def seenP (q : List Pl) (p : Pl) : Option Bool := if p ∈ q then some true else none
theorem seenP_snoc (q : List Pl) (x : Pl) (p : Pl) : mset (seenP q) x true p = seenP (q ++ [x]) p := by
  unfold seenP mset
  by_cases h : p = x
  · subst h; simp
  · rw [if_neg h]; simp [h]
theorem seen_look {w : World} {b : Nat} {q : List Pl} (h : Mp kP okP Value.bool w b (seenP q)) {p : Pl} (hp : okP p) :
    (Instr.lookup 72 (.map (some b)) (kP p) false).run Tryz.prog w = .ok (.bool (decide (p ∈ q))) w := by
  have := h.look keyP Tryz.underlying72 (zeroBo w) p hp false
  unfold seenP at this
  by_cases hm : p ∈ q
  · rw [if_pos hm] at this; rw [decide_eq_true hm]; exact this
  · rw [if_neg hm] at this; rw [decide_eq_false hm]; exact this

/-! ### The queue, and what was seen -/
structure QI (bw bq bs ms g : Nat) (q : List Pl) (W : World) : Prop where
  row : ∃ (es : List QE) (cap : Nat), es.map (·.1) = q ∧ VRow W bq 70 [.slice (some ⟨g, 0, none⟩) q.length cap] ∧ W.ownsRow bw 69 2 (.slice (some ⟨g, 0, none⟩) q.length cap) q.length (catQ es) ∧ ∀ e ∈ es, SlT W e.2.1 e.1.2
  box : VRow W bs 72 [.map (some ms)]
  seen : Mp kP okP Value.bool W ms (seenP q)
theorem QI.keep {bw bq bs ms g : Nat} {q : List Pl} {W W' : World} (h : QI bw bq bs ms g q W) (k : ∀ t, KX0 t W W') (m : KXm W W') : QI bw bq bs ms g q W' where
  row := by
    obtain ⟨es, cap, h1, h2, h3, h4⟩ := h.row
    exact ⟨es, cap, h1, (k _).vrow h2, (k _).own h3, fun e he => (h4 e he).keep (k _)⟩
  box := (k _).vrow h.box
  seen := h.seen.same (by
    obtain ⟨es, cl, hb, _⟩ := h.seen
    rw [hb]; exact m _ _ _ hb)
theorem QI.below {bw bq bs ms g : Nat} {q : List Pl} {W W' : World} (h : QI bw bq bs ms g q W) (hB : RowKit.Below W.heap.size W W') : QI bw bq bs ms g q W' := h.keep (fun _ => KX0.below hB) (KXm.below hB)
/-- The queue's own block. -/
theorem QI.gb {bw bq bs ms g : Nat} {q : List Pl} {W : World} (h : QI bw bq bs ms g q W) : ∃ cur fz, W.heap[g]? = some (.cells cur 69 fz) := by
  obtain ⟨es, cap, h1, h2, h3, h4⟩ := h.row
  exact own_typed h3 g rfl
theorem QI.gw {bw bq bs ms g : Nat} {q : List Pl} {W : World} (h : QI bw bq bs ms g q W) : bw ≤ g := by
  obtain ⟨es, cap, h1, h2, h3, h4⟩ := h.row
  exact (h3.lt g rfl).1
/-- The queue's own block is none that holds one place. -/
theorem QI.ne {bw bq bs ms g pb : Nat} {q : List Pl} {W : World} (h : QI bw bq bs ms g q W) (hq : 2 ≤ q.length) {a b : Value} (r : VRow W pb 69 [a, b]) : pb ≠ g := by
  rintro rfl
  obtain ⟨es, cap, h1, h2, h3, h4⟩ := h.row
  have hl : es.length = q.length := by rw [← h1, List.length_map]
  rcases h3.2 with ⟨e0, _⟩ | ⟨g', cap', cur, e0, hg, hh, hc, hm, hs, ht⟩
  · cases e0
  · simp only [Value.slice.injEq, Option.some.injEq, Addr.mk.injEq] at e0
    obtain ⟨⟨rfl, _⟩, _⟩ := e0
    have hr : W.heap[pb]? = _ := r
    rw [hh] at hr
    have h6 := congrArg List.length ht
    rw [List.length_take, catQ_len] at h6
    simp only [Option.some.injEq, Obj.cells.injEq] at hr
    have h7 : cur.toList.length = 2 := by rw [hr.1]; rfl
    omega
/-- The queue, whose own block is the old one or a longer one. -/
def QP (bw bq bs ms g : Nat) (q : List Pl) (w' : World) : Prop := ∃ g', (g' = g ∨ 2 ≤ q.length) ∧ QI bw bq bs ms g' q w'
/-- All but three blocks are kept. -/
structure KW (bq ms g : Nat) (W W' : World) : Prop where
  sz : W.heap.size ≤ W'.heap.size
  blk : ∀ i, i < W.heap.size → i ≠ bq → i ≠ ms → i ≠ g → W'.heap[i]? = W.heap[i]?
theorem KW.trans {bq ms g : Nat} {X Y Z : World} (h : KW bq ms g X Y) (k : KW bq ms g Y Z) : KW bq ms g X Z :=
  ⟨Nat.le_trans h.sz k.sz, fun i a b c d => (k.blk i (Nat.lt_of_lt_of_le a h.sz) b c d).trans (h.blk i a b c d)⟩
theorem KW.below {bq ms g : Nat} {X Y : World} (h : RowKit.Below X.heap.size X Y) : KW bq ms g X Y := ⟨h.size, fun i a _ _ _ => h.block i a⟩
theorem KW.turn {bq ms g : Nat} {X Y : World} (h : X.mapTurned Y ms) : KW bq ms g X Y := ⟨h.grown.size, fun i a _ c _ => h.grown.block i a (fun e => c (by cases e; rfl))⟩
theorem KW.grown {bq ms g : Nat} {X Y : World} (h : X.grownBy Y (some g)) : KW bq ms g X Y := ⟨h.size, fun i a _ _ d => h.block i a (fun e => d (by cases e; rfl))⟩
theorem KW.set {bq ms g : Nat} (X : World) (k : Nat) (v : Value) : KW bq ms g X (X.setCell ⟨bq, k, none⟩ v) := ⟨by simp, fun i _ b _ _ => Below.heap_setCell _ _ _ _ b⟩
theorem KW.vrow {bq ms g i : Nat} {t : TypeId} {l : List Value} {W W' : World} (h : KW bq ms g W W') (r : VRow W i t l) (h1 : i ≠ bq) (h2 : i ≠ ms) (h3 : i ≠ g) : VRow W' i t l := (h.blk i r.lt h1 h2 h3).trans r
theorem seen_store {bw bq bs ms g : Nat} {q : List Pl} {W : World} (h : QI bw bq bs ms g q W) {x : Pl} (hx : okP x) :
    ∃ wm, (Instr.mapUpdate 72 (.map (some ms)) (kP x) (.bool true)).run Tryz.prog W = .ok () wm ∧ Mp kP okP Value.bool wm ms (seenP (q ++ [x])) ∧ W.mapTurned wm ms := by
  obtain ⟨wm, h1, h2, h3⟩ := h.seen.store keyP Tryz.underlying72 x hx true
  exact ⟨wm, h1, h2.congr (seenP_snoc q x), h3⟩
theorem below_al2 (w : World) (o : Obj) : RowKit.Below w.heap.size w (w.alloc o) := (RowKit.Below.refl _ _).alloc (Nat.le_refl _) o
/-- A further place. -/
theorem queue_push {bw bq bs ms g : Nat} {q : List Pl} {es : List QE} {cap : Nat} {W : World} (hes : es.map (·.1) = q) (hq : VRow W bq 70 [.slice (some ⟨g, 0, none⟩) q.length cap])
    (ho : W.ownsRow bw 69 2 (.slice (some ⟨g, 0, none⟩) q.length cap) q.length (catQ es)) (hsl : ∀ e ∈ es, SlT W e.2.1 e.1.2) (hbx : VRow W bs 72 [.map (some ms)])
    {x : QE} (hs : Mp kP okP Value.bool W ms (seenP (q ++ [x.1]))) (hx : SlT W x.2.1 x.1.2) {v' : Value} {w9 : World}
    (h9 : w9.ownsRow bw 69 2 v' (q.length + 1) (catQ es ++ catQ [x])) (hg : (W.alloc (.cells (qeE x).toArray 69)).grownBy w9 (some g)) (hbq : bw ≤ bq) (hW : bw ≤ W.heap.size) :
    ∃ g' cap', v' = .slice (some ⟨g', 0, none⟩) (q.length + 1) cap' ∧ w9.frozen? ⟨bq, 0, none⟩ = false ∧ (∃ u, w9.cell? ⟨bq, 0, none⟩ = some u) ∧ RowKit.Below bw W (w9.setCell ⟨bq, 0, none⟩ v') ∧ KW bq ms g W (w9.setCell ⟨bq, 0, none⟩ v') ∧ QI bw bq bs ms g' (q ++ [x.1]) (w9.setCell ⟨bq, 0, none⟩ v') := by
  have hA := below_al2 W (.cells (qeE x).toArray 69)
  have hty := own_typed (ho.alloc (.cells (qeE x).toArray 69))
  have hty' : ∀ k, some g = some k → ∃ cur fz, (W.alloc (.cells (qeE x).toArray 69)).heap[k]? = some (.cells cur 69 fz) := fun k hk => hty k hk
  have k9 : ∀ t, t ≠ 69 → KX0 t W w9 := fun t ht => (KX0.below hA).trans (KX0.grown hg hty' ht)
  have r9 : VRow w9 bq 70 [.slice (some ⟨g, 0, none⟩) q.length cap] := (k9 70 (by decide)).vrow hq
  have r10 := r9.set (i := 0) v'
  have kk : ∀ t, t ≠ 69 → t ≠ 70 → KX0 t W (w9.setCell ⟨bq, 0, none⟩ v') := fun t h1 h2 => (k9 t h1).trans (KX0.set r9 0 v' h2)
  have km : KXm W (w9.setCell ⟨bq, 0, none⟩ v') := ((KXm.below hA).trans (KXm.grown hg hty')).trans (KXm.set r9 0 _)
  obtain ⟨g', c', rfl⟩ := ownQ_shape h9 (by omega)
  have hB9 : RowKit.Below bw W w9 := (hA.mono hW).grown hg (by rw [World.size_alloc]; omega) (fun j e => (ho.lt j e).1)
  have hms : ∃ es cl, W.heap[ms]? = some (.map es cl) := by
    obtain ⟨es, cl, hb, _⟩ := hs
    exact ⟨es, cl, hb⟩
  refine ⟨g', c', rfl, r9.frozen 0, ⟨_, r9.at 0 rfl⟩, hB9.setCell hbq _, ((KW.below hA).trans (KW.grown hg)).trans (KW.set _ _ _), ⟨es ++ [x], c', ?_, ?_, ?_, ?_⟩, (kk _ (by decide) (by decide)).vrow hbx, ?_⟩
  · rw [List.map_append, hes]; rfl
  · rw [List.length_append, List.length_singleton]; exact r10
  · rw [List.length_append, List.length_singleton, catQ_app]; exact (KX0.set (t := 69) r9 0 _ (by decide)).own h9
  · intro e he
    rcases List.mem_append.1 he with he | he
    · exact (hsl e he).keep (kk _ (by decide) (by decide))
    · rw [List.mem_singleton.1 he]; exact hx.keep (kk _ (by decide) (by decide))
  · obtain ⟨es, cl, hb⟩ := hms
    exact hs.same (by rw [hb]; exact km _ _ _ hb)

set_option maxRecDepth 100000 in
set_option maxHeartbeats 2000000 in
theorem lkFollowT_any (G : Gr) (p : Option Addr) (c : Nat) (st : List Int) (q : Option Addr) (d : Nat) (s : ByteArray) (w : World) (hin : Sg 3 w edE p G.es) (hst : SlT w q st) (hv : Vg G) (hS : St G.n st) (hw : Chg.okw G.q s.data.toList = true) (hs : s.size ≤ 65536) :
    Calls Tryz.prog 32 #[(.agg #[.int .i64 G.q, .int .i64 G.n, .slice p G.es.length c]), .slice q st.length d, .string s] w (LsT (endA G st (ltr s)) w) := by
  have HIN := hidI hin; have HV := hidI hv; have HS := hidI hS; have HW := hidI hw
  have HST := hidI hst
  have hn1 := hv.n1; have hn2 := hv.n2
  clear hin hst hv hS hw
  obtain ⟨w0, hw0⟩ : ∃ w0, w0 = w.alloc (.cells #[.int .i64 G.q, .int .i64 G.n, .slice p G.es.length c] 30) := ⟨_, rfl⟩
  have b0 : VRow w0 w.heap.size 30 [.int .i64 G.q, .int .i64 G.n, .slice p G.es.length c] := by subst hw0; exact VRow.new w _ _
  have hB0 : RowKit.Below w.heap.size w w0 := by subst hw0; exact (RowKit.Below.refl _ _).alloc (Nat.le_refl _) _
  have hE0 : endA G st ((ltr s).take 0) = st := rfl
  go_enter Tryz.func32, Tryz.ntmps32
  go_wp2
  rw [← hw0]
  clear hw0
  go_loopw [1, 10] (fun sv iv wr => ∃ (k : Nat) (qk : Option Addr) (dk : Nat), k ≤ s.size ∧ sv = .slice qk (endA G st ((ltr s).take k)).length dk ∧ iv = .int .i64 k ∧ SlT wr qk (endA G st ((ltr s).take k)) ∧ RowKit.Below w0.heap.size w0 wr) (fun _ iv _ => s.size - (intOf iv).toNat)
  case atStart => exact ⟨0, q, d, by omega, by rw [hE0], rfl, by rw [hE0]; exact HST.out.below hB0, RowKit.Below.refl _ _⟩
  case round =>
    obtain ⟨k, qk, dk, hk, rfl, rfl, hsl, hB⟩ := hrel
    have HSK := hidI (endA_st G st HS.out ((ltr s).take k))
    have xr := hB0.trans (hB.mono hB0.size)
    by_cases hlt : k < s.size
    · have HN : Hid (endA G st ((ltr s).take (k + 1)) = nextA G (endA G st ((ltr s).take k)) (Chg.dig (s[k].toNat : Int))) := by rw [Hid, ltr_take s k hlt, endA_snoc]
      generalize endA G st ((ltr s).take k) = L at *
      have hltN : (k : Int) < (s.size : Int) := by omega
      have hd := okw_at HW.out k hlt
      have hdx := idx_dig s[k] hd.1
      generalize Chg.dig (s[k].toNat : Int) = b at *
      have r0 := b0.below hB b0.lt
      have HI := hidI (fun W => Tryz.strings_IndexByte ⟨#[48, 49, 50, 51, 52, 53, 54, 55, 56, 57, 97, 98, 99, 100, 101, 102]⟩ (s[k].toNat : Int) W)
      rw [show Lib.indexByte (⟨#[48, 49, 50, 51, 52, 53, 54, 55, 56, 57, 97, 98, 99, 100, 101, 102]⟩ : ByteArray).data.toList ((s[k].toNat : Int)).toNat.toUInt8 = b from hdx] at HI
      have hlen := HSK.out.len hn1
      have HC := hidI HSK.out.chk
      have HSL := hidI hsl
      have HD := hidI hd
      clear hd
      have HXR := hidI xr
      clear hsl xr hdx
      go_upto_region 4 with fail
      have g0 := r0.at 0 rfl; have g1 := r0.at 1 rfl; have g2 := r0.at 2 rfl
      have zb : w.heap.size < wr.heap.size := r0.lt
      have HIX : Hid (∀ W, RowKit.Below wr.heap.size wr W → Sg 3 W edE p G.es) := fun W h => HIN.out.below (HXR.out.trans (h.mono HXR.out.size))
      have HSX : Hid (∀ W, RowKit.Below wr.heap.size wr W → Sl W (Value.int .i64) qk L) := fun W h => HSL.out.1.below h
      have HBR := hidI hB
      clear r0 hB
      go_region_held3 (fun w' => w'.cell? ⟨w.heap.size, 0, none⟩ = some (.int .i64 G.q) ∧ w'.cell? ⟨w.heap.size, 1, none⟩ = some (.int .i64 G.n) ∧ w'.cell? ⟨w.heap.size, 2, none⟩ = some (.slice p G.es.length c) ∧ RowKit.Below wr.heap.size wr w')
        (first | (go_split_ands; refine ⟨?_, ?_, ?_, ?_⟩ <;> first | assumption | (go_keep; done) | exact RowKit.Below.refl _ _ | exact below_drewN (RowKit.Below.refl _ _) 1 | exact (hBb.cell (Nat.lt_of_lt_of_le zb (RowKit.Below.size (by assumption)))).trans (by assumption) | exact RowKit.Below.trans (by assumption) (hBb.mono (RowKit.Below.size (by assumption)))))
        (first
          | (go_at_call 63; (with_reducible refine (HI.out _).mono ?_); rintro e wA ⟨rfl, rfl⟩)
          | (go_at_call 62; go_split_ands; (with_reducible refine (callsIn_wide.1 (gStep_in G p c L qk dk b _ (HIX.out _ (by assumption)) (HSX.out _ (by assumption)) HV.out (by omega) HC.out HD.out.1 HD.out.2)).mono ?_); rintro e wB ⟨p', m', c', rfl, hown, hBb⟩; have hwz := RowKit.Below.size (show RowKit.Below wr.heap.size wr _ by assumption); have hfin := own_baseI hown hwz; have hBf := RowKit.Below.trans (show RowKit.Below wr.heap.size wr _ by assumption) (hBb.mono hwz)))
      all_goals
        obtain ⟨q9, c9, he9, hs9⟩ := own_slT hfin
        simp only [Value.slice.injEq] at he9
        obtain ⟨rfl, rfl, rfl⟩ := he9
        have hBn := HBR.out.trans (hBf.mono HBR.out.size)
        go_wp2_with fail
        go_roundw
        case rel => exact ⟨k + 1, _, _, by omega, by rw [HN.out], by go_num, by rw [HN.out]; exact hs9, hBn⟩
        case measure => simp [intOf]; omega
    · obtain rfl : k = s.size := by omega
      have hltN : ¬ (s.size : Int) < (s.size : Int) := by omega
      rw [ltr_all] at *
      generalize endA G st (ltr s) = L at *
      go_wp2
      go_ret
      exact ⟨_, _, rfl, hsl, xr⟩
end Go.Proofs.YtjpilmedlecdhaaGreatDoor
namespace Go.Proofs.YtjpilmedlecdhaaGreatDoor
open Go.RowKit Go.Sort Go.Shelf Go.Lib

set_option maxRecDepth 100000 in
set_option maxHeartbeats 1000000 in
theorem lkFree_any (T : Tb) (hf : fmd T = true) (sb pb mb : Nat) (x j : Int) (v : Value) (w : World) (h1 : VRow w sb 66 [.map (some mb)]) (h2 : VRow w pb 69 [.int .i64 x, v]) (h3 : SwB T.swaps w mb)
    (hx : (Lit.int .i64 x).wf = true) (hj : (Lit.int .i64 j).wf = true) :
    Calls Tryz.prog 33 #[.int .i64 j, .pointer (some ⟨sb, 0, none⟩), .pointer (some ⟨pb, 0, none⟩)] w fun e w' => e = .returned (.bool (frW T x j)) ∧ w' = w := by
  have hlk := SwB.look hf h3 x j hx hj
  have a0 := h1.at 0 rfl
  have b0 := h2.at 0 rfl
  have HF : Hid (frW T x j = (swapW T.swaps x j).isNone) := rfl
  clear h1 h2 h3 hx hj
  generalize swapW T.swaps x j = o at *
  cases o with
  | none =>
    change (Instr.lookup 66 (.map (some mb)) (.agg #[.int .i64 x, .int .i64 j]) true).run Tryz.prog w = .ok (.tuple #[.string ⟨#[]⟩, .bool false]) w at hlk
    go_enter Tryz.func33, Tryz.ntmps33
    go_wp2
    go_ret
    exact ⟨by rw [HF.out]; rfl, rfl⟩
  | some u =>
    change (Instr.lookup 66 (.map (some mb)) (.agg #[.int .i64 x, .int .i64 j]) true).run Tryz.prog w = .ok (.tuple #[.string u, .bool true]) w at hlk
    go_enter Tryz.func33, Tryz.ntmps33
    go_wp2
    go_ret
    exact ⟨by rw [HF.out]; rfl, rfl⟩

theorem cell_newQ (w : World) (x : QE) : ∀ (j : Nat) (u : Value), (catQ [x])[j]? = some u → (w.alloc (.cells (qeE x).toArray 69)).cell? ((⟨w.heap.size, 0, none⟩ : Addr).add j) = some u := by
  intro j u hu
  rw [show (⟨w.heap.size, 0, none⟩ : Addr).add j = ⟨w.heap.size, 0 + j, none⟩ by unfold Addr.add; split <;> simp_all, Nat.zero_add]
  have h : VRow (w.alloc (.cells (qeE x).toArray 69)) w.heap.size 69 (qeE x) := VRow.new w _ _
  rw [h.cell]
  simpa [catQ] using hu

set_option maxRecDepth 100000 in
set_option maxHeartbeats 4000000 in
theorem lkWrite_any (G : Gr) (p : Option Addr) (c : Nat) (bw gb bs bq ms g : Nat) (q : List Pl) (pl : Pl) (pp : Option Addr) (d : Nat) (wd : ByteArray) (last : Int) (w : World)
    (hQ : QI bw bq bs ms g q w) (hG : VRow w gb 30 [.int .i64 G.q, .int .i64 G.n, .slice p G.es.length c]) (hin : Sg 3 w edE p G.es) (hv : Vg G) (hpl : SlT w pp pl.2) (hst : St G.n pl.2) (hw : Chg.okw G.q wd.data.toList = true) (hs : wd.size ≤ 65536)
    (ht : T10 w) (hl : -1 ≤ last ∧ last < 16) (hq1 : 1 ≤ q.length) (hq : q.length ≤ 1024) (hms : bw ≤ ms) (hbq : bw ≤ bq) (hbw : bw ≤ w.heap.size) :
    Calls Tryz.prog 31 #[.agg #[.int .i64 pl.1, .slice pp pl.2.length d], .string wd, .int .i64 last, .pointer (some ⟨gb, 0, none⟩), .pointer (some ⟨bs, 0, none⟩), .pointer (some ⟨bq, 0, none⟩)] w fun e w' =>
      e = .returned (.int .i64 (wrP G q pl wd last).2) ∧ QP bw bq bs ms g (wrP G q pl wd last).1 w' ∧ KW bq ms g w w' ∧ RowKit.Below bw w w' := by
  obtain ⟨i0, hi0, hz0, hz1, hz2⟩ := info_parts infoP
  obtain ⟨nx, hnx⟩ : ∃ nx, nx = endA G pl.2 (ltr wd) := ⟨_, rfl⟩
  have hS2 : St G.n nx := by rw [hnx]; exact endA_st G pl.2 hst _
  have hn2 := hv.n2; have hn1 := hv.n1
  have HOK : Hid (okP (last, nx)) := ⟨hl, fun x hx => by have := hS2.ins x hx; omega, by have := hS2.len hn1; show nx.length ≤ 64; omega⟩
  have hnl : nx.length ≤ 64 := HOK.out.2.2
  have HWR : Hid (wrP G q pl wd last = if nx = [] then (q, 13) else if (last, nx) ∈ q then (q, 0) else if q.length = 1024 then (q, 4) else (q ++ [(last, nx)], 0)) := by rw [Hid, hnx]; rfl
  obtain ⟨w1, hw1⟩ : ∃ w1, w1 = w.alloc (.cells #[.int .i64 pl.1, .slice pp pl.2.length d] 69) := ⟨_, rfl⟩
  have b1 : VRow w1 w.heap.size 69 [.int .i64 pl.1, .slice pp pl.2.length d] := by subst hw1; exact VRow.new w _ _
  have hB1 : RowKit.Below w.heap.size w w1 := by subst hw1; exact (RowKit.Below.refl _ _).alloc (Nat.le_refl _) _
  have a1 := b1.at 1 rfl
  have g1 := hG.below hB1 hG.lt
  have e0 := g1.at 0 rfl; have e1 := g1.at 1 rfl; have e2 := g1.at 2 rfl
  have HF := hidI (lkFollowT_any G p c pl.2 pp d wd w1 (hin.below hB1) (hpl.below hB1) hv hst hw hs)
  rw [← hnx] at HF
  have HQ := hidI hQ
  have HT := hidI ht
  have hq0 := hQ.box.lt
  have hbb : bs < w.heap.size := hQ.box.lt
  clear hQ hG hin hv hpl hst hw hs hnx hS2 b1 g1 hn2 hn1 ht
  go_enter Tryz.func31, Tryz.ntmps31
  go_upto_region 1 with fail
  rw [← hw1]
  clear hw1
  go_wp2_with fail
  refine HF.out.mono ?_
  rintro e w2 ⟨qn, dn, rfl, hsn, hB2⟩
  have hB3 := hB1.trans (hB2.mono hB1.size)
  clear HF a1 e0 e1 e2 hB1 hB2
  obtain ⟨w3, hw3⟩ : ∃ w3, w3 = w2.alloc (.cells #[.int .i64 last, .slice qn nx.length dn] 69) := ⟨_, rfl⟩
  have b3 : VRow w3 w2.heap.size 69 [.int .i64 last, .slice qn nx.length dn] := by subst hw3; exact VRow.new w2 _ _
  have hB4 : RowKit.Below w2.heap.size w2 w3 := by subst hw3; exact (RowKit.Below.refl _ _).alloc (Nat.le_refl _) _
  have hBw : RowKit.Below w.heap.size w w3 := hB3.trans (hB4.mono hB3.size)
  have hs3 := hsn.below hB4
  have c0 := b3.at 0 rfl; have c1 := b3.at 1 rfl
  have HQ3 := hidI (HQ.out.below hBw)
  obtain ⟨ks, hks⟩ : ∃ ks : ByteArray, ks = ⟨(keyB last nx).toArray⟩ := ⟨_, rfl⟩
  have HKP : Hid (kP (last, nx) = .string ks) := by rw [hks]; rfl
  have HK : Hid (∀ W, RowKit.Below w3.heap.size w3 W → Calls Tryz.prog 30 #[.agg #[.int .i64 last, .slice qn nx.length dn]] W fun e w' => e = .returned (.string ks) ∧ RowKit.Below W.heap.size W w') := fun W hW => by
    rw [hks]; exact lkKey_any last nx qn dn W HOK.out.1 (hs3.1.below hW) HOK.out.2.1 HOK.out.2.2 (HT.out.below (hBw.trans (hW.mono hBw.size)))
  have HS3 := hidI hs3
  have k0 := HQ3.out.box.at 0 rfl
  have hnb : w2.heap.size < w3.heap.size := b3.lt
  have hbs3 : bs < w3.heap.size := Nat.lt_of_lt_of_le hbb hBw.size
  have HL : Hid (∀ W, RowKit.Below w3.heap.size w3 W → (Instr.lookup 72 (.map (some ms)) (.string ks) false).run Tryz.prog W = .ok (.bool (decide ((last, nx) ∈ q))) W) := fun W hW => by
    rw [← HKP.out]; exact seen_look (HQ3.out.below hW).seen HOK.out
  have HB3 := hidI b3
  have hBw2 := hidI hBw
  clear hB3 hB4 hsn hs3 hks HT b3 hBw
  go_upto_region 2 with fail
  rw [← hw3]
  clear hw3
  generalize w2.heap.size = nb at *
  by_cases hn : nx = []
  · have hW0 : Hid (wrP G q pl wd last = (q, 13)) := by rw [Hid, HWR.out, if_pos hn]
    have hl0 : (nx.length : Int) = 0 := by rw [hn]; rfl
    clear hn
    go_wp2
    go_ret
    rw [hW0.out]
    exact ⟨rfl, ⟨g, .inl rfl, HQ3.out⟩, KW.below hBw2.out, hBw2.out.mono hbw⟩
  have hl0 : ¬ (nx.length : Int) = 0 := by have := List.length_pos_iff.2 hn; omega
  by_cases hm : (last, nx) ∈ q
  · have hW0 : Hid (wrP G q pl wd last = (q, 0)) := by rw [Hid, HWR.out, if_neg hn, if_pos hm]
    rw [decide_eq_true hm] at HL
    clear hm hn
    go_upto_region 4 with fail
    go_region_held3 (fun w' => w'.cell? ⟨bs, 0, none⟩ = some (.map (some ms)) ∧ w'.cell? ⟨nb, 0, none⟩ = some (.int .i64 last) ∧ w'.cell? ⟨nb, 1, none⟩ = some (.slice qn nx.length dn) ∧ RowKit.Below w3.heap.size w3 w' ∧ (Instr.lookup 72 (.map (some ms)) (.string ks) false).run Tryz.prog w' = .ok (.bool true) w')
      (first | (go_split_ands; refine ⟨?_, ?_, ?_, ?_, ?_⟩ <;> first | assumption | (go_keep; done) | exact below_dN (RowKit.Below.refl _ _) 1 | exact HL.out _ (below_dN (RowKit.Below.refl _ _) 1) | exact (RowKit.Below.cell (by assumption) hbs3).trans k0 | exact (RowKit.Below.cell (by assumption) hnb).trans c0 | exact (RowKit.Below.cell (by assumption) hnb).trans c1 | exact HL.out _ (by assumption)))
      (first | (go_at_call 30; go_split_ands; with_reducible refine (HK.out _ (by assumption)).mono ?_; rintro e wA ⟨rfl, hBa⟩; have hBz := RowKit.Below.trans (show RowKit.Below w3.heap.size w3 _ by assumption) (hBa.mono (RowKit.Below.size (by assumption)))))
    all_goals
      have hBX : RowKit.Below w.heap.size w wA := hBw2.out.trans (hBz.mono hBw2.out.size)
      have hQX := HQ3.out.below hBz
      go_wp2
      go_ret
      rw [hW0.out]
      exact ⟨rfl, ⟨g, .inl rfl, hQX⟩, KW.below hBX, hBX.mono hbw⟩
  rw [decide_eq_false hm] at HL
  by_cases hq4 : q.length = 1024
  · have hW0 : Hid (wrP G q pl wd last = (q, 4)) := by rw [Hid, HWR.out, if_neg hn, if_neg hm, if_pos hq4]
    have hq5 : (q.length : Int) = 1024 := by omega
    clear hm hn hq4
    go_upto_region 4 with fail
    go_region_held3 (fun w' => w'.cell? ⟨bs, 0, none⟩ = some (.map (some ms)) ∧ w'.cell? ⟨nb, 0, none⟩ = some (.int .i64 last) ∧ w'.cell? ⟨nb, 1, none⟩ = some (.slice qn nx.length dn) ∧ RowKit.Below w3.heap.size w3 w' ∧ (Instr.lookup 72 (.map (some ms)) (.string ks) false).run Tryz.prog w' = .ok (.bool false) w')
      (first | (go_split_ands; refine ⟨?_, ?_, ?_, ?_, ?_⟩ <;> first | assumption | (go_keep; done) | exact below_dN (RowKit.Below.refl _ _) 1 | exact HL.out _ (below_dN (RowKit.Below.refl _ _) 1) | exact (RowKit.Below.cell (by assumption) hbs3).trans k0 | exact (RowKit.Below.cell (by assumption) hnb).trans c0 | exact (RowKit.Below.cell (by assumption) hnb).trans c1 | exact HL.out _ (by assumption)))
      (first | (go_at_call 30; go_split_ands; with_reducible refine (HK.out _ (by assumption)).mono ?_; rintro e wA ⟨rfl, hBa⟩; have hBz := RowKit.Below.trans (show RowKit.Below w3.heap.size w3 _ by assumption) (hBa.mono (RowKit.Below.size (by assumption)))))
    all_goals
      have hBX : RowKit.Below w.heap.size w wA := hBw2.out.trans (hBz.mono hBw2.out.size)
      have hQX := HQ3.out.below hBz
      obtain ⟨es, cap, h1, h2, h3, h4⟩ := hQX.row
      have q0 := h2.at 0 rfl
      clear h1 h2 h3 h4
      go_wp2
      go_ret
      rw [hW0.out]
      exact ⟨rfl, ⟨g, .inl rfl, hQX⟩, KW.below hBX, hBX.mono hbw⟩
  · have hW0 : Hid (wrP G q pl wd last = (q ++ [(last, nx)], 0)) := by rw [Hid, HWR.out, if_neg hn, if_neg hm, if_neg hq4]
    have hq5 : ¬ (q.length : Int) = 1024 := by omega
    clear hm hn hq4
    go_upto_region 4 with fail
    go_region_held3 (fun w' => w'.cell? ⟨bs, 0, none⟩ = some (.map (some ms)) ∧ w'.cell? ⟨nb, 0, none⟩ = some (.int .i64 last) ∧ w'.cell? ⟨nb, 1, none⟩ = some (.slice qn nx.length dn) ∧ RowKit.Below w3.heap.size w3 w' ∧ (Instr.lookup 72 (.map (some ms)) (.string ks) false).run Tryz.prog w' = .ok (.bool false) w')
      (first | (go_split_ands; refine ⟨?_, ?_, ?_, ?_, ?_⟩ <;> first | assumption | (go_keep; done) | exact below_dN (RowKit.Below.refl _ _) 1 | exact HL.out _ (below_dN (RowKit.Below.refl _ _) 1) | exact (RowKit.Below.cell (by assumption) hbs3).trans k0 | exact (RowKit.Below.cell (by assumption) hnb).trans c0 | exact (RowKit.Below.cell (by assumption) hnb).trans c1 | exact HL.out _ (by assumption)))
      (first | (go_at_call 30; go_split_ands; with_reducible refine (HK.out _ (by assumption)).mono ?_; rintro e wA ⟨rfl, hBa⟩; have hBz := RowKit.Below.trans (show RowKit.Below w3.heap.size w3 _ by assumption) (hBa.mono (RowKit.Below.size (by assumption)))))
    all_goals
      have HBX : Hid (RowKit.Below w.heap.size w wA) := hBw2.out.trans (hBz.mono hBw2.out.size)
      have HQX := hidI (HQ3.out.below hBz)
      have HBZ := hidI hBz
      obtain ⟨es, cap, h1, h2, h3, h4⟩ := HQX.out.row
      have q0 := h2.at 0 rfl
      have HNS : Hid (∀ W, RowKit.Below wA.heap.size wA W → ∃ wm, (Instr.mapUpdate 72 (.map (some ms)) (.string ks) (.bool true)).run Tryz.prog W = .ok () wm ∧ Mp kP okP Value.bool wm ms (seenP (q ++ [(last, nx)])) ∧ W.mapTurned wm ms ∧ W.cell? ⟨bs, 0, none⟩ = some (.map (some ms))) := fun W hW => by
        obtain ⟨wm, y1, y2, y3⟩ := seen_store (HQX.out.below hW) HOK.out
        rw [HKP.out] at y1
        exact ⟨wm, y1, y2, y3, (HQX.out.below hW).box.at 0 rfl⟩
      clear h1 h2 h3 h4 hBz
      have k0A := (RowKit.Below.cell HBZ.out hbs3).trans k0
      have c0A := (RowKit.Below.cell HBZ.out hnb).trans c0
      have c1A := (RowKit.Below.cell HBZ.out hnb).trans c1
      go_upto_region 8 with fail
      go_cut [] (fun wx => Mp kP okP Value.bool wx ms (seenP (q ++ [(last, nx)])) ∧ ∃ wB, RowKit.Below wA.heap.size wA wB ∧ wB.mapTurned wx ms)
      case first =>
        go_region_with (go_at_call 30; refine (HK.out _ (RowKit.Below.trans HBZ.out ((below_dN (RowKit.Below.refl _ _) 1).mono HBZ.out.size))).mono ?_; rintro e wB ⟨rfl, hBb⟩; have hBAB := RowKit.Below.trans (below_dN (RowKit.Below.refl wA.heap.size wA) 1) hBb; obtain ⟨wm, hst, hPN, hturn, hcB⟩ := HNS.out wB hBAB)
        all_goals
          go_wp2_with fail
          go_meet
          exact ⟨hPN, wB, hBAB, hturn⟩
      case rest =>
        obtain ⟨hPN, wB, hBAB, hturn⟩ := hcut
        have kA : ∀ t, KX0 t wA wc := fun t => (KX0.below hBAB).trans (KX0.turn hturn)
        have KWA : KW bq ms g wA wc := (KW.below hBAB).trans (KW.turn hturn)
        have hwA : bw ≤ wA.heap.size := Nat.le_trans hbw HBX.out.size
        have hwB : bw ≤ wB.heap.size := Nat.le_trans hwA hBAB.size
        have hBx : RowKit.Below bw w wc := ((HBX.out.mono hbw).trans (hBAB.mono hwA)).grown hturn.grown hwB (fun j e => by cases e; exact hms)
        have hwx : bw ≤ wc.heap.size := Nat.le_trans hwB hturn.grown.size
        have hwsz : w.heap.size ≤ wc.heap.size := Nat.le_trans HBX.out.size KWA.sz
        obtain ⟨es', cap', h1, h2, h3, h4⟩ := HQX.out.row
        have rsx := (kA _).vrow h2
        have osx := (kA _).own h3
        have hbx := (kA _).vrow HQX.out.box
        have HSL : Hid (∀ e ∈ es', SlT wc e.2.1 e.1.2) := fun e he => (h4 e he).keep (kA _)
        have HX := hidI ((HS3.out.below HBZ.out).keep (kA _))
        have nbx := (kA _).vrow (HB3.out.below HBZ.out HB3.out.lt)
        have HKW := hidI ((KW.below HBX.out).trans KWA)
        have hoS := osx.alloc (.cells (qeE (((last, nx), (qn, dn)) : QE)).toArray 69)
        have hnew := cell_newQ wc (((last, nx), (qn, dn)) : QE)
        have HPN := hidI hPN
        have HES := hidI h1
        clear kA KWA hturn hBAB hPN h1 h2 h3 h4 q0 k0A c0A c1A
        have q0 := rsx.at 0 rfl
        have c0 := nbx.at 0 rfl; have c1 := nbx.at 1 rfl
        have hql : q.length + 1 ≤ 1025 := by omega
        go_wp2_with (at_builtin; refine wpList_append_own _ rfl _ _ 70 rfl bw 69 i0 _ 2 32 Tryz.underlying70 hi0 hz0 hz1 hz2 rfl (by decide) _ _ _ rfl hoS ⟨wc.heap.size, 0, none⟩ 1 1 (catQ [((last, nx), (qn, dn))]) rfl rfl hnew (catQ_one _) (by simp only [maxLen]; omega) (by omega) (by rw [World.size_alloc]; omega) ?_; intro v' w9 hown' hgrow _; obtain ⟨g9, cap9, rfl, z0, ⟨u9, z1⟩, y1, y2, y3⟩ := queue_push HES.out rsx osx HSL.out hbx (x := ((last, nx), (qn, dn))) HPN.out HX.out hown' hgrow hbq hwx)
        go_ret
        rw [hW0.out]
        exact ⟨rfl, ⟨g9, .inr (by rw [List.length_append, List.length_singleton]; omega), y3⟩, HKW.out.trans y2, hBx.trans y1⟩
end Go.Proofs.YtjpilmedlecdhaaGreatDoor
namespace Go.Proofs.YtjpilmedlecdhaaGreatDoor
open Go.RowKit Go.Sort Go.Shelf Go.Lib

/-! ### Words of a formed table -/
theorem base_okw {T : Tb} (hf : fmd T = true) (k : Nat) (hk : k < T.base.length) : Chg.okw T.q (bget T.base k).data.toList = true ∧ (bget T.base k).size ≤ 65536 := by
  have hN := pre_all (fmd_split hf).1
  have h := allB_get (fmd_split hf).2.2.1 k hk
  unfold wOk at h
  simp only [Bool.and_eq_true, decide_eq_true_eq] at h
  exact ⟨wchk_okw h.2.1, by omega⟩
theorem swap_okw {T : Tb} (hf : fmd T = true) (k : Nat) (hk : k < T.swaps.length) : Chg.okw T.q T.swaps[k].wd.data.toList = true ∧ T.swaps[k].wd.size ≤ 65536 := by
  have hN := pre_all (fmd_split hf).1
  have h := allB_get (fmd_split hf).2.2.2 k (by rw [List.length_map]; exact hk)
  unfold wOk at h
  rw [bget_eq _ _ (by rw [List.length_map]; exact hk), List.getElem_map] at h
  simp only [Bool.and_eq_true, decide_eq_true_eq] at h
  exact ⟨wchk_okw h.2.1, by omega⟩

/-! ### Places stay places -/
def OkQ (G : Gr) (q : List Pl) : Prop := ∀ p ∈ q, St G.n p.2 ∧ -1 ≤ p.1 ∧ p.1 < 16
theorem OkQ.wr {G : Gr} {q : List Pl} (h : OkQ G q) {p : Pl} (hp : St G.n p.2) (w : ByteArray) {last : Int} (h1 : -1 ≤ last) (h2 : last < 16) : OkQ G (wrP G q p w last).1 := by
  unfold wrP
  split
  · exact h
  · split
    · exact h
    · split
      · exact h
      · intro x hx
        rcases List.mem_append.1 hx with hx | hx
        · exact h x hx
        · rw [List.mem_singleton.1 hx]; exact ⟨endA_st G p.2 hp _, h1, h2⟩
theorem OkQ.bs {T : Tb} {G : Gr} {p : Pl} {x : List Pl × Int} (h : OkQ G x.1) (hp : St G.n p.2) {j : Nat} (hj : j < 16) : OkQ G (bsP T G p x j).1 := by
  unfold bsP; split
  · exact h
  · split
    · exact h.wr hp _ (by omega) (by omega)
    · exact h
theorem OkQ.ss {T : Tb} {G : Gr} {p : Pl} {x : List Pl × Int} (h : OkQ G x.1) (hp : St G.n p.2) (s : Sw) : OkQ G (ssP T G p x s).1 := by
  unfold ssP; split
  · exact h
  · split
    · exact h.wr hp _ (by omega) (by omega)
    · exact h
theorem OkQ.rb {T : Tb} {G : Gr} {p : Pl} {q : List Pl} (h : OkQ G q) (hp : St G.n p.2) : ∀ k, k ≤ 16 → OkQ G (rB T G p q k).1
  | 0, _ => h
  | k + 1, hk => by rw [rB_succ]; exact (OkQ.rb h hp k (by omega)).bs hp (by omega)
theorem OkQ.rs {T : Tb} {G : Gr} {p : Pl} {x : List Pl × Int} (h : OkQ G x.1) (hp : St G.n p.2) : ∀ k, k ≤ T.swaps.length → OkQ G (rS T G p x k).1
  | 0, _ => by unfold rS; rw [List.take_zero]; exact h
  | k + 1, hk => by rw [rS_succ _ _ _ _ _ (by omega)]; exact (OkQ.rs h hp k (by omega)).ss hp _
theorem bsP_err {T : Tb} {G : Gr} {p : Pl} {x : List Pl × Int} (h : x.2 ≠ 0) (j : Nat) : bsP T G p x j = x := if_pos h
theorem ssP_err {T : Tb} {G : Gr} {p : Pl} {x : List Pl × Int} (h : x.2 ≠ 0) (s : Sw) : ssP T G p x s = x := if_pos h
theorem bsP_go {T : Tb} {G : Gr} {p : Pl} {q : List Pl} {j : Nat} (h : frW T p.1 (j : Int) = true) : bsP T G p (q, 0) j = wrP G q p (bget T.base j) (j : Int) := by unfold bsP; simp [h]
theorem bsP_no {T : Tb} {G : Gr} {p : Pl} {q : List Pl} {j : Nat} (h : frW T p.1 (j : Int) = false) : bsP T G p (q, 0) j = (q, 0) := by unfold bsP; simp [h]
theorem ssP_go {T : Tb} {G : Gr} {p : Pl} {q : List Pl} {s : Sw} (h : frW T p.1 s.i = true) : ssP T G p (q, 0) s = wrP G q p s.wd (-1) := by unfold ssP; simp [h]
theorem ssP_no {T : Tb} {G : Gr} {p : Pl} {q : List Pl} {s : Sw} (h : frW T p.1 s.i = false) : ssP T G p (q, 0) s = (q, 0) := by unfold ssP; simp [h]
theorem foldl_bs_err {T : Tb} {G : Gr} {p : Pl} {x : List Pl × Int} (h : x.2 ≠ 0) : ∀ l : List Nat, l.foldl (bsP T G p) x = x
  | [] => rfl
  | a :: l => by rw [List.foldl_cons, bsP_err h]; exact foldl_bs_err h l
theorem foldl_ss_err {T : Tb} {G : Gr} {p : Pl} {x : List Pl × Int} (h : x.2 ≠ 0) : ∀ l : List Sw, l.foldl (ssP T G p) x = x
  | [] => rfl
  | a :: l => by rw [List.foldl_cons, ssP_err h]; exact foldl_ss_err h l
theorem rS_err {T : Tb} {G : Gr} {p : Pl} {x : List Pl × Int} (h : x.2 ≠ 0) (k : Nat) : rS T G p x k = x := foldl_ss_err h _
theorem rB_stop {T : Tb} {G : Gr} {p : Pl} {q : List Pl} {k : Nat} (h : (rB T G p q k).2 ≠ 0) : ∀ m, rB T G p q (k + m) = rB T G p q k
  | 0 => rfl
  | m + 1 => by rw [← Nat.add_assoc, rB_succ, rB_stop h m, bsP_err h]
theorem rS_stop {T : Tb} {G : Gr} {p : Pl} {x : List Pl × Int} {k : Nat} (h : (rS T G p x k).2 ≠ 0) : ∀ m, k + m ≤ T.swaps.length → rS T G p x (k + m) = rS T G p x k
  | 0, _ => rfl
  | m + 1, hm => by rw [← Nat.add_assoc, rS_succ _ _ _ _ _ (by omega), rS_stop h m (by omega), ssP_err h]
/-- An error among the Base words ends the round. -/
theorem rnd_base {T : Tb} {G : Gr} {p : Pl} {q : List Pl} {k : Nat} (hk : k ≤ T.base.length) (h : (rB T G p q k).2 ≠ 0) : (rndP T G p q).2 = (rB T G p q k).2 := by
  have h1 := rB_stop h (T.base.length - k)
  rw [Nat.add_sub_cancel' hk] at h1
  unfold rndP
  rw [h1, rS_err h]
theorem rnd_swap {T : Tb} {G : Gr} {p : Pl} {q : List Pl} {k : Nat} (hk : k ≤ T.swaps.length) (h : (rS T G p (rB T G p q T.base.length) k).2 ≠ 0) : (rndP T G p q).2 = (rS T G p (rB T G p q T.base.length) k).2 := by
  have h1 := rS_stop h (T.swaps.length - k) (by omega)
  rw [Nat.add_sub_cancel' hk] at h1
  unfold rndP
  rw [h1]
theorem kpN_err {T : Tb} {G : Gr} {f i : Nat} {q : List Pl} (h : i < q.length) (he : (rndP T G q[i] q).2 ≠ 0) : kpN T G (f + 1) i q = (rndP T G q[i] q).2 := by rw [kpN, dif_pos h, if_pos he]
theorem kpN_go {T : Tb} {G : Gr} {f i : Nat} {q : List Pl} (h : i < q.length) (he : (rndP T G q[i] q).2 = 0) : kpN T G (f + 1) i q = kpN T G f (i + 1) (rndP T G q[i] q).1 := by rw [kpN, dif_pos h, if_neg (by omega)]
theorem kpN_end {T : Tb} {G : Gr} {f i : Nat} {q : List Pl} (h : ¬ i < q.length) : kpN T G f i q = 0 := by
  cases f with
  | zero => rfl
  | succ f => rw [kpN, dif_neg h]
/-- Lists of numbers are kept. -/
theorem QI.nums {bw bq bs ms g : Nat} {q : List Pl} {W W' : World} (h : QI bw bq bs ms g q W) (k : KW bq ms g W W') : KX0 3 W W' := fun i cur fz e => by
  obtain ⟨es, cap, h1, h2, h3, h4⟩ := h.row
  obtain ⟨cg, fg, eg⟩ := h.gb
  obtain ⟨em, cl, em1, _⟩ := h.seen
  have hq : W.heap[bq]? = _ := h2
  refine (k.blk i (Array.getElem?_eq_some_iff.1 e).1 ?_ ?_ ?_).trans e
  · rintro rfl; rw [hq] at e; simp only [Option.some.injEq, Obj.cells.injEq] at e; exact absurd e.2.1 (by decide)
  · rintro rfl; rw [em1] at e; cases e
  · rintro rfl; rw [eg] at e; simp only [Option.some.injEq, Obj.cells.injEq] at e; exact absurd e.2.1 (by decide)
/-- An entry of the queue. -/
theorem QI.get {bw bq bs ms g : Nat} {q : List Pl} {W : World} (h : QI bw bq bs ms g q W) (i : Nat) (hi : i < q.length) :
    ∃ cap pp d, W.cell? ⟨bq, 0, none⟩ = some (.slice (some ⟨g, 0, none⟩) q.length cap) ∧ W.cell? ⟨g, i * 2, none⟩ = some (.int .i64 q[i].1) ∧ W.cell? ⟨g, i * 2 + 1, none⟩ = some (.slice pp q[i].2.length d) ∧ SlT W pp q[i].2 := by
  obtain ⟨es, cap, h1, h2, h3, h4⟩ := h.row
  have hl : es.length = q.length := by rw [← h1, List.length_map]
  have hi' : i < es.length := by omega
  have he : es[i].1 = q[i] := by subst h1; rw [List.getElem_map]
  have c0 := ownQ_cell h3 i hi' 0 (by omega)
  have c1 := ownQ_cell h3 i hi' 1 (by omega)
  have hs := h4 es[i] (List.getElem_mem hi')
  rw [he] at hs
  refine ⟨cap, es[i].2.1, es[i].2.2, h2.at 0 rfl, ?_, ?_, hs⟩
  · rw [← he]; exact c0
  · rw [← he]; exact c1
theorem QI.lenbox {bw bq bs ms g : Nat} {q : List Pl} {W : World} (h : QI bw bq bs ms g q W) : ∃ cap, W.cell? ⟨bq, 0, none⟩ = some (.slice (some ⟨g, 0, none⟩) q.length cap) := by
  obtain ⟨es, cap, h1, h2, h3, h4⟩ := h.row
  exact ⟨cap, h2.at 0 rfl⟩
end Go.Proofs.YtjpilmedlecdhaaGreatDoor
namespace Go.Proofs.YtjpilmedlecdhaaGreatDoor
open Go.RowKit Go.Sort Go.Shelf Go.Lib

theorem chkL_fit (T : Tb) (G : Gr) : chkL T G = if fitA T G ≠ 0 then fitA T G else if rdbl T = false then 14 else kpA T G := by
  unfold chkL fitA
  by_cases h1 : fmd T = false ∨ chkG G ≠ 0
  · rw [if_pos h1, if_pos h1]; simp
  · rw [if_neg h1, if_neg h1]
    by_cases h2 : G.q ≠ T.q
    · rw [if_pos h2, if_pos h2]; simp
    · rw [if_neg h2, if_neg h2]; simp
theorem fit_zero {T : Tb} {G : Gr} (h : fitA T G = 0) : fmd T = true ∧ Vg G ∧ G.q = T.q := by
  unfold fitA at h
  split at h
  · cases h
  · rename_i h1
    split at h
    · cases h
    · rename_i h2
      refine ⟨?_, chkG_ok.1 (Classical.byContradiction fun e => h1 (.inr e)), Classical.byContradiction h2⟩
      cases hx : fmd T
      · exact absurd (.inl hx) h1
      · rfl

theorem below_alz {w W : World} (h : RowKit.Below w.heap.size w W) (o : Obj) : RowKit.Below w.heap.size w (W.alloc o) := h.alloc h.size o
/-- The first entry of a map. -/
def mapI (W : World) (m : Nat) (x : Pl) : World := Go.ChangeMaps.setBlock W m (.map #[⟨kP x, .bool true, 0⟩] 1)
theorem first_run {x : Pl} (hx : okP x) {ks : ByteArray} (hk : kP x = .string ks) {W : World} {m : Nat} (h : W.heap[m]? = some (.map #[] 0)) :
    (Instr.mapUpdate 72 (.map (some m)) (.string ks) (.bool true)).run Tryz.prog W = .ok () (mapI W m x) := by
  rw [← hk]
  obtain ⟨kl, hkey⟩ := keyP.reads x hx
  have h0 : ∀ e ∈ (#[] : Array MapEntry).toList, ∃ l, keyOf Tryz.prog 9 e.key = some l := by simp
  rcases keyP.law.find W hkey _ h0 with ⟨h1, _⟩ | ⟨j, e0, h1, h2', h3'⟩
  · simp [Instr.mapUpdate, run_underlying Tryz.underlying72, MapKept.run_getObj_map h, keyP.law.check W false hkey, h1, MapKept.run_setObj_map _ h, Result.andThen, mapI, Go.ChangeMaps.setBlock]
  · simp at h2'
theorem first_map {x : Pl} (hx : okP x) {W : World} {m : Nat} (h : W.heap[m]? = some (.map #[] 0)) :
    Mp kP okP Value.bool (mapI W m x) m (seenP [x]) ∧ W.mapTurned (mapI W m x) m := by
  obtain ⟨ks, hk⟩ : ∃ ks, kP x = .string ks := ⟨_, rfl⟩
  have h0 : Mp kP okP Value.bool W m (fun _ => none) := ⟨#[], 0, h, by simp, by simp, by simp⟩
  obtain ⟨wm, h1, h2, h3⟩ := h0.store keyP Tryz.underlying72 x hx true
  have h4 := first_run hx hk h
  rw [hk] at h1
  rw [h4] at h1
  cases h1
  exact ⟨h2.congr (fun p => by unfold mset seenP; by_cases e : p = x <;> simp [e]), h3⟩

/-- Where a round of Check stands: the queue, and the place that is looked at. -/
structure CS (G : Gr) (bw bq bs ms pb : Nat) (pl : Pl) (pp : Option Addr) (d : Nat) (wc : World) (q : List Pl) (g : Nat) (W : World) : Prop where
  qi : QI bw bq bs ms g q W
  ne : pb ≠ g
  row : VRow W pb 69 [.int .i64 pl.1, .slice pp pl.2.length d]
  sl : SlT W pp pl.2
  bel : RowKit.Below bw wc W
  ok : OkQ G q
  l1 : 1 ≤ q.length
  l2 : q.length ≤ 1024
/-- The same, with some block. -/
def CSE (G : Gr) (bw bq bs ms pb : Nat) (pl : Pl) (pp : Option Addr) (d : Nat) (wc : World) (q : List Pl) (W : World) : Prop := ∃ g, CS G bw bq bs ms pb pl pp d wc q g W
/-- What stands below. -/
structure CB (T : Tb) (G : Gr) (p1 p2 : Option Addr) (c1 c2 : Nat) (p : Option Addr) (c : Nat) (w : World) (gb sb mb bw : Nat) (wc : World) : Prop where
  tl : VRow wc w.heap.size 26 [.int .i64 T.q, .int .i64 T.n, .slice p1 T.base.length c1, .slice p2 T.swaps.length c2]
  gl : VRow wc gb 30 [.int .i64 G.q, .int .i64 G.n, .slice p G.es.length c]
  sbx : VRow wc sb 66 [.map (some mb)]
  sw : SwB T.swaps wc mb
  x : RowKit.Below w.heap.size w wc
  tb : TbIn w T p1 p2 c1 c2
  g : Sg 3 w edE p G.es
  t10 : T10 w
  h1 : w.heap.size < bw
  h2 : gb < bw
  h3 : sb < bw
  h4 : mb < bw
  h5 : bw ≤ wc.heap.size
section
variable {T : Tb} {G : Gr} {p1 p2 : Option Addr} {c1 c2 : Nat} {p : Option Addr} {c : Nat} {w : World} {gb sb mb bw bq bs ms pb : Nat} {pl : Pl} {pp : Option Addr} {d : Nat} {wc W : World} {q : List Pl}
theorem CB.later (h : CB T G p1 p2 c1 c2 p c w gb sb mb bw wc) (hB : RowKit.Below bw wc W) : CB T G p1 p2 c1 c2 p c w gb sb mb bw W where
  tl := (hB.block _ h.h1).trans h.tl
  gl := (hB.block _ h.h2).trans h.gl
  sbx := (hB.block _ h.h3).trans h.sbx
  sw := MpB.same h.sw (hB.block _ h.h4)
  x := h.x.trans (hB.mono (Nat.le_of_lt h.h1))
  tb := h.tb
  g := h.g
  t10 := h.t10
  h1 := h.h1
  h2 := h.h2
  h3 := h.h3
  h4 := h.h4
  h5 := Nat.le_trans h.h5 hB.size
theorem free_step (h : CB T G p1 p2 c1 c2 p c w gb sb mb bw wc) (hs : CSE G bw bq bs ms pb pl pp d wc q W) (hf : fmd T = true) (hl : -1 ≤ pl.1 ∧ pl.1 < 16) (j : Int) (hj : (Lit.int .i64 j).wf = true) :
    Calls Tryz.prog 33 #[.int .i64 j, .pointer (some ⟨sb, 0, none⟩), .pointer (some ⟨pb, 0, none⟩)] W fun e w' => e = .returned (.bool (frW T pl.1 j)) ∧ w' = W := by
  obtain ⟨g, hs⟩ := hs
  have h2 := h.later hs.bel
  exact lkFree_any T hf sb pb mb pl.1 j _ W h2.sbx hs.row h2.sw (WalkArith.wf_i64 (by omega)) hj
theorem write_step (h : CB T G p1 p2 c1 c2 p c w gb sb mb bw wc) (hs : CSE G bw bq bs ms pb pl pp d wc q W) (hv : Vg G) (hl : St G.n pl.2) (hpq : bq < pb) (hpm : ms < pb) (hbq : bw ≤ bq) (hms : bw ≤ ms) (wd : ByteArray) (last : Int) (hla : -1 ≤ last ∧ last < 16) (hw : Chg.okw G.q wd.data.toList = true) (hz : wd.size ≤ 65536) :
    Calls Tryz.prog 31 #[.agg #[.int .i64 pl.1, .slice pp pl.2.length d], .string wd, .int .i64 last, .pointer (some ⟨gb, 0, none⟩), .pointer (some ⟨bs, 0, none⟩), .pointer (some ⟨bq, 0, none⟩)] W fun e w' =>
      e = .returned (.int .i64 (wrP G q pl wd last).2) ∧ CSE G bw bq bs ms pb pl pp d wc (wrP G q pl wd last).1 w' := by
  obtain ⟨g, hs⟩ := hs
  have h2 := h.later hs.bel
  refine (lkWrite_any G p c bw gb bs bq ms g q pl pp d wd last W hs.qi h2.gl (h2.g.below h2.x) hv hs.sl hl hw hz (h2.t10.below h2.x) hla hs.l1 hs.l2 hms hbq h2.h5).mono ?_
  rintro e w' ⟨he, ⟨g', hg, hq⟩, hk, hB⟩
  have hr := hk.vrow hs.row (by omega) (by omega) hs.ne
  have hgrw := wrP_grw G q pl wd last
  refine ⟨he, g', hq, ?_, hr, hs.sl.keep (hs.qi.nums hk), hs.bel.trans hB, hs.ok.wr hl wd hla.1 hla.2, Nat.le_trans hs.l1 hgrw.pre.length_le, hgrw.len hs.l2⟩
  rcases hg with rfl | hg
  · exact hs.ne
  · exact hq.ne hg hr
theorem CSE.below {W' : World} (hs : CSE G bw bq bs ms pb pl pp d wc q W) (hW : bw ≤ W.heap.size) (hB : RowKit.Below W.heap.size W W') : CSE G bw bq bs ms pb pl pp d wc q W' := by
  obtain ⟨g, h⟩ := hs
  exact ⟨g, h.qi.below hB, h.ne, h.row.below hB h.row.lt, h.sl.below hB, h.bel.trans (hB.mono hW), h.ok, h.l1, h.l2⟩
end

end Go.Proofs.YtjpilmedlecdhaaGreatDoor
namespace Go.Proofs.YtjpilmedlecdhaaGreatDoor
open Go.RowKit Go.Sort

/-- The bad pairs of one input, up to a second one. -/
def badR (T : Tb) (G : Gr) (i k : Nat) : List (List Int) := (List.range k).flatMap (fun j => if accA G (bget T.base i ++ bget T.base j) = true then [] else [[(i : Int), (j : Int)]])
/-- The bad pairs of the first inputs. -/
def badN (T : Tb) (G : Gr) (k : Nat) : List (List Int) := (List.range k).flatMap (fun i => badR T G i T.base.length)
def badL (T : Tb) (G : Gr) : List (List Int) := badN T G T.base.length
theorem badR_zero (T : Tb) (G : Gr) (i : Nat) : badR T G i 0 = [] := rfl
theorem badN_zero (T : Tb) (G : Gr) : badN T G 0 = [] := rfl
theorem badR_acc {T : Tb} {G : Gr} {i k : Nat} (h : accA G (bget T.base i ++ bget T.base k) = true) : badR T G i (k + 1) = badR T G i k := by
  unfold badR; rw [List.range_succ, List.flatMap_append]; simp [h]
theorem badR_bad {T : Tb} {G : Gr} {i k : Nat} (h : accA G (bget T.base i ++ bget T.base k) = false) : badR T G i (k + 1) = badR T G i k ++ [[(i : Int), (k : Int)]] := by
  unfold badR; rw [List.range_succ, List.flatMap_append]; simp [h]
theorem badN_succ (T : Tb) (G : Gr) (k : Nat) : badN T G (k + 1) = badN T G k ++ badR T G k T.base.length := by
  unfold badN; rw [List.range_succ, List.flatMap_append]; simp
theorem badR_len (T : Tb) (G : Gr) (i : Nat) : ∀ k, (badR T G i k).length ≤ k
  | 0 => by simp [badR]
  | k + 1 => by
    have := badR_len T G i k
    cases h : accA G (bget T.base i ++ bget T.base k)
    · rw [badR_bad h, List.length_append]; simp; omega
    · rw [badR_acc h]; omega
theorem badN_len (T : Tb) (G : Gr) : ∀ k, (badN T G k).length ≤ k * T.base.length
  | 0 => by simp [badN]
  | k + 1 => by
    have := badN_len T G k
    have h2 := badR_len T G k T.base.length
    rw [badN_succ, List.length_append, Nat.succ_mul]; omega
theorem badN_two {T : Tb} {G : Gr} {k : Nat} : ∀ x ∈ badN T G k, x.length = 2 := by
  intro x hx
  obtain ⟨i, _, hi⟩ := List.mem_flatMap.1 hx
  obtain ⟨j, _, hj⟩ := List.mem_flatMap.1 hi
  split at hj
  · cases hj
  · rw [List.mem_singleton.1 hj]; rfl
theorem badL_nil {T : Tb} {G : Gr} (h : chkL T G = 0) (h0 : T.swaps = []) : badL T G = [] := by
  unfold badL badN
  rw [List.flatMap_eq_nil_iff]
  intro i hi
  unfold badR
  rw [List.flatMap_eq_nil_iff]
  intro j hj
  rw [if_pos (pair_law h h0 (by simpa using hi) (by simpa using hj))]

/-! ### Lists of lists -/
abbrev LE := List Int × (Option Addr × Nat)
def lleE (x : LE) : Value := .slice x.2.1 x.1.length x.2.2
/-- A list of lists whose head row is the call's own. -/
structure LLo (w : World) (B : Nat) (v : Value) (L : List (List Int)) (X : List LE) : Prop where
  own : w.ownsRow B 36 1 v L.length (X.map lleE)
  els : X.map (·.1) = L
  rows : ∀ x ∈ X, SlT w x.2.1 x.1
/-- A list of lists that is read. -/
structure LLr (w : World) (p : Option Addr) (L : List (List Int)) (X : List LE) : Prop where
  hd : Sl w lleE p X
  els : X.map (·.1) = L
  rows : ∀ x ∈ X, SlT w x.2.1 x.1
theorem LLo.len {w : World} {B : Nat} {v : Value} {L : List (List Int)} {X : List LE} (h : LLo w B v L X) : X.length = L.length := by rw [← h.els, List.length_map]
theorem LLr.len {w : World} {p : Option Addr} {L : List (List Int)} {X : List LE} (h : LLr w p L X) : X.length = L.length := by rw [← h.els, List.length_map]
theorem LLo.read {w : World} {B : Nat} {v : Value} {L : List (List Int)} {X : List LE} (h : LLo w B v L X) : ∃ p c, v = .slice p L.length c ∧ LLr w p L X := by
  obtain ⟨p, c, rfl, hs⟩ := own_sl h.own
  exact ⟨p, c, by rw [h.len], hs, h.els, h.rows⟩
theorem LLr.below {w w' : World} {p : Option Addr} {L : List (List Int)} {X : List LE} (h : LLr w p L X) (hB : RowKit.Below w.heap.size w w') : LLr w' p L X :=
  ⟨h.hd.below hB, h.els, fun x hx => (h.rows x hx).below hB⟩
theorem LLo.below {w w' : World} {B : Nat} {v : Value} {L : List (List Int)} {X : List LE} (h : LLo w B v L X) (hB : RowKit.Below w.heap.size w w') : LLo w' B v L X :=
  ⟨h.own.below hB, h.els, fun x hx => (h.rows x hx).below hB⟩
theorem LLo.nil (w : World) (B : Nat) : LLo w B (.slice none 0 0) [] [] := ⟨World.ownsRow_nil w B 36 1, rfl, fun _ h => by cases h⟩
theorem LLr.nil (w : World) (p : Option Addr) : LLr w p [] [] := ⟨Sl.nil _ _ _, rfl, fun _ h => by cases h⟩
theorem LLr.get {w : World} {p : Option Addr} {L : List (List Int)} {X : List LE} (h : LLr w p L X) (k : Nat) (hk : k < L.length) :
    ∃ b o q d, p = some ⟨b, o, none⟩ ∧ b < w.heap.size ∧ w.cell? ⟨b, o + k, none⟩ = some (.slice q L[k].length d) ∧ SlT w q L[k] := by
  have hX : k < X.length := by rw [h.len]; exact hk
  obtain ⟨b, o, rfl, hb, hc⟩ := h.hd.get k hX
  have e : L[k] = X[k].1 := by have := h.els; subst this; rw [List.getElem_map]
  refine ⟨b, o, X[k].2.1, X[k].2.2, rfl, hb, ?_, ?_⟩
  · rw [hc k hX, e]; rfl
  · rw [e]; exact h.rows _ (List.getElem_mem hX)
/-- Behind an append of one more list. -/
theorem LLo.snoc {w w' : World} {B B' : Nat} {v v' : Value} {L : List (List Int)} {X : List LE} {l : List Int} {q : Option Addr} {d : Nat} (h : LLo w B v L X) (ho : w'.ownsRow B' 36 1 v' (L.length + 1) (X.map lleE ++ [.slice q l.length d])) (hk : KX0 3 w w') (hl : SlT w' q l) :
    LLo w' B' v' (L ++ [l]) (X ++ [(l, (q, d))]) :=
  ⟨by rw [List.length_append, List.map_append]; exact ho, by rw [List.map_append, h.els]; rfl, fun x hx => by
    rcases List.mem_append.1 hx with hx | hx
    · exact (h.rows x hx).keep hk
    · rw [List.mem_singleton.1 hx]; exact hl⟩
end Go.Proofs.YtjpilmedlecdhaaGreatDoor
namespace Go.Proofs.YtjpilmedlecdhaaGreatDoor
open Go.RowKit

theorem chk_split {T : Tb} {G : Gr} (h : chkL T G = 0) : fmd T = true ∧ Vg G ∧ G.q = T.q := by
  refine fit_zero ?_
  rw [chkL_fit] at h
  by_cases e : fitA T G = 0
  · exact e
  · rw [if_pos e] at h; exact h
theorem okw_app {q : Int} {a b : List UInt8} (h1 : Chg.okw q a = true) (h2 : Chg.okw q b = true) : Chg.okw q (a ++ b) = true := by
  unfold Chg.okw at *; rw [List.all_append, h1, h2]; rfl
theorem baseW_okw {T : Tb} (hf : fmd T = true) {x : Int} (h0 : 0 ≤ x) (h1 : x < T.base.length) : Chg.okw T.q (baseW T x).data.toList = true := (base_okw hf x.toNat (by omega)).1
theorem encW_okw {T : Tb} (hf : fmd T = true) : ∀ (m : Nat) (l : List Int), l.length ≤ m → l.any (outB T.base.length) = false → Chg.okw T.q (encW T l).data.toList = true
  | _, [], _, _ => by rw [encW_nil]; rfl
  | _, [x], _, ho => by
    have hx := outB_f (any_f ho 0 (by simp))
    simp only [List.getElem_cons_zero] at hx
    rw [encW_one]; exact baseW_okw hf hx.1 hx.2
  | 0, x :: y :: r, hn, _ => by simp at hn
  | m + 1, x :: y :: r, hn, ho => by
    have hx := outB_f (any_f ho 0 (by simp))
    simp only [List.getElem_cons_zero] at hx
    have ho1 : (y :: r).any (outB T.base.length) = false := by rw [List.any_cons] at ho; simp at ho ⊢; exact ho.2
    have ho2 : r.any (outB T.base.length) = false := by rw [List.any_cons] at ho1; simp at ho1 ⊢; exact ho1.2
    cases hs : swapW T.swaps x y with
    | none =>
      rw [encW_base hs, toL_app]
      exact okw_app (baseW_okw hf hx.1 hx.2) (encW_okw hf m (y :: r) (by simp at hn ⊢; omega) ho1)
    | some w =>
      obtain ⟨k, hk, _, _, h3⟩ := swapW_mem hs
      rw [encW_swap hs, toL_app]
      exact okw_app (by rw [← h3]; exact (swap_okw hf k hk).1) (encW_okw hf m r (by simp at hn ⊢; omega) ho2)
/-- All that the law asks of what is written for inputs. -/
structure InvL (T : Tb) (G : Gr) (l : List Int) (W : ByteArray) : Prop where
  enc : encA T l = (W, 0)
  dec : decA T W = (l, 0)
  acc : accA G W = true
  size : (W.size : Int) = l.length * T.n
  chk : Chg.wchk G.q W.data.toList = 0
  len : W.size ≤ 65536
theorem inv_all {T : Tb} {G : Gr} (h : chkL T G = 0) {l : List Int} (ho : l.any (outB T.base.length) = false) (hl : l.length ≤ 10) : InvL T G l (encW T l) := by
  obtain ⟨hf, hv, hq⟩ := chk_split h
  obtain ⟨h1, h2⟩ := inv_law h ho
  have hN := pre_all (fmd_split hf).1
  have hz := encW_size hf l ho
  have hb : l.length * T.n.toNat ≤ 10 * 8 := Nat.mul_le_mul hl (by omega)
  have hok := encW_okw hf l.length l (Nat.le_refl _) ho
  have hck : Chg.wchk T.q (encW T l).data.toList = 0 := Chg.wchk_ok _ _ (by omega) (by omega) (by rw [toL_len]; omega) hok
  refine ⟨encA_ok hf ho, decA_ok hf hck (by rw [hz]; exact Nat.mul_mod_left _ _) h1, h2, ?_, by rw [hq]; exact hck, by omega⟩
  rw [hz, Int.natCast_mul]
  congr 1
  omega
end Go.Proofs.YtjpilmedlecdhaaGreatDoor
namespace Go.Proofs.YtjpilmedlecdhaaGreatDoor
open Go.RowKit Go.Sort Go.Shelf Go.Lib

theorem endA_stop {G : Gr} {st l : List Int} {k : Nat} (h : endA G st (l.take k) = []) : endA G st l = [] := by
  have e : endA G st l = endA G (endA G st (l.take k)) (l.drop k) := by
    unfold endA
    rw [← List.foldl_append, List.take_append_drop]
  rw [e, h, endA_nil]

set_option maxRecDepth 100000 in
set_option maxHeartbeats 2000000 in
theorem lEnds_any (G : Gr) (p : Option Addr) (c : Nat) (st : List Int) (q : Option Addr) (d : Nat) (s : ByteArray) (w : World) (hin : Sg 3 w edE p G.es) (hst : Sl w (Value.int .i64) q st) (hv : Vg G) (hS : St G.n st) (hw : Chg.okw G.q s.data.toList = true) (hs : s.size ≤ 65536) :
    Calls Tryz.prog 95 #[(.agg #[.int .i64 G.q, .int .i64 G.n, .slice p G.es.length c]), .slice q st.length d, .string s] w (LsOut (endA G st (ltr s)) w) := by
  have HIN := hidI hin; have HV := hidI hv; have HS := hidI hS; have HW := hidI hw
  have HST := hidI hst
  clear hin hst hv hS hw
  obtain ⟨w0, hw0⟩ : ∃ w0, w0 = w.alloc (.cells #[.int .i64 G.q, .int .i64 G.n, .slice p G.es.length c] 30) := ⟨_, rfl⟩
  have b0 : VRow w0 w.heap.size 30 [.int .i64 G.q, .int .i64 G.n, .slice p G.es.length c] := by subst hw0; exact VRow.new w _ _
  have hB0 : RowKit.Below w.heap.size w w0 := by subst hw0; exact (RowKit.Below.refl _ _).alloc (Nat.le_refl _) _
  have hE0 : endA G st ((ltr s).take 0) = st := rfl
  go_enter Tryz.func95, Tryz.ntmps95
  go_wp2
  rw [← hw0]
  clear hw0
  go_loopw [1, 7] (fun sv iv wr => ∃ (k : Nat) (qk : Option Addr) (dk : Nat), k ≤ s.size ∧ sv = .slice qk (endA G st ((ltr s).take k)).length dk ∧ iv = .int .i64 k ∧ Sl wr (Value.int .i64) qk (endA G st ((ltr s).take k)) ∧ RowKit.Below w0.heap.size w0 wr) (fun _ iv _ => s.size - (intOf iv).toNat)
  case atStart => exact ⟨0, q, d, by omega, by rw [hE0], rfl, by rw [hE0]; exact HST.out.below hB0, RowKit.Below.refl _ _⟩
  case round =>
    obtain ⟨k, qk, dk, hk, rfl, rfl, hsl, hB⟩ := hrel
    have HSK := hidI (endA_st G st HS.out ((ltr s).take k))
    have HSTOP := hidI (@endA_stop G st (ltr s) k)
    have xr := hB0.trans (hB.mono hB0.size)
    by_cases hlt : k < s.size
    · have HN : Hid (endA G st ((ltr s).take (k + 1)) = nextA G (endA G st ((ltr s).take k)) (Chg.dig (s[k].toNat : Int))) := by rw [Hid, ltr_take s k hlt, endA_snoc]
      generalize endA G st ((ltr s).take k) = L at *
      have hltN : (k : Int) < (s.size : Int) := by omega
      by_cases hL : 0 < L.length
      · have hLi : (0 : Int) < (L.length : Int) := by omega
        have hd := okw_at HW.out k hlt
        have r0 := b0.below hB b0.lt
        go_upto_region 4 with fail
        refine region_tail 5 (by kernel_rfl) (by kernel_rfl) fun W hD => ?_
        have g0 := (r0.dr hD).at 0 rfl; have g1 := (r0.dr hD).at 1 rfl; have g2 := (r0.dr hD).at 2 rfl
        have hBW := hB.trans (hD.below _)
        have xw := xr.trans (hD.below _)
        have hslW := hsl.dr hD
        clear r0
        simp only [List.take_succ_cons, List.take_zero, List.drop_succ_cons, List.drop_zero]
        iterate 5 still_step
        refine wpStill_nil ?_
        go_wp2_with fail
        refine (lStep_any G p c L qk dk s[k] W (HIN.out.below xw) hslW HV.out HSK.out hd.1 hd.2).mono ?_
        rintro e w2 ⟨p', m', c', rfl, hown, hB2⟩
        obtain ⟨q2, d2, he, hs2⟩ := own_sl hown
        cases he
        go_wp2
        go_roundw
        case rel => exact ⟨k + 1, p', c', by omega, by rw [HN.out], by go_num, by rw [HN.out]; exact hs2, hBW.trans (hB2.mono hBW.size)⟩
        case measure => simp [intOf]; omega
      · have hLi : ¬ (0 : Int) < (L.length : Int) := by omega
        have HE : Hid (endA G st (ltr s) = L) := by
          have h0 : L = [] := List.eq_nil_of_length_eq_zero (by omega)
          rw [Hid, h0]; exact HSTOP.out h0
        clear hL
        go_wp2
        go_ret
        exact ⟨qk, dk, by rw [HE.out]; rfl, by rw [HE.out]; exact hsl, xr⟩
    · obtain rfl : k = s.size := by omega
      have hkk : ¬ ((s.size : Int)) < (s.size : Int) := by omega
      have HE : Hid (endA G st (ltr s) = endA G st ((ltr s).take s.size)) := by rw [Hid, ltr_all]
      generalize endA G st ((ltr s).take s.size) = L at *
      go_wp2
      go_ret
      exact ⟨qk, dk, by rw [HE.out]; rfl, by rw [HE.out]; exact hsl, xr⟩

set_option maxRecDepth 100000 in
set_option maxHeartbeats 1000000 in
theorem lAccepts_any (G : Gr) (p : Option Addr) (c : Nat) (s : ByteArray) (w : World) (hin : Sg 3 w edE p G.es) (hv : Vg G) (hq : G.q ≤ 16) (hs : s.size ≤ maxLen) (hc : Chg.wchk G.q s.data.toList = 0) (hl : s.size ≤ 65536) :
    Calls Tryz.prog 71 #[(.agg #[.int .i64 G.q, .int .i64 G.n, .slice p G.es.length c]), .string s] w fun e w' => e = .returned (.tuple #[.bool (accA G s), .int .i64 0]) ∧ RowKit.Below w.heap.size w w' := by
  have HIN := hidI hin; have HV := hidI hv; have HC := hidI hc
  clear hin hv hc
  obtain ⟨w0, hw0⟩ : ∃ w0, w0 = w.alloc (.cells #[.int .i64 G.q, .int .i64 G.n, .slice p G.es.length c] 30) := ⟨_, rfl⟩
  have b0 : VRow w0 w.heap.size 30 [.int .i64 G.q, .int .i64 G.n, .slice p G.es.length c] := by subst hw0; exact VRow.new w _ _
  have hB0 : RowKit.Below w.heap.size w w0 := by subst hw0; exact (RowKit.Below.refl _ _).alloc (Nat.le_refl _) _
  go_enter Tryz.func71, Tryz.ntmps71
  go_wp2_with fail
  rw [← hw0]
  clear hw0
  refine (lSpells_any G p c s w0 (HIN.out.below hB0) HV.out hq hs).mono ?_
  rw [HC.out]
  rintro e w1 ⟨rfl, hB1⟩
  have x1 := hB0.trans (hB1.mono hB0.size)
  have b1 := b0.below hB1 b0.lt
  go_upto_region 4 with fail
  have g0 := b1.at 0 rfl; have g1 := b1.at 1 rfl; have g2 := b1.at 2 rfl
  have zb : w.heap.size < w1.heap.size := b1.lt
  have HIX : Hid (∀ W, RowKit.Below w1.heap.size w1 W → Sg 3 W edE p G.es) := fun W h => HIN.out.below (x1.trans (h.mono x1.size))
  have HA : Hid (accA G s = decide (0 < (endA G (upto G.n.toNat) (ltr s)).length)) := rfl
  have HUP := hidI (St.upto HV.out.n1)
  have HOK := hidI (wchk_okw HC.out)
  clear b0 hB0 hB1 b1
  generalize hL : endA G (upto G.n.toNat) (ltr s) = L at *
  have HL := hidI hL
  clear hL
  go_cut [4, 5] (fun s4 s5 wx => s4 = .bool (decide (0 < L.length)) ∧ s5 = .int .i64 0 ∧ RowKit.Below w1.heap.size w1 wx)
  case first =>
    go_region_held3 (fun w' => w'.cell? ⟨w.heap.size, 0, none⟩ = some (.int .i64 G.q) ∧ w'.cell? ⟨w.heap.size, 1, none⟩ = some (.int .i64 G.n) ∧ w'.cell? ⟨w.heap.size, 2, none⟩ = some (.slice p G.es.length c) ∧ RowKit.Below w1.heap.size w1 w')
      (first | (go_split_ands; refine ⟨?_, ?_, ?_, ?_⟩ <;> first | assumption | (go_keep; done) | exact below_drewN (RowKit.Below.refl _ _) 1 | exact (hBa.cell (Nat.lt_of_lt_of_le zb (RowKit.Below.size (by assumption)))).trans (by assumption) | exact (hBb.cell (Nat.lt_of_lt_of_le zb (RowKit.Below.size (by assumption)))).trans (by assumption) | exact RowKit.Below.trans (by assumption) (hBa.mono (RowKit.Below.size (by assumption))) | exact RowKit.Below.trans (by assumption) (hBb.mono (RowKit.Below.size (by assumption)))))
      (first
        | (go_at_call 96; go_split_ands; refine (lStates_any G p c _ HV.out).mono ?_; rintro e wA ⟨q, d, rfl, hsl, hBa⟩)
        | (go_at_call 95; go_split_ands; refine (lEnds_any G p c (upto G.n.toNat) q d s _ (HIX.out _ (by assumption)) hsl HV.out HUP.out HOK.out hl).mono ?_; rw [HL.out]; rintro e wB ⟨q3, d3, rfl, _, hBb⟩))
    all_goals
      go_wp2_with fail
      go_meet
      exact ⟨rfl, rfl, RowKit.Below.trans (by assumption) (hBb.mono (RowKit.Below.size (by assumption)))⟩
  case rest =>
    obtain ⟨rfl, rfl, hB2⟩ := hcut
    go_wp2
    go_ret2
    refine ⟨?_, x1.trans (hB2.mono x1.size)⟩
    rw [HA.out]; rfl
end Go.Proofs.YtjpilmedlecdhaaGreatDoor
namespace Go.Proofs.YtjpilmedlecdhaaGreatDoor
open Go.RowKit Go.Sort Go.Shelf Go.Lib

set_option maxRecDepth 100000 in
set_option maxHeartbeats 1000000 in
theorem lkAccepts_any (G : Gr) (p : Option Addr) (c : Nat) (s : ByteArray) (w : World) (hin : Sg 3 w edE p G.es) (hv : Vg G) (hq : G.q ≤ 16) (hs : s.size ≤ maxLen) (hc : Chg.wchk G.q s.data.toList = 0) (hl : s.size ≤ 65536) :
    Calls Tryz.prog 53 #[(.agg #[.int .i64 G.q, .int .i64 G.n, .slice p G.es.length c]), .string s] w fun e w' => e = .returned (.bool (accA G s)) ∧ RowKit.Below w.heap.size w w' := by
  obtain ⟨w0, hw0⟩ : ∃ w0, w0 = w.alloc (.cells #[.int .i64 G.q, .int .i64 G.n, .slice p G.es.length c] 30) := ⟨_, rfl⟩
  have b0 : VRow w0 w.heap.size 30 [.int .i64 G.q, .int .i64 G.n, .slice p G.es.length c] := by subst hw0; exact VRow.new w _ _
  have hB0 : RowKit.Below w.heap.size w w0 := by subst hw0; exact (RowKit.Below.refl _ _).alloc (Nat.le_refl _) _
  have HA := hidI (lAccepts_any G p c s w0 (hin.below hB0) hv hq hs hc hl)
  have g0 := b0.at 0 rfl; have g1 := b0.at 1 rfl; have g2 := b0.at 2 rfl
  clear hin hv hc
  generalize accA G s = r at *
  go_enter Tryz.func53, Tryz.ntmps53
  go_upto_region 1 with fail
  rw [← hw0]
  clear hw0
  go_wp2_with fail
  refine HA.out.mono ?_
  rintro e w1 ⟨rfl, hB1⟩
  go_wp2
  go_ret
  exact ⟨rfl, hB0.trans (hB1.mono hB0.size)⟩

/-- What a table's two words together are. -/
structure WdP (T : Tb) (G : Gr) (a b : ByteArray) : Prop where
  s1 : a.size ≤ 8
  s2 : b.size ≤ 8
  chk : Chg.wchk G.q (a ++ b).data.toList = 0
theorem wdP {T : Tb} {G : Gr} (hf : fmd T = true) (hq : G.q = T.q) {i j : Nat} (hi : i < T.base.length) (hj : j < T.base.length) : WdP T G (bget T.base i) (bget T.base j) := by
  have hN := pre_all (fmd_split hf).1
  have h1 := base_sz hf i hi
  have h2 := base_sz hf j hj
  have e1 : baseW T (i : Int) = bget T.base i := by simp [baseW]
  have e2 : baseW T (j : Int) = bget T.base j := by simp [baseW]
  have o1 := baseW_okw hf (x := (i : Int)) (by omega) (by omega)
  have o2 := baseW_okw hf (x := (j : Int)) (by omega) (by omega)
  rw [e1] at o1
  rw [e2] at o2
  refine ⟨by omega, by omega, ?_⟩
  rw [hq]
  have ho : Chg.okw T.q (bget T.base i ++ bget T.base j).data.toList = true := by rw [toL_app]; exact okw_app o1 o2
  refine Chg.wchk_ok _ _ (by omega) (by omega) ?_ ho
  rw [toL_app, List.length_append, toL_len, toL_len]; omega
theorem app_le {a b : ByteArray} (h1 : a.size ≤ 8) (h2 : b.size ≤ 8) : (a ++ b).size ≤ 16 := by rw [ByteArray.size_append]; omega

def RetLL (L : List (List Int)) (w : World) (e : Ending) (w' : World) : Prop := ∃ q d X, e = .returned (.slice q L.length d) ∧ LLr w' q L X ∧ RowKit.Below w.heap.size w w'
def RetLLI (L : List (List Int)) (k : Int) (w : World) (e : Ending) (w' : World) : Prop := ∃ q d X, e = .returned (.tuple #[.slice q L.length d, .int .i64 k]) ∧ LLr w' q L X ∧ RowKit.Below w.heap.size w w'
theorem infoSI : (Tryz.prog.info? 36).map (fun i => (i.zero, i.size, i.bytes)) = some (some (.slice none 0 0), 1, 24) := by kernel_rfl
theorem slT_row {w : World} {b : Nat} {l : List Int} (h : VRow w b 3 (l.map (Value.int .i64))) : SlT w (some ⟨b, 0, none⟩) l :=
  ⟨Sl.of_vrow h, fun b' o z e => by cases e; exact ⟨_, _, h⟩⟩
theorem LLo.lt {w : World} {B : Nat} {v : Value} {L : List (List Int)} {X : List LE} (h : LLo w B v L X) : ∀ j, v.ownBlock = some j → B ≤ j ∧ j < w.heap.size := h.own.lt

set_option maxRecDepth 100000 in
set_option maxHeartbeats 4000000 in
theorem lkbad_any (T : Tb) (p1 p2 : Option Addr) (c1 c2 : Nat) (G : Gr) (p : Option Addr) (c : Nat) (w : World) (hin : TbIn w T p1 p2 c1 c2) (hG : Sg 3 w edE p G.es) (hf : fmd T = true) (hv : Vg G) (hq : G.q = T.q) :
    Calls Tryz.prog 43 #[(.agg #[.int .i64 T.q, .int .i64 T.n, .slice p1 T.base.length c1, .slice p2 T.swaps.length c2]), (.agg #[.int .i64 G.q, .int .i64 G.n, .slice p G.es.length c])] w (RetLL (badL T G) w) := by
  obtain ⟨i0, hi0, hz0, hz1, hz3⟩ := info_parts infoSI
  obtain ⟨w0, hw0⟩ : ∃ w0, w0 = (w.alloc (.cells #[.int .i64 T.q, .int .i64 T.n, .slice p1 T.base.length c1, .slice p2 T.swaps.length c2] 26)).alloc (.cells #[.int .i64 G.q, .int .i64 G.n, .slice p G.es.length c] 30) := ⟨_, rfl⟩
  have b0 : VRow w0 w.heap.size 26 [.int .i64 T.q, .int .i64 T.n, .slice p1 T.base.length c1, .slice p2 T.swaps.length c2] := by subst hw0; exact (VRow.new w _ _).alloc _
  have d0 : VRow w0 (w.heap.size + 1) 30 [.int .i64 G.q, .int .i64 G.n, .slice p G.es.length c] := by subst hw0; exact VRow.new1 w _ _ _
  have hB0 : RowKit.Below w.heap.size w w0 := by subst hw0; exact ((RowKit.Below.refl _ _).alloc (Nat.le_refl _) _).alloc (by simp) _
  have hN := pre_all (fmd_split hf).1
  have hN16 : T.base.length ≤ 16 := by omega
  have hq16 : G.q ≤ 16 := by rw [hq]; omega
  have HBS := hidI (hin.below hB0).base
  have HWD := hidI (fun (i j : Nat) (hi : i < T.base.length) (hj : j < T.base.length) => wdP (G := G) hf hq hi hj)
  have HAC := hidI (fun (s : ByteArray) (W : World) (hB : RowKit.Below w.heap.size w W) (h1 : Chg.wchk G.q s.data.toList = 0) (h2 : s.size ≤ 16) => lkAccepts_any G p c s W (hG.below hB) hv hq16 (by unfold maxLen; omega) h1 (by omega))
  have HBG := hidI (fun (k : Nat) (hk : k < T.base.length) => bget_eq T.base k hk)
  have HLN : Hid (badL T G = badN T G T.base.length) := rfl
  have HO := hidI (LLo.nil w0 w0.heap.size)
  have HB0 := hidI hB0; have HB := hidI b0; have HD := hidI d0
  have f2 := b0.at 2 rfl
  clear hin hG hf hv hq hN hB0 b0 d0
  generalize badL T G = R at *
  go_enter Tryz.func43, Tryz.ntmps43
  go_upto_region 1 with fail
  rw [← hw0]
  clear hw0
  go_wp2_with fail
  clear f2
  go_loopw [5, 13] (fun v5 iv W => ∃ (k : Nat) (X : List LE), k ≤ T.base.length ∧ iv = .int .i64 k ∧ LLo W w0.heap.size v5 (badN T G k) X ∧ RowKit.Below w0.heap.size w0 W) (fun _ iv _ => T.base.length - (intOf iv).toNat)
  case atStart => exact ⟨0, [], by omega, rfl, HO.out, RowKit.Below.refl _ _⟩
  case round =>
    obtain ⟨k, X, hk, rfl, ho, hB⟩ := hrel
    by_cases hlt : k < T.base.length
    · have hltI : (k : Int) < (T.base.length : Int) := by omega
      have f2 := (HB.out.below hB HB.out.lt).at 2 rfl
      obtain ⟨bb, oo, rfl, hb1, hc1⟩ := (HBS.out.below hB).get k hlt
      have e0 := hc1 k hlt
      have hle := badN_len T G k
      have HNS := hidI (badN_succ T G k)
      have HRZ := hidI (badR_zero T G k)
      rw [← HBG.out k hlt] at e0
      have hkn : k * T.base.length ≤ 16 * 16 := Nat.mul_le_mul (by omega) hN16
      generalize badN T G k = L at *
      clear hc1
      obtain ⟨wo, hwo⟩ : ∃ wo : World, wo = wr := ⟨_, rfl⟩
      go_wp2_with fail
      clear f2 e0
      go_loopw [5, 21] (fun v5 iv W => ∃ (j : Nat) (Y : List LE), j ≤ T.base.length ∧ iv = .int .i64 j ∧ LLo W w0.heap.size v5 (L ++ badR T G k j) Y ∧ RowKit.Below w0.heap.size w0 W) (fun _ iv _ => T.base.length - (intOf iv).toNat)
      case atStart => exact ⟨0, X, by omega, rfl, by rw [HRZ.out, List.append_nil]; exact ho, hB⟩
      case round =>
        clear ho hB hwo
        obtain ⟨j, Y, hj, rfl, ho, hB⟩ := hrel
        have hrl := badR_len T G k j
        by_cases hlt2 : j < T.base.length
        · have hltJ : (j : Int) < (T.base.length : Int) := by omega
          have hD := HD.out.below hB HD.out.lt
          have g0 := hD.at 0 rfl; have g1 := hD.at 1 rfl; have g2 := hD.at 2 rfl
          obtain ⟨bb', oo', hp', hb2, hc2⟩ := (HBS.out.below hB).get j hlt2
          cases hp'
          have e1 := hc2 j hlt2
          rw [← HBG.out j hlt2] at e1
          have hwd := HWD.out k j hlt hlt2
          have HRA := hidI (fun h => @badR_acc T G k j h)
          have HRB := hidI (fun h => @badR_bad T G k j h)
          have hs1 := hwd.s1; have hs2 := hwd.s2
          have hml : (bget T.base k).size + (bget T.base j).size ≤ maxLen := by unfold maxLen; omega
          have HC := hidI (HAC.out (bget T.base k ++ bget T.base j) wr (HB0.out.trans (hB.mono HB0.out.size)) hwd.chk (app_le hs1 hs2))
          generalize accA G (bget T.base k ++ bget T.base j) = r at *
          generalize bget T.base k = ba at *
          generalize bget T.base j = bj at *
          clear hc2 hwd
          go_wp2_with fail
          refine HC.out.mono ?_
          rintro e w2 ⟨rfl, hB2⟩
          have ho2 := ho.below hB2
          have hB3 := hB.trans (hB2.mono hB.size)
          clear hD g0 g1 g2 e1 hb2 HC ho hB hB2
          cases r
          · have HQ := hidI (HRB.out rfl)
            have hz2 := hB3.size
            have hlw := ho2.lt
            clear HRA HRB HNS
            have hMl : (L ++ badR T G k j).length ≤ 272 := by rw [List.length_append]; omega
            have HQ : Hid (L ++ badR T G k (j + 1) = L ++ badR T G k j ++ [[(k : Int), (j : Int)]]) := by rw [Hid, HQ.out, List.append_assoc]
            generalize L ++ badR T G k j = M at *
            have hnew := cell_one_at (w2.alloc (.cells #[.int .i64 k, .int .i64 j] 3)) (.slice (some ⟨w2.heap.size, 0, none⟩) 2 2) 36 (w2.heap.size + 1) (by simp)
            have hownA := (ho2.own.alloc (.cells #[.int .i64 k, .int .i64 j] 3)).alloc (.cells #[.slice (some ⟨w2.heap.size, 0, none⟩) 2 2] 36)
            have n3 : VRow ((w2.alloc (.cells #[.int .i64 k, .int .i64 j] 3)).alloc (.cells #[.slice (some ⟨w2.heap.size, 0, none⟩) 2 2] 36)) w2.heap.size 3 ([(k : Int), (j : Int)].map (Value.int .i64)) := (VRow.new w2 _ _).alloc _
            have hBa : RowKit.Below w2.heap.size w2 ((w2.alloc (.cells #[.int .i64 k, .int .i64 j] 3)).alloc (.cells #[.slice (some ⟨w2.heap.size, 0, none⟩) 2 2] 36)) := ((RowKit.Below.refl _ _).alloc (Nat.le_refl _) _).alloc (by simp) _
            go_wp2_with (at_builtin; refine wpList_append_own _ rfl _ _ 50 rfl w0.heap.size 36 i0 (.slice none 0 0) 1 24 Tryz.underlying50 hi0 hz0 hz1 hz3 rfl (by decide) _ _ _ rfl hownA ⟨w2.heap.size + 1, 0, none⟩ 1 1 [.slice (some ⟨w2.heap.size, 0, none⟩) 2 2] rfl rfl hnew (by simp [Value.oneCell']) (by simp [maxLen]; omega) (by omega) (by simp only [World.size_alloc]; omega) ?_; intro v' w4 hown' hgrow _)
            have hlw2 := hownA.lt
            have hk4 : KX0 3 w2 w4 := (KX0.below hBa).trans (KX0.grown hgrow (own_typed hownA) (by decide))
            have hl4 : SlT w4 (some ⟨w2.heap.size, 0, none⟩) [(k : Int), (j : Int)] := (slT_row n3).keep (KX0.grown hgrow (own_typed hownA) (by decide))
            have ho4 := ho2.snoc hown' hk4 hl4
            have hB4 : RowKit.Below w0.heap.size w0 w4 := (hB3.trans (hBa.mono hz2)).grown hgrow (by simp; omega) (fun j e => by have := (hlw2 j e).1; omega)
            go_roundw
            case rel => exact ⟨j + 1, _, by omega, by go_num, by rw [HQ.out]; exact ho4, hB4⟩
            case measure => simp [intOf]; omega
          · have HQ := hidI (HRA.out rfl)
            clear HRA HRB
            go_wp2_with fail
            go_roundw
            case rel => exact ⟨j + 1, Y, by omega, by go_num, by rw [HQ.out]; exact ho2, hB3⟩
            case measure => simp [intOf]; omega
        · obtain rfl : j = T.base.length := by omega
          have hltJ : ¬ (T.base.length : Int) < (T.base.length : Int) := by omega
          go_wp2_with fail
          go_roundw
          case rel => exact ⟨k + 1, Y, by omega, by go_num, by rw [HNS.out]; exact ho, hB⟩
          case measure => simp [intOf]; omega
    · obtain rfl : k = T.base.length := by omega
      have hltI : ¬ (T.base.length : Int) < (T.base.length : Int) := by omega
      obtain ⟨q, d, rfl, hr⟩ := ho.read
      rw [← HLN.out] at hr
      have HR := hidI hr
      have HL2 : Hid ((badN T G T.base.length).length = R.length) := by rw [Hid, HLN.out]
      go_wp2_with fail
      go_ret
      exact ⟨q, d, X, by show Ending.returned (.slice q (badN T G T.base.length).length d) = _; rw [HL2.out], HR.out, HB0.out.trans (hB.mono HB0.out.size)⟩
end Go.Proofs.YtjpilmedlecdhaaGreatDoor
