/-
  Words, plain lemmas and walks, merged: Rd, Re, Rf, Rg, Sp, Qd, Cj, Sq, Xe, Xf.
-/
import Derived.Test.YtjpilmedlecdhaaGreatZxi
import Derived.Deep.RegionWith
import Derived.Test.YtjpilmedlecdhaaGreatZxh
import Derived.Test.YtjpilmedlecdhaaGreatZxe
import Derived.Test.YtjpilmedlecdhaaGreatZxg
set_option linter.unusedVariables false
set_option linter.unusedSimpArgs false
namespace Go.Proofs.YtjpilmedlecdhaaGreat
open Go.RowKit Go.Sort Go.Shelf Go.Lib

/-! ### Blocks of one type are kept -/
/-- All blocks of one type, but one, are kept. -/
def KX1 (t : TypeId) (b : Nat) (W W' : World) : Prop := ∀ (i : Nat) (cur : Array Value) (fz : Nat × Nat), i ≠ b → W.heap[i]? = some (.cells cur t fz) → W'.heap[i]? = some (.cells cur t fz)
/-- All blocks of one type are kept. -/
def KX0 (t : TypeId) (W W' : World) : Prop := ∀ (i : Nat) (cur : Array Value) (fz : Nat × Nat), W.heap[i]? = some (.cells cur t fz) → W'.heap[i]? = some (.cells cur t fz)
section
variable {t t' : TypeId} {b : Nat} {X Y Z : World}
theorem KX0.refl (t : TypeId) (X : World) : KX0 t X X := fun _ _ _ h => h
theorem KX0.trans (h : KX0 t X Y) (k : KX0 t Y Z) : KX0 t X Z := fun i c f e => k i c f (h i c f e)
theorem KX1.trans (h : KX1 t b X Y) (k : KX1 t b Y Z) : KX1 t b X Z := fun i c f hn e => k i c f hn (h i c f hn e)
theorem KX0.one (h : KX0 t X Y) (b : Nat) : KX1 t b X Y := fun i c f _ e => h i c f e
theorem KX0.below (h : RowKit.Below X.heap.size X Y) : KX0 t X Y := fun i _ _ e => (h.block i (Array.getElem?_eq_some_iff.1 e).1).trans e
theorem KX0.turn (h : X.mapTurned Y b) : KX0 t X Y := fun i c f e => by
  obtain ⟨es, clock, es', clock', hb, rfl⟩ := h
  by_cases hi : i = b
  · subst hi; rw [hb] at e; cases e
  · exact (ChangeMaps.heap_setBlock_other hb _ hi).trans e
theorem KX0.grown {r : Option Nat} (h : X.grownBy Y r) (hr : ∀ k, r = some k → ∃ cur fz, X.heap[k]? = some (.cells cur t' fz)) (hne : t ≠ t') : KX0 t X Y := fun i c f e =>
  (h.block i (Array.getElem?_eq_some_iff.1 e).1 (fun er => by
    obtain ⟨c', f', e'⟩ := hr i er.symm
    rw [e] at e'; cases e'; exact hne rfl)).trans e
theorem KX0.set {cur : Array Value} {fz : Nat × Nat} (hb : X.heap[b]? = some (.cells cur t' fz)) (k : Nat) (v : Value) (hne : t ≠ t') : KX0 t X (X.setCell ⟨b, k, none⟩ v) := fun i c z e => by
  have hn : i ≠ b := by rintro rfl; rw [hb] at e; cases e; exact hne rfl
  exact (Below.heap_setCell _ _ _ _ hn).trans e
theorem KX1.set (t : TypeId) (b : Nat) (X : World) (k : Nat) (v : Value) : KX1 t b X (X.setCell ⟨b, k, none⟩ v) := fun _ _ _ hn e => (Below.heap_setCell _ _ _ _ hn).trans e
theorem KX0.vrow {l : List Value} (h : KX0 t X Y) (r : VRow X b t l) : VRow Y b t l := h _ _ _ r
theorem KX1.vrow {l : List Value} {i : Nat} (h : KX1 t b X Y) (r : VRow X i t l) (hn : i ≠ b) : VRow Y i t l := h _ _ _ hn r
theorem KX0.own {B n s : Nat} {v : Value} {xs : List Value} (h : KX0 t X Y) (ho : X.ownsRow B t s v n xs) : Y.ownsRow B t s v n xs := by
  refine ⟨ho.1, ho.2.imp id ?_⟩
  rintro ⟨g, cap, cur, e1, e2, e3, e4⟩
  exact ⟨g, cap, cur, e1, e2, h _ _ _ e3, e4⟩
theorem own_typed {B n s : Nat} {v : Value} {xs : List Value} (ho : X.ownsRow B t s v n xs) : ∀ k, v.ownBlock = some k → ∃ cur fz, X.heap[k]? = some (.cells cur t fz) := by
  intro k hk
  rcases ho.2 with ⟨rfl, _⟩ | ⟨g, cap, cur, rfl, _, hg, _⟩
  · cases hk
  · cases hk; exact ⟨_, _, hg⟩
end

/-- All maps are kept. -/
def KXm (W W' : World) : Prop := ∀ (i : Nat) (es : Array MapEntry) (cl : Nat), W.heap[i]? = some (.map es cl) → W'.heap[i]? = some (.map es cl)
section
variable {t' : TypeId} {b : Nat} {X Y Z : World}
theorem KXm.trans (h : KXm X Y) (k : KXm Y Z) : KXm X Z := fun i c f e => k i c f (h i c f e)
theorem KXm.below (h : RowKit.Below X.heap.size X Y) : KXm X Y := fun i _ _ e => (h.block i (Array.getElem?_eq_some_iff.1 e).1).trans e
theorem KXm.grown {r : Option Nat} (h : X.grownBy Y r) (hr : ∀ k, r = some k → ∃ cur fz, X.heap[k]? = some (.cells cur t' fz)) : KXm X Y := fun i c f e =>
  (h.block i (Array.getElem?_eq_some_iff.1 e).1 (fun er => by
    obtain ⟨c', f', e'⟩ := hr i er.symm
    rw [e] at e'; cases e')).trans e
theorem KXm.set {cur : Array Value} {fz : Nat × Nat} (hb : X.heap[b]? = some (.cells cur t' fz)) (k : Nat) (v : Value) : KXm X (X.setCell ⟨b, k, none⟩ v) := fun i c z e => by
  have hn : i ≠ b := by rintro rfl; rw [hb] at e; cases e
  exact (Below.heap_setCell _ _ _ _ hn).trans e
end


/-! ### Lists of numbers in blocks of their type -/
def SlT (w : World) (p : Option Addr) (l : List Int) : Prop := Sl w (Value.int .i64) p l ∧ ∀ b o z, p = some ⟨b, o, z⟩ → ∃ cur fz, w.heap[b]? = some (.cells cur 3 fz)
theorem SlT.keep {w w' : World} {p : Option Addr} {l : List Int} (h : SlT w p l) (k : KX0 3 w w') : SlT w' p l := by
  obtain ⟨h1, h2⟩ := h
  refine ⟨?_, fun b o z e => ?_⟩
  · rcases h1 with h1 | ⟨b, off, rfl, hb, hc⟩
    · exact .inl h1
    · obtain ⟨cur, fz, e⟩ := h2 b off none rfl
      have e' := k _ _ _ e
      exact .inr ⟨b, off, rfl, (Array.getElem?_eq_some_iff.1 e').1, fun i hi => (World.cell?_of_block (w := w) (a := ⟨b, off + i, none⟩) (e'.trans e.symm)).trans (hc i hi)⟩
  · obtain ⟨cur, fz, e⟩ := h2 b o z e
    exact ⟨cur, fz, k _ _ _ e⟩
theorem SlT.below {w w' : World} {p : Option Addr} {l : List Int} (h : SlT w p l) (hB : RowKit.Below w.heap.size w w') : SlT w' p l := h.keep (KX0.below hB)
theorem own_slT {w : World} {B n : Nat} {v : Value} {l : List Int} (h : w.ownsRow B 3 1 v n (l.map (Value.int .i64))) : ∃ p c, v = .slice p l.length c ∧ SlT w p l := by
  obtain ⟨p, c, rfl, hs⟩ := own_sl h
  refine ⟨p, c, rfl, hs, fun b o z e => ?_⟩
  rcases h.2 with ⟨e1, _⟩ | ⟨g, cap, cur, e1, _, hg, _⟩
  · simp only [Value.slice.injEq] at e1; rw [e1.1] at e; cases e
  · simp only [Value.slice.injEq] at e1; rw [e1.1] at e; cases e; exact ⟨_, _, hg⟩
def LsT (l : List Int) (w : World) (e : Ending) (w' : World) : Prop := ∃ q d, e = .returned (.slice q l.length d) ∧ SlT w' q l ∧ RowKit.Below w.heap.size w w'

/-! ### Rows of places -/
abbrev QE := Pl × (Option Addr × Nat)
def qeE (x : QE) : List Value := [.int .i64 x.1.1, .slice x.2.1 x.1.2.length x.2.2]
def catQ (l : List QE) : List Value := l.flatMap qeE
theorem catQ_len (l : List QE) : (catQ l).length = l.length * 2 := by
  induction l with
  | nil => rfl
  | cons x l ih =>
    have e : catQ (x :: l) = qeE x ++ catQ l := rfl
    have e2 : (qeE x).length = 2 := rfl
    rw [e, List.length_append, ih, e2, List.length_cons]; omega
theorem catQ_app (a b : List QE) : catQ (a ++ b) = catQ a ++ catQ b := List.flatMap_append
theorem catQ_get : ∀ (l : List QE) (k : Nat) (h : k < l.length) (j : Nat), j < 2 → (catQ l)[k * 2 + j]? = (qeE l[k])[j]?
  | [], k, h, j, hj => by simp at h
  | x :: l, 0, h, j, hj => by
    show (qeE x ++ catQ l)[0 * 2 + j]? = _
    rw [Nat.zero_mul, Nat.zero_add, List.getElem?_append_left (by show j < 2; exact hj)]; rfl
  | x :: l, k + 1, h, j, hj => by
    show (qeE x ++ catQ l)[(k + 1) * 2 + j]? = _
    rw [List.getElem?_append_right (by show 2 ≤ _; omega), show (k + 1) * 2 + j - (qeE x).length = k * 2 + j by show (k + 1) * 2 + j - 2 = _; omega]
    exact catQ_get l k (by simpa using h) j hj
theorem catQ_one (l : List QE) : ∀ v ∈ catQ l, v.oneCell' = true := by
  intro v hv
  obtain ⟨x, _, hx⟩ := List.mem_flatMap.1 hv
  simp only [qeE, List.mem_cons, List.not_mem_nil, or_false] at hx
  rcases hx with rfl | rfl <;> rfl
theorem ownQ_cell {w : World} {B e n cap g : Nat} {l : List QE} (h : w.ownsRow B e 2 (.slice (some ⟨g, 0, none⟩) n cap) n (catQ l)) (k : Nat) (hk : k < l.length) (j : Nat) (hj : j < 2) : w.cell? ⟨g, k * 2 + j, none⟩ = (qeE l[k])[j]? := by
  have hn : l.length = n := by have := h.1; rw [catQ_len] at this; omega
  rcases h.2 with ⟨e0, _⟩ | ⟨g', cap', cur, e0, hg, hh, hc, hm, hs, ht⟩
  · cases e0
  · cases e0
    rw [← catQ_get l k hk j hj, ← ht]
    have hlt : k * 2 + j < n * 2 := by omega
    simp only [World.cell?, hh]
    rw [List.getElem?_take, if_pos hlt, Array.getElem?_toList]
    simp
theorem ownQ_shape {w : World} {B e n : Nat} {v : Value} {xs : List Value} (h : w.ownsRow B e 2 v n xs) (hn : 0 < n) : ∃ g cap, v = .slice (some ⟨g, 0, none⟩) n cap := by
  rcases h.2 with ⟨rfl, h0⟩ | ⟨g, cap, cur, rfl, _⟩
  · omega
  · exact ⟨g, cap, rfl⟩
/-! ### Places that were seen -/
def okP (p : Pl) : Prop := (-1 ≤ p.1 ∧ p.1 < 16) ∧ (∀ x ∈ p.2, 0 ≤ x ∧ x < 100) ∧ p.2.length ≤ 64
def kP (p : Pl) : Value := .string ⟨(keyB p.1 p.2).toArray⟩
theorem keyP : KeyBy Tryz.prog 9 kP okP where
  law := Maps.string_keyed Tryz.underlying9
  reads := fun a ha => ⟨.string (keyB a.1 a.2), by
    have h1 := keyB_len ha.1 ha.2.1
    have h2 := ha.2.2
    have h3 : (⟨(keyB a.1 a.2).toArray⟩ : ByteArray).size ≤ maxLen := by show (keyB a.1 a.2).toArray.size ≤ maxLen; rw [List.size_toArray]; unfold maxLen; omega
    simp [keyOf, mapKey, kP, Tryz.underlying9]; exact h3⟩
  inj := fun a b ha hb h => by
    obtain ⟨h1, h2⟩ := keyB_inj ha.1 hb.1 ha.2.1 hb.2.1 (by simpa [kP] using h)
    exact Prod.ext h1 h2
theorem zeroBo (w : World) : (zeroValue 4).run Tryz.prog w = .ok (.bool false) w := by kernel_rfl
def seenP (q : List Pl) (p : Pl) : Option Bool := if p ∈ q then some true else none
theorem seenP_snoc (q : List Pl) (x : Pl) (p : Pl) : mset (seenP q) x true p = seenP (q ++ [x]) p := by
  unfold seenP mset
  by_cases h : p = x
  · subst h; simp
  · rw [if_neg h]; simp [h]
theorem seen_look {w : World} {b : Nat} {q : List Pl} (h : Mp kP okP Value.bool w b (seenP q)) {p : Pl} (hp : okP p) :
    (Instr.lookup 94 (.map (some b)) (kP p) false).run Tryz.prog w = .ok (.bool (decide (p ∈ q))) w := by
  have := h.look keyP Tryz.underlying94 (zeroBo w) p hp false
  unfold seenP at this
  by_cases hm : p ∈ q
  · rw [if_pos hm] at this; rw [decide_eq_true hm]; exact this
  · rw [if_neg hm] at this; rw [decide_eq_false hm]; exact this

/-! ### The queue, and what was seen -/
/-- All but three blocks are kept. -/
structure KW (bq ms g : Nat) (W W' : World) : Prop where
  sz : W.heap.size ≤ W'.heap.size
  blk : ∀ i, i < W.heap.size → i ≠ bq → i ≠ ms → i ≠ g → W'.heap[i]? = W.heap[i]?
theorem KW.trans {bq ms g : Nat} {X Y Z : World} (h : KW bq ms g X Y) (k : KW bq ms g Y Z) : KW bq ms g X Z :=
  ⟨Nat.le_trans h.sz k.sz, fun i a b c d => (k.blk i (Nat.lt_of_lt_of_le a h.sz) b c d).trans (h.blk i a b c d)⟩
theorem KW.below {bq ms g : Nat} {X Y : World} (h : RowKit.Below X.heap.size X Y) : KW bq ms g X Y := ⟨h.size, fun i a _ _ _ => h.block i a⟩
theorem KW.turn {bq ms g : Nat} {X Y : World} (h : X.mapTurned Y ms) : KW bq ms g X Y := ⟨h.grown.size, fun i a _ c _ => h.grown.block i a (fun e => c (by cases e; rfl))⟩
theorem KW.grown {bq ms g : Nat} {X Y : World} (h : X.grownBy Y (some g)) : KW bq ms g X Y := ⟨h.size, fun i a _ _ d => h.block i a (fun e => d (by cases e; rfl))⟩
theorem KW.set {bq ms g : Nat} (X : World) (k : Nat) (v : Value) : KW bq ms g X (X.setCell ⟨bq, k, none⟩ v) := ⟨by simp, fun i _ b _ _ => Below.heap_setCell _ _ _ _ b⟩
theorem KW.vrow {bq ms g i : Nat} {t : TypeId} {l : List Value} {W W' : World} (h : KW bq ms g W W') (r : VRow W i t l) (h1 : i ≠ bq) (h2 : i ≠ ms) (h3 : i ≠ g) : VRow W' i t l := (h.blk i r.lt h1 h2 h3).trans r
theorem below_al2 (w : World) (o : Obj) : RowKit.Below w.heap.size w (w.alloc o) := (RowKit.Below.refl _ _).alloc (Nat.le_refl _) o
end Go.Proofs.YtjpilmedlecdhaaGreat
namespace Go.Proofs.YtjpilmedlecdhaaGreat
open Go.RowKit Go.Sort Go.Shelf Go.Lib

end Go.Proofs.YtjpilmedlecdhaaGreat
namespace Go.Proofs.YtjpilmedlecdhaaGreat
open Go.RowKit Go.Sort Go.Shelf Go.Lib

/-! ### Words of a formed table -/
theorem base_okw {T : Tb} (hf : fmd T = true) (k : Nat) (hk : k < T.base.length) : Chg.okw T.q (bget T.base k).data.toList = true ∧ (bget T.base k).size ≤ 65536 := by
  have hN := pre_all (fmd_split hf).1
  have h := allB_get (fmd_split hf).2.2.1 k hk
  unfold wOk at h
  simp only [Bool.and_eq_true, decide_eq_true_eq] at h
  exact ⟨wchk_okw h.2.1, by omega⟩
theorem swap_okw {T : Tb} (hf : fmd T = true) (k : Nat) (hk : k < T.swaps.length) : Chg.okw T.q T.swaps[k].wd.data.toList = true ∧ T.swaps[k].wd.size ≤ 65536 := by
  have hN := pre_all (fmd_split hf).1
  have h := allB_get (fmd_split hf).2.2.2 k (by rw [List.length_map]; exact hk)
  unfold wOk at h
  rw [bget_eq _ _ (by rw [List.length_map]; exact hk), List.getElem_map] at h
  simp only [Bool.and_eq_true, decide_eq_true_eq] at h
  exact ⟨wchk_okw h.2.1, by omega⟩

/-! ### Places stay places -/
def OkQ (G : Gr) (q : List Pl) : Prop := ∀ p ∈ q, St G.n p.2 ∧ -1 ≤ p.1 ∧ p.1 < 16
theorem OkQ.wr {G : Gr} {q : List Pl} (h : OkQ G q) {p : Pl} (hp : St G.n p.2) (w : ByteArray) {last : Int} (h1 : -1 ≤ last) (h2 : last < 16) : OkQ G (wrP G q p w last).1 := by
  unfold wrP
  split
  · exact h
  · split
    · exact h
    · split
      · exact h
      · intro x hx
        rcases List.mem_append.1 hx with hx | hx
        · exact h x hx
        · rw [List.mem_singleton.1 hx]; exact ⟨endA_st G p.2 hp _, h1, h2⟩
theorem OkQ.bs {T : Tb} {G : Gr} {p : Pl} {x : List Pl × Int} (h : OkQ G x.1) (hp : St G.n p.2) {j : Nat} (hj : j < 16) : OkQ G (bsP T G p x j).1 := by
  unfold bsP; split
  · exact h
  · split
    · exact h.wr hp _ (by omega) (by omega)
    · exact h
theorem OkQ.ss {T : Tb} {G : Gr} {p : Pl} {x : List Pl × Int} (h : OkQ G x.1) (hp : St G.n p.2) (s : Sw) : OkQ G (ssP T G p x s).1 := by
  unfold ssP; split
  · exact h
  · split
    · exact h.wr hp _ (by omega) (by omega)
    · exact h
theorem OkQ.rb {T : Tb} {G : Gr} {p : Pl} {q : List Pl} (h : OkQ G q) (hp : St G.n p.2) : ∀ k, k ≤ 16 → OkQ G (rB T G p q k).1
  | 0, _ => h
  | k + 1, hk => by rw [rB_succ]; exact (OkQ.rb h hp k (by omega)).bs hp (by omega)
theorem OkQ.rs {T : Tb} {G : Gr} {p : Pl} {x : List Pl × Int} (h : OkQ G x.1) (hp : St G.n p.2) : ∀ k, k ≤ T.swaps.length → OkQ G (rS T G p x k).1
  | 0, _ => by unfold rS; rw [List.take_zero]; exact h
  | k + 1, hk => by rw [rS_succ _ _ _ _ _ (by omega)]; exact (OkQ.rs h hp k (by omega)).ss hp _
theorem bsP_err {T : Tb} {G : Gr} {p : Pl} {x : List Pl × Int} (h : x.2 ≠ 0) (j : Nat) : bsP T G p x j = x := if_pos h
theorem ssP_err {T : Tb} {G : Gr} {p : Pl} {x : List Pl × Int} (h : x.2 ≠ 0) (s : Sw) : ssP T G p x s = x := if_pos h
theorem bsP_go {T : Tb} {G : Gr} {p : Pl} {q : List Pl} {j : Nat} (h : frW T p.1 (j : Int) = true) : bsP T G p (q, 0) j = wrP G q p (bget T.base j) (j : Int) := by unfold bsP; simp [h]
theorem bsP_no {T : Tb} {G : Gr} {p : Pl} {q : List Pl} {j : Nat} (h : frW T p.1 (j : Int) = false) : bsP T G p (q, 0) j = (q, 0) := by unfold bsP; simp [h]
theorem ssP_go {T : Tb} {G : Gr} {p : Pl} {q : List Pl} {s : Sw} (h : frW T p.1 s.i = true) : ssP T G p (q, 0) s = wrP G q p s.wd (-1) := by unfold ssP; simp [h]
theorem ssP_no {T : Tb} {G : Gr} {p : Pl} {q : List Pl} {s : Sw} (h : frW T p.1 s.i = false) : ssP T G p (q, 0) s = (q, 0) := by unfold ssP; simp [h]
theorem foldl_bs_err {T : Tb} {G : Gr} {p : Pl} {x : List Pl × Int} (h : x.2 ≠ 0) : ∀ l : List Nat, l.foldl (bsP T G p) x = x
  | [] => rfl
  | a :: l => by rw [List.foldl_cons, bsP_err h]; exact foldl_bs_err h l
theorem foldl_ss_err {T : Tb} {G : Gr} {p : Pl} {x : List Pl × Int} (h : x.2 ≠ 0) : ∀ l : List Sw, l.foldl (ssP T G p) x = x
  | [] => rfl
  | a :: l => by rw [List.foldl_cons, ssP_err h]; exact foldl_ss_err h l
theorem rS_err {T : Tb} {G : Gr} {p : Pl} {x : List Pl × Int} (h : x.2 ≠ 0) (k : Nat) : rS T G p x k = x := foldl_ss_err h _
theorem rB_stop {T : Tb} {G : Gr} {p : Pl} {q : List Pl} {k : Nat} (h : (rB T G p q k).2 ≠ 0) : ∀ m, rB T G p q (k + m) = rB T G p q k
  | 0 => rfl
  | m + 1 => by rw [← Nat.add_assoc, rB_succ, rB_stop h m, bsP_err h]
theorem rS_stop {T : Tb} {G : Gr} {p : Pl} {x : List Pl × Int} {k : Nat} (h : (rS T G p x k).2 ≠ 0) : ∀ m, k + m ≤ T.swaps.length → rS T G p x (k + m) = rS T G p x k
  | 0, _ => rfl
  | m + 1, hm => by rw [← Nat.add_assoc, rS_succ _ _ _ _ _ (by omega), rS_stop h m (by omega), ssP_err h]
/-- An error among the Base words ends the round. -/
theorem rnd_base {T : Tb} {G : Gr} {p : Pl} {q : List Pl} {k : Nat} (hk : k ≤ T.base.length) (h : (rB T G p q k).2 ≠ 0) : (rndP T G p q).2 = (rB T G p q k).2 := by
  have h1 := rB_stop h (T.base.length - k)
  rw [Nat.add_sub_cancel' hk] at h1
  unfold rndP
  rw [h1, rS_err h]
theorem rnd_swap {T : Tb} {G : Gr} {p : Pl} {q : List Pl} {k : Nat} (hk : k ≤ T.swaps.length) (h : (rS T G p (rB T G p q T.base.length) k).2 ≠ 0) : (rndP T G p q).2 = (rS T G p (rB T G p q T.base.length) k).2 := by
  have h1 := rS_stop h (T.swaps.length - k) (by omega)
  rw [Nat.add_sub_cancel' hk] at h1
  unfold rndP
  rw [h1]
theorem kpN_err {T : Tb} {G : Gr} {f i : Nat} {q : List Pl} (h : i < q.length) (he : (rndP T G q[i] q).2 ≠ 0) : kpN T G (f + 1) i q = (rndP T G q[i] q).2 := by rw [kpN, dif_pos h, if_pos he]
theorem kpN_go {T : Tb} {G : Gr} {f i : Nat} {q : List Pl} (h : i < q.length) (he : (rndP T G q[i] q).2 = 0) : kpN T G (f + 1) i q = kpN T G f (i + 1) (rndP T G q[i] q).1 := by rw [kpN, dif_pos h, if_neg (by omega)]
theorem kpN_end {T : Tb} {G : Gr} {f i : Nat} {q : List Pl} (h : ¬ i < q.length) : kpN T G f i q = 0 := by
  cases f with
  | zero => rfl
  | succ f => rw [kpN, dif_neg h]
end Go.Proofs.YtjpilmedlecdhaaGreat
namespace Go.Proofs.YtjpilmedlecdhaaGreat
open Go.RowKit Go.Sort Go.Shelf Go.Lib

theorem chkL_fit (T : Tb) (G : Gr) : chkL T G = if fitA T G ≠ 0 then fitA T G else if rdbl T = false then 14 else kpA T G := by
  unfold chkL fitA
  by_cases h1 : fmd T = false ∨ chkG G ≠ 0
  · rw [if_pos h1, if_pos h1]; simp
  · rw [if_neg h1, if_neg h1]
    by_cases h2 : G.q ≠ T.q
    · rw [if_pos h2, if_pos h2]; simp
    · rw [if_neg h2, if_neg h2]; simp
theorem fit_zero {T : Tb} {G : Gr} (h : fitA T G = 0) : fmd T = true ∧ Vg G ∧ G.q = T.q := by
  unfold fitA at h
  split at h
  · cases h
  · rename_i h1
    split at h
    · cases h
    · rename_i h2
      refine ⟨?_, chkG_ok.1 (Classical.byContradiction fun e => h1 (.inr e)), Classical.byContradiction h2⟩
      cases hx : fmd T
      · exact absurd (.inl hx) h1
      · rfl

theorem below_alz {w W : World} (h : RowKit.Below w.heap.size w W) (o : Obj) : RowKit.Below w.heap.size w (W.alloc o) := h.alloc h.size o
/-- The first entry of a map. -/
def mapI (W : World) (m : Nat) (x : Pl) : World := Go.ChangeMaps.setBlock W m (.map #[⟨kP x, .bool true, 0⟩] 1)
theorem first_run {x : Pl} (hx : okP x) {ks : ByteArray} (hk : kP x = .string ks) {W : World} {m : Nat} (h : W.heap[m]? = some (.map #[] 0)) :
    (Instr.mapUpdate 94 (.map (some m)) (.string ks) (.bool true)).run Tryz.prog W = .ok () (mapI W m x) := by
  rw [← hk]
  obtain ⟨kl, hkey⟩ := keyP.reads x hx
  have h0 : ∀ e ∈ (#[] : Array MapEntry).toList, ∃ l, keyOf Tryz.prog 9 e.key = some l := by simp
  rcases keyP.law.find W hkey _ h0 with ⟨h1, _⟩ | ⟨j, e0, h1, h2', h3'⟩
  · simp [Instr.mapUpdate, run_underlying Tryz.underlying94, MapKept.run_getObj_map h, keyP.law.check W false hkey, h1, MapKept.run_setObj_map _ h, Result.andThen, mapI, Go.ChangeMaps.setBlock]
  · simp at h2'
theorem first_map {x : Pl} (hx : okP x) {W : World} {m : Nat} (h : W.heap[m]? = some (.map #[] 0)) :
    Mp kP okP Value.bool (mapI W m x) m (seenP [x]) ∧ W.mapTurned (mapI W m x) m := by
  obtain ⟨ks, hk⟩ : ∃ ks, kP x = .string ks := ⟨_, rfl⟩
  have h0 : Mp kP okP Value.bool W m (fun _ => none) := ⟨#[], 0, h, by simp, by simp, by simp⟩
  obtain ⟨wm, h1, h2, h3⟩ := h0.store keyP Tryz.underlying94 x hx true
  have h4 := first_run hx hk h
  rw [hk] at h1
  rw [h4] at h1
  cases h1
  exact ⟨h2.congr (fun p => by unfold mset seenP; by_cases e : p = x <;> simp [e]), h3⟩

/-- What stands below. -/
structure CB (T : Tb) (G : Gr) (p1 p2 : Option Addr) (c1 c2 : Nat) (p : Option Addr) (c : Nat) (w : World) (gb sb mb bw : Nat) (wc : World) : Prop where
  tl : VRow wc w.heap.size 25 [.int .i64 T.q, .int .i64 T.n, .slice p1 T.base.length c1, .slice p2 T.swaps.length c2]
  gl : VRow wc gb 28 [.int .i64 G.q, .int .i64 G.n, .slice p G.es.length c]
  sbx : VRow wc sb 67 [.map (some mb)]
  sw : SwB T.swaps wc mb
  x : RowKit.Below w.heap.size w wc
  tb : TbIn w T p1 p2 c1 c2
  g : Sg 3 w edE p G.es
  t10 : T10 w
  h1 : w.heap.size < bw
  h2 : gb < bw
  h3 : sb < bw
  h4 : mb < bw
  h5 : bw ≤ wc.heap.size
section
variable {T : Tb} {G : Gr} {p1 p2 : Option Addr} {c1 c2 : Nat} {p : Option Addr} {c : Nat} {w : World} {gb sb mb bw bq bs ms pb : Nat} {pl : Pl} {pp : Option Addr} {d : Nat} {wc W : World} {q : List Pl}
theorem CB.later (h : CB T G p1 p2 c1 c2 p c w gb sb mb bw wc) (hB : RowKit.Below bw wc W) : CB T G p1 p2 c1 c2 p c w gb sb mb bw W where
  tl := (hB.block _ h.h1).trans h.tl
  gl := (hB.block _ h.h2).trans h.gl
  sbx := (hB.block _ h.h3).trans h.sbx
  sw := MpB.same h.sw (hB.block _ h.h4)
  x := h.x.trans (hB.mono (Nat.le_of_lt h.h1))
  tb := h.tb
  g := h.g
  t10 := h.t10
  h1 := h.h1
  h2 := h.h2
  h3 := h.h3
  h4 := h.h4
  h5 := Nat.le_trans h.h5 hB.size
end

end Go.Proofs.YtjpilmedlecdhaaGreat
namespace Go.Proofs.YtjpilmedlecdhaaGreat
open Go.RowKit Go.Sort

/-- The bad pairs of one input, up to a second one. -/
def badR (T : Tb) (G : Gr) (i k : Nat) : List (List Int) := (List.range k).flatMap (fun j => if accA G (bget T.base i ++ bget T.base j) = true then [] else [[(i : Int), (j : Int)]])
/-- The bad pairs of the first inputs. -/
def badN (T : Tb) (G : Gr) (k : Nat) : List (List Int) := (List.range k).flatMap (fun i => badR T G i T.base.length)
def badL (T : Tb) (G : Gr) : List (List Int) := badN T G T.base.length
theorem badR_zero (T : Tb) (G : Gr) (i : Nat) : badR T G i 0 = [] := rfl
theorem badN_zero (T : Tb) (G : Gr) : badN T G 0 = [] := rfl
theorem badR_acc {T : Tb} {G : Gr} {i k : Nat} (h : accA G (bget T.base i ++ bget T.base k) = true) : badR T G i (k + 1) = badR T G i k := by
  unfold badR; rw [List.range_succ, List.flatMap_append]; simp [h]
theorem badR_bad {T : Tb} {G : Gr} {i k : Nat} (h : accA G (bget T.base i ++ bget T.base k) = false) : badR T G i (k + 1) = badR T G i k ++ [[(i : Int), (k : Int)]] := by
  unfold badR; rw [List.range_succ, List.flatMap_append]; simp [h]
theorem badN_succ (T : Tb) (G : Gr) (k : Nat) : badN T G (k + 1) = badN T G k ++ badR T G k T.base.length := by
  unfold badN; rw [List.range_succ, List.flatMap_append]; simp
theorem badR_len (T : Tb) (G : Gr) (i : Nat) : ∀ k, (badR T G i k).length ≤ k
  | 0 => by simp [badR]
  | k + 1 => by
    have := badR_len T G i k
    cases h : accA G (bget T.base i ++ bget T.base k)
    · rw [badR_bad h, List.length_append]; simp; omega
    · rw [badR_acc h]; omega
theorem badN_len (T : Tb) (G : Gr) : ∀ k, (badN T G k).length ≤ k * T.base.length
  | 0 => by simp [badN]
  | k + 1 => by
    have := badN_len T G k
    have h2 := badR_len T G k T.base.length
    rw [badN_succ, List.length_append, Nat.succ_mul]; omega
theorem badN_two {T : Tb} {G : Gr} {k : Nat} : ∀ x ∈ badN T G k, x.length = 2 := by
  intro x hx
  obtain ⟨i, _, hi⟩ := List.mem_flatMap.1 hx
  obtain ⟨j, _, hj⟩ := List.mem_flatMap.1 hi
  split at hj
  · cases hj
  · rw [List.mem_singleton.1 hj]; rfl
theorem badL_nil {T : Tb} {G : Gr} (h : chkL T G = 0) (h0 : T.swaps = []) : badL T G = [] := by
  unfold badL badN
  rw [List.flatMap_eq_nil_iff]
  intro i hi
  unfold badR
  rw [List.flatMap_eq_nil_iff]
  intro j hj
  rw [if_pos (pair_law h h0 (by simpa using hi) (by simpa using hj))]

/-! ### Lists of lists -/
abbrev LE := List Int × (Option Addr × Nat)
def lleE (x : LE) : Value := .slice x.2.1 x.1.length x.2.2
/-- A list of lists whose head row is the call's own. -/
structure LLo (w : World) (B : Nat) (v : Value) (L : List (List Int)) (X : List LE) : Prop where
  own : w.ownsRow B 40 1 v L.length (X.map lleE)
  els : X.map (·.1) = L
  rows : ∀ x ∈ X, SlT w x.2.1 x.1
/-- A list of lists that is read. -/
structure LLr (w : World) (p : Option Addr) (L : List (List Int)) (X : List LE) : Prop where
  hd : Sl w lleE p X
  els : X.map (·.1) = L
  rows : ∀ x ∈ X, SlT w x.2.1 x.1
theorem LLo.len {w : World} {B : Nat} {v : Value} {L : List (List Int)} {X : List LE} (h : LLo w B v L X) : X.length = L.length := by rw [← h.els, List.length_map]
theorem LLr.len {w : World} {p : Option Addr} {L : List (List Int)} {X : List LE} (h : LLr w p L X) : X.length = L.length := by rw [← h.els, List.length_map]
theorem LLo.read {w : World} {B : Nat} {v : Value} {L : List (List Int)} {X : List LE} (h : LLo w B v L X) : ∃ p c, v = .slice p L.length c ∧ LLr w p L X := by
  obtain ⟨p, c, rfl, hs⟩ := own_sl h.own
  exact ⟨p, c, by rw [h.len], hs, h.els, h.rows⟩
theorem LLr.below {w w' : World} {p : Option Addr} {L : List (List Int)} {X : List LE} (h : LLr w p L X) (hB : RowKit.Below w.heap.size w w') : LLr w' p L X :=
  ⟨h.hd.below hB, h.els, fun x hx => (h.rows x hx).below hB⟩
theorem LLo.below {w w' : World} {B : Nat} {v : Value} {L : List (List Int)} {X : List LE} (h : LLo w B v L X) (hB : RowKit.Below w.heap.size w w') : LLo w' B v L X :=
  ⟨h.own.below hB, h.els, fun x hx => (h.rows x hx).below hB⟩
theorem LLo.nil (w : World) (B : Nat) : LLo w B (.slice none 0 0) [] [] := ⟨World.ownsRow_nil w B 40 1, rfl, fun _ h => by cases h⟩
theorem LLr.nil (w : World) (p : Option Addr) : LLr w p [] [] := ⟨Sl.nil _ _ _, rfl, fun _ h => by cases h⟩
theorem LLr.get {w : World} {p : Option Addr} {L : List (List Int)} {X : List LE} (h : LLr w p L X) (k : Nat) (hk : k < L.length) :
    ∃ b o q d, p = some ⟨b, o, none⟩ ∧ b < w.heap.size ∧ w.cell? ⟨b, o + k, none⟩ = some (.slice q L[k].length d) ∧ SlT w q L[k] := by
  have hX : k < X.length := by rw [h.len]; exact hk
  obtain ⟨b, o, rfl, hb, hc⟩ := h.hd.get k hX
  have e : L[k] = X[k].1 := by have := h.els; subst this; rw [List.getElem_map]
  refine ⟨b, o, X[k].2.1, X[k].2.2, rfl, hb, ?_, ?_⟩
  · rw [hc k hX, e]; rfl
  · rw [e]; exact h.rows _ (List.getElem_mem hX)
/-- Behind an append of one more list. -/
theorem LLo.snoc {w w' : World} {B B' : Nat} {v v' : Value} {L : List (List Int)} {X : List LE} {l : List Int} {q : Option Addr} {d : Nat} (h : LLo w B v L X) (ho : w'.ownsRow B' 40 1 v' (L.length + 1) (X.map lleE ++ [.slice q l.length d])) (hk : KX0 3 w w') (hl : SlT w' q l) :
    LLo w' B' v' (L ++ [l]) (X ++ [(l, (q, d))]) :=
  ⟨by rw [List.length_append, List.map_append]; exact ho, by rw [List.map_append, h.els]; rfl, fun x hx => by
    rcases List.mem_append.1 hx with hx | hx
    · exact (h.rows x hx).keep hk
    · rw [List.mem_singleton.1 hx]; exact hl⟩
end Go.Proofs.YtjpilmedlecdhaaGreat
namespace Go.Proofs.YtjpilmedlecdhaaGreat
open Go.RowKit

theorem chk_split {T : Tb} {G : Gr} (h : chkL T G = 0) : fmd T = true ∧ Vg G ∧ G.q = T.q := by
  refine fit_zero ?_
  rw [chkL_fit] at h
  by_cases e : fitA T G = 0
  · exact e
  · rw [if_pos e] at h; exact h
theorem okw_app {q : Int} {a b : List UInt8} (h1 : Chg.okw q a = true) (h2 : Chg.okw q b = true) : Chg.okw q (a ++ b) = true := by
  unfold Chg.okw at *; rw [List.all_append, h1, h2]; rfl
theorem baseW_okw {T : Tb} (hf : fmd T = true) {x : Int} (h0 : 0 ≤ x) (h1 : x < T.base.length) : Chg.okw T.q (baseW T x).data.toList = true := (base_okw hf x.toNat (by omega)).1
theorem encW_okw {T : Tb} (hf : fmd T = true) : ∀ (m : Nat) (l : List Int), l.length ≤ m → l.any (outB T.base.length) = false → Chg.okw T.q (encW T l).data.toList = true
  | _, [], _, _ => by rw [encW_nil]; rfl
  | _, [x], _, ho => by
    have hx := outB_f (any_f ho 0 (by simp))
    simp only [List.getElem_cons_zero] at hx
    rw [encW_one]; exact baseW_okw hf hx.1 hx.2
  | 0, x :: y :: r, hn, _ => by simp at hn
  | m + 1, x :: y :: r, hn, ho => by
    have hx := outB_f (any_f ho 0 (by simp))
    simp only [List.getElem_cons_zero] at hx
    have ho1 : (y :: r).any (outB T.base.length) = false := by rw [List.any_cons] at ho; simp at ho ⊢; exact ho.2
    have ho2 : r.any (outB T.base.length) = false := by rw [List.any_cons] at ho1; simp at ho1 ⊢; exact ho1.2
    cases hs : swapW T.swaps x y with
    | none =>
      rw [encW_base hs, toL_app]
      exact okw_app (baseW_okw hf hx.1 hx.2) (encW_okw hf m (y :: r) (by simp at hn ⊢; omega) ho1)
    | some w =>
      obtain ⟨k, hk, _, _, h3⟩ := swapW_mem hs
      rw [encW_swap hs, toL_app]
      exact okw_app (by rw [← h3]; exact (swap_okw hf k hk).1) (encW_okw hf m r (by simp at hn ⊢; omega) ho2)
/-- All that the law asks of what is written for inputs. -/
structure InvL (T : Tb) (G : Gr) (l : List Int) (W : ByteArray) : Prop where
  enc : encA T l = (W, 0)
  dec : decA T W = (l, 0)
  acc : accA G W = true
  size : (W.size : Int) = l.length * T.n
  chk : Chg.wchk G.q W.data.toList = 0
  len : W.size ≤ 65536
theorem inv_all {T : Tb} {G : Gr} (h : chkL T G = 0) {l : List Int} (ho : l.any (outB T.base.length) = false) (hl : l.length ≤ 10) : InvL T G l (encW T l) := by
  obtain ⟨hf, hv, hq⟩ := chk_split h
  obtain ⟨h1, h2⟩ := inv_law h ho
  have hN := pre_all (fmd_split hf).1
  have hz := encW_size hf l ho
  have hb : l.length * T.n.toNat ≤ 10 * 8 := Nat.mul_le_mul hl (by omega)
  have hok := encW_okw hf l.length l (Nat.le_refl _) ho
  have hck : Chg.wchk T.q (encW T l).data.toList = 0 := Chg.wchk_ok _ _ (by omega) (by omega) (by rw [toL_len]; omega) hok
  refine ⟨encA_ok hf ho, decA_ok hf hck (by rw [hz]; exact Nat.mul_mod_left _ _) h1, h2, ?_, by rw [hq]; exact hck, by omega⟩
  rw [hz, Int.natCast_mul]
  congr 1
  omega
end Go.Proofs.YtjpilmedlecdhaaGreat
namespace Go.Proofs.YtjpilmedlecdhaaGreat
open Go.RowKit Go.Sort Go.Shelf Go.Lib

theorem endA_stop {G : Gr} {st l : List Int} {k : Nat} (h : endA G st (l.take k) = []) : endA G st l = [] := by
  have e : endA G st l = endA G (endA G st (l.take k)) (l.drop k) := by
    unfold endA
    rw [← List.foldl_append, List.take_append_drop]
  rw [e, h, endA_nil]

set_option maxRecDepth 100000 in
set_option maxHeartbeats 2000000 in
theorem lEnds_any (G : Gr) (p : Option Addr) (c : Nat) (st : List Int) (q : Option Addr) (d : Nat) (s : ByteArray) (w : World) (hin : Sg 3 w edE p G.es) (hst : Sl w (Value.int .i64) q st) (hv : Vg G) (hS : St G.n st) (hw : Chg.okw G.q s.data.toList = true) (hs : s.size ≤ 65536) :
    Calls Tryz.prog 71 #[(.agg #[.int .i64 G.q, .int .i64 G.n, .slice p G.es.length c]), .slice q st.length d, .string s] w (LsOut (endA G st (ltr s)) w) := by
  have HIN := hidI hin; have HV := hidI hv; have HS := hidI hS; have HW := hidI hw
  have HST := hidI hst
  clear hin hst hv hS hw
  obtain ⟨w0, hw0⟩ : ∃ w0, w0 = w.alloc (.cells #[.int .i64 G.q, .int .i64 G.n, .slice p G.es.length c] 28) := ⟨_, rfl⟩
  have b0 : VRow w0 w.heap.size 28 [.int .i64 G.q, .int .i64 G.n, .slice p G.es.length c] := by subst hw0; exact VRow.new w _ _
  have hB0 : RowKit.Below w.heap.size w w0 := by subst hw0; exact (RowKit.Below.refl _ _).alloc (Nat.le_refl _) _
  have hE0 : endA G st ((ltr s).take 0) = st := rfl
  go_enter Tryz.func71, Tryz.ntmps71
  go_wp2
  rw [← hw0]
  clear hw0
  go_loopw [1, 7] (fun sv iv wr => ∃ (k : Nat) (qk : Option Addr) (dk : Nat), k ≤ s.size ∧ sv = .slice qk (endA G st ((ltr s).take k)).length dk ∧ iv = .int .i64 k ∧ Sl wr (Value.int .i64) qk (endA G st ((ltr s).take k)) ∧ RowKit.Below w0.heap.size w0 wr) (fun _ iv _ => s.size - (intOf iv).toNat)
  case atStart => exact ⟨0, q, d, by omega, by rw [hE0], rfl, by rw [hE0]; exact HST.out.below hB0, RowKit.Below.refl _ _⟩
  case round =>
    obtain ⟨k, qk, dk, hk, rfl, rfl, hsl, hB⟩ := hrel
    have HSK := hidI (endA_st G st HS.out ((ltr s).take k))
    have HSTOP := hidI (@endA_stop G st (ltr s) k)
    have xr := hB0.trans (hB.mono hB0.size)
    by_cases hlt : k < s.size
    · have HN : Hid (endA G st ((ltr s).take (k + 1)) = nextA G (endA G st ((ltr s).take k)) (Chg.dig (s[k].toNat : Int))) := by rw [Hid, ltr_take s k hlt, endA_snoc]
      generalize endA G st ((ltr s).take k) = L at *
      have hltN : (k : Int) < (s.size : Int) := by omega
      by_cases hL : 0 < L.length
      · have hLi : (0 : Int) < (L.length : Int) := by omega
        have hd := okw_at HW.out k hlt
        have r0 := b0.below hB b0.lt
        go_upto_region 4 with fail
        refine region_tail 5 (by kernel_rfl) (by kernel_rfl) fun W hD => ?_
        have g0 := (r0.dr hD).at 0 rfl; have g1 := (r0.dr hD).at 1 rfl; have g2 := (r0.dr hD).at 2 rfl
        have hBW := hB.trans (hD.below _)
        have xw := xr.trans (hD.below _)
        have hslW := hsl.dr hD
        clear r0
        simp only [List.take_succ_cons, List.take_zero, List.drop_succ_cons, List.drop_zero]
        iterate 5 still_step
        refine wpStill_nil ?_
        go_wp2_with fail
        refine (lStep_any G p c L qk dk s[k] W (HIN.out.below xw) hslW HV.out HSK.out hd.1 hd.2).mono ?_
        rintro e w2 ⟨p', m', c', rfl, hown, hB2⟩
        obtain ⟨q2, d2, he, hs2⟩ := own_sl hown
        cases he
        go_wp2
        go_roundw
        case rel => exact ⟨k + 1, p', c', by omega, by rw [HN.out], by go_num, by rw [HN.out]; exact hs2, hBW.trans (hB2.mono hBW.size)⟩
        case measure => simp [intOf]; omega
      · have hLi : ¬ (0 : Int) < (L.length : Int) := by omega
        have HE : Hid (endA G st (ltr s) = L) := by
          have h0 : L = [] := List.eq_nil_of_length_eq_zero (by omega)
          rw [Hid, h0]; exact HSTOP.out h0
        clear hL
        go_wp2
        go_ret
        exact ⟨qk, dk, by rw [HE.out]; rfl, by rw [HE.out]; exact hsl, xr⟩
    · obtain rfl : k = s.size := by omega
      have hkk : ¬ ((s.size : Int)) < (s.size : Int) := by omega
      have HE : Hid (endA G st (ltr s) = endA G st ((ltr s).take s.size)) := by rw [Hid, ltr_all]
      generalize endA G st ((ltr s).take s.size) = L at *
      go_wp2
      go_ret
      exact ⟨qk, dk, by rw [HE.out]; rfl, by rw [HE.out]; exact hsl, xr⟩

set_option maxRecDepth 100000 in
set_option maxHeartbeats 1000000 in
theorem lAccepts_any (G : Gr) (p : Option Addr) (c : Nat) (s : ByteArray) (w : World) (hin : Sg 3 w edE p G.es) (hv : Vg G) (hq : G.q ≤ 16) (hs : s.size ≤ maxLen) (hc : Chg.wchk G.q s.data.toList = 0) (hl : s.size ≤ 65536) :
    Calls Tryz.prog 50 #[(.agg #[.int .i64 G.q, .int .i64 G.n, .slice p G.es.length c]), .string s] w fun e w' => e = .returned (.tuple #[.bool (accA G s), .int .i64 0]) ∧ RowKit.Below w.heap.size w w' := by
  have HIN := hidI hin; have HV := hidI hv; have HC := hidI hc
  clear hin hv hc
  obtain ⟨w0, hw0⟩ : ∃ w0, w0 = w.alloc (.cells #[.int .i64 G.q, .int .i64 G.n, .slice p G.es.length c] 28) := ⟨_, rfl⟩
  have b0 : VRow w0 w.heap.size 28 [.int .i64 G.q, .int .i64 G.n, .slice p G.es.length c] := by subst hw0; exact VRow.new w _ _
  have hB0 : RowKit.Below w.heap.size w w0 := by subst hw0; exact (RowKit.Below.refl _ _).alloc (Nat.le_refl _) _
  go_enter Tryz.func50, Tryz.ntmps50
  go_wp2_with fail
  rw [← hw0]
  clear hw0
  refine (lSpells_any G p c s w0 (HIN.out.below hB0) HV.out hq hs).mono ?_
  rw [HC.out]
  rintro e w1 ⟨rfl, hB1⟩
  have x1 := hB0.trans (hB1.mono hB0.size)
  have b1 := b0.below hB1 b0.lt
  go_upto_region 4 with fail
  have g0 := b1.at 0 rfl; have g1 := b1.at 1 rfl; have g2 := b1.at 2 rfl
  have zb : w.heap.size < w1.heap.size := b1.lt
  have HIX : Hid (∀ W, RowKit.Below w1.heap.size w1 W → Sg 3 W edE p G.es) := fun W h => HIN.out.below (x1.trans (h.mono x1.size))
  have HA : Hid (accA G s = decide (0 < (endA G (upto G.n.toNat) (ltr s)).length)) := rfl
  have HUP := hidI (St.upto HV.out.n1)
  have HOK := hidI (wchk_okw HC.out)
  clear b0 hB0 hB1 b1
  generalize hL : endA G (upto G.n.toNat) (ltr s) = L at *
  have HL := hidI hL
  clear hL
  go_cut [4, 5] (fun s4 s5 wx => s4 = .bool (decide (0 < L.length)) ∧ s5 = .int .i64 0 ∧ RowKit.Below w1.heap.size w1 wx)
  case first =>
    go_region_held3 (fun w' => w'.cell? ⟨w.heap.size, 0, none⟩ = some (.int .i64 G.q) ∧ w'.cell? ⟨w.heap.size, 1, none⟩ = some (.int .i64 G.n) ∧ w'.cell? ⟨w.heap.size, 2, none⟩ = some (.slice p G.es.length c) ∧ RowKit.Below w1.heap.size w1 w')
      (first | (go_split_ands; refine ⟨?_, ?_, ?_, ?_⟩ <;> first | assumption | (go_keep; done) | exact below_drewN (RowKit.Below.refl _ _) 1 | exact (hBa.cell (Nat.lt_of_lt_of_le zb (RowKit.Below.size (by assumption)))).trans (by assumption) | exact (hBb.cell (Nat.lt_of_lt_of_le zb (RowKit.Below.size (by assumption)))).trans (by assumption) | exact RowKit.Below.trans (by assumption) (hBa.mono (RowKit.Below.size (by assumption))) | exact RowKit.Below.trans (by assumption) (hBb.mono (RowKit.Below.size (by assumption)))))
      (first
        | (go_at_call 72; go_split_ands; refine (lStates_any G p c _ HV.out).mono ?_; rintro e wA ⟨q, d, rfl, hsl, hBa⟩)
        | (go_at_call 71; go_split_ands; refine (lEnds_any G p c (upto G.n.toNat) q d s _ (HIX.out _ (by assumption)) hsl HV.out HUP.out HOK.out hl).mono ?_; rw [HL.out]; rintro e wB ⟨q3, d3, rfl, _, hBb⟩))
    all_goals
      go_wp2_with fail
      go_meet
      exact ⟨rfl, rfl, RowKit.Below.trans (by assumption) (hBb.mono (RowKit.Below.size (by assumption)))⟩
  case rest =>
    obtain ⟨rfl, rfl, hB2⟩ := hcut
    go_wp2
    go_ret2
    refine ⟨?_, x1.trans (hB2.mono x1.size)⟩
    rw [HA.out]; rfl
end Go.Proofs.YtjpilmedlecdhaaGreat
namespace Go.Proofs.YtjpilmedlecdhaaGreat
open Go.RowKit Go.Sort Go.Shelf Go.Lib

set_option maxRecDepth 100000 in
set_option maxHeartbeats 1000000 in
theorem lkAccepts_any (G : Gr) (p : Option Addr) (c : Nat) (s : ByteArray) (w : World) (hin : Sg 3 w edE p G.es) (hv : Vg G) (hq : G.q ≤ 16) (hs : s.size ≤ maxLen) (hc : Chg.wchk G.q s.data.toList = 0) (hl : s.size ≤ 65536) :
    Calls Tryz.prog 27 #[(.agg #[.int .i64 G.q, .int .i64 G.n, .slice p G.es.length c]), .string s] w fun e w' => e = .returned (.bool (accA G s)) ∧ RowKit.Below w.heap.size w w' := by
  obtain ⟨w0, hw0⟩ : ∃ w0, w0 = w.alloc (.cells #[.int .i64 G.q, .int .i64 G.n, .slice p G.es.length c] 28) := ⟨_, rfl⟩
  have b0 : VRow w0 w.heap.size 28 [.int .i64 G.q, .int .i64 G.n, .slice p G.es.length c] := by subst hw0; exact VRow.new w _ _
  have hB0 : RowKit.Below w.heap.size w w0 := by subst hw0; exact (RowKit.Below.refl _ _).alloc (Nat.le_refl _) _
  have HA := hidI (lAccepts_any G p c s w0 (hin.below hB0) hv hq hs hc hl)
  have g0 := b0.at 0 rfl; have g1 := b0.at 1 rfl; have g2 := b0.at 2 rfl
  clear hin hv hc
  generalize accA G s = r at *
  go_enter Tryz.func27, Tryz.ntmps27
  go_upto_region 1 with fail
  rw [← hw0]
  clear hw0
  go_wp2_with fail
  refine HA.out.mono ?_
  rintro e w1 ⟨rfl, hB1⟩
  go_wp2
  go_ret
  exact ⟨rfl, hB0.trans (hB1.mono hB0.size)⟩

/-- What a table's two words together are. -/
structure WdP (T : Tb) (G : Gr) (a b : ByteArray) : Prop where
  s1 : a.size ≤ 8
  s2 : b.size ≤ 8
  chk : Chg.wchk G.q (a ++ b).data.toList = 0
theorem wdP {T : Tb} {G : Gr} (hf : fmd T = true) (hq : G.q = T.q) {i j : Nat} (hi : i < T.base.length) (hj : j < T.base.length) : WdP T G (bget T.base i) (bget T.base j) := by
  have hN := pre_all (fmd_split hf).1
  have h1 := base_sz hf i hi
  have h2 := base_sz hf j hj
  have e1 : baseW T (i : Int) = bget T.base i := by simp [baseW]
  have e2 : baseW T (j : Int) = bget T.base j := by simp [baseW]
  have o1 := baseW_okw hf (x := (i : Int)) (by omega) (by omega)
  have o2 := baseW_okw hf (x := (j : Int)) (by omega) (by omega)
  rw [e1] at o1
  rw [e2] at o2
  refine ⟨by omega, by omega, ?_⟩
  rw [hq]
  have ho : Chg.okw T.q (bget T.base i ++ bget T.base j).data.toList = true := by rw [toL_app]; exact okw_app o1 o2
  refine Chg.wchk_ok _ _ (by omega) (by omega) ?_ ho
  rw [toL_app, List.length_append, toL_len, toL_len]; omega
theorem app_le {a b : ByteArray} (h1 : a.size ≤ 8) (h2 : b.size ≤ 8) : (a ++ b).size ≤ 16 := by rw [ByteArray.size_append]; omega

def RetLL (L : List (List Int)) (w : World) (e : Ending) (w' : World) : Prop := ∃ q d X, e = .returned (.slice q L.length d) ∧ LLr w' q L X ∧ RowKit.Below w.heap.size w w'
def RetLLI (L : List (List Int)) (k : Int) (w : World) (e : Ending) (w' : World) : Prop := ∃ q d X, e = .returned (.tuple #[.slice q L.length d, .int .i64 k]) ∧ LLr w' q L X ∧ RowKit.Below w.heap.size w w'
theorem infoSI : (Tryz.prog.info? 40).map (fun i => (i.zero, i.size, i.bytes)) = some (some (.slice none 0 0), 1, 24) := by kernel_rfl
theorem slT_row {w : World} {b : Nat} {l : List Int} (h : VRow w b 3 (l.map (Value.int .i64))) : SlT w (some ⟨b, 0, none⟩) l :=
  ⟨Sl.of_vrow h, fun b' o z e => by cases e; exact ⟨_, _, h⟩⟩
theorem LLo.lt {w : World} {B : Nat} {v : Value} {L : List (List Int)} {X : List LE} (h : LLo w B v L X) : ∀ j, v.ownBlock = some j → B ≤ j ∧ j < w.heap.size := h.own.lt

set_option maxRecDepth 100000 in
set_option maxHeartbeats 4000000 in
theorem lkbad_any (T : Tb) (p1 p2 : Option Addr) (c1 c2 : Nat) (G : Gr) (p : Option Addr) (c : Nat) (w : World) (hin : TbIn w T p1 p2 c1 c2) (hG : Sg 3 w edE p G.es) (hf : fmd T = true) (hv : Vg G) (hq : G.q = T.q) :
    Calls Tryz.prog 16 #[(.agg #[.int .i64 T.q, .int .i64 T.n, .slice p1 T.base.length c1, .slice p2 T.swaps.length c2]), (.agg #[.int .i64 G.q, .int .i64 G.n, .slice p G.es.length c])] w (RetLL (badL T G) w) := by
  obtain ⟨i0, hi0, hz0, hz1, hz3⟩ := info_parts infoSI
  obtain ⟨w0, hw0⟩ : ∃ w0, w0 = (w.alloc (.cells #[.int .i64 T.q, .int .i64 T.n, .slice p1 T.base.length c1, .slice p2 T.swaps.length c2] 25)).alloc (.cells #[.int .i64 G.q, .int .i64 G.n, .slice p G.es.length c] 28) := ⟨_, rfl⟩
  have b0 : VRow w0 w.heap.size 25 [.int .i64 T.q, .int .i64 T.n, .slice p1 T.base.length c1, .slice p2 T.swaps.length c2] := by subst hw0; exact (VRow.new w _ _).alloc _
  have d0 : VRow w0 (w.heap.size + 1) 28 [.int .i64 G.q, .int .i64 G.n, .slice p G.es.length c] := by subst hw0; exact VRow.new1 w _ _ _
  have hB0 : RowKit.Below w.heap.size w w0 := by subst hw0; exact ((RowKit.Below.refl _ _).alloc (Nat.le_refl _) _).alloc (by simp) _
  have hN := pre_all (fmd_split hf).1
  have hN16 : T.base.length ≤ 16 := by omega
  have hq16 : G.q ≤ 16 := by rw [hq]; omega
  have HBS := hidI (hin.below hB0).base
  have HWD := hidI (fun (i j : Nat) (hi : i < T.base.length) (hj : j < T.base.length) => wdP (G := G) hf hq hi hj)
  have HAC := hidI (fun (s : ByteArray) (W : World) (hB : RowKit.Below w.heap.size w W) (h1 : Chg.wchk G.q s.data.toList = 0) (h2 : s.size ≤ 16) => lkAccepts_any G p c s W (hG.below hB) hv hq16 (by unfold maxLen; omega) h1 (by omega))
  have HBG := hidI (fun (k : Nat) (hk : k < T.base.length) => bget_eq T.base k hk)
  have HLN : Hid (badL T G = badN T G T.base.length) := rfl
  have HO := hidI (LLo.nil w0 w0.heap.size)
  have HB0 := hidI hB0; have HB := hidI b0; have HD := hidI d0
  have f2 := b0.at 2 rfl
  clear hin hG hf hv hq hN hB0 b0 d0
  generalize badL T G = R at *
  go_enter Tryz.func16, Tryz.ntmps16
  go_upto_region 1 with fail
  rw [← hw0]
  clear hw0
  go_wp2_with fail
  clear f2
  go_loopw [5, 13] (fun v5 iv W => ∃ (k : Nat) (X : List LE), k ≤ T.base.length ∧ iv = .int .i64 k ∧ LLo W w0.heap.size v5 (badN T G k) X ∧ RowKit.Below w0.heap.size w0 W) (fun _ iv _ => T.base.length - (intOf iv).toNat)
  case atStart => exact ⟨0, [], by omega, rfl, HO.out, RowKit.Below.refl _ _⟩
  case round =>
    obtain ⟨k, X, hk, rfl, ho, hB⟩ := hrel
    by_cases hlt : k < T.base.length
    · have hltI : (k : Int) < (T.base.length : Int) := by omega
      have f2 := (HB.out.below hB HB.out.lt).at 2 rfl
      obtain ⟨bb, oo, rfl, hb1, hc1⟩ := (HBS.out.below hB).get k hlt
      have e0 := hc1 k hlt
      have hle := badN_len T G k
      have HNS := hidI (badN_succ T G k)
      have HRZ := hidI (badR_zero T G k)
      rw [← HBG.out k hlt] at e0
      have hkn : k * T.base.length ≤ 16 * 16 := Nat.mul_le_mul (by omega) hN16
      generalize badN T G k = L at *
      clear hc1
      obtain ⟨wo, hwo⟩ : ∃ wo : World, wo = wr := ⟨_, rfl⟩
      go_wp2_with fail
      clear f2 e0
      go_loopw [5, 21] (fun v5 iv W => ∃ (j : Nat) (Y : List LE), j ≤ T.base.length ∧ iv = .int .i64 j ∧ LLo W w0.heap.size v5 (L ++ badR T G k j) Y ∧ RowKit.Below w0.heap.size w0 W) (fun _ iv _ => T.base.length - (intOf iv).toNat)
      case atStart => exact ⟨0, X, by omega, rfl, by rw [HRZ.out, List.append_nil]; exact ho, hB⟩
      case round =>
        clear ho hB hwo
        obtain ⟨j, Y, hj, rfl, ho, hB⟩ := hrel
        have hrl := badR_len T G k j
        by_cases hlt2 : j < T.base.length
        · have hltJ : (j : Int) < (T.base.length : Int) := by omega
          have hD := HD.out.below hB HD.out.lt
          have g0 := hD.at 0 rfl; have g1 := hD.at 1 rfl; have g2 := hD.at 2 rfl
          obtain ⟨bb', oo', hp', hb2, hc2⟩ := (HBS.out.below hB).get j hlt2
          cases hp'
          have e1 := hc2 j hlt2
          rw [← HBG.out j hlt2] at e1
          have hwd := HWD.out k j hlt hlt2
          have HRA := hidI (fun h => @badR_acc T G k j h)
          have HRB := hidI (fun h => @badR_bad T G k j h)
          have hs1 := hwd.s1; have hs2 := hwd.s2
          have hml : (bget T.base k).size + (bget T.base j).size ≤ maxLen := by unfold maxLen; omega
          have HC := hidI (HAC.out (bget T.base k ++ bget T.base j) wr (HB0.out.trans (hB.mono HB0.out.size)) hwd.chk (app_le hs1 hs2))
          generalize accA G (bget T.base k ++ bget T.base j) = r at *
          generalize bget T.base k = ba at *
          generalize bget T.base j = bj at *
          clear hc2 hwd
          go_wp2_with fail
          refine HC.out.mono ?_
          rintro e w2 ⟨rfl, hB2⟩
          have ho2 := ho.below hB2
          have hB3 := hB.trans (hB2.mono hB.size)
          clear hD g0 g1 g2 e1 hb2 HC ho hB hB2
          cases r
          · have HQ := hidI (HRB.out rfl)
            have hz2 := hB3.size
            have hlw := ho2.lt
            clear HRA HRB HNS
            have hMl : (L ++ badR T G k j).length ≤ 272 := by rw [List.length_append]; omega
            have HQ : Hid (L ++ badR T G k (j + 1) = L ++ badR T G k j ++ [[(k : Int), (j : Int)]]) := by rw [Hid, HQ.out, List.append_assoc]
            generalize L ++ badR T G k j = M at *
            have hnew := cell_one_at (w2.alloc (.cells #[.int .i64 k, .int .i64 j] 3)) (.slice (some ⟨w2.heap.size, 0, none⟩) 2 2) 40 (w2.heap.size + 1) (by simp)
            have hownA := (ho2.own.alloc (.cells #[.int .i64 k, .int .i64 j] 3)).alloc (.cells #[.slice (some ⟨w2.heap.size, 0, none⟩) 2 2] 40)
            have n3 : VRow ((w2.alloc (.cells #[.int .i64 k, .int .i64 j] 3)).alloc (.cells #[.slice (some ⟨w2.heap.size, 0, none⟩) 2 2] 40)) w2.heap.size 3 ([(k : Int), (j : Int)].map (Value.int .i64)) := (VRow.new w2 _ _).alloc _
            have hBa : RowKit.Below w2.heap.size w2 ((w2.alloc (.cells #[.int .i64 k, .int .i64 j] 3)).alloc (.cells #[.slice (some ⟨w2.heap.size, 0, none⟩) 2 2] 40)) := ((RowKit.Below.refl _ _).alloc (Nat.le_refl _) _).alloc (by simp) _
            go_wp2_with (at_builtin; refine wpList_append_own _ rfl _ _ 47 rfl w0.heap.size 40 i0 (.slice none 0 0) 1 24 Tryz.underlying47 hi0 hz0 hz1 hz3 rfl (by decide) _ _ _ rfl hownA ⟨w2.heap.size + 1, 0, none⟩ 1 1 [.slice (some ⟨w2.heap.size, 0, none⟩) 2 2] rfl rfl hnew (by simp [Value.oneCell']) (by simp [maxLen]; omega) (by omega) (by simp only [World.size_alloc]; omega) ?_; intro v' w4 hown' hgrow _)
            have hlw2 := hownA.lt
            have hk4 : KX0 3 w2 w4 := (KX0.below hBa).trans (KX0.grown hgrow (own_typed hownA) (by decide))
            have hl4 : SlT w4 (some ⟨w2.heap.size, 0, none⟩) [(k : Int), (j : Int)] := (slT_row n3).keep (KX0.grown hgrow (own_typed hownA) (by decide))
            have ho4 := ho2.snoc hown' hk4 hl4
            have hB4 : RowKit.Below w0.heap.size w0 w4 := (hB3.trans (hBa.mono hz2)).grown hgrow (by simp; omega) (fun j e => by have := (hlw2 j e).1; omega)
            go_roundw
            case rel => exact ⟨j + 1, _, by omega, by go_num, by rw [HQ.out]; exact ho4, hB4⟩
            case measure => simp [intOf]; omega
          · have HQ := hidI (HRA.out rfl)
            clear HRA HRB
            go_wp2_with fail
            go_roundw
            case rel => exact ⟨j + 1, Y, by omega, by go_num, by rw [HQ.out]; exact ho2, hB3⟩
            case measure => simp [intOf]; omega
        · obtain rfl : j = T.base.length := by omega
          have hltJ : ¬ (T.base.length : Int) < (T.base.length : Int) := by omega
          go_wp2_with fail
          go_roundw
          case rel => exact ⟨k + 1, Y, by omega, by go_num, by rw [HNS.out]; exact ho, hB⟩
          case measure => simp [intOf]; omega
    · obtain rfl : k = T.base.length := by omega
      have hltI : ¬ (T.base.length : Int) < (T.base.length : Int) := by omega
      obtain ⟨q, d, rfl, hr⟩ := ho.read
      rw [← HLN.out] at hr
      have HR := hidI hr
      have HL2 : Hid ((badN T G T.base.length).length = R.length) := by rw [Hid, HLN.out]
      go_wp2_with fail
      go_ret
      exact ⟨q, d, X, by show Ending.returned (.slice q (badN T G T.base.length).length d) = _; rw [HL2.out], HR.out, HB0.out.trans (hB.mono HB0.out.size)⟩
end Go.Proofs.YtjpilmedlecdhaaGreat
namespace Go.Proofs.YtjpilmedlecdhaaGreat
open Go.RowKit Go.Sort Go.Shelf Go.Lib

set_option maxRecDepth 100000 in
set_option maxHeartbeats 400000 in
theorem indexSw12 (l : List Sw) (ba bb : Nat) (P : Sw → Bool) (p : Option Addr) (c : Nat) (w : World) (hp : Sg 3 w swE p l) (hl : l.length ≤ 9223372036854775807)
    (hF : ∀ k (hk : k < l.length) (W : World), RowKit.Below w.heap.size w W → Calls Tryz.prog 21 #[.agg #[.int .i64 l[k].i, .int .i64 l[k].j, .string l[k].wd], .pointer (some ⟨ba, 0, none⟩), .pointer (some ⟨bb, 0, none⟩)] W fun e w' => e = .returned (.bool (P l[k])) ∧ RowKit.Below W.heap.size W w') :
    Calls Tryz.prog 49 #[.slice p l.length c, .func (.func 21) #[] #[.pointer (some ⟨ba, 0, none⟩), .pointer (some ⟨bb, 0, none⟩)]] w fun e w' => e = .returned (.int .i64 (idxP P l)) ∧ RowKit.Below w.heap.size w w' := by
  have HF := hidI hF
  clear hF
  go_enter Tryz.func49, Tryz.ntmps49
  go_wp2
  go_loopw [8] (fun iv wr => ∃ k : Nat, k ≤ l.length ∧ iv = .int .i64 k ∧ Hid (∀ m (hm : m < l.length), m < k → P l[m] = false) ∧ RowKit.Below w.heap.size w wr) (fun iv _ => l.length - (intOf iv).toNat)
  case atStart => exact ⟨0, by omega, rfl, fun _ _ h => by omega, RowKit.Below.refl _ _⟩
  case round =>
    obtain ⟨k, hk, rfl, hm, hB⟩ := hrel
    by_cases hlt : k < l.length
    · obtain ⟨b1, o1, rfl, hb1, e0, e1, e2⟩ := (hp.below hB).get3 k hlt rfl
      have HFK := hidI (fun W hB => HF.out k hlt W hB)
      have HM : Hid (P l[k] = false → ∀ m (hm : m < l.length), m < k + 1 → P l[m] = false) := fun he m h1 h2 => by
        rcases Nat.lt_succ_iff_lt_or_eq.1 h2 with h3 | h3
        · exact hm.out m h1 h3
        · subst h3; exact he
      have HX := hidI (idxP_hit P l k hlt hm.out)
      generalize P l[k] = r at *
      generalize l[k] = x at *
      skip
      go_wp2_with fail
      refine (HFK.out _ hB).mono ?_
      rintro e w1 ⟨rfl, hB1⟩
      have hB2 := hB.trans (hB1.mono hB.size)
      cases r
      · have HM2 := hidI (HM.out rfl)
        clear HX HM
        go_wp2
        go_roundw
        case rel => exact ⟨k + 1, by omega, by go_num, HM2, hB2⟩
        case measure => simp [intOf]; omega
      · have HX2 := hidI (HX.out rfl)
        clear HM HX
        go_wp2
        go_ret
        exact ⟨ret_int HX2.out.symm, hB2⟩
    · have HM := hidI (idxP_miss P l (fun m h => hm.out m h (by omega)))
      go_wp2
      go_ret
      exact ⟨ret_int HM.out.symm, hB⟩

set_option maxHeartbeats 400000 in
theorem containsSw12 (l : List Sw) (ba bb : Nat) (P : Sw → Bool) (p : Option Addr) (c : Nat) (w : World) (hp : Sg 3 w swE p l) (hl : l.length ≤ 9223372036854775807)
    (hF : ∀ k (hk : k < l.length) (W : World), RowKit.Below w.heap.size w W → Calls Tryz.prog 21 #[.agg #[.int .i64 l[k].i, .int .i64 l[k].j, .string l[k].wd], .pointer (some ⟨ba, 0, none⟩), .pointer (some ⟨bb, 0, none⟩)] W fun e w' => e = .returned (.bool (P l[k])) ∧ RowKit.Below W.heap.size W w') (r : Bool) (hr : l.any P = r) :
    Calls Tryz.prog 20 #[.slice p l.length c, .func (.func 21) #[] #[.pointer (some ⟨ba, 0, none⟩), .pointer (some ⟨bb, 0, none⟩)]] w fun e w' => e = .returned (.bool r) ∧ RowKit.Below w.heap.size w w' := by
  have hA : Hid (decide (0 ≤ idxP P l) = r) := by unfold Hid; rw [idxP_any]; exact hr
  have HI := hidI (indexSw12 l ba bb P p c w hp hl hF)
  clear hr hF
  generalize idxP P l = ix at *
  go_enter Tryz.func20, Tryz.ntmps20
  go_wp2_with fail
  refine HI.out.mono ?_
  rintro e w1 ⟨rfl, hB1⟩
  go_wp2
  go_ret
  exact ⟨ret_bool hA.out, hB1⟩

set_option maxRecDepth 100000 in
set_option maxHeartbeats 400000 in
theorem indexSw2 (l : List Sw) (ba : Nat) (P : Sw → Bool) (p : Option Addr) (c : Nat) (w : World) (hp : Sg 3 w swE p l) (hl : l.length ≤ 9223372036854775807)
    (hF : ∀ k (hk : k < l.length) (W : World), RowKit.Below w.heap.size w W → Calls Tryz.prog 24 #[.agg #[.int .i64 l[k].i, .int .i64 l[k].j, .string l[k].wd], .pointer (some ⟨ba, 0, none⟩)] W fun e w' => e = .returned (.bool (P l[k])) ∧ RowKit.Below W.heap.size W w') :
    Calls Tryz.prog 49 #[.slice p l.length c, .func (.func 24) #[] #[.pointer (some ⟨ba, 0, none⟩)]] w fun e w' => e = .returned (.int .i64 (idxP P l)) ∧ RowKit.Below w.heap.size w w' := by
  have HF := hidI hF
  clear hF
  go_enter Tryz.func49, Tryz.ntmps49
  go_wp2
  go_loopw [8] (fun iv wr => ∃ k : Nat, k ≤ l.length ∧ iv = .int .i64 k ∧ Hid (∀ m (hm : m < l.length), m < k → P l[m] = false) ∧ RowKit.Below w.heap.size w wr) (fun iv _ => l.length - (intOf iv).toNat)
  case atStart => exact ⟨0, by omega, rfl, fun _ _ h => by omega, RowKit.Below.refl _ _⟩
  case round =>
    obtain ⟨k, hk, rfl, hm, hB⟩ := hrel
    by_cases hlt : k < l.length
    · obtain ⟨b1, o1, rfl, hb1, e0, e1, e2⟩ := (hp.below hB).get3 k hlt rfl
      have HFK := hidI (fun W hB => HF.out k hlt W hB)
      have HM : Hid (P l[k] = false → ∀ m (hm : m < l.length), m < k + 1 → P l[m] = false) := fun he m h1 h2 => by
        rcases Nat.lt_succ_iff_lt_or_eq.1 h2 with h3 | h3
        · exact hm.out m h1 h3
        · subst h3; exact he
      have HX := hidI (idxP_hit P l k hlt hm.out)
      generalize P l[k] = r at *
      generalize l[k] = x at *
      skip
      go_wp2_with fail
      refine (HFK.out _ hB).mono ?_
      rintro e w1 ⟨rfl, hB1⟩
      have hB2 := hB.trans (hB1.mono hB.size)
      cases r
      · have HM2 := hidI (HM.out rfl)
        clear HX HM
        go_wp2
        go_roundw
        case rel => exact ⟨k + 1, by omega, by go_num, HM2, hB2⟩
        case measure => simp [intOf]; omega
      · have HX2 := hidI (HX.out rfl)
        clear HM HX
        go_wp2
        go_ret
        exact ⟨ret_int HX2.out.symm, hB2⟩
    · have HM := hidI (idxP_miss P l (fun m h => hm.out m h (by omega)))
      go_wp2
      go_ret
      exact ⟨ret_int HM.out.symm, hB⟩

set_option maxHeartbeats 400000 in
theorem containsSw2 (l : List Sw) (ba : Nat) (P : Sw → Bool) (p : Option Addr) (c : Nat) (w : World) (hp : Sg 3 w swE p l) (hl : l.length ≤ 9223372036854775807)
    (hF : ∀ k (hk : k < l.length) (W : World), RowKit.Below w.heap.size w W → Calls Tryz.prog 24 #[.agg #[.int .i64 l[k].i, .int .i64 l[k].j, .string l[k].wd], .pointer (some ⟨ba, 0, none⟩)] W fun e w' => e = .returned (.bool (P l[k])) ∧ RowKit.Below W.heap.size W w') (r : Bool) (hr : l.any P = r) :
    Calls Tryz.prog 20 #[.slice p l.length c, .func (.func 24) #[] #[.pointer (some ⟨ba, 0, none⟩)]] w fun e w' => e = .returned (.bool r) ∧ RowKit.Below w.heap.size w w' := by
  have hA : Hid (decide (0 ≤ idxP P l) = r) := by unfold Hid; rw [idxP_any]; exact hr
  have HI := hidI (indexSw2 l ba P p c w hp hl hF)
  clear hr hF
  generalize idxP P l = ix at *
  go_enter Tryz.func20, Tryz.ntmps20
  go_wp2_with fail
  refine HI.out.mono ?_
  rintro e w1 ⟨rfl, hB1⟩
  go_wp2
  go_ret
  exact ⟨ret_bool hA.out, hB1⟩

set_option maxRecDepth 100000 in
set_option maxHeartbeats 400000 in
theorem indexLL11 (l : List (List Int)) (X : List LE) (ba bb : Nat) (P : (List Int) → Bool) (p : Option Addr) (c : Nat) (w : World) (hp : LLr w p l X) (hl : l.length ≤ 9223372036854775807)
    (hF : ∀ k (hk : k < l.length) (W : World), RowKit.Below w.heap.size w W → ∀ (q : Option Addr) (d : Nat), Sl W (Value.int .i64) q l[k] → Calls Tryz.prog 19 #[.slice q l[k].length d, .pointer (some ⟨ba, 0, none⟩), .pointer (some ⟨bb, 0, none⟩)] W fun e w' => e = .returned (.bool (P l[k])) ∧ RowKit.Below W.heap.size W w') :
    Calls Tryz.prog 48 #[.slice p l.length c, .func (.func 19) #[] #[.pointer (some ⟨ba, 0, none⟩), .pointer (some ⟨bb, 0, none⟩)]] w fun e w' => e = .returned (.int .i64 (idxP P l)) ∧ RowKit.Below w.heap.size w w' := by
  have HF := hidI hF
  clear hF
  go_enter Tryz.func48, Tryz.ntmps48
  go_wp2
  go_loopw [8] (fun iv wr => ∃ k : Nat, k ≤ l.length ∧ iv = .int .i64 k ∧ Hid (∀ m (hm : m < l.length), m < k → P l[m] = false) ∧ RowKit.Below w.heap.size w wr) (fun iv _ => l.length - (intOf iv).toNat)
  case atStart => exact ⟨0, by omega, rfl, fun _ _ h => by omega, RowKit.Below.refl _ _⟩
  case round =>
    obtain ⟨k, hk, rfl, hm, hB⟩ := hrel
    by_cases hlt : k < l.length
    · obtain ⟨b1, o1, q1, d1, rfl, hb1, e0, s1⟩ := (hp.below hB).get k hlt
      have HFK := hidI (fun W (hW : W = wr) => HF.out k hlt W (by rw [hW]; exact hB) q1 d1 (by rw [hW]; exact s1.1))
      have HM : Hid (P l[k] = false → ∀ m (hm : m < l.length), m < k + 1 → P l[m] = false) := fun he m h1 h2 => by
        rcases Nat.lt_succ_iff_lt_or_eq.1 h2 with h3 | h3
        · exact hm.out m h1 h3
        · subst h3; exact he
      have HX := hidI (idxP_hit P l k hlt hm.out)
      generalize P l[k] = r at *
      generalize l[k] = x at *
      skip
      go_wp2_with fail
      refine (HFK.out _ rfl).mono ?_
      rintro e w1 ⟨rfl, hB1⟩
      have hB2 := hB.trans (hB1.mono hB.size)
      cases r
      · have HM2 := hidI (HM.out rfl)
        clear HX HM
        go_wp2
        go_roundw
        case rel => exact ⟨k + 1, by omega, by go_num, HM2, hB2⟩
        case measure => simp [intOf]; omega
      · have HX2 := hidI (HX.out rfl)
        clear HM HX
        go_wp2
        go_ret
        exact ⟨ret_int HX2.out.symm, hB2⟩
    · have HM := hidI (idxP_miss P l (fun m h => hm.out m h (by omega)))
      go_wp2
      go_ret
      exact ⟨ret_int HM.out.symm, hB⟩

set_option maxHeartbeats 400000 in
theorem containsLL11 (l : List (List Int)) (X : List LE) (ba bb : Nat) (P : (List Int) → Bool) (p : Option Addr) (c : Nat) (w : World) (hp : LLr w p l X) (hl : l.length ≤ 9223372036854775807)
    (hF : ∀ k (hk : k < l.length) (W : World), RowKit.Below w.heap.size w W → ∀ (q : Option Addr) (d : Nat), Sl W (Value.int .i64) q l[k] → Calls Tryz.prog 19 #[.slice q l[k].length d, .pointer (some ⟨ba, 0, none⟩), .pointer (some ⟨bb, 0, none⟩)] W fun e w' => e = .returned (.bool (P l[k])) ∧ RowKit.Below W.heap.size W w') (r : Bool) (hr : l.any P = r) :
    Calls Tryz.prog 18 #[.slice p l.length c, .func (.func 19) #[] #[.pointer (some ⟨ba, 0, none⟩), .pointer (some ⟨bb, 0, none⟩)]] w fun e w' => e = .returned (.bool r) ∧ RowKit.Below w.heap.size w w' := by
  have hA : Hid (decide (0 ≤ idxP P l) = r) := by unfold Hid; rw [idxP_any]; exact hr
  have HI := hidI (indexLL11 l X ba bb P p c w hp hl hF)
  clear hr hF
  generalize idxP P l = ix at *
  go_enter Tryz.func18, Tryz.ntmps18
  go_wp2_with fail
  refine HI.out.mono ?_
  rintro e w1 ⟨rfl, hB1⟩
  go_wp2
  go_ret
  exact ⟨ret_bool hA.out, hB1⟩

set_option maxRecDepth 100000 in
set_option maxHeartbeats 400000 in
theorem indexStr3 (l : List ByteArray) (ba bb bc bd be : Nat) (P : ByteArray → Bool) (p : Option Addr) (c : Nat) (w : World) (hp : Sl w Value.string p l) (hl : l.length ≤ 9223372036854775807)
    (hF : ∀ k (hk : k < l.length) (W : World), RowKit.Below w.heap.size w W → Calls Tryz.prog 26 #[.string l[k], .pointer (some ⟨ba, 0, none⟩), .pointer (some ⟨bb, 0, none⟩), .pointer (some ⟨bc, 0, none⟩), .pointer (some ⟨bd, 0, none⟩), .pointer (some ⟨be, 0, none⟩)] W fun e w' => e = .returned (.bool (P l[k])) ∧ RowKit.Below W.heap.size W w') :
    Calls Tryz.prog 25 #[.slice p l.length c, .func (.func 26) #[] #[.pointer (some ⟨ba, 0, none⟩), .pointer (some ⟨bb, 0, none⟩), .pointer (some ⟨bc, 0, none⟩), .pointer (some ⟨bd, 0, none⟩), .pointer (some ⟨be, 0, none⟩)]] w fun e w' => e = .returned (.int .i64 (idxP P l)) ∧ RowKit.Below w.heap.size w w' := by
  have HF := hidI hF
  clear hF
  go_enter Tryz.func25, Tryz.ntmps25
  go_wp2
  go_loopw [8] (fun iv wr => ∃ k : Nat, k ≤ l.length ∧ iv = .int .i64 k ∧ Hid (∀ m (hm : m < l.length), m < k → P l[m] = false) ∧ RowKit.Below w.heap.size w wr) (fun iv _ => l.length - (intOf iv).toNat)
  case atStart => exact ⟨0, by omega, rfl, fun _ _ h => by omega, RowKit.Below.refl _ _⟩
  case round =>
    obtain ⟨k, hk, rfl, hm, hB⟩ := hrel
    by_cases hlt : k < l.length
    · obtain ⟨b1, o1, rfl, hb1, hc1⟩ := (hp.below hB).get k hlt
      have e0 := hc1 k hlt
      clear hc1
      have HFK := hidI (fun W hB => HF.out k hlt W hB)
      have HM : Hid (P l[k] = false → ∀ m (hm : m < l.length), m < k + 1 → P l[m] = false) := fun he m h1 h2 => by
        rcases Nat.lt_succ_iff_lt_or_eq.1 h2 with h3 | h3
        · exact hm.out m h1 h3
        · subst h3; exact he
      have HX := hidI (idxP_hit P l k hlt hm.out)
      generalize P l[k] = r at *
      generalize l[k] = x at *
      skip
      go_wp2_with fail
      refine (HFK.out _ hB).mono ?_
      rintro e w1 ⟨rfl, hB1⟩
      have hB2 := hB.trans (hB1.mono hB.size)
      cases r
      · have HM2 := hidI (HM.out rfl)
        clear HX HM
        go_wp2
        go_roundw
        case rel => exact ⟨k + 1, by omega, by go_num, HM2, hB2⟩
        case measure => simp [intOf]; omega
      · have HX2 := hidI (HX.out rfl)
        clear HM HX
        go_wp2
        go_ret
        exact ⟨ret_int HX2.out.symm, hB2⟩
    · have HM := hidI (idxP_miss P l (fun m h => hm.out m h (by omega)))
      go_wp2
      go_ret
      exact ⟨ret_int HM.out.symm, hB⟩
end Go.Proofs.YtjpilmedlecdhaaGreat
namespace Go.Proofs.YtjpilmedlecdhaaGreat
open Go.RowKit Go.Sort Go.Shelf Go.Lib

/-- A list is a pair of two numbers. -/
def prI (i j : Int) (x : List Int) : Bool := decide (x.getD 0 0 = i) && decide (x.getD 1 0 = j)
set_option maxRecDepth 100000 in
set_option maxHeartbeats 400000 in
theorem lkExt11_any (x y i j : Int) (q : Option Addr) (d ba bb : Nat) (w : World) (hs : Sl w (Value.int .i64) q [x, y]) (hi : w.cell? ⟨ba, 0, none⟩ = some (.int .i64 i)) (hj : w.cell? ⟨bb, 0, none⟩ = some (.int .i64 j)) (r : Bool) (hr : prI i j [x, y] = r) :
    Calls Tryz.prog 19 #[.slice q 2 d, .pointer (some ⟨ba, 0, none⟩), .pointer (some ⟨bb, 0, none⟩)] w fun e w' => e = .returned (.bool r) ∧ RowKit.Below w.heap.size w w' := by
  obtain ⟨b1, o1, rfl, hb1, hc⟩ := hs.get 0 (by simp)
  have e0 := hc 0 (by simp)
  have e1 := hc 1 (by simp)
  simp only [List.getElem_cons_zero, List.getElem_cons_succ, Nat.add_zero] at e0 e1
  have HR := hidI hr
  clear hr hc hs
  by_cases h1 : x = i
  · have h1b : (x == i) = true := by simpa using h1
    by_cases h2 : y = j
    · have h2b : (y == j) = true := by simpa using h2
      have HT : Hid (r = true) := by unfold Hid; rw [← HR.out]; simp [prI, h1, h2]
      clear h1 h2
      go_enter Tryz.func19, Tryz.ntmps19
      go_wp2_with fail
      (refine wp_region_quiet_lit (by kernel_rfl) (by kernel_rfl) ?_; (repeat (first | go_big_quiet_step (fail) | quiet_step (fail))); refine wpQuiet_nil ?_; intro _ hwq; obtain ⟨nq, hwq2⟩ := hwq; subst hwq2)
      go_wp2
      go_ret
      exact ⟨ret_bool HT.out.symm, (Dr.one (Dr.refl _) _).below _⟩
    · have h2b : (y == j) = false := by simpa using h2
      have HT : Hid (r = false) := by unfold Hid; rw [← HR.out]; simp [prI, h2]
      clear h1 h2
      go_enter Tryz.func19, Tryz.ntmps19
      go_wp2_with fail
      (refine wp_region_quiet_lit (by kernel_rfl) (by kernel_rfl) ?_; (repeat (first | go_big_quiet_step (fail) | quiet_step (fail))); refine wpQuiet_nil ?_; intro _ hwq; obtain ⟨nq, hwq2⟩ := hwq; subst hwq2)
      go_wp2
      go_ret
      exact ⟨ret_bool HT.out.symm, (Dr.one (Dr.refl _) _).below _⟩
  · have h1b : (x == i) = false := by simpa using h1
    have HT : Hid (r = false) := by unfold Hid; rw [← HR.out]; simp [prI, h1]
    clear h1
    go_enter Tryz.func19, Tryz.ntmps19
    go_wp2_with fail
    (refine wp_region_quiet_lit (by kernel_rfl) (by kernel_rfl) ?_; (repeat (first | go_big_quiet_step (fail) | quiet_step (fail))); refine wpQuiet_nil ?_; intro _ hwq; obtain ⟨nq, hwq2⟩ := hwq; subst hwq2)
    go_wp2
    go_ret
    exact ⟨ret_bool HT.out.symm, (Dr.one (Dr.refl _) _).below _⟩

set_option maxHeartbeats 400000 in
theorem lkExt12_any (s : Sw) (i j : Int) (bi bj : Nat) (w : World) (hi : w.cell? ⟨bi, 0, none⟩ = some (.int .i64 i)) (hj : w.cell? ⟨bj, 0, none⟩ = some (.int .i64 j)) (hbi : bi < w.heap.size) (hbj : bj < w.heap.size) (r : Bool) (hr : swIs i j s = r) :
    Calls Tryz.prog 21 #[.agg #[.int .i64 s.i, .int .i64 s.j, .string s.wd], .pointer (some ⟨bi, 0, none⟩), .pointer (some ⟨bj, 0, none⟩)] w fun e w' => e = .returned (.bool r) ∧ RowKit.Below w.heap.size w w' := by
  have hB0 : RowKit.Below w.heap.size w (w.alloc (.cells #[.int .i64 s.i, .int .i64 s.j, .string s.wd] 53)) := (RowKit.Below.refl _ _).alloc (Nat.le_refl _) _
  have HR := hidI hr
  clear hr
  by_cases h1 : s.i = i
  · have h1b : (s.i == i) = true := by simpa using h1
    by_cases h2 : s.j = j
    · have h2b : (s.j == j) = true := by simpa using h2
      have HT : Hid (r = true) := by unfold Hid; rw [← HR.out]; simp [swIs, h1, h2]
      clear h1 h2
      go_enter Tryz.func21, Tryz.ntmps21
      go_wp2
      go_ret
      exact ⟨ret_bool HT.out.symm, hB0⟩
    · have h2b : (s.j == j) = false := by simpa using h2
      have HT : Hid (r = false) := by unfold Hid; rw [← HR.out]; simp [swIs, h2]
      clear h1 h2
      go_enter Tryz.func21, Tryz.ntmps21
      go_wp2
      go_ret
      exact ⟨ret_bool HT.out.symm, hB0⟩
  · have h1b : (s.i == i) = false := by simpa using h1
    have HT : Hid (r = false) := by unfold Hid; rw [← HR.out]; simp [swIs, h1]
    clear h1
    go_enter Tryz.func21, Tryz.ntmps21
    go_wp2
    go_ret
    exact ⟨ret_bool HT.out.symm, hB0⟩

set_option maxRecDepth 100000 in
set_option maxHeartbeats 400000 in
theorem lkExt2_any (s : Sw) (i j : Int) (q : Option Addr) (d bp : Nat) (w : World) (hs : Sl w (Value.int .i64) q [i, j]) (hp : w.cell? ⟨bp, 0, none⟩ = some (.slice q 2 d)) (hbp : bp < w.heap.size) (r : Bool) (hr : swIs i j s = r) :
    Calls Tryz.prog 24 #[.agg #[.int .i64 s.i, .int .i64 s.j, .string s.wd], .pointer (some ⟨bp, 0, none⟩)] w fun e w' => e = .returned (.bool r) ∧ RowKit.Below w.heap.size w w' := by
  obtain ⟨w0, hw0⟩ : ∃ w0, w0 = w.alloc (.cells #[.int .i64 s.i, .int .i64 s.j, .string s.wd] 53) := ⟨_, rfl⟩
  have hB0 : RowKit.Below w.heap.size w w0 := by subst hw0; exact (RowKit.Below.refl _ _).alloc (Nat.le_refl _) _
  have b0 : VRow w0 w.heap.size 53 [.int .i64 s.i, .int .i64 s.j, .string s.wd] := by subst hw0; exact VRow.new w _ _
  obtain ⟨b1, o1, rfl, hb1, hc⟩ := (hs.below hB0).get 0 (by simp)
  have e0 := hc 0 (by simp)
  have e1 := hc 1 (by simp)
  simp only [List.getElem_cons_zero, List.getElem_cons_succ, Nat.add_zero] at e0 e1
  have p0 := (hB0.cell (p := ⟨bp, 0, none⟩) hbp).trans hp
  have g0 := b0.at 0 rfl; have g1 := b0.at 1 rfl
  have HR := hidI hr
  clear hr hc hs hp b0
  by_cases h1 : s.i = i
  · have h1b : (s.i == i) = true := by simpa using h1
    by_cases h2 : s.j = j
    · have h2b : (s.j == j) = true := by simpa using h2
      have HT : Hid (r = true) := by unfold Hid; rw [← HR.out]; simp [swIs, h1, h2]
      clear h1 h2
      go_enter Tryz.func24, Tryz.ntmps24
      go_upto_region 1 with fail
      rw [← hw0]
      clear hw0
      (refine wp_region_quiet_lit (by kernel_rfl) (by kernel_rfl) ?_; (repeat (first | go_big_quiet_step (fail) | quiet_step (fail))); refine wpQuiet_nil ?_; intro _ hwq; obtain ⟨nq, hwq2⟩ := hwq; subst hwq2)
      go_wp2
      go_ret
      exact ⟨ret_bool HT.out.symm, hB0.trans ((Dr.one (Dr.refl _) _).below _)⟩
    · have h2b : (s.j == j) = false := by simpa using h2
      have HT : Hid (r = false) := by unfold Hid; rw [← HR.out]; simp [swIs, h2]
      clear h1 h2
      go_enter Tryz.func24, Tryz.ntmps24
      go_upto_region 1 with fail
      rw [← hw0]
      clear hw0
      (refine wp_region_quiet_lit (by kernel_rfl) (by kernel_rfl) ?_; (repeat (first | go_big_quiet_step (fail) | quiet_step (fail))); refine wpQuiet_nil ?_; intro _ hwq; obtain ⟨nq, hwq2⟩ := hwq; subst hwq2)
      go_wp2
      go_ret
      exact ⟨ret_bool HT.out.symm, hB0.trans ((Dr.one (Dr.refl _) _).below _)⟩
  · have h1b : (s.i == i) = false := by simpa using h1
    have HT : Hid (r = false) := by unfold Hid; rw [← HR.out]; simp [swIs, h1]
    clear h1
    go_enter Tryz.func24, Tryz.ntmps24
    go_upto_region 1 with fail
    rw [← hw0]
    clear hw0
    (refine wp_region_quiet_lit (by kernel_rfl) (by kernel_rfl) ?_; (repeat (first | go_big_quiet_step (fail) | quiet_step (fail))); refine wpQuiet_nil ?_; intro _ hwq; obtain ⟨nq, hwq2⟩ := hwq; subst hwq2)
    go_wp2
    go_ret
    exact ⟨ret_bool HT.out.symm, hB0.trans ((Dr.one (Dr.refl _) _).below _)⟩

theorem two_el {x : List Int} (h : x.length = 2) : x = [x.getD 0 0, x.getD 1 0] := by
  match x, h with
  | [a, b], _ => rfl
set_option maxRecDepth 100000 in
set_option maxHeartbeats 1000000 in
theorem lkExt1_any (L : List (List Int)) (X : List LE) (S : List Sw) (i j : Int) (pL p2 : Option Addr) (cL c2 bp bt : Nat) (w : World) (hL : LLr w pL L X) (hLl : L.length ≤ 100000) (hL2 : ∀ x ∈ L, x.length = 2)
    (hS : Sg 3 w swE p2 S) (hSl : S.length ≤ 100000) (hp : w.cell? ⟨bp, 0, none⟩ = some (.slice pL L.length cL)) (ht : w.cell? ⟨bt, 3, none⟩ = some (.slice p2 S.length c2)) (hbp : bp < w.heap.size) (hbt : bt < w.heap.size) (r : Bool) (hr : (L.any (prI i j) || isSw S i j) = r) :
    Calls Tryz.prog 17 #[.int .i64 i, .int .i64 j, .pointer (some ⟨bp, 0, none⟩), .pointer (some ⟨bt, 0, none⟩)] w fun e w' => e = .returned (.bool r) ∧ RowKit.Below w.heap.size w w' := by
  obtain ⟨w0, hw0⟩ : ∃ w0, w0 = (w.alloc (.cells #[.int .i64 i] 3)).alloc (.cells #[.int .i64 j] 3) := ⟨_, rfl⟩
  have hB0 : RowKit.Below w.heap.size w w0 := by subst hw0; exact ((RowKit.Below.refl _ _).alloc (Nat.le_refl _) _).alloc (by simp) _
  have bi : VRow w0 w.heap.size 3 [.int .i64 i] := by subst hw0; exact (VRow.new w _ _).alloc _
  have bj : VRow w0 (w.heap.size + 1) 3 [.int .i64 j] := by subst hw0; exact VRow.new1 w _ _ _
  have p0 := (hB0.cell (p := ⟨bp, 0, none⟩) hbp).trans hp
  have t0 := (hB0.cell (p := ⟨bt, 3, none⟩) hbt).trans ht
  have hbt0 := Nat.lt_of_lt_of_le hbt hB0.size
  obtain ⟨r1, hr1⟩ : ∃ r1, L.any (prI i j) = r1 := ⟨_, rfl⟩
  obtain ⟨r2, hr2⟩ : ∃ r2, isSw S i j = r2 := ⟨_, rfl⟩
  have HC1 := hidI (containsLL11 L X w.heap.size (w.heap.size + 1) (prI i j) pL cL w0 (hL.below hB0) (by omega) (fun k hk W hB q d hq => by
    have h2 := hL2 _ (List.getElem_mem hk)
    rw [h2]
    have e := two_el h2
    rw [e] at hq ⊢
    exact lkExt11_any _ _ i j q d _ _ W hq ((bi.below hB bi.lt).at 0 rfl) ((bj.below hB bj.lt).at 0 rfl) _ rfl) r1 hr1)
  have HC2 := hidI (fun W (hB : RowKit.Below w0.heap.size w0 W) => containsSw12 S w.heap.size (w.heap.size + 1) (swIs i j) p2 c2 W ((hS.below hB0).below hB) (by omega) (fun k hk V hV => by
    have hx := hB.trans (hV.mono hB.size)
    exact lkExt12_any S[k] i j _ _ V ((bi.below hx bi.lt).at 0 rfl) ((bj.below hx bj.lt).at 0 rfl) (Nat.lt_of_lt_of_le bi.lt hx.size) (Nat.lt_of_lt_of_le bj.lt hx.size) _ rfl) r2 hr2)
  have HR : Hid ((r1 || r2) = r) := by rw [Hid, ← hr1, ← hr2]; exact hr
  clear hr1 hr2 hr hL hS hL2 bi bj hp ht
  go_enter Tryz.func17, Tryz.ntmps17
  go_upto_region 1 with fail
  rw [← hw0]
  clear hw0
  go_wp2_with fail
  refine HC1.out.mono ?_
  rintro e w1 ⟨rfl, hB1⟩
  have t1 := (hB1.cell (p := ⟨bt, 3, none⟩) hbt0).trans t0
  have HC3 := hidI (HC2.out w1 hB1)
  have x1 := hB0.trans (hB1.mono hB0.size)
  clear HC1 HC2 p0 t0
  cases r1
  · go_wp2_with fail
    refine HC3.out.mono ?_
    rintro e w2 ⟨rfl, hB2⟩
    go_wp2
    go_ret
    exact ⟨ret_bool (by rw [← HR.out]; rfl), x1.trans (hB2.mono x1.size)⟩
  · go_wp2
    go_ret
    exact ⟨ret_bool (by rw [← HR.out]; rfl), x1⟩
end Go.Proofs.YtjpilmedlecdhaaGreat
