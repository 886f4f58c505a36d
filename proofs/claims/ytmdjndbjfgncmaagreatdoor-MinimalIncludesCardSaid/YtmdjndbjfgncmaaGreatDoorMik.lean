/-
  Words, plain lemmas and walks, merged: Sa, Tc, Te, Np, Nx, Sc, Sd, Se, Ny.
-/
import Derived.Test.YtmdjndbjfgncmaaGreatDoorMif
import Derived.Test.YtmdjndbjfgncmaaGreatDoorMid
import Derived.Test.YtmdjndbjfgncmaaGreatDoorMij
import Derived.Test.YtmdjndbjfgncmaaGreatDoorMih
import Derived.Deep.RegionWith
import Derived.Test.YtmdjndbjfgncmaaGreatDoorMii
set_option linter.unusedVariables false
set_option linter.unusedSimpArgs false
namespace Go.Proofs.YtmdjndbjfgncmaaGreatDoor
open Go.RowKit

/-- The sets that were found, and the edges. -/
abbrev Sst := List (List Int) × List Ed
def sbAdd (G : Gr) (set : List Int) (i : Nat) (st : Sst) (a : Nat) : Sst :=
  if nextA G set a = [] then st
  else if nextA G set a ∈ st.1 then (st.1, st.2 ++ [⟨(i : Int), (a : Int), ((st.1.idxOf (nextA G set a) : Nat) : Int)⟩])
  else (st.1 ++ [nextA G set a], st.2 ++ [⟨(i : Int), (a : Int), (st.1.length : Int)⟩])
def sbTo (G : Gr) (set : List Int) (i : Nat) (st : Sst) (L : Nat) : Sst := (List.range L).foldl (sbAdd G set i) st
theorem sbTo_succ (G : Gr) (set : List Int) (i : Nat) (st : Sst) (L : Nat) : sbTo G set i st (L + 1) = sbAdd G set i (sbTo G set i st L) L := by
  unfold sbTo; rw [List.range_succ, List.foldl_append]; rfl
theorem sbAdd_none {G : Gr} {set : List Int} {i : Nat} {st : Sst} {a : Nat} (h : nextA G set a = []) : sbAdd G set i st a = st := if_pos h
theorem sbAdd_old {G : Gr} {set : List Int} {i : Nat} {st : Sst} {a : Nat} (h : nextA G set a ≠ []) (h2 : nextA G set a ∈ st.1) : sbAdd G set i st a = (st.1, st.2 ++ [⟨(i : Int), (a : Int), ((st.1.idxOf (nextA G set a) : Nat) : Int)⟩]) := by
  unfold sbAdd; rw [if_neg h, if_pos h2]
theorem sbAdd_new {G : Gr} {set : List Int} {i : Nat} {st : Sst} {a : Nat} (h : nextA G set a ≠ []) (h2 : nextA G set a ∉ st.1) : sbAdd G set i st a = (st.1 ++ [nextA G set a], st.2 ++ [⟨(i : Int), (a : Int), (st.1.length : Int)⟩]) := by
  unfold sbAdd; rw [if_neg h, if_neg h2]
/-- From number i on; none where there are too many sets or edges. -/
def sbGo (G : Gr) : Nat → Nat → Sst → Option Sst
  | 0, _, _ => none
  | m + 1, i, st => match st.1[i]? with
    | none => some st
    | some set => if 64 < (sbTo G set i st G.q.toNat).1.length ∨ 1024 < (sbTo G set i st G.q.toNat).2.length then none else sbGo G m (i + 1) (sbTo G set i st G.q.toNat)

/-! ### What is found is a valid graph, deterministic -/
def ltFL (x y : Ed) : Prop := x.f < y.f ∨ (x.f = y.f ∧ x.l < y.l)
structure Sb (G : Gr) (i a : Nat) (st : Sst) : Prop where
  ins : ∀ x ∈ st.2, 0 ≤ x.f ∧ (x.f < i ∨ (x.f = i ∧ x.l < a)) ∧ 0 ≤ x.l ∧ x.l < G.q ∧ 0 ≤ x.t ∧ x.t < st.1.length
  srt : st.2.Pairwise ltFL
  nd : st.1.Nodup
  ne : ∀ s ∈ st.1, s ≠ []
theorem Sb.snoc {G : Gr} {i a : Nat} {st : Sst} (h : Sb G i a st) (ha : (a : Int) < G.q) (l : List (List Int)) (t : Nat) (ht : t < l.length) (hl : st.1.length ≤ l.length) (hn : l.Nodup) (hne : ∀ s ∈ l, s ≠ []) :
    Sb G i (a + 1) (l, st.2 ++ [⟨(i : Int), (a : Int), (t : Int)⟩]) where
  ins := fun x hx => by
    rcases List.mem_append.1 hx with hx | hx
    · obtain ⟨h1, h2, h3, h4, h5, h6⟩ := h.ins x hx
      refine ⟨h1, ?_, h3, h4, h5, ?_⟩
      · rcases h2 with h2 | h2
        · exact .inl h2
        · exact .inr ⟨h2.1, by omega⟩
      · show x.t < (l.length : Int)
        omega
    · obtain rfl := List.mem_singleton.1 hx
      refine ⟨by simp, .inr ⟨rfl, by simp; omega⟩, by simp, ha, by simp, ?_⟩
      show (t : Int) < (l.length : Int)
      omega
  srt := by
    rw [List.pairwise_append]
    refine ⟨h.srt, by simp, fun x hx y hy => ?_⟩
    obtain rfl := List.mem_singleton.1 hy
    rcases (h.ins x hx).2.1 with h2 | h2
    · exact .inl h2
    · exact .inr h2
  nd := hn
  ne := hne
theorem Sb.add {G : Gr} {i a : Nat} {st : Sst} (h : Sb G i a st) (set : List Int) (ha : (a : Int) < G.q) : Sb G i (a + 1) (sbAdd G set i st a) := by
  by_cases h1 : nextA G set a = []
  · rw [sbAdd_none h1]
    refine ⟨fun x hx => ?_, h.srt, h.nd, h.ne⟩
    obtain ⟨h1, h2, h3⟩ := h.ins x hx
    refine ⟨h1, ?_, h3⟩
    rcases h2 with h2 | h2
    · exact .inl h2
    · exact .inr ⟨h2.1, by omega⟩
  · by_cases h2 : nextA G set a ∈ st.1
    · rw [sbAdd_old h1 h2]
      exact h.snoc ha st.1 _ (List.idxOf_lt_length_iff.2 h2) (Nat.le_refl _) h.nd h.ne
    · rw [sbAdd_new h1 h2]
      refine h.snoc ha _ st.1.length (by simp) (by simp) ?_ ?_
      · rw [List.nodup_append]
        refine ⟨h.nd, by simp, fun x hx y hy => ?_⟩
        obtain rfl := List.mem_singleton.1 hy
        intro e; subst e; exact h2 hx
      · intro s hs
        rcases List.mem_append.1 hs with hs | hs
        · exact h.ne s hs
        · obtain rfl := List.mem_singleton.1 hs; exact h1
theorem Sb.row {G : Gr} {i : Nat} {st : Sst} (h : Sb G i 0 st) (set : List Int) : ∀ L : Nat, (L : Int) ≤ G.q → Sb G i L (sbTo G set i st L)
  | 0, _ => h
  | L + 1, hL => by rw [sbTo_succ]; exact (h.row set L (by omega)).add set (by omega)
theorem Sb.next {G : Gr} {i a : Nat} {st : Sst} (h : Sb G i a st) : Sb G (i + 1) 0 st where
  ins := fun x hx => by
    obtain ⟨h1, h2, h3⟩ := h.ins x hx
    refine ⟨h1, .inl ?_, h3⟩
    rcases h2 with h2 | h2 <;> omega
  srt := h.srt
  nd := h.nd
  ne := h.ne
theorem sbTo_len {G : Gr} {set : List Int} {i : Nat} {st : Sst} : ∀ L : Nat, st.1.length ≤ (sbTo G set i st L).1.length
  | 0 => Nat.le_refl _
  | L + 1 => by
    rw [sbTo_succ]
    refine Nat.le_trans (sbTo_len (G := G) (set := set) (i := i) (st := st) L) ?_
    unfold sbAdd
    split
    · exact Nat.le_refl _
    · split
      · exact Nat.le_refl _
      · simp
theorem sbGo_ok {G : Gr} (hq : 0 ≤ G.q) : ∀ (m i : Nat) (st r : Sst), Sb G i 0 st → i ≤ st.1.length → st.1.length ≤ 64 → st.2.length ≤ 1024 → sbGo G m i st = some r → Sb G r.1.length 0 r ∧ r.1.length ≤ 64 ∧ r.2.length ≤ 1024 ∧ st.1.length ≤ r.1.length
  | 0, i, st, r, _, _, _, _, h => by cases h
  | m + 1, i, st, r, hS, hi, h64, h1k, h => by
    unfold sbGo at h
    cases hx : st.1[i]? with
    | none =>
      rw [hx] at h
      cases h
      have : i = st.1.length := by have := List.getElem?_eq_none_iff.1 hx; omega
      subst this
      exact ⟨hS, h64, h1k, Nat.le_refl _⟩
    | some set =>
      rw [hx] at h
      simp only at h
      split at h
      · cases h
      · rename_i hlim
        have hr := (hS.row set G.q.toNat (by omega)).next
        have hle := sbTo_len (G := G) (set := set) (i := i) (st := st) G.q.toNat
        have hi2 : i < st.1.length := (List.getElem?_eq_some_iff.1 hx).1
        obtain ⟨a, b, c, d⟩ := sbGo_ok hq m (i + 1) _ r hr (by omega) (by omega) (by omega) h
        exact ⟨a, b, c, Nat.le_trans hle d⟩
/-- The graph of sets, the sets, and an error. -/
def sbA (G : Gr) : Gr × List (List Int) × Int :=
  if chkG G = 0 then (if G.n = 0 then (⟨G.q, 0, []⟩, [], 0) else match sbGo G 66 0 ([upto G.n.toNat], []) with
    | none => (⟨0, 0, []⟩, [], 4)
    | some r => (⟨G.q, (r.1.length : Int), r.2⟩, r.1, 0)) else (⟨0, 0, []⟩, [], 1)
theorem Sb.graph {G : Gr} (hv : Vg G) {r : Sst} (h : Sb G r.1.length 0 r) (h64 : r.1.length ≤ 64) (h1k : r.2.length ≤ 1024) : Vg ⟨G.q, (r.1.length : Int), r.2⟩ ∧ Uq r.2 := by
  refine ⟨⟨hv.q1, hv.q2, by simp, by simp; omega, h1k, fun x hx => ?_, ?_⟩, ?_⟩
  · obtain ⟨h1, h2, h3, h4, h5, h6⟩ := h.ins x hx
    refine ⟨h1, h3, h5, ?_, h6, h4⟩
    show x.f < (r.1.length : Int)
    rcases h2 with h2 | h2 <;> omega
  · refine h.srt.imp (fun {x y} hxy => ?_)
    rw [ltE_iff]
    rcases hxy with h | h
    · exact .inl h
    · exact .inr ⟨h.1, .inl h.2⟩
  · refine h.srt.imp (fun {x y} hxy hh => ?_)
    rcases hxy with h | h <;> omega
theorem sbA_ok {G : Gr} (h : (sbA G).2.2 = 0) : Vg (sbA G).1 ∧ Uq (sbA G).1.es := by
  unfold sbA at h ⊢
  by_cases hc : chkG G = 0
  · rw [if_pos hc] at h ⊢
    have hv := chkG_ok.1 hc
    by_cases hn : G.n = 0
    · rw [if_pos hn]
      exact ⟨⟨hv.q1, hv.q2, by simp, by simp, by simp, (fun x hx => by cases hx), List.Pairwise.nil⟩, List.Pairwise.nil⟩
    · rw [if_neg hn] at h ⊢
      cases hg : sbGo G 66 0 ([upto G.n.toNat], []) with
      | none => rw [hg] at h; cases h
      | some r =>
        have hs : Sb G 0 0 ([upto G.n.toNat], []) := ⟨(fun x hx => by cases hx), List.Pairwise.nil, by simp, fun s hs => by
          obtain rfl := List.mem_singleton.1 hs
          intro e
          have e2 := congrArg List.length e
          rw [upto_len, List.length_nil] at e2
          have := hv.n1
          omega⟩
        have hq := hv.q1
        obtain ⟨a, b, c, _⟩ := sbGo_ok (by omega) _ _ _ r hs (by simp) (by simp) (by simp) hg
        exact a.graph hv b c
  · rw [if_neg hc] at h; cases h
end Go.Proofs.YtmdjndbjfgncmaaGreatDoor
namespace Go.Proofs.YtmdjndbjfgncmaaGreatDoor
open Go.RowKit Go.Sort Go.Shelf Go.Lib

/-! ### Keys -/
def okK (l : List Int) : Prop := (∀ x ∈ l, 0 ≤ x ∧ x < 100) ∧ l.length ≤ 1000
def kK (l : List Int) : Value := .string ⟨(keyL l).toArray⟩
theorem keyK : KeyBy Tryz.prog 9 kK okK where
  law := Maps.string_keyed Tryz.underlying9
  reads := fun a ha => ⟨.string (keyL a), by
    have h1 := keyL_len ha.1
    have h2 := ha.2
    have h3 : (⟨(keyL a).toArray⟩ : ByteArray).size ≤ maxLen := by show (keyL a).toArray.size ≤ maxLen; rw [List.size_toArray]; unfold maxLen; omega
    simp [keyOf, mapKey, kK, Tryz.underlying9]; exact h3⟩
  inj := fun a b ha hb h => keyL_inj ha.1 hb.1 (by simpa [kK] using h)
theorem zeroN (w : World) : (zeroValue 3).run Tryz.prog w = .ok (.int .i64 0) w := by kernel_rfl
/-- The numbers of sets. -/
def numF (S : List (List Int)) (l : List Int) : Option Int := if l ∈ S then some ((S.idxOf l : Nat) : Int) else none
theorem numF_snoc {S : List (List Int)} {x : List Int} (h : x ∉ S) (a : List Int) : mset (numF S) x (S.length : Int) a = numF (S ++ [x]) a := by
  unfold mset numF
  by_cases e : a = x
  · subst e
    rw [if_pos rfl, if_pos (by simp), List.idxOf_append, if_neg h]
    simp
  · rw [if_neg e]
    by_cases hm : a ∈ S
    · rw [if_pos hm, if_pos (by simp [hm]), List.idxOf_append, if_pos hm]
    · rw [if_neg hm, if_neg (by simp [hm, e])]
theorem num_hit {w : World} {b : Nat} {S : List (List Int)} (h : Mp kK okK (Value.int .i64) w b (numF S)) {l : List Int} (hl : okK l) (hm : l ∈ S) :
    (Instr.lookup 102 (.map (some b)) (kK l) true).run Tryz.prog w = .ok (.tuple #[.int .i64 (S.idxOf l : Nat), .bool true]) w := by
  have := h.look keyK Tryz.underlying102 (zeroN w) l hl true
  unfold numF at this; rw [if_pos hm] at this; exact this
theorem num_miss {w : World} {b : Nat} {S : List (List Int)} (h : Mp kK okK (Value.int .i64) w b (numF S)) {l : List Int} (hl : okK l) (hm : l ∉ S) :
    (Instr.lookup 102 (.map (some b)) (kK l) true).run Tryz.prog w = .ok (.tuple #[.int .i64 0, .bool false]) w := by
  have := h.look keyK Tryz.underlying102 (zeroN w) l hl true
  unfold numF at this; rw [if_neg hm] at this; exact this

/-! ### Blocks of one type are kept -/
/-- All blocks of one type, but one, are kept. -/
def KX1 (t : TypeId) (b : Nat) (W W' : World) : Prop := ∀ (i : Nat) (cur : Array Value) (fz : Nat × Nat), i ≠ b → W.heap[i]? = some (.cells cur t fz) → W'.heap[i]? = some (.cells cur t fz)
/-- All blocks of one type are kept. -/
def KX0 (t : TypeId) (W W' : World) : Prop := ∀ (i : Nat) (cur : Array Value) (fz : Nat × Nat), W.heap[i]? = some (.cells cur t fz) → W'.heap[i]? = some (.cells cur t fz)
section
variable {t t' : TypeId} {b : Nat} {X Y Z : World}
theorem KX0.refl (t : TypeId) (X : World) : KX0 t X X := fun _ _ _ h => h
theorem KX0.trans (h : KX0 t X Y) (k : KX0 t Y Z) : KX0 t X Z := fun i c f e => k i c f (h i c f e)
theorem KX1.trans (h : KX1 t b X Y) (k : KX1 t b Y Z) : KX1 t b X Z := fun i c f hn e => k i c f hn (h i c f hn e)
theorem KX0.one (h : KX0 t X Y) (b : Nat) : KX1 t b X Y := fun i c f _ e => h i c f e
theorem KX0.below (h : RowKit.Below X.heap.size X Y) : KX0 t X Y := fun i _ _ e => (h.block i (Array.getElem?_eq_some_iff.1 e).1).trans e
theorem KX0.turn (h : X.mapTurned Y b) : KX0 t X Y := fun i c f e => by
  obtain ⟨es, clock, es', clock', hb, rfl⟩ := h
  by_cases hi : i = b
  · subst hi; rw [hb] at e; cases e
  · exact (ChangeMaps.heap_setBlock_other hb _ hi).trans e
theorem KX0.grown {r : Option Nat} (h : X.grownBy Y r) (hr : ∀ k, r = some k → ∃ cur fz, X.heap[k]? = some (.cells cur t' fz)) (hne : t ≠ t') : KX0 t X Y := fun i c f e =>
  (h.block i (Array.getElem?_eq_some_iff.1 e).1 (fun er => by
    obtain ⟨c', f', e'⟩ := hr i er.symm
    rw [e] at e'; cases e'; exact hne rfl)).trans e
theorem KX0.set {cur : Array Value} {fz : Nat × Nat} (hb : X.heap[b]? = some (.cells cur t' fz)) (k : Nat) (v : Value) (hne : t ≠ t') : KX0 t X (X.setCell ⟨b, k, none⟩ v) := fun i c z e => by
  have hn : i ≠ b := by rintro rfl; rw [hb] at e; cases e; exact hne rfl
  exact (Below.heap_setCell _ _ _ _ hn).trans e
theorem KX1.set (t : TypeId) (b : Nat) (X : World) (k : Nat) (v : Value) : KX1 t b X (X.setCell ⟨b, k, none⟩ v) := fun _ _ _ hn e => (Below.heap_setCell _ _ _ _ hn).trans e
theorem KX0.vrow {l : List Value} (h : KX0 t X Y) (r : VRow X b t l) : VRow Y b t l := h _ _ _ r
theorem KX1.vrow {l : List Value} {i : Nat} (h : KX1 t b X Y) (r : VRow X i t l) (hn : i ≠ b) : VRow Y i t l := h _ _ _ hn r
theorem KX0.own {B n s : Nat} {v : Value} {xs : List Value} (h : KX0 t X Y) (ho : X.ownsRow B t s v n xs) : Y.ownsRow B t s v n xs := by
  refine ⟨ho.1, ho.2.imp id ?_⟩
  rintro ⟨g, cap, cur, e1, e2, e3, e4⟩
  exact ⟨g, cap, cur, e1, e2, h _ _ _ e3, e4⟩
theorem own_typed {B n s : Nat} {v : Value} {xs : List Value} (ho : X.ownsRow B t s v n xs) : ∀ k, v.ownBlock = some k → ∃ cur fz, X.heap[k]? = some (.cells cur t fz) := by
  intro k hk
  rcases ho.2 with ⟨rfl, _⟩ | ⟨g, cap, cur, rfl, _, hg, _⟩
  · cases hk
  · cases hk; exact ⟨_, _, hg⟩
end

/-- All maps are kept. -/
def KXm (W W' : World) : Prop := ∀ (i : Nat) (es : Array MapEntry) (cl : Nat), W.heap[i]? = some (.map es cl) → W'.heap[i]? = some (.map es cl)
section
variable {t' : TypeId} {b : Nat} {X Y Z : World}
theorem KXm.trans (h : KXm X Y) (k : KXm Y Z) : KXm X Z := fun i c f e => k i c f (h i c f e)
theorem KXm.below (h : RowKit.Below X.heap.size X Y) : KXm X Y := fun i _ _ e => (h.block i (Array.getElem?_eq_some_iff.1 e).1).trans e
theorem KXm.grown {r : Option Nat} (h : X.grownBy Y r) (hr : ∀ k, r = some k → ∃ cur fz, X.heap[k]? = some (.cells cur t' fz)) : KXm X Y := fun i c f e =>
  (h.block i (Array.getElem?_eq_some_iff.1 e).1 (fun er => by
    obtain ⟨c', f', e'⟩ := hr i er.symm
    rw [e] at e'; cases e')).trans e
theorem KXm.set {cur : Array Value} {fz : Nat × Nat} (hb : X.heap[b]? = some (.cells cur t' fz)) (k : Nat) (v : Value) : KXm X (X.setCell ⟨b, k, none⟩ v) := fun i c z e => by
  have hn : i ≠ b := by rintro rfl; rw [hb] at e; cases e
  exact (Below.heap_setCell _ _ _ _ hn).trans e
end

/-! ### The boxes of a build -/
/-- The numbers of the sets. -/
def PN (bn mb : Nat) (S : List (List Int)) (W : World) : Prop := VRow W bn 102 [.map (some mb)] ∧ Mp kK okK (Value.int .i64) W mb (numF S)
/-- The sets. -/
def PS (bw bs : Nat) (S : List (List Int)) (W : World) : Prop :=
  ∃ ps cs Vs, VRow W bs 55 [.slice ps S.length cs] ∧ W.ownsRow bw 28 1 (.slice ps S.length cs) S.length Vs ∧
    ∀ i (h : i < S.length), ∃ v, Vs[i]? = some v ∧ (∃ p c, v = .slice p S[i].length c) ∧ W.ownsRow bw 3 1 v S[i].length (S[i].map (Value.int .i64))
/-- The graph so far. -/
def PO (bw bo : Nat) (q : Int) (E : List Ed) (W : World) : Prop :=
  ∃ pe ce, VRow W bo 24 [.int .i64 q, .int .i64 0, .slice pe E.length ce] ∧ W.ownsRow bw 42 3 (.slice pe E.length ce) E.length (cat E)
section
variable {bw bn bs bo mb : Nat} {S : List (List Int)} {E : List Ed} {q : Int} {W W' : World}
theorem PN.keep (h : PN bn mb S W) (k : KX0 102 W W') (hm : KXm W W') : PN bn mb S W' := ⟨k.vrow h.1, h.2.same (by
  obtain ⟨es, cl, hb, _⟩ := h.2
  rw [hb]; exact hm _ _ _ hb)⟩
theorem PS.keep (h : PS bw bs S W) (k1 : KX0 55 W W') (k2 : KX0 28 W W') (k3 : KX0 3 W W') : PS bw bs S W' := by
  obtain ⟨ps, cs, Vs, h1, h2, h3⟩ := h
  refine ⟨ps, cs, Vs, k1.vrow h1, k2.own h2, fun i hi => ?_⟩
  obtain ⟨v, a, b, c⟩ := h3 i hi
  exact ⟨v, a, b, k3.own c⟩
theorem PO.keep (h : PO bw bo q E W) (k1 : KX0 24 W W') (k2 : KX0 42 W W') : PO bw bo q E W' := by
  obtain ⟨pe, ce, h1, h2⟩ := h
  exact ⟨pe, ce, k1.vrow h1, k2.own h2⟩
/-- All three. -/
structure Bx (bw bn bs bo mb : Nat) (q : Int) (st : Sst) (W : World) : Prop where
  num : PN bn mb st.1 W
  sets : PS bw bs st.1 W
  out : PO bw bo q st.2 W
  ok : ∀ s ∈ st.1, okK s
theorem Bx.below {st : Sst} (h : Bx bw bn bs bo mb q st W) (hB : RowKit.Below W.heap.size W W') : Bx bw bn bs bo mb q st W' :=
  ⟨h.num.keep (KX0.below hB) (KXm.below hB), h.sets.keep (KX0.below hB) (KX0.below hB) (KX0.below hB), h.out.keep (KX0.below hB) (KX0.below hB), h.ok⟩
end

/-! ### What a step does -/
section
variable {bw bn bs bo mb : Nat} {q : Int} {st : Sst} {W : World}
/-- A new number. -/
theorem num_store {S : List (List Int)} (h : PN bn mb S W) {x : List Int} (hx : okK x) (hn : x ∉ S) :
    ∃ wm, (Instr.mapUpdate 102 (.map (some mb)) (kK x) (.int .i64 (S.length : Int))).run Tryz.prog W = .ok () wm ∧ PN bn mb (S ++ [x]) wm ∧ W.mapTurned wm mb := by
  obtain ⟨wm, h1, h2, h3⟩ := h.2.store keyK Tryz.underlying102 x hx (S.length : Int)
  exact ⟨wm, h1, ⟨(KX0.turn h3).vrow h.1, h2.congr (numF_snoc hn)⟩, h3⟩
theorem below_al (w : World) (o : Obj) : RowKit.Below w.heap.size w (w.alloc o) := (RowKit.Below.refl _ _).alloc (Nat.le_refl _) o
theorem own_shape1 {w : World} {B e n : Nat} {v : Value} {xs : List Value} (h : w.ownsRow B e 1 v n xs) : ∃ p c, v = .slice p n c := by
  rcases h.2 with ⟨rfl, rfl⟩ | ⟨g, cap, cur, rfl, _⟩
  · exact ⟨none, 0, rfl⟩
  · exact ⟨_, cap, rfl⟩
theorem own_shape3 {w : World} {B e n : Nat} {v : Value} {xs : List Value} (h : w.ownsRow B e 3 v n xs) : ∃ p c, v = .slice p n c := by
  rcases h.2 with ⟨rfl, rfl⟩ | ⟨g, cap, cur, rfl, _⟩
  · exact ⟨none, 0, rfl⟩
  · exact ⟨_, cap, rfl⟩
/-- A further set. -/
theorem sets_push {S : List (List Int)} {ps : Option Addr} {cs : Nat} {Vs : List Value} (hp : VRow W bs 55 [.slice ps S.length cs]) (ho : W.ownsRow bw 28 1 (.slice ps S.length cs) S.length Vs)
    (hel : ∀ i (h : i < S.length), ∃ v, Vs[i]? = some v ∧ (∃ p c, v = .slice p S[i].length c) ∧ W.ownsRow bw 3 1 v S[i].length (S[i].map (Value.int .i64)))
    {x : List Int} {pn : Option Addr} {cn : Nat} (hx : W.ownsRow bw 3 1 (.slice pn x.length cn) x.length (x.map (Value.int .i64))) {v' : Value} {w9 : World}
    (h9 : w9.ownsRow bw 28 1 v' (S.length + 1) (Vs ++ [.slice pn x.length cn])) (hg : (W.alloc (.cells #[.slice pn x.length cn] 28)).grownBy w9 (Value.slice ps S.length cs).ownBlock) (hbs : bw ≤ bs) (hW : bw ≤ W.heap.size) :
    w9.frozen? ⟨bs, 0, none⟩ = false ∧ (∃ u, w9.cell? ⟨bs, 0, none⟩ = some u) ∧ RowKit.Below bw W (w9.setCell ⟨bs, 0, none⟩ v') ∧ PS bw bs (S ++ [x]) (w9.setCell ⟨bs, 0, none⟩ v') ∧
      (∀ t, t ≠ 28 → t ≠ 55 → KX0 t W (w9.setCell ⟨bs, 0, none⟩ v')) ∧ KXm W (w9.setCell ⟨bs, 0, none⟩ v') := by
  have hA := below_al W (.cells #[.slice pn x.length cn] 28)
  have hty := own_typed (ho.alloc (.cells #[.slice pn x.length cn] 28))
  have k9 : ∀ t, t ≠ 28 → KX0 t W w9 := fun t ht => (KX0.below hA).trans (KX0.grown hg hty ht)
  have r9 : VRow w9 bs 55 [.slice ps S.length cs] := (k9 55 (by decide)).vrow hp
  have r10 := r9.set (i := 0) v'
  have kk : ∀ t, t ≠ 28 → t ≠ 55 → KX0 t W (w9.setCell ⟨bs, 0, none⟩ v') := fun t h1 h2 => (k9 t h1).trans (KX0.set r9 0 v' h2)
  obtain ⟨p', c', rfl⟩ := own_shape1 h9
  have hB9 : RowKit.Below bw W w9 := (hA.mono hW).grown hg (by rw [World.size_alloc]; omega) (fun j e => (ho.lt j e).1)
  refine ⟨r9.frozen 0, ⟨_, r9.at 0 rfl⟩, hB9.setCell hbs _, ⟨p', c', Vs ++ [.slice pn x.length cn], ?_, ?_, fun i hi => ?_⟩, kk, ((KXm.below hA).trans (KXm.grown hg hty)).trans (KXm.set r9 0 _)⟩
  · rw [List.length_append, List.length_singleton]; exact r10
  · rw [List.length_append, List.length_singleton]; exact (KX0.set (t := 28) r9 0 _ (by decide)).own h9
  · have hl : Vs.length = S.length := by have := ho.1; omega
    rw [List.length_append, List.length_singleton] at hi
    by_cases hlt : i < S.length
    · obtain ⟨v, e1, e2, e3⟩ := hel i hlt
      refine ⟨v, ?_, ?_, ?_⟩
      · rw [List.getElem?_append_left (by omega)]; exact e1
      · rw [List.getElem_append_left hlt]; exact e2
      · rw [List.getElem_append_left hlt]; exact (kk _ (by decide) (by decide)).own e3
    · obtain rfl : i = S.length := by omega
      refine ⟨.slice pn x.length cn, ?_, ?_, ?_⟩
      · rw [List.getElem?_append_right (by omega), hl, Nat.sub_self]; rfl
      · rw [List.getElem_append_right (Nat.le_refl _)]; simp only [Nat.sub_self, List.getElem_cons_zero]; exact ⟨_, _, rfl⟩
      · rw [List.getElem_append_right (Nat.le_refl _)]; simp only [Nat.sub_self, List.getElem_cons_zero]; exact (kk _ (by decide) (by decide)).own hx
/-- A further edge. -/
theorem edges_push {E : List Ed} {pe : Option Addr} {ce : Nat} (hp : VRow W bo 24 [.int .i64 q, .int .i64 0, .slice pe E.length ce]) (ho : W.ownsRow bw 42 3 (.slice pe E.length ce) E.length (cat E)) {x : Ed} {v' : Value} {w9 : World}
    (h9 : w9.ownsRow bw 42 3 v' (E.length + 1) (cat E ++ cat [x])) (hg : (W.alloc (.cells (edE x).toArray 42)).grownBy w9 (Value.slice pe E.length ce).ownBlock) (hbo : bw ≤ bo) (hW : bw ≤ W.heap.size) :
    w9.frozen? ⟨bo, 2, none⟩ = false ∧ (∃ u, w9.cell? ⟨bo, 2, none⟩ = some u) ∧ RowKit.Below bw W (w9.setCell ⟨bo, 2, none⟩ v') ∧ PO bw bo q (E ++ [x]) (w9.setCell ⟨bo, 2, none⟩ v') ∧
      (∀ t, t ≠ 42 → t ≠ 24 → KX0 t W (w9.setCell ⟨bo, 2, none⟩ v')) ∧ KX1 24 bo W (w9.setCell ⟨bo, 2, none⟩ v') ∧ KXm W (w9.setCell ⟨bo, 2, none⟩ v') := by
  have hA := below_al W (.cells (edE x).toArray 42)
  have hty := own_typed (ho.alloc (.cells (edE x).toArray 42))
  have k9 : ∀ t, t ≠ 42 → KX0 t W w9 := fun t ht => (KX0.below hA).trans (KX0.grown hg hty ht)
  have r9 : VRow w9 bo 24 [.int .i64 q, .int .i64 0, .slice pe E.length ce] := (k9 24 (by decide)).vrow hp
  have r10 := r9.set (i := 2) v'
  obtain ⟨p', c', rfl⟩ := own_shape3 h9
  have hB9 : RowKit.Below bw W w9 := (hA.mono hW).grown hg (by rw [World.size_alloc]; omega) (fun j e => (ho.lt j e).1)
  refine ⟨r9.frozen 2, ⟨_, r9.at 2 rfl⟩, hB9.setCell hbo _, ⟨p', c', ?_, ?_⟩, fun t h1 h2 => (k9 t h1).trans (KX0.set r9 2 _ h2), ((k9 _ (by decide)).one bo).trans (KX1.set _ bo _ 2 _), ((KXm.below hA).trans (KXm.grown hg hty)).trans (KXm.set r9 2 _)⟩
  · rw [List.length_append, List.length_singleton]; exact r10
  · rw [List.length_append, List.length_singleton, cat_app]; exact (KX0.set (t := 42) r9 2 _ (by decide)).own h9
theorem turn_below {wm : World} {w : World} (hB : RowKit.Below bw w W) (h : W.mapTurned wm mb) (hm : bw ≤ mb) (hw : bw ≤ W.heap.size) : RowKit.Below bw w wm :=
  hB.grown h.grown hw (fun j e => by cases e; exact hm)
end
end Go.Proofs.YtmdjndbjfgncmaaGreatDoor
namespace Go.Proofs.YtmdjndbjfgncmaaGreatDoor
open Go.RowKit Go.Sort Go.Shelf Go.Lib

/-- A set is found. -/
def sbPut (nx : List Int) (i a : Nat) (st : Sst) : Sst :=
  if nx ∈ st.1 then (st.1, st.2 ++ [⟨(i : Int), (a : Int), ((st.1.idxOf nx : Nat) : Int)⟩]) else (st.1 ++ [nx], st.2 ++ [⟨(i : Int), (a : Int), (st.1.length : Int)⟩])
theorem sbAdd_put {G : Gr} {set : List Int} {i : Nat} {st : Sst} {a : Nat} (h : nextA G set a ≠ []) : sbAdd G set i st a = sbPut (nextA G set a) i a st := by
  unfold sbAdd sbPut; rw [if_neg h]
theorem infoTS : (Tryz.prog.info? 28).map (fun i => (i.zero, i.size, i.bytes)) = some (some (.slice none 0 0), 1, 24) := by kernel_rfl
theorem infoTE : (Tryz.prog.info? 42).map (fun i => (i.zero, i.size, i.bytes)) = some (some (.agg #[.int .i64 0, .int .i64 0, .int .i64 0]), 3, 24) := by kernel_rfl

set_option maxRecDepth 100000 in
set_option maxHeartbeats 4000000 in
theorem sbuild1_any (bw bn bs bo mb bi i a : Nat) (q : Int) (st : Sst) (nx : List Int) (pn : Option Addr) (cn : Nat) (w : World)
    (h : Bx bw bn bs bo mb q st w) (hi : VRow w bi 3 [.int .i64 i]) (hx : w.ownsRow bw 3 1 (.slice pn nx.length cn) nx.length (nx.map (Value.int .i64))) (hk : okK nx)
    (h1 : st.1.length ≤ 1000) (h2 : st.2.length ≤ 10000) (hmb : bw ≤ mb) (hbs : bw ≤ bs) (hbo : bw ≤ bo) (hw : bw ≤ w.heap.size) :
    Calls Tryz.prog 91 #[.int .i64 a, .slice pn nx.length cn, .pointer (some ⟨bn, 0, none⟩), .pointer (some ⟨bs, 0, none⟩), .pointer (some ⟨bo, 0, none⟩), .pointer (some ⟨bi, 0, none⟩)] w fun e w' =>
      e = .returned (.tuple #[]) ∧ Bx bw bn bs bo mb q (sbPut nx i a st) w' ∧ RowKit.Below bw w w' ∧ KX1 24 bo w w' ∧ KX0 3 w w' := by
  obtain ⟨i0, hi0, hz0, hz1, hz2⟩ := info_parts infoTS
  obtain ⟨j0, hj0, hy0, hy1, hy2⟩ := info_parts infoTE
  obtain ⟨S, E⟩ := st
  obtain ⟨hN, hS, hO, hok⟩ := h
  obtain ⟨ks, hks⟩ : ∃ ks : ByteArray, ks = ⟨(keyL nx).toArray⟩ := ⟨_, rfl⟩
  have hsl : Sl w (Value.int .i64) pn nx := by
    obtain ⟨p', c', e, hs⟩ := own_sl hx
    cases e; exact hs
  have HK : Hid (∀ W, RowKit.Below w.heap.size w W → Calls Tryz.prog 88 #[.slice pn nx.length cn] W fun e w' => e = .returned (.string ks) ∧ RowKit.Below W.heap.size W w') := fun W hW => by
    rw [hks]; exact skey_any nx pn cn W (hsl.below hW) hk.1 hk.2
  have HOK := hidI hok
  have HX := hidI hx; have HKK := hidI hk
  have HN := hidI hN; have HS := hidI hS; have HO := hidI hO; have HI := hidI hi
  have HPK : Hid (kK nx = .string ks) := by rw [hks]; rfl
  have c0 := hN.1.at 0 rfl
  have hbnlt := hN.1.lt
  change S.length ≤ 1000 at h1
  change E.length ≤ 10000 at h2
  clear hok hx hk hS hO hi hsl hks
  by_cases hm : nx ∈ S
  · have HP : Hid (sbPut nx i a (S, E) = (S, E ++ [⟨(i : Int), (a : Int), ((S.idxOf nx : Nat) : Int)⟩])) := if_pos hm
    have HL : Hid (∀ W, RowKit.Below w.heap.size w W → (Instr.lookup 102 (.map (some mb)) (.string ks) true).run Tryz.prog W = .ok (.tuple #[.int .i64 (S.idxOf nx : Nat), .bool true]) W) := fun W hW => by
      rw [← HPK.out]; exact num_hit (Mp.below' HN.out.2 hW) HKK.out hm
    generalize S.idxOf nx = t at *
    clear hm hN
    go_enter Tryz.func91, Tryz.ntmps91
    go_upto_region 0 with fail
    go_region_held3 (fun w' => w'.cell? ⟨bn, 0, none⟩ = some (.map (some mb)) ∧ RowKit.Below w.heap.size w w' ∧ (Instr.lookup 102 (.map (some mb)) (.string ks) true).run Tryz.prog w' = .ok (.tuple #[.int .i64 (t : Nat), .bool true]) w')
      (first | (go_split_ands; refine ⟨?_, ?_, ?_⟩ <;> first | assumption | (go_keep; done) | exact below_dN (RowKit.Below.refl _ _) 1 | exact HL.out _ (below_dN (RowKit.Below.refl _ _) 1) | exact (RowKit.Below.cell (by assumption) hbnlt).trans c0 | exact HL.out _ (by assumption)))
      (first | (go_at_call 88; go_split_ands; with_reducible refine (HK.out _ (by assumption)).mono ?_; rintro e wA ⟨rfl, hBa⟩; have hBw := RowKit.Below.trans (show RowKit.Below w.heap.size w _ by assumption) (hBa.mono (RowKit.Below.size (by assumption)))))
    all_goals
      have hBX : RowKit.Below bw w wA := hBw.mono hw
      have hwX : bw ≤ wA.heap.size := Nat.le_trans hw hBw.size
      have HNX := hidI (HN.out.keep (KX0.below hBw) (KXm.below hBw))
      have HSX := hidI (HS.out.keep (KX0.below hBw) (KX0.below hBw) (KX0.below hBw))
      have HOX := hidI (HO.out.keep (KX0.below hBw) (KX0.below hBw))
      have HOKX := HOK
      have hiX := HI.out.below hBw HI.out.lt
      have hGX : KX1 24 bo w wA := (KX0.below hBw).one bo
      have hIX : KX0 3 w wA := KX0.below hBw
      go_upto_region 5 with fail
      (obtain ⟨pe, ce, ro, oo⟩ := HOX.out; have f2 := ro.at 2 rfl; have fi := hiX.at 0 rfl; have oA := oo.alloc (.cells (edE ⟨(i : Int), (a : Int), (t : Int)⟩).toArray 42); have hnew := cell_new3 wA ⟨(i : Int), (a : Int), (t : Int)⟩ 42 (wA).heap.size rfl; go_wp2_with (at_builtin; refine wpList_append_own _ rfl _ _ 22 rfl bw 42 j0 _ 3 24 Tryz.underlying22 hj0 hy0 hy1 hy2 rfl (by decide) _ _ _ rfl oA ⟨(wA).heap.size, 0, none⟩ 1 1 (cat [⟨(i : Int), (a : Int), (t : Int)⟩]) rfl rfl hnew (cat_one _) (by simp [maxLen]; omega) (by omega) (by simp; omega) ?_; intro v' w9 hown' hgrow _; obtain ⟨p9, m9, c9, rfl⟩ := own_shI hown'; obtain ⟨z0, ⟨u9, z1⟩, y1, y2, y3, y4, y5⟩ := edges_push ro oo hown' hgrow hbo hwX); go_end0; rw [HP.out]; exact ⟨rfl, ⟨HNX.out.keep (y3 _ (by decide) (by decide)) y5, HSX.out.keep (y3 _ (by decide) (by decide)) (y3 _ (by decide) (by decide)) (y3 _ (by decide) (by decide)), y2, HOKX.out⟩, hBX.trans y1, hGX.trans y4, hIX.trans (y3 _ (by decide) (by decide))⟩)
  · have HP : Hid (sbPut nx i a (S, E) = (S ++ [nx], E ++ [⟨(i : Int), (a : Int), (S.length : Int)⟩])) := if_neg hm
    have HL : Hid (∀ W, RowKit.Below w.heap.size w W → (Instr.lookup 102 (.map (some mb)) (.string ks) true).run Tryz.prog W = .ok (.tuple #[.int .i64 0, .bool false]) W) := fun W hW => by
      rw [← HPK.out]; exact num_miss (Mp.below' HN.out.2 hW) HKK.out hm
    have HNS : Hid (∀ W, RowKit.Below w.heap.size w W → ∃ wm, (Instr.mapUpdate 102 (.map (some mb)) (.string ks) (.int .i64 (S.length : Int))).run Tryz.prog W = .ok () wm ∧ PN bn mb (S ++ [nx]) wm ∧ W.mapTurned wm mb) := fun W hW => by
      rw [← HPK.out]; exact num_store (HN.out.keep (KX0.below hW) (KXm.below hW)) HKK.out hm
    have HOKX : Hid (∀ s ∈ S ++ [nx], okK s) := fun s hs => by
      rcases List.mem_append.1 hs with hs | hs
      · exact HOK.out s hs
      · obtain rfl := List.mem_singleton.1 hs; exact HKK.out
    clear hm hN
    go_enter Tryz.func91, Tryz.ntmps91
    go_upto_region 0 with fail
    go_region_held3 (fun w' => w'.cell? ⟨bn, 0, none⟩ = some (.map (some mb)) ∧ RowKit.Below w.heap.size w w' ∧ (Instr.lookup 102 (.map (some mb)) (.string ks) true).run Tryz.prog w' = .ok (.tuple #[.int .i64 0, .bool false]) w')
      (first | (go_split_ands; refine ⟨?_, ?_, ?_⟩ <;> first | assumption | (go_keep; done) | exact below_dN (RowKit.Below.refl _ _) 1 | exact HL.out _ (below_dN (RowKit.Below.refl _ _) 1) | exact (RowKit.Below.cell (by assumption) hbnlt).trans c0 | exact HL.out _ (by assumption)))
      (first | (go_at_call 88; go_split_ands; with_reducible refine (HK.out _ (by assumption)).mono ?_; rintro e wA ⟨rfl, hBa⟩; have hBw := RowKit.Below.trans (show RowKit.Below w.heap.size w _ by assumption) (hBa.mono (RowKit.Below.size (by assumption)))))
    all_goals
      have hwA : bw ≤ wA.heap.size := Nat.le_trans hw hBw.size
      obtain ⟨ps, cs, Vs, rs, os, hel⟩ := HS.out.keep (KX0.below hBw) (KX0.below hBw) (KX0.below hBw)
      have s0 := rs.at 0 rfl
      have c0A := (RowKit.Below.cell hBw hbnlt).trans c0
      have HEL := hidI hel
      clear hel
      go_upto_region 3 with fail
      go_cut [] (fun wx => PN bn mb (S ++ [nx]) wx ∧ ∃ wB, RowKit.Below wA.heap.size wA wB ∧ wB.mapTurned wx mb)
      case first =>
        go_region_with (go_at_call 88; refine (HK.out _ (RowKit.Below.trans hBw ((below_dN (RowKit.Below.refl _ _) 1).mono hBw.size))).mono ?_; rintro e wB ⟨rfl, hBb⟩; have hBAB := RowKit.Below.trans (below_dN (RowKit.Below.refl wA.heap.size wA) 1) hBb; have cB := (RowKit.Below.cell (hBw.trans (hBAB.mono hBw.size)) hbnlt).trans c0; obtain ⟨wm, hst, hPN, hturn⟩ := HNS.out wB (hBw.trans (hBAB.mono hBw.size)))
        all_goals
          go_wp2_with fail
          go_meet
          exact ⟨hPN, wB, hBAB, hturn⟩
      case rest =>
        obtain ⟨hPN, wB, hBAB, hturn⟩ := hcut
        have kA : ∀ t, KX0 t wA wc := fun t => (KX0.below hBAB).trans (KX0.turn hturn)
        have kW : ∀ t, KX0 t w wc := fun t => (KX0.below hBw).trans (kA t)
        have hwB : bw ≤ wB.heap.size := Nat.le_trans hwA hBAB.size
        have hBx : RowKit.Below bw w wc := turn_below ((hBw.mono hw).trans (hBAB.mono hwA)) hturn hmb hwB
        have hwx : bw ≤ wc.heap.size := Nat.le_trans hwB hturn.grown.size
        have rsx := (kA _).vrow rs
        have osx := (kA _).own os
        have hxx := (kW _).own HX.out
        have HELX : Hid (∀ i (h : i < S.length), ∃ v, Vs[i]? = some v ∧ (∃ p c, v = .slice p S[i].length c) ∧ wc.ownsRow bw 3 1 v S[i].length (S[i].map (Value.int .i64))) := fun i hi => by
          obtain ⟨v, e1, e2, e3⟩ := HEL.out i hi
          exact ⟨v, e1, e2, (kA _).own e3⟩
        have HOx := hidI (HO.out.keep (kW _) (kW _))
        have hix := (kW _).vrow HI.out
        have hgx : KX1 24 bo w wc := (kW _).one bo
        have hIx := kW 3
        have hoS := osx.alloc (.cells #[.slice pn nx.length cn] 28)
        have hnew1 := cell_one_new wc (.slice pn nx.length cn) 28
        have HPN := hidI hPN
        clear s0 c0A rs os kA kW hturn hBAB hPN hBw
        have s0 := rsx.at 0 rfl
        go_upto_region 5 with (at_builtin; refine wpList_append_own _ rfl _ _ 55 rfl bw 28 i0 _ 1 24 Tryz.underlying55 hi0 hz0 hz1 hz2 rfl (by decide) _ _ _ rfl hoS ⟨wc.heap.size, 0, none⟩ 1 1 [.slice pn nx.length cn] rfl rfl hnew1 (by simp [Value.oneCell']) (by simp [maxLen]; omega) (by omega) (by simp; omega) ?_; intro v' w9 hown' hgrow _; obtain ⟨p9, m9, c9, rfl⟩ := own_shI hown'; obtain ⟨z0, ⟨u9, z1⟩, k1, k2, k3, k4⟩ := sets_push rsx osx HELX.out hxx hown' hgrow hbs hwx)
        generalize w9.setCell ⟨bs, 0, none⟩ (.slice p9 m9 c9) = wA at *
        have hBX := hBx.trans k1
        have hwX : bw ≤ wA.heap.size := Nat.le_trans hwx k1.size
        have HNX := hidI (HPN.out.keep (k3 _ (by decide) (by decide)) k4)
        have HSX := hidI k2
        have HOX := hidI (HOx.out.keep (k3 _ (by decide) (by decide)) (k3 _ (by decide) (by decide)))
        have hiX := (k3 3 (by decide) (by decide)).vrow hix
        have hGX := hgx.trans ((k3 24 (by decide) (by decide)).one bo)
        have hIX := hIx.trans (k3 3 (by decide) (by decide))
        clear hown' hgrow z0 z1 s0 rsx osx hxx hix k1 k2 k3 k4 hoS hnew1
        (obtain ⟨pe, ce, ro, oo⟩ := HOX.out; have f2 := ro.at 2 rfl; have fi := hiX.at 0 rfl; have oA := oo.alloc (.cells (edE ⟨(i : Int), (a : Int), (S.length : Int)⟩).toArray 42); have hnew := cell_new3 wA ⟨(i : Int), (a : Int), (S.length : Int)⟩ 42 (wA).heap.size rfl; go_wp2_with (at_builtin; refine wpList_append_own _ rfl _ _ 22 rfl bw 42 j0 _ 3 24 Tryz.underlying22 hj0 hy0 hy1 hy2 rfl (by decide) _ _ _ rfl oA ⟨(wA).heap.size, 0, none⟩ 1 1 (cat [⟨(i : Int), (a : Int), (S.length : Int)⟩]) rfl rfl hnew (cat_one _) (by simp [maxLen]; omega) (by omega) (by simp; omega) ?_; intro v' w9 hown' hgrow _; obtain ⟨p9, m9, c9, rfl⟩ := own_shI hown'; obtain ⟨z0, ⟨u9, z1⟩, y1, y2, y3, y4, y5⟩ := edges_push ro oo hown' hgrow hbo hwX); go_end0; rw [HP.out]; exact ⟨rfl, ⟨HNX.out.keep (y3 _ (by decide) (by decide)) y5, HSX.out.keep (y3 _ (by decide) (by decide)) (y3 _ (by decide) (by decide)) (y3 _ (by decide) (by decide)), y2, HOKX.out⟩, hBX.trans y1, hGX.trans y4, hIX.trans (y3 _ (by decide) (by decide))⟩)
end Go.Proofs.YtmdjndbjfgncmaaGreatDoor
namespace Go.Proofs.YtmdjndbjfgncmaaGreatDoor
open Go.RowKit

/-! ### The order of words -/
def lxt : List Int → List Int → Prop
  | a :: x, b :: y => a < b ∨ (a = b ∧ lxt x y)
  | _, _ => False
def slt (a b : List Int) : Prop := a.length < b.length ∨ (a.length = b.length ∧ lxt a b)
def sle (a b : List Int) : Prop := a = b ∨ slt a b
theorem lxt_irrefl : ∀ a : List Int, ¬ lxt a a
  | [], h => h
  | _ :: x, h => by rcases h with h | ⟨_, h⟩
                    · omega
                    · exact lxt_irrefl x h
theorem lxt_trans : ∀ {a b c : List Int}, lxt a b → lxt b c → lxt a c
  | a :: x, b :: y, c :: z, h, k => by
    rcases h with h | ⟨rfl, h⟩
    · rcases k with k | ⟨rfl, _⟩
      · exact .inl (by omega)
      · exact .inl h
    · rcases k with k | ⟨rfl, k⟩
      · exact .inl k
      · exact .inr ⟨rfl, lxt_trans h k⟩
theorem lxt_total : ∀ {a b : List Int}, a.length = b.length → a = b ∨ lxt a b ∨ lxt b a
  | [], [], _ => .inl rfl
  | [], _ :: _, h => by simp at h
  | _ :: _, [], h => by simp at h
  | a :: x, b :: y, h => by
    rcases Int.lt_trichotomy a b with h1 | h1 | h1
    · exact .inr (.inl (.inl h1))
    · subst h1
      rcases lxt_total (a := x) (b := y) (by simpa using h) with h2 | h2 | h2
      · subst h2; exact .inl rfl
      · exact .inr (.inl (.inr ⟨rfl, h2⟩))
      · exact .inr (.inr (.inr ⟨rfl, h2⟩))
    · exact .inr (.inr (.inl h1))
theorem lxt_app : ∀ {a b x y : List Int}, a.length = b.length → lxt a b → lxt (a ++ x) (b ++ y)
  | a :: u, b :: v, x, y, hl, h => by
    rcases h with h | ⟨rfl, h⟩
    · exact .inl h
    · exact .inr ⟨rfl, lxt_app (by simpa using hl) h⟩
theorem lxt_last : ∀ (u : List Int) {a b : Int}, a < b → lxt (u ++ [a]) (u ++ [b])
  | [], _, _, h => .inl h
  | _ :: u, _, _, h => .inr ⟨rfl, lxt_last u h⟩
theorem slt_irrefl (a : List Int) : ¬ slt a a := by
  rintro (h | ⟨_, h⟩)
  · omega
  · exact lxt_irrefl a h
theorem slt_trans {a b c : List Int} (h : slt a b) (k : slt b c) : slt a c := by
  rcases h with h | ⟨h, h'⟩ <;> rcases k with k | ⟨k, k'⟩
  · exact .inl (by omega)
  · exact .inl (by omega)
  · exact .inl (by omega)
  · exact .inr ⟨by omega, lxt_trans h' k'⟩
theorem slt_total (a b : List Int) : a = b ∨ slt a b ∨ slt b a := by
  rcases Nat.lt_trichotomy a.length b.length with h | h | h
  · exact .inr (.inl (.inl h))
  · rcases lxt_total h with h1 | h1 | h1
    · exact .inl h1
    · exact .inr (.inl (.inr ⟨h, h1⟩))
    · exact .inr (.inr (.inr ⟨h.symm, h1⟩))
  · exact .inr (.inr (.inl h))
theorem slt_snoc {u v : List Int} (h : slt u v) (a b : Int) : slt (u ++ [a]) (v ++ [b]) := by
  rcases h with h | ⟨h, h'⟩
  · exact .inl (by simp; omega)
  · exact .inr ⟨by simp [h], lxt_app h h'⟩
theorem slt_last (u : List Int) {a b : Int} (h : a < b) : slt (u ++ [a]) (u ++ [b]) := .inr ⟨by simp, lxt_last u h⟩
theorem slt_more (u : List Int) (b : Int) : slt u (u ++ [b]) := .inl (by simp)
theorem sle_snoc {u v : List Int} (h : sle u v) (b : Int) : sle (u ++ [b]) (v ++ [b]) := by
  rcases h with h | h
  · subst h; exact .inl rfl
  · exact .inr (slt_snoc h b b)
theorem sle_trans {a b c : List Int} (h : sle a b) (k : sle b c) : sle a c := by
  rcases h with rfl | h
  · exact k
  · rcases k with rfl | k
    · exact .inr h
    · exact .inr (slt_trans h k)
theorem sle_slt {a b c : List Int} (h : sle a b) (k : slt b c) : slt a c := by
  rcases h with rfl | h
  · exact k
  · exact slt_trans h k
theorem sle_app (u v : List Int) : sle u (u ++ v) := by
  cases v with
  | nil => exact .inl (by simp)
  | cons b v => exact .inr (.inl (by simp))

/-! ### Where words lead -/
def runP (f g : List Ed) (p : Int × Int) (w : List Int) : Int × Int := w.foldl (stp f g) p
theorem runP_snoc (f g : List Ed) (p : Int × Int) (w : List Int) (a : Int) : runP f g p (w ++ [a]) = stp f g (runP f g p w) a := by simp [runP]
theorem runP_app (f g : List Ed) (p : Int × Int) (w v : List Int) : runP f g p (w ++ v) = runP f g (runP f g p w) v := by simp [runP]
def Lab (L : Nat) (w : List Int) : Prop := ∀ a ∈ w, 0 ≤ a ∧ a < L
/-- What is not kept never leads to the property. -/
def Dead (f g : List Ed) (kp is : Int × Int → Bool) : Prop := ∀ p a, kp (stp f g p a) = false → ∀ w, is (runP f g (stp f g p a) w) = false
/-- A queue, of which the first i pairs were looked at, and number i for the first a labels. -/
structure Bi (f g : List Ed) (kp is : Int × Int → Bool) (L : Nat) (p0 : Int × Int) (i a : Nat) (l : List Pw) : Prop where
  run : ∀ x ∈ l, x.1 = runP f g p0 x.2 ∧ Lab L x.2
  one : ∃ h : 0 < l.length, l[0] = (p0, [])
  inc : l.Pairwise (fun x y => slt x.2 y.2)
  not_ : ∀ j (h : j < l.length), j < i → is l[j].1 = false
  clo : ∀ j (h : j < l.length) (b : Nat), b < L → (j < i ∨ (j = i ∧ b < a)) → kp (stp f g l[j].1 b) = true → ∃ x ∈ l, x.1 = stp f g l[j].1 b ∧ sle x.2 (l[j].2 ++ [(b : Int)])
  frm : ∀ x ∈ l, x.2 = [] ∨ ∃ j, ∃ h : j < l.length, ∃ b : Nat, (j < i ∨ (j = i ∧ b < a)) ∧ x.2 = l[j].2 ++ [(b : Int)]
section
variable {f g : List Ed} {kp is : Int × Int → Bool} {L : Nat} {p0 : Int × Int}
theorem Bi.start : Bi f g kp is L p0 0 0 [(p0, [])] where
  run x hx := by obtain rfl := List.mem_singleton.1 hx; exact ⟨rfl, fun a ha => by simp at ha⟩
  one := ⟨by simp, rfl⟩
  inc := by simp
  not_ j _ h := absurd h (by omega)
  clo j _ b _ h := by omega
  frm x hx := by obtain rfl := List.mem_singleton.1 hx; exact .inl rfl
theorem Bi.new {i a : Nat} {l : List Pw} (h : Bi f g kp is L p0 i a l) (hi : i < l.length) : ∀ x ∈ l, slt x.2 (l[i].2 ++ [(a : Int)]) := by
  intro x hx
  rcases h.frm x hx with e | ⟨j, hj, b, hjb, e⟩
  · rw [e]; exact .inl (by simp)
  · rw [e]
    rcases hjb with hji | ⟨rfl, hb⟩
    · exact slt_snoc (List.pairwise_iff_getElem.1 h.inc j i hj hi hji) _ _
    · exact slt_last _ (by omega)
theorem Bi.add {i a : Nat} {l : List Pw} (h : Bi f g kp is L p0 i a l) (hi : i < l.length) (ha : a < L) : Bi f g kp is L p0 i (a + 1) (bAdd f g kp l[i] l a) := by
  have hnew := h.new hi
  unfold bAdd
  split
  · rename_i hc
    have hg : ∀ j (hj : j < l.length), (l ++ [(stp f g l[i].1 a, l[i].2 ++ [(a : Int)])])[j]'(by simp; omega) = l[j] := fun j hj => List.getElem_append_left hj
    refine ⟨fun x hx => ?_, ?_, ?_, fun j hj hji => ?_, fun j hj b hb hjb hk => ?_, fun x hx => ?_⟩
    · rcases List.mem_append.1 hx with hx | hx
      · exact h.run x hx
      · obtain rfl := List.mem_singleton.1 hx
        obtain ⟨r1, r2⟩ := h.run _ (List.getElem_mem hi)
        refine ⟨?_, fun b hb => ?_⟩
        · show stp f g l[i].1 a = runP f g p0 (l[i].2 ++ [(a : Int)])
          rw [runP_snoc, ← r1]
        · rcases List.mem_append.1 hb with hb | hb
          · exact r2 b hb
          · obtain rfl := List.mem_singleton.1 hb; omega
    · obtain ⟨h0, h1⟩ := h.one
      exact ⟨by simp, by rw [hg 0 h0]; exact h1⟩
    · refine List.pairwise_append.2 ⟨h.inc, by simp, fun x hx y hy => ?_⟩
      obtain rfl := List.mem_singleton.1 hy
      exact hnew x hx
    · have hj' : j < l.length := by omega
      rw [hg j hj']; exact h.not_ j hj' hji
    · have hj' : j < l.length := by rcases hjb with h1 | ⟨h1, _⟩ <;> omega
      rw [hg j hj'] at hk ⊢
      by_cases e : j < i ∨ (j = i ∧ b < a)
      · obtain ⟨x, hx, e1, e2⟩ := h.clo j hj' b hb e hk
        exact ⟨x, List.mem_append_left _ hx, e1, e2⟩
      · have e1 : j = i := by omega
        have e2 : b = a := by omega
        subst e1; subst e2
        exact ⟨_, List.mem_append_right _ (List.mem_singleton.2 rfl), rfl, .inl rfl⟩
    · rcases List.mem_append.1 hx with hx | hx
      · rcases h.frm x hx with e | ⟨j, hj, b, hjb, e⟩
        · exact .inl e
        · exact .inr ⟨j, by simp; omega, b, by omega, by rw [hg j hj]; exact e⟩
      · obtain rfl := List.mem_singleton.1 hx
        exact .inr ⟨i, by simp; omega, a, .inr ⟨rfl, by omega⟩, by rw [hg i hi]⟩
  · rename_i hc
    refine ⟨h.run, h.one, h.inc, h.not_, fun j hj b hb hjb hk => ?_, fun x hx => ?_⟩
    · by_cases e : j < i ∨ (j = i ∧ b < a)
      · exact h.clo j hj b hb e hk
      · have e1 : j = i := by omega
        have e2 : b = a := by omega
        subst e1; subst e2
        have hm : stp f g l[j].1 b ∈ l.map Prod.fst := by
          by_cases hm : stp f g l[j].1 b ∈ l.map Prod.fst
          · exact hm
          · exact absurd ⟨hk, hm⟩ hc
        obtain ⟨x, hx, ex⟩ := List.mem_map.1 hm
        exact ⟨x, hx, ex, .inr (hnew x hx)⟩
    · rcases h.frm x hx with e | ⟨j, hj, b, hjb, e⟩
      · exact .inl e
      · exact .inr ⟨j, hj, b, by omega, e⟩
theorem Bi.row {i : Nat} {l : List Pw} (h : Bi f g kp is L p0 i 0 l) (hi : i < l.length) : ∀ a, a ≤ L → Bi f g kp is L p0 i a (bRow f g kp l[i] l a)
  | 0, _ => h
  | a + 1, ha => by
    have ih := h.row hi a (by omega)
    rw [bRow_succ]
    have hlen := bRow_len f g kp l[i] l a
    have e : (bRow f g kp l[i] l a)[i]'(by omega) = l[i] := by
      have := bRow_get f g kp l[i] l a i hi
      rw [List.getElem?_eq_getElem (by omega)] at this
      exact Option.some.inj this
    have := ih.add (by omega) (by omega : a < L)
    rw [e] at this; exact this
theorem Bi.next {i : Nat} {l : List Pw} (h : Bi f g kp is L p0 i L l) (hi : i < l.length) (hn : is l[i].1 = false) : Bi f g kp is L p0 (i + 1) 0 l where
  run := h.run
  one := h.one
  inc := h.inc
  not_ j hj hji := by
    by_cases e : j = i
    · subst e; exact hn
    · exact h.not_ j hj (by omega)
  clo j hj b hb hjb hk := h.clo j hj b hb (by omega) hk
  frm x hx := (h.frm x hx).imp id (fun ⟨j, hj, b, hjb, e⟩ => ⟨j, hj, b, by omega, e⟩)
/-- A word less than number i's that leads on is found below i. -/
theorem Bi.below {i : Nat} {l : List Pw} (h : Bi f g kp is L p0 i 0 l) (hd : Dead f g kp is) (bound : List Int → Prop) (hb1 : ∀ w x, x ∈ l → bound w → sle x.2 w → ∃ j, ∃ hj : j < l.length, j < i ∧ l[j] = x) (hpre : ∀ w v, bound (w ++ v) → bound w) (v : List Int) (hv : Lab L v) (hbv : bound v) (hi0 : 0 < i) (his : is (runP f g p0 v) = true) : False := by
  have key : ∀ (u r : List Int), u ++ r = v → ∃ j, ∃ hj : j < l.length, j < i ∧ l[j].1 = runP f g p0 u ∧ sle l[j].2 u := by
    intro u
    induction hlen : u.length generalizing u with
    | zero =>
      intro r _
      obtain rfl : u = [] := List.length_eq_zero_iff.1 hlen
      obtain ⟨h0, h1⟩ := h.one
      exact ⟨0, h0, hi0, by rw [h1]; rfl, by rw [h1]; exact .inl rfl⟩
    | succ n ih =>
      intro r hr
      obtain ⟨u', b, rfl⟩ : ∃ u' b, u = u' ++ [b] := ⟨u.dropLast, u.getLast (by intro e; subst e; simp at hlen), (List.dropLast_concat_getLast _).symm⟩
      obtain ⟨j, hj, hji, e1, e2⟩ := ih u' (by simpa using hlen) ([b] ++ r) (by rw [← hr]; simp)
      have hbm : b ∈ v := by rw [← hr]; simp
      have hbb := hv b hbm
      obtain ⟨B, rfl⟩ : ∃ B : Nat, b = B := ⟨b.toNat, by omega⟩
      have hk : kp (stp f g l[j].1 B) = true := by
        cases hk : kp (stp f g l[j].1 B)
        · have := hd _ _ hk r
          rw [e1, ← runP_snoc, ← runP_app, hr, his] at this; cases this
        · rfl
      obtain ⟨x, hx, x1, x2⟩ := h.clo j hj B (by omega) (.inl hji) hk
      have hle : sle x.2 (u' ++ [(B : Int)]) := sle_trans x2 (sle_snoc e2 _)
      obtain ⟨k, hk2, hki, hkx⟩ := hb1 (u' ++ [(B : Int)]) x hx (hpre _ r (by rw [hr]; exact hbv)) hle
      refine ⟨k, hk2, hki, ?_, by rw [hkx]; exact hle⟩
      rw [hkx, x1, e1, ← runP_snoc]
  obtain ⟨j, hj, hji, e1, _⟩ := key v [] (by simp)
  have := h.not_ j hj hji
  rw [e1, his] at this; cases this
/-- What the search answers. -/
theorem bfs_spec (hd : Dead f g kp is) : ∀ (m i : Nat) (l : List Pw), Bi f g kp is L p0 i 0 l → i ≤ l.length →
    (∀ w, bfs f g kp is L m i l = some w → Lab L w ∧ is (runP f g p0 w) = true ∧ ∀ v, Lab L v → is (runP f g p0 v) = true → sle w v)
  | 0, _, _, _, _, w, h => by cases h
  | m + 1, i, l, hB, hil, w, h => by
    by_cases hlt : i < l.length
    · cases his : is l[i].1
      · rw [bfs_next hlt his] at h
        have h1 := hB.row hlt L (Nat.le_refl _)
        have hlen := bRow_len f g kp l[i] l L
        have e : (bRow f g kp l[i] l L)[i]'(by omega) = l[i] := by
          have := bRow_get f g kp l[i] l L i hlt
          rw [List.getElem?_eq_getElem (by omega)] at this
          exact Option.some.inj this
        exact bfs_spec hd m (i + 1) _ (h1.next (by omega) (by rw [e]; exact his)) (by omega) w h
      · rw [bfs_hit hlt his] at h
        cases h
        obtain ⟨r1, r2⟩ := hB.run _ (List.getElem_mem hlt)
        refine ⟨r2, by rw [← r1]; exact his, fun v hv hvi => ?_⟩
        rcases slt_total l[i].2 v with e | e | e
        · exact .inl e
        · exact .inr e
        · exfalso
          have hi0 : 0 < i := by
            rcases Nat.eq_zero_or_pos i with h0 | h0
            · subst h0
              obtain ⟨g0, g1⟩ := hB.one
              rw [g1] at e
              rcases e with e | ⟨_, e⟩
              · simp at e
              · cases v with
                | nil => exact e.elim
                | cons b v => exact e.elim
            · exact h0
          refine hB.below hd (fun w => slt w l[i].2) (fun u x hx hu hle => ?_) (fun u r hur => sle_slt (sle_app u r) hur) v hv e hi0 hvi
          obtain ⟨j, hj, rfl⟩ := List.mem_iff_getElem.1 hx
          refine ⟨j, hj, ?_, rfl⟩
          have hlt2 := sle_slt hle hu
          rcases Nat.lt_trichotomy j i with h1 | h1 | h1
          · exact h1
          · subst h1; exact absurd hlt2 (slt_irrefl _)
          · exact absurd (slt_trans hlt2 (List.pairwise_iff_getElem.1 hB.inc i j hlt hj h1)) (slt_irrefl _)
    · rw [bfs_end (by omega)] at h; cases h
theorem bfs_none (hd : Dead f g kp is) {n k : Nat} (hf : ∀ s a, -1 ≤ nxt f s a ∧ nxt f s a < n) (hg : ∀ s a, -1 ≤ nxt g s a ∧ nxt g s a < k) : ∀ (m i : Nat) (l : List Pw), Bi f g kp is L p0 i 0 l → Bq n k l → i ≤ l.length → (n + 1) * (k + 1) < m + i → bfs f g kp is L m i l = none →
    ∀ v, Lab L v → is (runP f g p0 v) = false
  | 0, i, l, hB, hq, hil, hm, _, v, hv => by
    have := hq.len; omega
  | m + 1, i, l, hB, hq, hil, hm, h, v, hv => by
    by_cases hlt : i < l.length
    · cases his : is l[i].1
      · rw [bfs_next hlt his] at h
        have h1 := hB.row hlt L (Nat.le_refl _)
        have hlen := bRow_len f g kp l[i] l L
        have e : (bRow f g kp l[i] l L)[i]'(by omega) = l[i] := by
          have := bRow_get f g kp l[i] l L i hlt
          rw [List.getElem?_eq_getElem (by omega)] at this
          exact Option.some.inj this
        exact bfs_none hd hf hg m (i + 1) _ (h1.next (by omega) (by rw [e]; exact his)) (hq.row hf hg L) (by omega) (by omega) h v hv
      · rw [bfs_hit hlt his] at h; cases h
    · cases hvi : is (runP f g p0 v)
      · rfl
      · exfalso
        obtain ⟨g0, _⟩ := hB.one
        refine hB.below hd (fun _ => True) (fun u x hx _ _ => ?_) (fun _ _ _ => trivial) v hv trivial (by omega) hvi
        obtain ⟨j, hj, rfl⟩ := List.mem_iff_getElem.1 hx
        exact ⟨j, hj, by omega, rfl⟩
end
/-- The search, from its beginning. -/
theorem bfsA_some {f g : List Ed} {kp is : Int × Int → Bool} {L n k : Nat} {s t : Int} (hd : Dead f g kp is) {w : List Int} (h : bfsA n k f g kp is L s t = some w) : Lab L w ∧ is (runP f g (s, t) w) = true ∧ ∀ v, Lab L v → is (runP f g (s, t) v) = true → sle w v :=
  bfs_spec hd _ 0 _ Bi.start (by simp) w h
theorem bfsA_none {f g : List Ed} {kp is : Int × Int → Bool} {L n k : Nat} {s t : Int} (hd : Dead f g kp is) (hf : ∀ s a, -1 ≤ nxt f s a ∧ nxt f s a < n) (hg : ∀ s a, -1 ≤ nxt g s a ∧ nxt g s a < k) (h1 : -1 ≤ s) (h2 : s < n) (h3 : -1 ≤ t) (h4 : t < k) (h : bfsA n k f g kp is L s t = none) :
    ∀ v, Lab L v → is (runP f g (s, t) v) = false :=
  bfs_none hd hf hg _ 0 _ Bi.start (Bq.one h1 h2 h3 h4) (by simp) (by omega) h
theorem sle_anti {a b : List Int} (h : sle a b) (k : sle b a) : a = b := by
  rcases h with h | h
  · exact h
  · rcases k with k | k
    · exact k.symm
    · exact absurd (slt_trans h k) (slt_irrefl _)
/-- Two searches for the same property answer alike. -/
theorem bfsA_same {f g : List Ed} {kp kp' is is' : Int × Int → Bool} {L n k n' k' : Nat} {s t : Int} (hd : Dead f g kp is) (hd' : Dead f g kp' is') (hf : ∀ s a, -1 ≤ nxt f s a ∧ nxt f s a < n) (hg : ∀ s a, -1 ≤ nxt g s a ∧ nxt g s a < k) (hf' : ∀ s a, -1 ≤ nxt f s a ∧ nxt f s a < n') (hg' : ∀ s a, -1 ≤ nxt g s a ∧ nxt g s a < k')
    (h1 : -1 ≤ s) (h2 : s < n) (h3 : -1 ≤ t) (h4 : t < k) (h2' : s < n') (h4' : t < k') (hs : ∀ p, is p = is' p) : bfsA n k f g kp is L s t = bfsA n' k' f g kp' is' L s t := by
  cases e : bfsA n k f g kp is L s t with
  | none =>
    have a := bfsA_none hd hf hg h1 h2 h3 h4 e
    cases e' : bfsA n' k' f g kp' is' L s t with
    | none => rfl
    | some w =>
      obtain ⟨b1, b2, _⟩ := bfsA_some hd' e'
      rw [← hs, a w b1] at b2; cases b2
  | some w =>
    obtain ⟨a1, a2, a3⟩ := bfsA_some hd e
    cases e' : bfsA n' k' f g kp' is' L s t with
    | none =>
      have b := bfsA_none hd' hf' hg' h1 h2' h3 h4' e' w a1
      rw [← hs, a2] at b; cases b
    | some v =>
      obtain ⟨b1, b2, b3⟩ := bfsA_some hd' e'
      rw [sle_anti (a3 v b1 (by rw [hs]; exact b2)) (b3 w a1 (by rw [← hs]; exact a2))]
end Go.Proofs.YtmdjndbjfgncmaaGreatDoor
namespace Go.Proofs.YtmdjndbjfgncmaaGreatDoor
open Go.RowKit

/-! ### Runs of one state -/
def run1 (es : List Ed) (s : Int) (w : List Int) : Int := w.foldl (nxt es) s
theorem run1_cons (es : List Ed) (s a : Int) (w : List Int) : run1 es s (a :: w) = run1 es (nxt es s a) w := rfl
theorem run1_neg {es : List Ed} : ∀ (w : List Int) {s : Int}, s < 0 → run1 es s w < 0
  | [], s, h => h
  | a :: w, s, h => by rw [run1_cons, nxt_neg h]; exact run1_neg w (by omega)
theorem run1_bd {es : List Ed} {n : Nat} (hb : ∀ s a, -1 ≤ nxt es s a ∧ nxt es s a < n) : ∀ (w : List Int) {s : Int}, -1 ≤ s → s < n → -1 ≤ run1 es s w ∧ run1 es s w < n
  | [], s, h, h2 => ⟨h, h2⟩
  | a :: w, s, _, _ => by rw [run1_cons]; exact run1_bd hb w (hb s a).1 (hb s a).2
theorem runP_run1 (f g : List Ed) : ∀ (w : List Int) (s t : Int), runP f g (s, t) w = (run1 f s w, run1 g t w)
  | [], s, t => rfl
  | a :: w, s, t => by
    show runP f g (stp f g (s, t) a) w = _
    rw [show stp f g (s, t) a = (nxt f s a, nxt g t a) from rfl, runP_run1 f g w, run1_cons, run1_cons]
theorem oneB_iff (s t : Int) : oneB (s, t) = false ↔ (s < 0 ↔ t < 0) := by
  unfold oneB
  by_cases h1 : s < 0 <;> by_cases h2 : t < 0 <;> simp [h1, h2]
theorem dead_one (es : List Ed) : Dead es es kpP oneB := by
  intro p a h w
  have e : stp es es p a = (-1, -1) := by
    unfold kpP at h
    simpa using h
  rw [e, runP_run1, oneB_iff]

/-! ### Classes -/
theorem cls_agree {q n : Nat} {es : List Ed} (hb : ∀ s a, tgt es s a < n) {r s : Nat} (hr : r < n) (hs : s < n) (h : cg (clsN q n es n) r = cg (clsN q n es n) s) :
    ∀ w, Lab q w → (run1 es r w < 0 ↔ run1 es s w < 0) := by
  intro w
  induction w generalizing r s with
  | nil => intro _; show ((r : Int) < 0 ↔ (s : Int) < 0); omega
  | cons a w ih =>
    intro hl
    have ha := hl a (by simp)
    obtain ⟨A, rfl⟩ : ∃ A : Nat, a = A := ⟨a.toNat, by omega⟩
    have h2 : relA q es (clsN q n es n) r s = true := by
      rw [← eqA_succ n hr hs, cls_fix]
      unfold eqA
      rw [decide_eq_true_iff]; exact h
    obtain ⟨_, h3⟩ := relA_iff.1 h2
    obtain ⟨h4, h5⟩ := h3 A (by omega)
    rw [run1_cons, run1_cons, nxt_pos (by omega), nxt_pos (by omega)]
    by_cases hn : tgt es (r : Int) (A : Int) < 0
    · have hn2 := h4.1 hn
      have e1 := run1_neg (es := es) w hn
      have e2 := run1_neg (es := es) w hn2
      exact ⟨fun _ => e2, fun _ => e1⟩
    · have hn2 : ¬ tgt es (s : Int) (A : Int) < 0 := fun h => hn (h4.2 h)
      have hc := h5 (by omega)
      have hb1 := hb r A
      have hb2 := hb s A
      obtain ⟨r', hr'⟩ : ∃ r' : Nat, tgt es (r : Int) (A : Int) = r' := ⟨(tgt es (r : Int) (A : Int)).toNat, by omega⟩
      obtain ⟨s', hs'⟩ : ∃ s' : Nat, tgt es (s : Int) (A : Int) = s' := ⟨(tgt es (s : Int) (A : Int)).toNat, by omega⟩
      rw [hr'] at hc hb1 ⊢
      rw [hs'] at hc hb2 ⊢
      exact ih (by omega) (by omega) hc (fun x hx => hl x (by simp [hx]))
theorem cls_of_agree {q n : Nat} {es : List Ed} (hb : ∀ s a, tgt es s a < n) : ∀ (k : Nat) {r s : Nat}, r < n → s < n → (∀ w, Lab q w → (run1 es r w < 0 ↔ run1 es s w < 0)) → cg (clsN q n es k) r = cg (clsN q n es k) s
  | 0, r, s, _, _, _ => by rw [cg_zero, cg_zero]
  | k + 1, r, s, hr, hs, h => by
    rw [cg_succ k hr, cg_succ k hs]
    refine (numR_iff (relA_eqv _ _ _)).2 (relA_iff.2 ⟨cls_of_agree hb k hr hs h, fun a ha => ?_⟩)
    have h1 := h [(a : Int)] (fun x hx => by obtain rfl := List.mem_singleton.1 hx; omega)
    have e1 : ∀ x : Nat, run1 es x [(a : Int)] = tgt es x a := fun x => by rw [run1_cons, nxt_pos (by omega)]; rfl
    rw [e1, e1] at h1
    refine ⟨h1, fun h0 => ?_⟩
    have h02 : ¬ tgt es (s : Int) (a : Int) < 0 := fun h => by have := h1.2 h; omega
    have hb1 := hb r a
    have hb2 := hb s a
    have hw : ∀ w, Lab q w → (run1 es (tgt es (r : Int) (a : Int)) w < 0 ↔ run1 es (tgt es (s : Int) (a : Int)) w < 0) := fun w hw => by
      have h2 := h ((a : Int) :: w) (fun x hx => by
        rcases List.mem_cons.1 hx with rfl | hx
        · omega
        · exact hw x hx)
      rw [run1_cons, run1_cons, nxt_pos (by omega), nxt_pos (by omega)] at h2
      exact h2
    obtain ⟨r', hr'⟩ : ∃ r' : Nat, tgt es (r : Int) (a : Int) = r' := ⟨(tgt es (r : Int) (a : Int)).toNat, by omega⟩
    obtain ⟨s', hs'⟩ : ∃ s' : Nat, tgt es (s : Int) (a : Int) = s' := ⟨(tgt es (s : Int) (a : Int)).toNat, by omega⟩
    rw [hr'] at hw hb1 ⊢
    rw [hs'] at hw hb2 ⊢
    exact cls_of_agree hb k (by omega) (by omega) hw
theorem tgt_lt {G : Gr} (hv : Vg G) (s a : Int) : tgt G.es s a < (G.n.toNat : Int) ∨ G.n.toNat = 0 := by
  have := tgt_bd hv s a; have := hv.n1; omega
/-- A word separates two states exactly if their classes differ. -/
theorem sep_cls {G : Gr} (hv : Vg G) {r s : Nat} (hr : r < G.n.toNat) (hs : s < G.n.toNat) : (fwA (sepO G r s)).2 = !decide (cg (clA G) r = cg (clA G) s) := by
  have hb : ∀ s a, tgt G.es s a < (G.n.toNat : Int) := fun s a => by rcases tgt_lt hv s a with h | h <;> omega
  have hx : ∀ s a, -1 ≤ nxt G.es s a ∧ nxt G.es s a < (G.n.toNat : Int) := fun s a => by have := nxt_bd hv s a; have := hv.n1; omega
  cases ho : sepO G r s with
  | none =>
    have h := bfsA_none (dead_one G.es) hx hx (by omega) (by omega) (by omega) (by omega) ho
    have e : cg (clA G) r = cg (clA G) s := cls_of_agree hb _ hr hs (fun w hw => by have := h w hw; rw [runP_run1, oneB_iff] at this; exact this)
    simp [fwA, e]
  | some w =>
    obtain ⟨h1, h2, _⟩ := bfsA_some (dead_one G.es) ho
    have e : cg (clA G) r ≠ cg (clA G) s := fun e => by
      have h3 := cls_agree hb hr hs e w h1
      rw [runP_run1, (oneB_iff _ _).2 h3] at h2
      cases h2
    simp [fwA, e]
/-- A word that is found is one of exactly one of the two states. -/
theorem sep_word {G : Gr} {r s : Int} {w : List Int} (h : sepO G r s = some w) : Lab G.q.toNat w ∧ (decide (0 ≤ run1 G.es r w) != decide (0 ≤ run1 G.es s w)) = true := by
  obtain ⟨h1, h2, _⟩ := bfsA_some (dead_one G.es) h
  refine ⟨h1, ?_⟩
  rw [runP_run1] at h2
  unfold oneB at h2
  by_cases h3 : run1 G.es r w < 0 <;> by_cases h4 : run1 G.es s w < 0 <;> simp_all <;> omega

/-! ### Sets of one state, at most -/
def toS (x : Int) : List Int := if x < 0 then [] else [x]
theorem toS_pos (x : Int) : (0 < (toS x).length) ↔ 0 ≤ x := by unfold toS; split <;> simp <;> omega
theorem filter_one : ∀ (n : Nat) (p : Int → Bool) (y : Int), 0 ≤ y → y < n → (∀ x, p x = true ↔ x = y) → (upto n).filter p = [y]
  | 0, p, y, h1, h2, _ => by omega
  | n + 1, p, y, h1, h2, h => by
    rw [uptof_succ]
    by_cases e : y = n
    · have h3 : (upto n).filter p = [] := by
        rw [List.filter_eq_nil_iff]
        intro a ha hp
        have := (h a).1 hp
        simp only [upto, List.mem_map, List.mem_range] at ha
        obtain ⟨i, hi, rfl⟩ := ha
        omega
      rw [h3, if_pos ((h _).2 e.symm), e]; rfl
    · rw [filter_one n p y h1 (by omega) h, if_neg (fun hp => e ((h _).1 hp).symm)]; simp
theorem next_toS {G : Gr} (hv : Vg G) (hu : Uq G.es) (x b : Int) : nextA G (toS x) b = toS (nxt G.es x b) := by
  unfold toS
  by_cases hx : x < 0
  · rw [if_pos hx, nxt_neg hx, if_pos (by omega)]
    unfold nextA
    rw [List.filter_eq_nil_iff]
    intro a _ h
    obtain ⟨y, _, hy⟩ := List.any_eq_true.1 h
    simp [nxE] at hy
  · rw [if_neg hx, nxt_pos hx]
    by_cases ht : tgt G.es x b < 0
    · rw [if_pos ht]
      unfold nextA
      rw [List.filter_eq_nil_iff]
      intro a _ h
      obtain ⟨y, hy, h2⟩ := List.any_eq_true.1 h
      simp [nxE] at h2
      have := tgt_at hu hy
      rw [h2.2.2, h2.2.1] at this
      have h5 := hv.ins y hy
      omega
    · rw [if_neg ht]
      have hb := tgt_bd hv x b
      refine filter_one _ _ _ (by omega) (by have := hv.n1; omega) (fun a => ?_)
      constructor
      · intro h
        obtain ⟨y, hy, h2⟩ := List.any_eq_true.1 h
        simp [nxE] at h2
        have := tgt_at hu hy
        rw [h2.2.2, h2.2.1] at this
        rw [this]; exact h2.1.symm
      · rintro rfl
        obtain ⟨y, hy, h2, h3, h4⟩ := tgt_mem (es := G.es) (s := x) (a := b) (by omega)
        refine List.any_eq_true.2 ⟨y, hy, ?_⟩
        simp [nxE, h2, h3, h4]
end Go.Proofs.YtmdjndbjfgncmaaGreatDoor
namespace Go.Proofs.YtmdjndbjfgncmaaGreatDoor
open Go.RowKit

def incB (x : Int × Int) : Bool := decide (0 ≤ x.1) && decide (x.2 < 0)
theorem oneB_inc (s t : Int) : oneB (s, t) = (incB (s, t) || incB (t, s)) := by
  unfold oneB incB
  by_cases h1 : s < 0 <;> by_cases h2 : t < 0 <;> simp [h1, h2] <;> omega
theorem dead_of {f g : List Ed} {is : Int × Int → Bool} (h : ∀ s t, s < 0 → t < 0 → is (s, t) = false) : Dead f g kpP is := by
  intro p a hk w
  have e : stp f g p a = (-1, -1) := by
    unfold kpP at hk
    simpa using hk
  rw [e, runP_run1]
  exact h _ _ (run1_neg w (by omega)) (run1_neg w (by omega))
theorem dead_inc (f g : List Ed) : Dead f g kpP incB := dead_of (fun s t h1 h2 => by unfold incB; simp; omega)
theorem dead_one2 (f g : List Ed) : Dead f g kpP oneB := dead_of (fun s t h1 h2 => by unfold oneB; simp [h1, h2])

section
variable {f g : List Ed} {n m L : Nat} {s t : Int}
variable (hf : ∀ s a, -1 ≤ nxt f s a ∧ nxt f s a < n) (hg : ∀ s a, -1 ≤ nxt g s a ∧ nxt g s a < m) (h1 : -1 ≤ s) (h2 : s < n) (h3 : -1 ≤ t) (h4 : t < m)
/-- What a search finds: the least word of a kind; none if there is none. -/
def Least (L : Nat) (P : List Int → Bool) (o : Option (List Int)) : Prop := match o with
  | some w => Lab L w ∧ P w = true ∧ ∀ v, Lab L v → P v = true → sle w v
  | none => ∀ v, Lab L v → P v = false
theorem Least.same {P Q : List Int → Bool} {o o' : Option (List Int)} (h : Least L P o) (k : Least L Q o') (e : ∀ v, Lab L v → P v = Q v) : o = o' := by
  cases o with
  | none =>
    cases o' with
    | none => rfl
    | some w => have := h w k.1; rw [e w k.1, k.2.1] at this; cases this
  | some w =>
    cases o' with
    | none => have := k w h.1; rw [← e w h.1, h.2.1] at this; cases this
    | some v =>
      have a := h.2.2 v k.1 (by rw [e v k.1]; exact k.2.1)
      have b := k.2.2 w h.1 (by rw [← e w h.1]; exact h.2.1)
      rw [sle_anti a b]
include hf hg h1 h2 h3 h4 in
theorem least_of {is : Int × Int → Bool} (hd : Dead f g kpP is) : Least L (fun w => is (runP f g (s, t) w)) (bfsA n m f g kpP is L s t) := by
  cases h : bfsA n m f g kpP is L s t with
  | none => exact bfsA_none hd hf hg h1 h2 h3 h4 h
  | some w => exact bfsA_some hd h
/-- The least word of two kinds together. -/
theorem Least.or {P Q R : List Int → Bool} {a b x : Option (List Int)} (ha : Least L P a) (hb : Least L Q b) (hx : Least L R x) (e : ∀ v, Lab L v → R v = (P v || Q v)) :
    (x = none ↔ a = none ∧ b = none) ∧ (a = none → x = b) ∧ (b = none → x = a) ∧ (∀ u v, a = some u → b = some v → (slt v u → x = b) ∧ (¬ slt v u → x = a)) := by
  refine ⟨⟨?_, ?_⟩, ?_, ?_, ?_⟩
  · rintro rfl
    refine ⟨?_, ?_⟩
    · cases a with
      | none => rfl
      | some u => have := hx u ha.1; rw [e u ha.1, ha.2.1] at this; cases this
    · cases b with
      | none => rfl
      | some u => have := hx u hb.1; rw [e u hb.1, hb.2.1, Bool.or_true] at this; cases this
  · rintro ⟨rfl, rfl⟩
    cases x with
    | none => rfl
    | some w => have := hx.2.1; rw [e w hx.1, ha w hx.1, hb w hx.1] at this; cases this
  · rintro rfl
    exact hx.same hb (fun v hv => by rw [e v hv, ha v hv, Bool.false_or])
  · rintro rfl
    exact hx.same ha (fun v hv => by rw [e v hv, hb v hv, Bool.or_false])
  · rintro u v rfl rfl
    refine ⟨fun hlt => ?_, fun hlt => ?_⟩
    · refine hx.same (Q := R) (o' := some v) ⟨hb.1, by rw [e v hb.1, hb.2.1, Bool.or_true], fun z hz hr => ?_⟩ (fun _ _ => rfl)
      rw [e z hz, Bool.or_eq_true] at hr
      rcases hr with hr | hr
      · have := ha.2.2 z hz hr
        rcases this with rfl | h
        · exact .inr hlt
        · exact .inr (slt_trans hlt h)
      · exact hb.2.2 z hz hr
    · refine hx.same (Q := R) (o' := some u) ⟨ha.1, by rw [e u ha.1, ha.2.1, Bool.true_or], fun z hz hr => ?_⟩ (fun _ _ => rfl)
      rw [e z hz, Bool.or_eq_true] at hr
      have huv : sle u v := by
        rcases slt_total u v with h | h | h
        · exact .inl h
        · exact .inr h
        · exact absurd h hlt
      rcases hr with hr | hr
      · exact ha.2.2 z hz hr
      · exact sle_trans huv (hb.2.2 z hz hr)
end
/-- The laws of MinimalEquals: for two graphs, from their states. -/
theorem equal_laws {f g : List Ed} {n m L : Nat} {s t : Int} (hf : ∀ s a, -1 ≤ nxt f s a ∧ nxt f s a < n) (hg : ∀ s a, -1 ≤ nxt g s a ∧ nxt g s a < m) (h1 : -1 ≤ s) (h2 : s < n) (h3 : -1 ≤ t) (h4 : t < m) :
    bfsA n m f g kpP oneB L s t = bfsA m n g f kpP oneB L t s ∧
    ((bfsA n m f g kpP oneB L s t = none ↔ bfsA n m f g kpP incB L s t = none ∧ bfsA m n g f kpP incB L t s = none) ∧
      (bfsA n m f g kpP incB L s t = none → bfsA n m f g kpP oneB L s t = bfsA m n g f kpP incB L t s) ∧
      (bfsA m n g f kpP incB L t s = none → bfsA n m f g kpP oneB L s t = bfsA n m f g kpP incB L s t) ∧
      (∀ u v, bfsA n m f g kpP incB L s t = some u → bfsA m n g f kpP incB L t s = some v → (slt v u → bfsA n m f g kpP oneB L s t = bfsA m n g f kpP incB L t s) ∧ (¬ slt v u → bfsA n m f g kpP oneB L s t = bfsA n m f g kpP incB L s t))) := by
  have hE := least_of (L := L) hf hg h1 h2 h3 h4 (dead_one2 f g)
  have hY := least_of (L := L) hg hf h3 h4 h1 h2 (dead_one2 g f)
  have hA := least_of (L := L) hf hg h1 h2 h3 h4 (dead_inc f g)
  have hB := least_of (L := L) hg hf h3 h4 h1 h2 (dead_inc g f)
  refine ⟨hE.same hY (fun v _ => ?_), hA.or hB hE (fun v _ => ?_)⟩
  · simp only [runP_run1, oneB_inc]
    exact Bool.or_comm _ _
  · simp only [runP_run1, oneB_inc]
/-- The law of MinimalIncludes: no word found means that all words of the one are words of the other; a word found is one of exactly the first. -/
theorem include_laws {f g : List Ed} {n m L : Nat} {s t : Int} (hf : ∀ s a, -1 ≤ nxt f s a ∧ nxt f s a < n) (hg : ∀ s a, -1 ≤ nxt g s a ∧ nxt g s a < m) (h1 : -1 ≤ s) (h2 : s < n) (h3 : -1 ≤ t) (h4 : t < m) :
    match bfsA n m f g kpP incB L s t with
    | some w => Lab L w ∧ 0 ≤ run1 f s w ∧ run1 g t w < 0
    | none => ∀ v, Lab L v → 0 ≤ run1 f s v → 0 ≤ run1 g t v := by
  have hA := least_of (L := L) hf hg h1 h2 h3 h4 (dead_inc f g)
  cases h : bfsA n m f g kpP incB L s t with
  | none =>
    rw [h] at hA
    intro v hv h0
    have := hA v hv
    simp only [runP_run1, incB] at this
    by_cases h5 : run1 g t v < 0
    · simp [h0, h5] at this
    · omega
  | some w =>
    rw [h] at hA
    obtain ⟨k1, k2, _⟩ := hA
    simp only [runP_run1, incB, Bool.and_eq_true, decide_eq_true_iff] at k2
    exact ⟨k1, k2.1, k2.2⟩
end Go.Proofs.YtmdjndbjfgncmaaGreatDoor
namespace Go.Proofs.YtmdjndbjfgncmaaGreatDoor
open Go.RowKit

structure Sw (G : Gr) (i a : Nat) (st : Sst) : Prop where
  go : ∀ (j b : Nat) (set : List Int), st.1[j]? = some set → (j < i ∨ (j = i ∧ b < a)) → b < G.q.toNat → nextA G set b ≠ [] → ∃ t : Nat, (⟨(j : Int), (b : Int), (t : Int)⟩ : Ed) ∈ st.2 ∧ st.1[t]? = some (nextA G set b)
  no : ∀ x ∈ st.2, ∃ (j b : Nat) (set : List Int), x.f = j ∧ x.l = b ∧ st.1[j]? = some set ∧ nextA G set b ≠ []
theorem get_app {α : Type} {l m : List α} {j : Nat} {x : α} (h : l[j]? = some x) : (l ++ m)[j]? = some x := by
  rw [List.getElem?_append_left (List.getElem?_eq_some_iff.1 h).1]; exact h
theorem Sw.snoc {G : Gr} {i a : Nat} {st : Sst} (h : Sw G i a st) {set : List Int} (hi : st.1[i]? = some set) (hn : nextA G set a ≠ []) (m : List (List Int)) (t : Nat) (ht : (st.1 ++ m)[t]? = some (nextA G set a)) (hb : ∀ j, st.1.length ≤ j → j < (st.1 ++ m).length → i < j) :
    Sw G i (a + 1) (st.1 ++ m, st.2 ++ [⟨(i : Int), (a : Int), (t : Int)⟩]) where
  go := fun j b s hs hjb hbq hne => by
    have hj : j < st.1.length := by
      by_cases hj : j < st.1.length
      · exact hj
      · have := hb j (by omega) (List.getElem?_eq_some_iff.1 hs).1
        rcases hjb with h | h <;> omega
    have hs' : st.1[j]? = some s := by
      have hs2 : (st.1 ++ m)[j]? = some s := hs
      rwa [List.getElem?_append_left hj] at hs2
    by_cases e : j = i ∧ b = a
    · obtain ⟨rfl, rfl⟩ := e
      rw [hi] at hs'; cases hs'
      exact ⟨t, by simp, ht⟩
    · obtain ⟨t', h1, h2⟩ := h.go j b s hs' (by rcases hjb with h | h <;> omega) hbq hne
      exact ⟨t', List.mem_append_left _ h1, get_app h2⟩
  no := fun x hx => by
    rcases List.mem_append.1 hx with hx | hx
    · obtain ⟨j, b, s, h1, h2, h3, h4⟩ := h.no x hx
      exact ⟨j, b, s, h1, h2, get_app h3, h4⟩
    · obtain rfl := List.mem_singleton.1 hx
      exact ⟨i, a, set, rfl, rfl, get_app hi, hn⟩
theorem Sw.add {G : Gr} {i a : Nat} {st : Sst} (h : Sw G i a st) {set : List Int} (hi : st.1[i]? = some set) : Sw G i (a + 1) (sbAdd G set i st a) ∧ (sbAdd G set i st a).1[i]? = some set := by
  have hlt := (List.getElem?_eq_some_iff.1 hi).1
  by_cases h1 : nextA G set a = []
  · rw [sbAdd_none h1]
    refine ⟨⟨fun j b s hs hjb hbq hne => h.go j b s hs ?_ hbq hne, h.no⟩, hi⟩
    rcases hjb with hj | ⟨rfl, hb⟩
    · exact .inl hj
    · refine .inr ⟨rfl, ?_⟩
      rw [hi] at hs; cases hs
      by_cases e : b = a
      · subst e; exact absurd h1 hne
      · omega
  · by_cases h2 : nextA G set a ∈ st.1
    · rw [sbAdd_old h1 h2]
      have hx := List.idxOf_lt_length_iff.2 h2
      have k := h.snoc hi h1 [] (st.1.idxOf (nextA G set a)) (by rw [List.append_nil, List.getElem?_eq_getElem hx, List.getElem_idxOf hx]) (fun j h3 h4 => by rw [List.append_nil] at h4; omega)
      rw [List.append_nil] at k
      exact ⟨k, hi⟩
    · rw [sbAdd_new h1 h2]
      exact ⟨h.snoc hi h1 [nextA G set a] st.1.length (by simp) (fun j h3 h4 => by omega), get_app hi⟩
theorem Sw.row {G : Gr} {i : Nat} {st : Sst} (h : Sw G i 0 st) {set : List Int} (hi : st.1[i]? = some set) : ∀ L : Nat, Sw G i L (sbTo G set i st L) ∧ (sbTo G set i st L).1[i]? = some set
  | 0 => ⟨h, hi⟩
  | L + 1 => by
    rw [sbTo_succ]
    obtain ⟨h1, h2⟩ := h.row hi L
    exact h1.add h2
theorem Sw.next {G : Gr} {i : Nat} {st : Sst} (h : Sw G i G.q.toNat st) : Sw G (i + 1) 0 st where
  go := fun j b s hs hjb hbq hne => h.go j b s hs (by rcases hjb with h | h <;> omega) hbq hne
  no := h.no
theorem sbAdd_head {G : Gr} {set : List Int} {i a : Nat} {st : Sst} {x : List Int} (h : st.1[0]? = some x) : (sbAdd G set i st a).1[0]? = some x := by
  unfold sbAdd
  split
  · exact h
  · split
    · exact h
    · exact get_app h
theorem sbTo_head {G : Gr} {set : List Int} {i : Nat} {st : Sst} {x : List Int} (h : st.1[0]? = some x) : ∀ L : Nat, (sbTo G set i st L).1[0]? = some x
  | 0 => h
  | L + 1 => by rw [sbTo_succ]; exact sbAdd_head (sbTo_head h L)
theorem sbGo_sw {G : Gr} {x : List Int} : ∀ (m i : Nat) (st r : Sst), Sw G i 0 st → st.1[0]? = some x → sbGo G m i st = some r → (∃ k, Sw G k 0 r ∧ r.1.length ≤ k) ∧ r.1[0]? = some x
  | 0, i, st, r, _, _, h => by cases h
  | m + 1, i, st, r, hS, h0, h => by
    unfold sbGo at h
    cases hx : st.1[i]? with
    | none =>
      rw [hx] at h
      cases h
      exact ⟨⟨i, hS, List.getElem?_eq_none_iff.1 hx⟩, h0⟩
    | some set =>
      rw [hx] at h
      simp only at h
      split at h
      · cases h
      · exact sbGo_sw m (i + 1) _ r (hS.row hx _).1.next (sbTo_head h0 _) h
/-- Where a word leads in the graph of sets. -/
theorem sets_run {G : Gr} {r : Sst} {k : Nat} (hw : Sw G k 0 r) (hk : r.1.length ≤ k) (hu : Uq r.2) : ∀ (w : List Int) (j : Nat) (set : List Int), r.1[j]? = some set → set ≠ [] → Lab G.q.toNat w →
    (0 ≤ run1 r.2 j w ↔ w.foldl (nextA G) set ≠ [])
  | [], j, set, _, hne, _ => by
    show (0 ≤ (j : Int) ↔ set ≠ [])
    exact ⟨fun _ => hne, fun _ => by omega⟩
  | a :: w, j, set, hs, hne, hl => by
    have ha := hl a (by simp)
    obtain ⟨A, rfl⟩ : ∃ A : Nat, a = A := ⟨a.toNat, by omega⟩
    have hj := (List.getElem?_eq_some_iff.1 hs).1
    have hl2 : Lab G.q.toNat w := fun x hx => hl x (by simp [hx])
    rw [run1_cons, nxt_pos (by omega), List.foldl_cons]
    by_cases h0 : nextA G set (A : Int) = []
    · have ht : tgt r.2 (j : Int) (A : Int) = -1 := by
        by_cases h1 : tgt r.2 (j : Int) (A : Int) = -1
        · exact h1
        · obtain ⟨y, hy, hf, hy2, _⟩ := tgt_mem h1
          obtain ⟨j', b, s, k1, k2, k3, k4⟩ := hw.no y hy
          have e1 : j' = j := by omega
          have e2 : b = A := by omega
          subst e1; subst e2
          rw [hs] at k3; cases k3
          exact absurd h0 k4
      rw [ht, h0]
      have e1 := run1_neg (es := r.2) w (s := -1) (by omega)
      have e2 : ∀ w : List Int, w.foldl (nextA G) [] = [] := by
        intro w
        induction w with
        | nil => rfl
        | cons b w ih =>
          rw [List.foldl_cons]
          have : nextA G [] b = [] := by
            unfold nextA
            rw [List.filter_eq_nil_iff]
            intro z _ hz
            obtain ⟨y, _, hy⟩ := List.any_eq_true.1 hz
            simp [nxE] at hy
          rw [this]; exact ih
      rw [e2]
      exact ⟨fun h => by omega, fun h => absurd rfl h⟩
    · obtain ⟨t, h1, h2⟩ := hw.go j A set hs (.inl (by omega)) (by omega) h0
      have ht := tgt_at hu h1
      rw [ht]
      exact sets_run hw hk hu w t _ h2 h0 hl2
end Go.Proofs.YtmdjndbjfgncmaaGreatDoor
namespace Go.Proofs.YtmdjndbjfgncmaaGreatDoor
open Go.RowKit

/-- Where a search begins in a graph of sets. -/
def st0 (G : Gr) : Int := if 0 < (sbA G).1.n then 0 else -1
def srO (G H : Gr) (is : Int × Int → Bool) : Option (List Int) := bfsA (sbA G).1.n.toNat (sbA H).1.n.toNat (sbA G).1.es (sbA H).1.es kpP is (max G.q H.q).toNat (st0 G) (st0 H)
/-- The word, whether there is none, and the error. -/
def srA (G H : Gr) (is : Int × Int → Bool) : List Int × Bool × Int :=
  if chkG G ≠ 0 ∨ chkG H ≠ 0 then ([], false, 1)
  else if (sbA G).2.2 ≠ 0 then ([], false, (sbA G).2.2)
  else if (sbA H).2.2 ≠ 0 then ([], false, (sbA H).2.2)
  else if st0 G = -1 ∧ st0 H = -1 then ([], true, 0)
  else ((fwA (srO G H is)).1, !(fwA (srO G H is)).2, 0)
theorem sbA_err (G : Gr) (h : chkG G = 0) : (sbA G).2.2 = 0 ∨ (sbA G).2.2 = 4 := by
  unfold sbA
  rw [if_pos h]
  split
  · exact .inl rfl
  · cases sbGo G 66 0 ([upto G.n.toNat], []) with
    | none => exact .inr rfl
    | some r => exact .inl rfl
theorem sb_bd {G : Gr} (h : (sbA G).2.2 = 0) : (∀ s a, -1 ≤ nxt (sbA G).1.es s a ∧ nxt (sbA G).1.es s a < ((sbA G).1.n.toNat : Int)) ∨ ((sbA G).1.n = 0 ∧ st0 G = -1) := by
  obtain ⟨hv, _⟩ := sbA_ok h
  by_cases h0 : (sbA G).1.n = 0
  · exact .inr ⟨h0, by unfold st0; rw [if_neg (by omega)]⟩
  · exact .inl (fun s a => by have := nxt_bd hv s a; have := hv.n1; omega)
theorem sb_bd0 {G : Gr} (h : (sbA G).2.2 = 0) : (∀ s a, -1 ≤ nxt (sbA G).1.es s a ∧ nxt (sbA G).1.es s a < ((sbA G).1.n.toNat : Int)) ∧ -1 ≤ st0 G ∧ st0 G < ((sbA G).1.n.toNat : Int) := by
  obtain ⟨hv, _⟩ := sbA_ok h
  have hn := hv.n1
  refine ⟨fun s a => ?_, ?_, ?_⟩
  · have := nxt_bd hv s a; omega
  · unfold st0; split <;> omega
  · unfold st0; split <;> omega
/-- All that MinimalEquals says of the four answers. -/
theorem equals_plain (G H : Gr) : (srA G H oneB).2.2 = (srA G H incB).2.2 ∧ (srA G H oneB).2.2 = (srA H G incB).2.2 ∧ srA H G oneB = srA G H oneB ∧
    ((srA G H oneB).2.2 = 0 → (srA G H oneB).2.1 = ((srA G H incB).2.1 && (srA H G incB).2.1) ∧
      ((srA G H incB).2.1 = true ∨ ((srA H G incB).2.1 = false ∧ slt (srA H G incB).1 (srA G H incB).1) → (srA G H oneB).1 = (srA H G incB).1) ∧
      (¬ ((srA G H incB).2.1 = true ∨ ((srA H G incB).2.1 = false ∧ slt (srA H G incB).1 (srA G H incB).1)) → (srA G H oneB).1 = (srA G H incB).1)) := by
  by_cases hc : chkG G ≠ 0 ∨ chkG H ≠ 0
  · have hc2 : chkG H ≠ 0 ∨ chkG G ≠ 0 := hc.symm
    have e1 : ∀ is, srA G H is = ([], false, 1) := fun is => by unfold srA; rw [if_pos hc]
    have e2 : ∀ is, srA H G is = ([], false, 1) := fun is => by unfold srA; rw [if_pos hc2]
    rw [e1 oneB, e1 incB, e2 incB, e2 oneB]
    exact ⟨rfl, rfl, rfl, fun h => by cases h⟩
  · have hG : chkG G = 0 := Decidable.byContradiction fun h => hc (.inl h)
    have hH : chkG H = 0 := Decidable.byContradiction fun h => hc (.inr h)
    have hc2 : ¬ (chkG H ≠ 0 ∨ chkG G ≠ 0) := fun h => hc h.symm
    by_cases kG : (sbA G).2.2 = 0
    · by_cases kH : (sbA H).2.2 = 0
      · by_cases h0 : st0 G = -1 ∧ st0 H = -1
        · have h02 : st0 H = -1 ∧ st0 G = -1 := ⟨h0.2, h0.1⟩
          have e1 : ∀ is, srA G H is = ([], true, 0) := fun is => by unfold srA; rw [if_neg hc, if_neg (by simp [kG]), if_neg (by simp [kH]), if_pos h0]
          have e2 : ∀ is, srA H G is = ([], true, 0) := fun is => by unfold srA; rw [if_neg hc2, if_neg (by simp [kH]), if_neg (by simp [kG]), if_pos h02]
          rw [e1 oneB, e1 incB, e2 incB, e2 oneB]
          exact ⟨rfl, rfl, rfl, fun _ => ⟨rfl, fun _ => rfl, fun _ => rfl⟩⟩
        · have h02 : ¬ (st0 H = -1 ∧ st0 G = -1) := fun h => h0 ⟨h.2, h.1⟩
          have e1 : ∀ is, srA G H is = ((fwA (srO G H is)).1, !(fwA (srO G H is)).2, 0) := fun is => by unfold srA; rw [if_neg hc, if_neg (by simp [kG]), if_neg (by simp [kH]), if_neg h0]
          have e2 : ∀ is, srA H G is = ((fwA (srO H G is)).1, !(fwA (srO H G is)).2, 0) := fun is => by unfold srA; rw [if_neg hc2, if_neg (by simp [kH]), if_neg (by simp [kG]), if_neg h02]
          obtain ⟨b1, b2, b3⟩ := sb_bd0 kG
          obtain ⟨c1, c2, c3⟩ := sb_bd0 kH
          have hL : (max H.q G.q).toNat = (max G.q H.q).toNat := by omega
          obtain ⟨L1, L2, L3, L4, L5⟩ := equal_laws (L := (max G.q H.q).toNat) b1 c1 b2 b3 c2 c3
          have f1 : srO H G oneB = srO G H oneB := by unfold srO; rw [hL]; exact L1.symm
          have f2 : srO H G incB = bfsA (sbA H).1.n.toNat (sbA G).1.n.toNat (sbA H).1.es (sbA G).1.es kpP incB (max G.q H.q).toNat (st0 H) (st0 G) := by unfold srO; rw [hL]
          rw [← f2] at L2 L3 L4 L5
          change srO G H oneB = none ↔ srO G H incB = none ∧ srO H G incB = none at L2
          change srO G H incB = none → srO G H oneB = srO H G incB at L3
          change srO H G incB = none → srO G H oneB = srO G H incB at L4
          change ∀ u v, srO G H incB = some u → srO H G incB = some v → (slt v u → srO G H oneB = srO H G incB) ∧ (¬ slt v u → srO G H oneB = srO G H incB) at L5
          rw [e1 oneB, e1 incB, e2 incB, e2 oneB, f1]
          refine ⟨rfl, rfl, rfl, fun _ => ?_⟩
          cases ha : srO G H incB with
          | none =>
            rw [L3 ha]
            cases hb : srO H G incB with
            | none => exact ⟨rfl, fun _ => rfl, fun _ => rfl⟩
            | some v => exact ⟨rfl, fun _ => rfl, fun h => absurd (.inl rfl) h⟩
          | some u =>
            cases hb : srO H G incB with
            | none =>
              rw [L4 hb, ha]
              refine ⟨rfl, fun h => ?_, fun _ => rfl⟩
              rcases h with h | ⟨h, _⟩ <;> cases h
            | some v =>
              obtain ⟨k1, k2⟩ := L5 u v ha hb
              by_cases hlt : slt v u
              · rw [k1 hlt, hb]
                exact ⟨rfl, fun _ => rfl, fun h => absurd (.inr ⟨rfl, hlt⟩) h⟩
              · rw [k2 hlt, ha]
                refine ⟨rfl, fun h => ?_, fun _ => rfl⟩
                rcases h with h | ⟨_, h⟩
                · cases h
                · exact absurd h hlt
      · have kH4 : (sbA H).2.2 = 4 := (sbA_err H hH).resolve_left kH
        have e1 : ∀ is, srA G H is = ([], false, 4) := fun is => by unfold srA; rw [if_neg hc, if_neg (by simp [kG]), if_pos kH, kH4]
        have e2 : ∀ is, srA H G is = ([], false, 4) := fun is => by unfold srA; rw [if_neg hc2, if_pos kH, kH4]
        rw [e1 oneB, e1 incB, e2 incB, e2 oneB]
        exact ⟨rfl, rfl, rfl, fun h => by cases h⟩
    · have kG4 : (sbA G).2.2 = 4 := (sbA_err G hG).resolve_left kG
      have e1 : ∀ is, srA G H is = ([], false, 4) := fun is => by unfold srA; rw [if_neg hc, if_pos kG, kG4]
      have e2 : ∀ is, srA H G is = ([], false, 4) := fun is => by
        unfold srA
        rw [if_neg hc2]
        by_cases kH : (sbA H).2.2 = 0
        · rw [if_neg (by simp [kH]), if_pos kG, kG4]
        · rw [if_pos kH, (sbA_err H hH).resolve_left kH]
      rw [e1 oneB, e1 incB, e2 incB, e2 oneB]
      exact ⟨rfl, rfl, rfl, fun h => by cases h⟩
end Go.Proofs.YtmdjndbjfgncmaaGreatDoor
namespace Go.Proofs.YtmdjndbjfgncmaaGreatDoor
open Go.RowKit Go.Sort Go.Shelf Go.Lib

def leadsA (G : Gr) : List Int → List Int → List Int
  | st, [] => st
  | st, b :: l => if (stepA G st b).2 = 0 then leadsA G (stepA G st b).1 l else []
theorem stepA_len (G : Gr) (st : List Int) (b : Int) : (stepA G st b).1.length ≤ 64 := by
  unfold stepA
  split
  · rename_i h
    have hv := chkG_ok.1 h
    split
    · split
      · exact Nat.zero_le _
      · have := uptof_len (nxP G.es st b) G.n.toNat
        have := hv.n2
        show (nextA G st b).length ≤ 64
        unfold nextA
        omega
    · exact Nat.zero_le _
  · exact Nat.zero_le _
theorem leadsA_go {G : Gr} {st ws : List Int} {k : Nat} (h : k < ws.length) (h2 : (stepA G st ws[k]).2 = 0) : leadsA G st (ws.drop k) = leadsA G (stepA G st ws[k]).1 (ws.drop (k + 1)) := by
  rw [List.drop_eq_getElem_cons h, leadsA, if_pos h2]
theorem leadsA_halt {G : Gr} {st ws : List Int} {k : Nat} (h : k < ws.length) (h2 : (stepA G st ws[k]).2 ≠ 0) : leadsA G st (ws.drop k) = [] := by
  rw [List.drop_eq_getElem_cons h, leadsA, if_neg h2]
theorem leadsA_end {G : Gr} {st ws : List Int} {k : Nat} (h : ws.length ≤ k) : leadsA G st (ws.drop k) = st := by
  rw [List.drop_eq_nil_of_le h]; rfl
/-- Numbers. -/
def RetLd (l : List Int) (w : World) (e : Ending) (w' : World) : Prop := ∃ q d, e = .returned (.slice q l.length d) ∧ Sl w' (Value.int .i64) q l ∧ RowKit.Below w.heap.size w w'

set_option maxRecDepth 100000 in
set_option maxHeartbeats 1000000 in
theorem leads13_any (G : Gr) (p : Option Addr) (c : Nat) (st ws : List Int) (q qw : Option Addr) (d dw : Nat) (w : World) (hin : Sg 3 w edE p G.es) (hst : Sl w (Value.int .i64) q st) (hws : Sl w (Value.int .i64) qw ws)
    (hl : G.es.length ≤ 10000) (hs : st.length ≤ 1000) (hw : ws.length ≤ 10000) :
    Calls Tryz.prog 24 #[(.agg #[.int .i64 G.q, .int .i64 G.n, .slice p G.es.length c]), .slice q st.length d, .slice qw ws.length dw] w (RetLd (leadsA G st ws) w) := by
  obtain ⟨w0, hw0⟩ : ∃ w0, w0 = w.alloc (.cells #[.int .i64 G.q, .int .i64 G.n, .slice p G.es.length c] 24) := ⟨_, rfl⟩
  have b0 : VRow w0 w.heap.size 24 [.int .i64 G.q, .int .i64 G.n, .slice p G.es.length c] := by subst hw0; exact VRow.new w _ _
  have hB0 : RowKit.Below w.heap.size w w0 := by subst hw0; exact (RowKit.Below.refl _ _).alloc (Nat.le_refl _) _
  have HST := hidI (fun W st' q' d' b (hW : RowKit.Below w.heap.size w W) (h : Sl W (Value.int .i64) q' st') (h2 : st'.length ≤ 1000) => gStep_any G p c st' q' d' b W (hin.below hW) h hl (by omega))
  have hst0 := hst.below hB0
  have HWS := hidI (fun W (hW : RowKit.Below w.heap.size w W) => hws.below hW)
  clear hin hst hws
  go_enter Tryz.func24, Tryz.ntmps24
  go_wp2
  rw [← hw0]
  clear hw0
  go_loopw [1, 13] (fun sv kv wr => ∃ (k : Nat) (st' : List Int) (q' : Option Addr) (d' : Nat), k ≤ ws.length ∧ sv = .slice q' st'.length d' ∧ kv = .int .i64 k ∧ Sl wr (Value.int .i64) q' st' ∧ st'.length ≤ 1000 ∧ Hid (leadsA G st' (ws.drop k) = leadsA G st ws) ∧ RowKit.Below w0.heap.size w0 wr) (fun _ kv _ => ws.length - (intOf kv).toNat)
  case atStart => exact ⟨0, st, q, d, by omega, rfl, rfl, hst0, hs, by rw [Hid, List.drop_zero], RowKit.Below.refl _ _⟩
  case round =>
    clear hst0
    obtain ⟨k, st', q', d', hk, rfl, rfl, hst, hs', hj, hB⟩ := hrel
    have hBw := hB0.trans (hB.mono hB0.size)
    by_cases hlt : k < ws.length
    · have hltI : (k : Int) < (ws.length : Int) := by omega
      obtain ⟨bw, ow, rfl, hbw, hcw⟩ := (HWS.out wr hBw).get k hlt
      have e0 := hcw k hlt
      have HC := hidI (HST.out wr st' q' d' ws[k] hBw hst hs')
      have HLN := hidI (stepA_len G st' ws[k])
      have HGO := hidI (fun h => @leadsA_go G st' ws k hlt h)
      have HHA := hidI (fun h => @leadsA_halt G st' ws k hlt h)
      have b1 := b0.below hB b0.lt
      have f0 := b1.at 0 rfl; have f1 := b1.at 1 rfl; have f2 := b1.at 2 rfl
      generalize ws[k] = lab at *
      generalize stepA G st' lab = x at *
      obtain ⟨r, er⟩ := x
      clear hcw hst
      go_wp2_with fail
      refine HC.out.mono ?_
      rintro e w5 ⟨p5, m5, c5, rfl, hown, hB5⟩
      obtain ⟨p5', c5', hv5, hs5⟩ := own_sl hown
      cases hv5
      change Sl w5 (Value.int .i64) p5 r at hs5
      have hB6 := hB.trans (hB5.mono hB.size)
      have hB7 := hB0.trans (hB6.mono hB0.size)
      clear hown HC f0 f1 f2 b1
      by_cases he : er = 0
      · subst he
        have HX := hidI ((HGO.out rfl).symm.trans hj.out)
        have hr := HLN.out
        change r.length ≤ 64 at hr
        have hr2 : r.length ≤ 1000 := by omega
        clear HGO HHA
        go_wp2
        go_roundw
        case rel => exact ⟨k + 1, r, p5, c5, by omega, rfl, by go_num, hs5, hr2, HX, hB6⟩
        case measure => simp [intOf]; omega
      · have HX := hidI (hj.out.symm.trans (HHA.out he))
        have heb : (er != 0) = true := by simpa using he
        clear HGO HHA he
        go_wp2
        go_ret
        rw [HX.out]
        exact ⟨none, 0, rfl, Sl.nil _ _ _, hB7⟩
    · have hltI : ¬ (k : Int) < (ws.length : Int) := by omega
      have HX := hidI (hj.out.symm.trans (leadsA_end (by omega)))
      go_wp2
      go_ret
      rw [HX.out]
      exact ⟨q', d', rfl, hst, hBw⟩

/-! ### Deterministic -/
def det13A (G : Gr) : Bool := !gr13 G && (decide ((detA G).2 = 0) && (detA G).1)
end Go.Proofs.YtmdjndbjfgncmaaGreatDoor
