/-
  Words, plain lemmas and walks, merged: Nv, Zd, Ia, Hm, If, Dt.
-/
import Derived.Test.YtocbhlohcikapaaGreatDoorZqi
import Derived.Lib.SmallJoins
import Derived.Deep.Slices
import Derived.Deep.Fields
import Derived.ChangeSame
import Derived.Test.YtocbhlohcikapaaGreatDoorTie
import Derived.Test.YtocbhlohcikapaaGreatDoorCards
import Derived.LaidMore
import Derived.SevenTiedAt
import Derived.Carry
import Derived.Test.YtocbhlohcikapaaGreatDoorZqa
import Derived.RangeFuncNested
import Derived.RangeFuncBound
import Derived.RangeFuncCalls
import Derived.RangeFuncLeaves
import Derived.Shelf.Abstract
import Derived.Shelf.RegionOpen
import Derived.OwnWalkIn
import Derived.TacticsInMore
import Derived.LoopNIn
import Derived.LoopIn
import Derived.Test.YtocbhlohcikapaaGreatDoorProg
import Derived.Deep.CutBlock
import Derived.Deep.DeepCutAuto
import Derived.Deep.RegionHeld3
import Derived.Orders
import Derived.RegionTactic
set_option linter.unusedVariables false
set_option linter.unusedSimpArgs false
namespace Go.Proofs.YtocbhlohcikapaaGreatDoor
open Go.Joins Go.ChangeShapes Go.WideShapes Go.ChangeAt Go.RowKit Go.Deep
open Go.ChangeMaps (open_string shut_string)

section
variable {H : Type} {enc : TypeId × Value → H} {P : Program} {w : World} {base : Nat} {spare : Nat → Bool} {held : Bool}
theorem open_slice_fields {t e : TypeId} {fs : Array Field} {fuel : Nat} {cs : List Value} {x : DataW H × List MemPlace} (ht : P.underlying t = some (.slice e)) (he : P.underlying e = some (.struct fs))
    (hone : oneCellFields P fs = true) (hC : P.cellsOf e = fs.size) (h : DataW.trod enc P w base spare held fuel t cs = some x) :
    (cs = [.slice none 0 0] ∧ x = (.nil, [])) ∨
    ∃ (a : Addr) (len cap m : Nat) (D : Nat → DataW H) (Pl : Nat → List MemPlace), cs = [.slice (some a) len cap] ∧ base ≤ a.block ∧ len ≤ cap ∧ cap ≤ maxLen ∧ m = (if spare a.block then cap else len) ∧
      x = (.slice ((List.range len).map D) ((List.range (m - len)).map fun j => D (len + j)), MemPlace.row a (m * fs.size) ++ (List.range m).flatMap Pl) ∧
      ∀ i, i < m → ∃ (ys : List (DataW H × List MemPlace)) (n : Nat), D i = .agg (ys.map (·.1)) ∧ Pl i = ys.flatMap (·.2) ∧ ys.length = fs.size ∧
        ∀ (j : Nat) (f : Field), fs[j]? = some f → ∃ (v : Value) (y : DataW H × List MemPlace), w.cell? (a.add (i * fs.size + j)) = some v ∧ ys[j]? = some y ∧ DataW.trod enc P w base spare held n f.type [v] = some y := by
  rcases open_slice ht h with h0 | ⟨a, len, cap, m, n, D, Pl, hcs, hb, hl, hm, hmm, hx, hi⟩
  · exact .inl h0
  · refine .inr ⟨a, len, cap, m, D, Pl, hcs, hb, hl, hm, hmm, by rw [hC] at hx; exact hx, fun i him => ?_⟩
    obtain ⟨cs', hc, ht'⟩ := hi i him
    rw [hC] at hc
    obtain ⟨ys, n', hn', hy, hlen, hyl, hf⟩ := DataW.trod_struct he ht'
    obtain ⟨_, hcl, hat⟩ := World.cells?_some hc
    simp only [Prod.mk.injEq] at hy
    refine ⟨ys, n', hy.1, hy.2, hyl, fun j f hj => ?_⟩
    obtain ⟨ho, hk⟩ := hone_of hone j f hj
    have hjl : j < fs.size := (Array.getElem?_eq_some_iff.1 hj).1
    have hcell := hat j hjl
    have hv : cs'[j]? = some (cs'[j]'(by omega)) := List.getElem?_eq_getElem (by omega)
    have h1 := hf j f hj
    rw [ho, hk] at h1
    have hone' : (cs'.drop j).take 1 = [cs'[j]'(by omega)] := by
      rw [List.drop_eq_getElem_cons (by omega)]
      rfl
    rw [hone'] at h1
    have hys : ys[j]? = some (ys[j]'(by omega)) := List.getElem?_eq_getElem (by omega)
    refine ⟨_, _, ?_, hys, h1.trans hys⟩
    rw [← Go.Deep.add_add, hcell, hv]
end
/-- Elements that each exist make a list. -/
theorem list_of {α : Type} {P : Nat → α → Prop} : ∀ (n : Nat), (∀ i, i < n → ∃ x, P i x) → ∃ l : List α, l.length = n ∧ ∀ i (h : i < l.length), P i l[i]
  | 0, _ => ⟨[], rfl, fun i h => by simp at h⟩
  | n + 1, h => by
    obtain ⟨l, hl, hp⟩ := list_of n (fun i hi => h i (by omega))
    obtain ⟨x, hx⟩ := h n (by omega)
    refine ⟨l ++ [x], by simp [hl], fun i hi => ?_⟩
    by_cases h2 : i < l.length
    · rw [List.getElem_append_left h2]; exact hp i h2
    · have : i = n := by simp at hi; omega
      subst this
      subst hl
      simpa using hx

theorem cellsInt : Tryz.prog.cellsOf 3 = 1 := by kernel_rfl
theorem cellsGraph : Tryz.prog.cellsOf 24 = 3 := by kernel_rfl
theorem readGraph : Tryz.prog.readableRec 24 = true ∧ 24 < Tryz.prog.types.size := ⟨by kernel_rfl, of_decide_eq_true (by kernel_rfl)⟩
theorem readInts : Tryz.prog.readableRec 30 = true ∧ 30 < Tryz.prog.types.size := ⟨by kernel_rfl, of_decide_eq_true (by kernel_rfl)⟩
theorem readInt : Tryz.prog.readableRec 3 = true ∧ 3 < Tryz.prog.types.size := ⟨by kernel_rfl, of_decide_eq_true (by kernel_rfl)⟩

/-- A list of ints inside what came in, as the walks take it. -/
theorem ints_at {H : Type} {enc : TypeId × Value → H} {W : World} {fuel : Nat} {v : Value} {y : DataW H × List MemPlace}
    (h : DataW.trod enc Tryz.prog W 0 (fun _ => true) true fuel 30 [v] = some y) (hlt : ∀ x ∈ y.2, x.block < W.heap.size) :
    ∃ (p : Option Addr) (l : List Int) (c : Nat), v = .slice p l.length c ∧ Sl W (Value.int .i64) p l ∧ l.length ≤ 9223372036854775807 ∧ l.length ≤ c := by
  rcases open_ints Tryz.underlying30 Tryz.underlying3 cellsInt h with ⟨hcs, hx⟩ | ⟨a, len, cap, zs, hcs, _, hl, hm, hz, hx, hcell, _⟩
  · simp at hcs
    subst hcs
    exact ⟨none, [], 0, rfl, Sl.nil _ _ _, by simp, by simp⟩
  · simp at hcs
    subst hcs hx
    simp only [if_true] at hz
    have hlen : (zs.take len).length = len := by simp; omega
    refine ⟨some a, zs.take len, cap, by rw [hlen], ?_, by rw [hlen]; unfold maxLen at hm; omega, by rw [hlen]; exact hl⟩
    by_cases h0 : len = 0
    · subst h0; exact .inl (by simp)
    · obtain ⟨b, off, spot⟩ := a
      have hspot : spot = none := by simpa [Addr.add] using World.cell?_spot (hcell 0 (by omega))
      subst hspot
      refine .inr ⟨b, off, rfl, hlt (.cell b off) (MemPlace.mem_row.2 ⟨0, by omega, by simp⟩), fun i hi => ?_⟩
      rw [← add_plain, hcell i (by omega)]
      have : i < zs.length := by omega
      simp [List.getD_eq_getElem?_getD, this]
/-- A list of edges inside what came in, as the walks take it. -/
theorem edges_at {H : Type} {enc : TypeId × Value → H} {W : World} {fuel : Nat} {v : Value} {y : DataW H × List MemPlace}
    (h : DataW.trod enc Tryz.prog W 0 (fun _ => true) true fuel 22 [v] = some y) (hlt : ∀ x ∈ y.2, x.block < W.heap.size) :
    ∃ (p : Option Addr) (l : List Ed) (c : Nat), v = .slice p l.length c ∧ Sg 3 W edE p l ∧ l.length ≤ 9223372036854775807 := by
  rcases open_slice_fields Tryz.underlying22 Tryz.underlying44 (by kernel_rfl) (by kernel_rfl) h with ⟨hcs, hx⟩ | ⟨a, len, cap, m, D, Pl, hcs, _, hl, hm, hmm, hx, hf⟩
  · simp at hcs
    subst hcs
    exact ⟨none, [], 0, rfl, Sg.nil _ _ _ _, by simp⟩
  · simp at hcs
    subst hcs hx
    simp only [if_true] at hmm
    subst hmm
    obtain ⟨l, hll, hp⟩ := list_of (P := fun i (s : Ed) => W.cell? (a.add (i * 3 + 0)) = some (.int .i64 s.f) ∧ W.cell? (a.add (i * 3 + 1)) = some (.int .i64 s.l) ∧ W.cell? (a.add (i * 3 + 2)) = some (.int .i64 s.t)) len (fun i hi => by
      obtain ⟨ys, n, _, _, _, hj⟩ := hf i (by omega)
      obtain ⟨v0, y0, hc0, _, h0⟩ := hj 0 _ rfl
      obtain ⟨v1, y1, hc1, _, h1⟩ := hj 1 _ rfl
      obtain ⟨v2, y2, hc2, _, h2⟩ := hj 2 _ rfl
      obtain ⟨n0, e0, _, _⟩ := DataW.trod_int Tryz.underlying3 h0
      obtain ⟨n1, e1, _, _⟩ := DataW.trod_int Tryz.underlying3 h1
      obtain ⟨n2, e2, _, _⟩ := DataW.trod_int Tryz.underlying3 h2
      simp at e0 e1 e2
      subst e0 e1 e2
      exact ⟨⟨n0, n1, n2⟩, hc0, hc1, hc2⟩)
    subst hll
    refine ⟨some a, l, _, rfl, ?_, by unfold maxLen at hm; omega⟩
    by_cases h0 : l.length = 0
    · exact .inl (List.length_eq_zero_iff.1 h0)
    · obtain ⟨b, off, spot⟩ := a
      have hspot : spot = none := by simpa [Addr.add] using World.cell?_spot (hp 0 (by omega)).1
      subst hspot
      refine .inr ⟨b, off, rfl, hlt (.cell b off) (List.mem_append_left _ (MemPlace.mem_row.2 ⟨0, Nat.mul_pos (by omega) (by decide), by simp⟩)), fun i hi j hj => ?_⟩
      have hc := hp i hi
      have : j = 0 ∨ j = 1 ∨ j = 2 := by omega
      rw [Nat.add_assoc, ← add_plain]
      rcases this with rfl | rfl | rfl
      · rw [hc.1]; rfl
      · rw [hc.2.1]; rfl
      · rw [hc.2.2]; rfl
set_option maxRecDepth 100000 in
/-- A graph that came in, as the walks take it. -/
theorem graph_in {H : Type} {enc : TypeId × Value → H} {W : World} {ps : List MemPlace} {v : Value} {d : DataW H} {base : Nat} (hval : Value.okWide Tryz.prog W .any base 24 v)
    (h : DataW.Trod enc Tryz.prog W 0 (fun _ => true) true 24 v d ps) (hlt : ∀ x ∈ ps, x.block < W.heap.size) :
    ∃ (G : Gr) (p : Option Addr) (c : Nat), v = .agg #[.int .i64 G.q, .int .i64 G.n, .slice p G.es.length c] ∧ Sg 3 W edE p G.es ∧ G.es.length ≤ 9223372036854775807 := by
  obtain ⟨v0, v1, v2, y0, y1, y2, n, rfl, rfl, rfl, h0, h1, h2⟩ := open_agg3 Tryz.underlying24 (by kernel_rfl) cellsGraph hval h
  obtain ⟨q, e0, _, _⟩ := DataW.trod_int Tryz.underlying3 h0
  obtain ⟨k, e1, _, _⟩ := DataW.trod_int Tryz.underlying3 h1
  simp at e0 e1
  subst e0 e1
  obtain ⟨p, l, c, rfl, s, b⟩ := edges_at h2 (fun x hx => hlt x (List.mem_append_right _ (List.mem_append_right _ hx)))
  exact ⟨⟨q, k, l⟩, p, c, rfl, s, b⟩

end Go.Proofs.YtocbhlohcikapaaGreatDoor
namespace Go.Proofs.YtocbhlohcikapaaGreatDoor
open Go.Joins Go.ChangeShapes Go.WideShapes Go.ChangeAt Go.RowKit Go.Deep

set_option maxRecDepth 100000 in
theorem door_metN (os : Os) (args : Array Value) : laidMetH Tryz.prog Rows.minimalComparesRow.laid ((World.doorLaid Tryz.prog 24 os).forCall (fun _ _ => 0) ⟨#[], args, []⟩).memory :=
  laidMetH_of_parts3 (fuel := 8) (laidMet_of_run' 8 (by kernel_rfl) (by kernel_rfl)) (by kernel_rfl) (by kernel_rfl)
end Go.Proofs.YtocbhlohcikapaaGreatDoor
namespace Go.Proofs.YtocbhlohcikapaaGreatDoor
open Go.RowKit

/-! ### Paths -/
/-- So many edges lead from a state to another one. -/
def stpI (es : List Ed) : Nat → Int → Int → Prop
  | 0, s, t => s = t
  | n + 1, s, t => ∃ x ∈ es, x.f = s ∧ stpI es n x.t t
def Rch (es : List Ed) (s t : Int) : Prop := ∃ n, stpI es n s t
theorem stpI_app {es : List Ed} : ∀ {n m : Nat} {s t u : Int}, stpI es n s t → stpI es m t u → stpI es (n + m) s u
  | 0, m, s, t, u, h, k => by cases h; rwa [Nat.zero_add]
  | n + 1, m, s, t, u, ⟨x, hx, hf, h⟩, k => by
    rw [Nat.succ_add]
    exact ⟨x, hx, hf, stpI_app h k⟩
theorem Rch.refl {es : List Ed} (s : Int) : Rch es s s := ⟨0, rfl⟩
theorem Rch.trans {es : List Ed} {s t u : Int} (h : Rch es s t) (k : Rch es t u) : Rch es s u := by
  obtain ⟨n, h⟩ := h; obtain ⟨m, k⟩ := k
  exact ⟨n + m, stpI_app h k⟩
theorem Rch.edge {es : List Ed} {x : Ed} (h : x ∈ es) : Rch es x.f x.t := ⟨1, x, h, rfl, rfl⟩
/-- What holds of the first state, and is kept by edges, holds of all that is reached. -/
theorem Rch.keep {es : List Ed} {P : Int → Prop} (hP : ∀ x ∈ es, P x.f → P x.t) : ∀ {s t : Int}, Rch es s t → P s → P t := by
  rintro s t ⟨n, h⟩
  induction n generalizing s with
  | zero => cases h; exact id
  | succ n ih =>
    obtain ⟨x, hx, rfl, h⟩ := h
    exact fun hs => ih h (hP x hx hs)

/-! ### Sets as lists of truth values -/
def On (L : List Bool) (i : Nat) : Prop := L.getD i false = true
instance (L : List Bool) (i : Nat) : Decidable (On L i) := inferInstanceAs (Decidable (_ = _))
theorem on_lt {L : List Bool} {i : Nat} (h : On L i) : i < L.length := by
  unfold On at h
  rw [List.getD_eq_getElem?_getD] at h
  by_cases hi : i < L.length
  · exact hi
  · rw [List.getElem?_eq_none (by omega)] at h; cases h
theorem on_set {L : List Bool} {i j : Nat} (hi : i < L.length) : On (L.set i true) j ↔ j = i ∨ On L j := by
  unfold On
  rw [List.getD_eq_getElem?_getD, List.getD_eq_getElem?_getD, List.getElem?_set]
  by_cases h : i = j
  · subst h; simp [hi]
  · rw [if_neg h]
    constructor
    · exact .inr
    · rintro (e | e)
      · exact absurd e.symm h
      · exact e
theorem on_rep (n i : Nat) : ¬ On (List.replicate n false) i := by
  unfold On
  rw [List.getD_eq_getElem?_getD, List.getElem?_replicate]
  split <;> simp
theorem on_ext {L M : List Bool} (h : L.length = M.length) (k : ∀ i, i < L.length → (On L i ↔ On M i)) : L = M := by
  refine List.ext_getElem h fun i h1 h2 => ?_
  have := k i h1
  unfold On at this
  rw [List.getD_eq_getElem?_getD, List.getD_eq_getElem?_getD, List.getElem?_eq_getElem h1, List.getElem?_eq_getElem h2] at this
  rw [Bool.eq_iff_iff]; exact this
/-- How many are not in a set. -/
def offs (L : List Bool) : Nat := L.countP (fun b => !b)
theorem offs_set : ∀ {L : List Bool} {i : Nat}, i < L.length → ¬ On L i → offs (L.set i true) + 1 = offs L
  | [], i, h, _ => by simp at h
  | b :: L, 0, _, h => by
    have hb : b = false := by cases b <;> simp_all [On]
    subst hb
    simp [offs]
  | b :: L, i + 1, h, k => by
    have := offs_set (L := L) (i := i) (by simpa using h) (fun e => k (by unfold On at e ⊢; simpa using e))
    unfold offs at this ⊢
    rw [List.set_cons_succ, List.countP_cons, List.countP_cons]; omega
theorem offs_mono : ∀ {L M : List Bool}, L.length = M.length → (∀ i, On L i → On M i) → offs M ≤ offs L
  | [], [], _, _ => Nat.le_refl _
  | [], _ :: _, h, _ => by simp at h
  | _ :: _, [], h, _ => by simp at h
  | a :: L, b :: M, h, k => by
    have ih := offs_mono (L := L) (M := M) (by simpa using h) (fun i e => by have := k (i + 1) (by unfold On at e ⊢; simpa using e); unfold On at this ⊢; simpa using this)
    have h0 := k 0
    unfold offs at ih ⊢
    rw [List.countP_cons, List.countP_cons]
    cases a <;> cases b <;> simp_all [On] <;> omega
theorem offs_rep (n : Nat) : offs (List.replicate n false) = n := by
  unfold offs; simp [List.countP_replicate]
theorem offs_le (L : List Bool) : offs L ≤ L.length := List.countP_le_length

/-! ### The search that goes deep first -/
/-- Where the edges of a state lead, in order. -/
def nxs (es : List Ed) (s : Nat) : List Int := (es.filter (fun x => decide (x.f = (s : Int)))).map Ed.t
theorem mem_nxs {es : List Ed} {s : Nat} {t : Int} : t ∈ nxs es s ↔ ∃ x ∈ es, x.f = (s : Int) ∧ x.t = t := by
  unfold nxs
  rw [List.mem_map]
  constructor
  · rintro ⟨x, hx, rfl⟩
    obtain ⟨h1, h2⟩ := List.mem_filter.1 hx
    exact ⟨x, h1, of_decide_eq_true h2, rfl⟩
  · rintro ⟨x, h1, h2, rfl⟩
    exact ⟨x, List.mem_filter.2 ⟨h1, decide_eq_true h2⟩, rfl⟩
/-- One more state: visited if it was not. -/
def vis1 (v : List Bool → Nat → List Bool) (L : List Bool) (t : Int) : List Bool := if L.getD t.toNat false = true then L else v L t.toNat
def visA (es : List Ed) : Nat → List Bool → Nat → List Bool
  | 0, L, _ => L
  | f + 1, L, s => (nxs es s).foldl (vis1 (visA es f)) (L.set s true)
def rchA (G : Gr) (s : Nat) : List Bool := visA G.es (G.n.toNat + 1) (List.replicate G.n.toNat false) s

structure Vis (es : List Ed) (L M : List Bool) (ok : Int → Prop) : Prop where
  len : M.length = L.length
  mono : ∀ i, On L i → On M i
  snd : ∀ i : Nat, On M i → On L i ∨ ok i
  cls : ∀ i : Nat, On M i → ¬ On L i → ∀ t ∈ nxs es i, On M t.toNat
theorem visA_ok {es : List Ed} {n : Nat} (hes : ∀ x ∈ es, 0 ≤ x.t ∧ x.t < n) : ∀ (f : Nat) (L : List Bool) (s : Nat), L.length = n → s < n → ¬ On L s → offs L ≤ f → Vis es L (visA es f L s) (fun t => Rch es s t) ∧ On (visA es f L s) s
  | 0, L, s, hl, hs, ho, hf => by
    have := offs_set (by omega) ho; omega
  | f + 1, L, s, hl, hs, ho, hf => by
    have hoff := offs_set (L := L) (i := s) (by omega) ho
    have key : ∀ (ts : List Int) (A : List Bool), (∀ t ∈ ts, ∃ x ∈ es, x.f = (s : Int) ∧ x.t = t) → A.length = n → offs A ≤ f →
        Vis es A (ts.foldl (vis1 (visA es f)) A) (fun t => Rch es s t) ∧ ∀ t ∈ ts, On (ts.foldl (vis1 (visA es f)) A) t.toNat := by
      intro ts
      induction ts with
      | nil => intro A _ _ _; exact ⟨⟨rfl, fun _ h => h, fun _ h => .inl h, fun _ h k => absurd h k⟩, fun _ h => by cases h⟩
      | cons t ts ih =>
        intro A hts hA hfA
        obtain ⟨x, hx, hxf, hxt⟩ := hts t (by simp)
        have hb := hes x hx
        rw [hxt] at hb
        have hR : Rch es s t := by have := Rch.edge hx; rwa [hxf, hxt] at this
        rw [List.foldl_cons]
        have one : Vis es A (vis1 (visA es f) A t) (fun t => Rch es s t) ∧ On (vis1 (visA es f) A t) t.toNat := by
          unfold vis1
          by_cases hon : On A t.toNat
          · rw [if_pos (show A.getD t.toNat false = true from hon)]
            exact ⟨⟨rfl, fun _ h => h, fun _ h => .inl h, fun _ h k => absurd h k⟩, hon⟩
          · rw [if_neg (show ¬ A.getD t.toNat false = true from hon)]
            obtain ⟨v, h2⟩ := visA_ok hes f A t.toNat hA (by omega) hon hfA
            refine ⟨⟨v.len, v.mono, fun i hi => ?_, v.cls⟩, h2⟩
            rcases v.snd i hi with h | h
            · exact .inl h
            · refine .inr (hR.trans ?_)
              have e : ((t.toNat : Nat) : Int) = t := by omega
              rw [← e]; exact h
        obtain ⟨v1, o1⟩ := one
        obtain ⟨v2, o2⟩ := ih (vis1 (visA es f) A t) (fun u hu => hts u (by simp [hu])) (by rw [v1.len]; exact hA) (Nat.le_trans (offs_mono v1.len.symm v1.mono) hfA)
        refine ⟨⟨v2.len.trans v1.len, fun i h => v2.mono i (v1.mono i h), fun i h => ?_, fun i h k => ?_⟩, fun u hu => ?_⟩
        · rcases v2.snd i h with h | h
          · exact v1.snd i h
          · exact .inr h
        · by_cases hm : On (vis1 (visA es f) A t) i
          · exact fun u hu => v2.mono _ (v1.cls i hm k u hu)
          · exact v2.cls i h hm
        · rcases List.mem_cons.1 hu with rfl | hu
          · exact v2.mono _ o1
          · exact o2 u hu
    obtain ⟨v, o⟩ := key (nxs es s) (L.set s true) (fun t ht => mem_nxs.1 ht) (by rw [List.length_set]; exact hl) (by omega)
    show Vis es L ((nxs es s).foldl (vis1 (visA es f)) (L.set s true)) _ ∧ On ((nxs es s).foldl (vis1 (visA es f)) (L.set s true)) s
    have hset : ∀ j, On (L.set s true) j ↔ j = s ∨ On L j := fun j => on_set (by omega)
    refine ⟨⟨by rw [v.len, List.length_set], fun i h => v.mono i ((hset i).2 (.inr h)), fun i h => ?_, fun i h k => ?_⟩, v.mono s ((hset s).2 (.inl rfl))⟩
    · rcases v.snd i h with h | h
      · rcases (hset i).1 h with rfl | h
        · exact .inr (Rch.refl _)
        · exact .inl h
      · exact .inr h
    · by_cases hi : i = s
      · subst hi; exact o
      · exact v.cls i h (fun e => ((hset i).1 e).elim hi k)
theorem rchA_len (G : Gr) (hv : Vg G) {s : Nat} (hs : (s : Int) < G.n) : (rchA G s).length = G.n.toNat := by
  have h := (visA_ok (es := G.es) (n := G.n.toNat) (fun x hx => by have := hv.ins x hx; omega) (G.n.toNat + 1) (List.replicate G.n.toNat false) s (by simp) (by omega) (on_rep _ _) (by rw [offs_rep]; omega)).1.len
  rw [List.length_replicate] at h; exact h
/-- What the search finds is what is reached. -/
theorem rchA_iff {G : Gr} (hv : Vg G) {s t : Nat} (hs : (s : Int) < G.n) : On (rchA G s) t ↔ Rch G.es s t := by
  obtain ⟨v, o⟩ := visA_ok (es := G.es) (n := G.n.toNat) (fun x hx => by have := hv.ins x hx; omega) (G.n.toNat + 1) (List.replicate G.n.toNat false) s (by simp) (by omega) (on_rep _ _) (by rw [offs_rep]; omega)
  constructor
  · intro h
    rcases v.snd t h with h | h
    · exact absurd h (on_rep _ _)
    · exact h
  · intro h
    have := h.keep (P := fun (u : Int) => On (rchA G s) u.toNat) (fun x hx hf => by
      have hb := hv.ins x hx
      exact v.cls x.f.toNat hf (on_rep _ _) x.t (mem_nxs.2 ⟨x, hx, by omega, rfl⟩)) (by rw [Int.toNat_natCast]; exact o)
    simpa using this

/-! ### The search in rounds -/
def rndE (L : List Bool) (x : Ed) : List Bool := if L.getD x.f.toNat false = true then L.set x.t.toNat true else L
def rnd (es : List Ed) (L : List Bool) : List Bool := es.foldl rndE L
def rnds (es : List Ed) : Nat → List Bool → List Bool
  | 0, L => L
  | k + 1, L => rnd es (rnds es k L)
def rchR (G : Gr) (s : Nat) : List Bool := rnds G.es G.n.toNat ((List.replicate G.n.toNat false).set s true)
theorem rndE_len (L : List Bool) (x : Ed) : (rndE L x).length = L.length := by unfold rndE; split <;> simp
theorem rnd_len : ∀ (es : List Ed) (L : List Bool), (rnd es L).length = L.length
  | [], _ => rfl
  | x :: es, L => by have := rnd_len es (rndE L x); unfold rnd at this ⊢; rw [List.foldl_cons, this, rndE_len]
theorem rnds_len (es : List Ed) (L : List Bool) : ∀ k, (rnds es k L).length = L.length
  | 0 => rfl
  | k + 1 => by rw [rnds, rnd_len, rnds_len es L k]
theorem rnd_ok {P : Int → Prop} : ∀ (es : List Ed) (L : List Bool), (∀ x ∈ es, 0 ≤ x.f ∧ 0 ≤ x.t ∧ x.t < L.length) → (∀ x ∈ es, P x.f → P x.t) → (∀ i : Nat, On L i → P i) →
    (∀ i, On L i → On (rnd es L) i) ∧ (∀ i : Nat, On (rnd es L) i → P i) ∧ ∀ x ∈ es, On L x.f.toNat → On (rnd es L) x.t.toNat
  | [], L, _, _, hL => ⟨fun _ h => h, hL, fun _ h => by cases h⟩
  | x :: es, L, hb, hP, hL => by
    have hx := hb x (by simp)
    have h0 : (∀ i, On L i → On (rndE L x) i) ∧ (∀ i : Nat, On (rndE L x) i → P i) ∧ (On L x.f.toNat → On (rndE L x) x.t.toNat) := by
      unfold rndE
      by_cases h : On L x.f.toNat
      · rw [if_pos (show L.getD x.f.toNat false = true from h)]
        have hs : ∀ j, On (L.set x.t.toNat true) j ↔ j = x.t.toNat ∨ On L j := fun j => on_set (by omega)
        refine ⟨fun i hi => (hs i).2 (.inr hi), fun i hi => ?_, fun _ => (hs _).2 (.inl rfl)⟩
        rcases (hs i).1 hi with rfl | hi
        · have := hP x (by simp) (by have := hL _ h; rwa [show ((x.f.toNat : Nat) : Int) = x.f by omega] at this)
          rwa [show ((x.t.toNat : Nat) : Int) = x.t by omega]
        · exact hL i hi
      · rw [if_neg (show ¬ L.getD x.f.toNat false = true from h)]
        exact ⟨fun _ h => h, hL, fun k => absurd k h⟩
    obtain ⟨a1, a2, a3⟩ := h0
    obtain ⟨b1, b2, b3⟩ := rnd_ok es (rndE L x) (fun y hy => by rw [rndE_len]; exact hb y (by simp [hy])) (fun y hy => hP y (by simp [hy])) a2
    refine ⟨fun i h => b1 i (a1 i h), b2, fun y hy h => ?_⟩
    rcases List.mem_cons.1 hy with rfl | hy
    · exact b1 _ (a3 h)
    · exact b3 y hy (a1 _ h)
theorem rchR_iff {G : Gr} (hv : Vg G) {s t : Nat} (hs : (s : Int) < G.n) : On (rchR G s) t ↔ Rch G.es s t := by
  obtain ⟨L0, hL0⟩ : ∃ L0, L0 = (List.replicate G.n.toNat false).set s true := ⟨_, rfl⟩
  have hlen : L0.length = G.n.toNat := by rw [hL0]; simp
  have on0 : ∀ i, On L0 i ↔ i = s := fun i => by
    rw [hL0, on_set (by simp; omega)]
    constructor
    · rintro (h | h)
      · exact h
      · exact absurd h (on_rep _ _)
    · exact .inl
  have hbd : ∀ k, ∀ x ∈ G.es, 0 ≤ x.f ∧ 0 ≤ x.t ∧ x.t < (rnds G.es k L0).length := fun k x hx => by rw [rnds_len, hlen]; have := hv.ins x hx; omega
  have hP : ∀ x ∈ G.es, Rch G.es s x.f → Rch G.es s x.t := fun x hx h => h.trans (Rch.edge hx)
  have snd : ∀ k, ∀ i : Nat, On (rnds G.es k L0) i → Rch G.es s i := by
    intro k
    induction k with
    | zero => intro i hi; rw [rnds, on0] at hi; subst hi; exact Rch.refl _
    | succ k ih => exact (rnd_ok (P := fun u => Rch G.es s u) G.es _ (hbd k) hP ih).2.1
  have mono : ∀ k i, On (rnds G.es k L0) i → On (rnds G.es (k + 1) L0) i := fun k => (rnd_ok (P := fun _ => True) G.es _ (hbd k) (fun _ _ _ => trivial) (fun _ _ => trivial)).1
  have step : ∀ k, ∀ x ∈ G.es, On (rnds G.es k L0) x.f.toNat → On (rnds G.es (k + 1) L0) x.t.toNat := fun k => (rnd_ok (P := fun _ => True) G.es _ (hbd k) (fun _ _ _ => trivial) (fun _ _ => trivial)).2.2
  -- closed, or more and more
  have grow : ∀ k, (∀ x ∈ G.es, On (rnds G.es k L0) x.f.toNat → On (rnds G.es k L0) x.t.toNat) ∨ offs (rnds G.es k L0) + (k + 1) ≤ G.n.toNat := by
    intro k
    induction k with
    | zero =>
      refine .inr ?_
      have := offs_set (L := List.replicate G.n.toNat false) (i := s) (by simp; omega) (on_rep _ _)
      rw [offs_rep, ← hL0] at this
      show offs L0 + 1 ≤ _
      omega
    | succ k ih =>
      by_cases hc : ∀ x ∈ G.es, On (rnds G.es k L0) x.f.toNat → On (rnds G.es k L0) x.t.toNat
      · have same : ∀ i, On (rnds G.es (k + 1) L0) i → On (rnds G.es k L0) i := fun i hi => by
          have := (rnd_ok (P := fun u => On (rnds G.es k L0) u.toNat) G.es _ (hbd k) hc (fun i h => by simpa using h)).2.1 i hi
          simpa using this
        exact .inl (fun x hx h => mono k _ (hc x hx (same _ h)))
      · rcases ih with ih | ih
        · exact absurd ih hc
        · refine .inr ?_
          have : ∃ x ∈ G.es, On (rnds G.es k L0) x.f.toNat ∧ ¬ On (rnds G.es k L0) x.t.toNat := Classical.byContradiction fun h => hc (fun x hx hf => Classical.byContradiction fun ht => h ⟨x, hx, hf, ht⟩)
          obtain ⟨x, hx, h1, h2⟩ := this
          have hb := hbd k x hx
          have h3 := offs_set (L := rnds G.es k L0) (i := x.t.toNat) (by omega) h2
          have h4 := offs_mono (L := (rnds G.es k L0).set x.t.toNat true) (M := rnds G.es (k + 1) L0) (by rw [List.length_set, rnds_len, rnds_len]) (fun i hi => by
            rcases (on_set (L := rnds G.es k L0) (by omega)).1 hi with rfl | hi
            · exact step k x hx h1
            · exact mono k i hi)
          omega
  have closed : ∀ x ∈ G.es, On (rnds G.es G.n.toNat L0) x.f.toNat → On (rnds G.es G.n.toNat L0) x.t.toNat := by
    rcases grow G.n.toNat with h | h
    · exact h
    · omega
  have first : ∀ k, On (rnds G.es k L0) s := by
    intro k
    induction k with
    | zero => exact (on0 s).2 rfl
    | succ k ih => exact mono k s ih
  unfold rchR
  rw [← hL0]
  constructor
  · exact snd _ t
  · intro h
    have := h.keep (P := fun (u : Int) => On (rnds G.es G.n.toNat L0) u.toNat) closed (by simpa using first _)
    simpa using this
theorem rchR_len (G : Gr) (s : Nat) : (rchR G s).length = G.n.toNat := by unfold rchR; rw [rnds_len]; simp
/-- Both searches find the same. -/
theorem rch_same {G : Gr} (hv : Vg G) {s : Nat} (hs : (s : Int) < G.n) : rchR G s = rchA G s :=
  on_ext (by rw [rchR_len, rchA_len G hv hs]) (fun i _ => by rw [rchR_iff hv hs, rchA_iff hv hs])
end Go.Proofs.YtocbhlohcikapaaGreatDoor
namespace Go.Proofs.YtocbhlohcikapaaGreatDoor
open Go.RowKit Go.Shelf
attribute [local go_sem] Oper.semAt_some

/-- What the sequence yields among the first k edges. -/
def lvL (es : List Ed) (s : Int) (k : Nat) : List (Nat × Ed) := ((List.range k).filter (fun i => decide ((eget es i).f = s))).map (fun i => (i, eget es i))
theorem lvL_zero (es : List Ed) (s : Int) : lvL es s 0 = [] := rfl
theorem lvL_succ {es : List Ed} {s : Int} {k : Nat} (h : k < es.length) : lvL es s (k + 1) = lvL es s k ++ (if es[k].f = s then [(k, es[k])] else []) := by
  unfold lvL
  rw [List.range_succ, List.filter_append, List.map_append]
  congr 1
  by_cases hs : es[k].f = s <;> simp [eget_eq es k h, hs]
theorem lvL_len (es : List Ed) (s : Int) (k : Nat) : (lvL es s k).length ≤ k := by
  unfold lvL
  rw [List.length_map]
  exact Nat.le_trans (List.length_filter_le _ _) (by simp)
/-- All blocks below b, but a, are as they were. -/
def KX (a b : Nat) (W W' : World) : Prop := ∀ i, i < b → i ≠ a → W'.heap[i]? = W.heap[i]?
theorem KX.refl (a b : Nat) (W : World) : KX a b W W := fun _ _ _ => rfl
theorem KX.trans {a b : Nat} {X Y Z : World} (h : KX a b X Y) (k : KX a b Y Z) : KX a b X Z := fun i h1 h2 => (k i h1 h2).trans (h i h1 h2)
theorem KX_b {a b n : Nat} (hn : b ≤ n) (W : World) (l : Nat) (o o' : Obj) (hl : n ≤ l) (_ : W.heap[l]? = some o) (_ : o.isCells = false) (_ : o.isWalk = false) : KX a b W (W.putObj l o') :=
  fun i h1 _ => World.putObj_heap_other (by omega)
theorem KX.boxed {a b B : Nat} {t : TypeId} {v : Value} {W W' : World} (h : KX a b W W') (h1 : B < b) (h2 : B ≠ a) (hb : Boxed W B t v) : Boxed W' B t v := (h B h1 h2).trans hb
/-- Edges in memory, in a block below n. -/
def SgB (n : Nat) (w : World) (p : Option Addr) (l : List Ed) : Prop :=
  l = [] ∨ ∃ b off, p = some ⟨b, off, none⟩ ∧ b < n ∧ b < w.heap.size ∧ ∀ i (h : i < l.length) j, j < 3 → w.cell? ⟨b, off + i * 3 + j, none⟩ = (edE l[i])[j]?
theorem SgB.of {n : Nat} {w : World} {p : Option Addr} {l : List Ed} (h : Sg 3 w edE p l) (hn : w.heap.size ≤ n) : SgB n w p l := by
  rcases h with h | ⟨b, off, h1, h2, h3⟩
  · exact .inl h
  · exact .inr ⟨b, off, h1, by omega, h2, h3⟩
theorem SgB.sg {n : Nat} {w : World} {p : Option Addr} {l : List Ed} (h : SgB n w p l) : Sg 3 w edE p l := by
  rcases h with h | ⟨b, off, h1, _, h2, h3⟩
  · exact .inl h
  · exact .inr ⟨b, off, h1, h2, h3⟩
theorem SgB.kept {n : Nat} {w w' : World} {p : Option Addr} {l : List Ed} (h : SgB n w p l) (hk : ∀ i, i < n → w'.heap[i]? = w.heap[i]?) : SgB n w' p l := by
  rcases h with h | ⟨b, off, h1, h2, h3, h4⟩
  · exact .inl h
  · have e := hk b h2
    have hlt : b < w'.heap.size := by
      rcases Nat.lt_or_ge b w'.heap.size with h' | h'
      · exact h'
      · rw [Array.getElem?_eq_none h', Array.getElem?_eq_getElem h3] at e; cases e
    exact .inr ⟨b, off, h1, h2, hlt, fun i hi j hj => (World.cell?_of_block (w := w) (a := ⟨b, off + i * 3 + j, none⟩) e).trans (h4 i hi j hj)⟩
theorem SgB.kx {n a b : Nat} {w w' : World} {p : Option Addr} {l : List Ed} (h : SgB n w p l) (hk : KX a b w w') (h1 : n ≤ b) (h2 : n ≤ a) : SgB n w' p l :=
  h.kept (fun i hi => hk i (by omega) (by omega))
theorem SgB.alloc {n : Nat} {w : World} {p : Option Addr} {l : List Ed} (h : SgB n w p l) (hn : n ≤ w.heap.size) (o : Obj) : SgB n (w.alloc o) p l :=
  h.kept (fun i hi => Below.heap_alloc w o i (by omega))
def encL (x : Nat × Ed) : Array Value := #[.int .i64 (x.1 : Int), .agg #[.int .i64 x.2.f, .int .i64 x.2.l, .int .i64 x.2.t]]

set_option maxRecDepth 100000 in
set_option maxHeartbeats 1000000 in
theorem leaving1_in (F : Fence) (n : Nat) (hf : F.fn 153) (hro : F.round = none) (hn : 1 ≤ n) (l a b m Bg Bs : Nat) (G : Gr) (s : Int) (p : Option Addr) (c : Nat) (hlen : G.es.length ≤ 1024) (J Jx : List (Nat × Ed) → World → Prop)
    (hA : ∀ pre W o, J pre W → J pre (W.alloc o))
    (hY : ∀ pre x W, J pre W → pre.length < G.es.length → YieldAt F (n - 1) Tryz.prog l (encL x) W fun e W' =>
      (e = .returned (.bool true) ∧ J (pre ++ [x]) W' ∧ KX a b W W') ∨ (e = .returned (.bool false) ∧ Jx (pre ++ [x]) W'))
    (W : World) (hma : m ≤ a) (hmb : m ≤ Bs) (hBs : Bs < b) (hBa : Bs ≠ a) (hg : VRow W Bg 24 [.int .i64 G.q, .int .i64 G.n, .slice p G.es.length c]) (hs : Boxed W Bs 3 (.int .i64 s)) (hin : SgB m W p G.es) (h0 : J [] W) :
    CallsIn F n Tryz.prog 153 #[.func (.yield l) #[] #[], .pointer (some ⟨Bg, 0, none⟩), .pointer (some ⟨Bs, 0, none⟩)] W fun e W' => (∃ v, e = .returned v) ∧
      ((∃ ys : List (Nat × Ed), ys = lvL G.es s G.es.length ∧ J ys W') ∨ (∃ pre : List (Nat × Ed), True ∧ Jx pre W')) := by
  refine callsIn_of_wp Tryz.func153 rfl hf ?_ hro
  simp only [Tryz.ntmps153, List.size_toArray, List.length_cons, List.length_nil, Nat.reduceAdd, Nat.reduceSub, Array.replicate_succ, Array.replicate_zero, List.push_toArray, List.append_toArray, List.nil_append, List.cons_append]
  have f2 := hg.at 2 rfl
  gi_wp2
  clear f2
  gi_loopw [9] (fun i wr => ∃ (k : Nat) (pre : List (Nat × Ed)), k ≤ G.es.length ∧ i = .int .i64 k ∧ Hid (pre = lvL G.es s k) ∧ J pre wr ∧ Boxed wr Bs 3 (.int .i64 s) ∧ SgB m wr p G.es) (fun i _ => G.es.length - (intOf i).toNat)
  case atStart => exact ⟨0, [], Nat.zero_le _, rfl, rfl, h0, hs, hin⟩
  case round =>
    obtain ⟨k, pre, hk, rfl, hp, hJs, hnx, hsg⟩ := hrel
    by_cases hlt : k < G.es.length
    · have hpl : pre.length < G.es.length := by rw [hp.out]; have := lvL_len G.es s k; omega
      obtain ⟨b3, o3, rfl, hb3, e0, e1, e2⟩ := hsg.sg.get3 k hlt rfl
      have HN := hidI (lvL_succ (s := s) hlt)
      have hnA := hnx.alloc (.cells #[.int .i64 G.es[k].f, .int .i64 G.es[k].l, .int .i64 G.es[k].t] 44)
      have hgA := hsg.alloc (by have := hnx.lt; omega) (.cells #[.int .i64 G.es[k].f, .int .i64 G.es[k].l, .int .i64 G.es[k].t] 44)
      have hJA := hA pre wr (.cells #[.int .i64 G.es[k].f, .int .i64 G.es[k].l, .int .i64 G.es[k].t] 44) hJs
      have HY := hidI (hY pre (k, G.es[k]) (wr.alloc (.cells #[.int .i64 G.es[k].f, .int .i64 G.es[k].l, .int .i64 G.es[k].t] 44)) hJA hpl)
      have hbs := hnA.cell
      generalize hx : G.es[k] = x at *
      by_cases he : x.f = s
      · have hb : (x.f == s) = true := by simpa using he
        have HN : Hid (lvL G.es s (k + 1) = lvL G.es s k ++ [(k, x)]) := by rw [Hid, HN.out, if_pos he]
        obtain ⟨fn, tmps, assign, body, hy, hR⟩ := HY.out
        unfold encL at hy
        simp only at hy
        clear he
        gi_wp2
        refine hR.mono ?_
        rintro e W3 (⟨rfl, hJ3, hk3⟩ | ⟨rfl, hJx3⟩)
        · gi_wp2
          go_roundw
          case rel => exact ⟨k + 1, _, by omega, by go_num, by unfold Hid; rw [HN.out, ← hp.out], hJ3, hk3.boxed hBs hBa hnA, hgA.kx hk3 (by omega) hma⟩
          case measure => simp [intOf]; omega
        · gi_wp2
          refine bodyPost_ret (results_none rfl _ _ _) rfl ?_
          exact ⟨⟨_, rfl⟩, .inr ⟨_, trivial, hJx3⟩⟩
      · have hb : (x.f == s) = false := by simpa using he
        have HN : Hid (lvL G.es s (k + 1) = lvL G.es s k) := by rw [Hid, HN.out, if_neg he, List.append_nil]
        clear he
        gi_wp2
        rename_i K1 hK1 x1 h1 w1 e1
        refine ⟨fun f hf => (by cases hf), hK1 _ _ ?_⟩
        clear e1
        gi_wp2
        go_roundw
        case rel => exact ⟨k + 1, _, by omega, by go_num, by unfold Hid; rw [HN.out, ← hp.out], hJA, hnA, hgA⟩
        case measure => simp [intOf]; omega
    · obtain rfl : k = G.es.length := by omega
      gi_wp2
      go_end0
      exact ⟨⟨_, rfl⟩, .inl ⟨_, hp.out, hJs⟩⟩

/-- The sequence, as the law of the loop takes it. -/
theorem leaving_stops (F : Fence) (n : Nat) (hf : F.fn 153) (hro : F.round = none) (hn : 1 ≤ n) (a b m Bg Bs : Nat) (G : Gr) (s : Int) (p : Option Addr) (c : Nat) (hlen : G.es.length ≤ 1024) (w : World)
    (hma : m ≤ a) (hmb : m ≤ Bs) (hBs : Bs < b) (hBa : Bs ≠ a) (hg : VRow w Bg 24 [.int .i64 G.q, .int .i64 G.n, .slice p G.es.length c]) (hs : Boxed w Bs 3 (.int .i64 s)) (hin : SgB m w p G.es) :
    SeqStopsK F n Tryz.prog 153 #[.pointer (some ⟨Bg, 0, none⟩), .pointer (some ⟨Bs, 0, none⟩)] encL (KX a b) (fun ys => ys = lvL G.es s G.es.length) (fun _ => True) G.es.length w := fun l J Jx W hW hJ _ hY h0 =>
  leaving1_in F n hf hro hn l a b m Bg Bs G s p c hlen J Jx (fun pre W o h => hJ pre W _ none h (World.grownBy_alloc W o none) (fun r e => by cases e)) hY W hma hmb hBs hBa (hg.below hW hg.lt) ((KH.of_below hW hs.lt).boxed hs) (hin.kept (fun i hi => hW.block i (by have := hs.lt; omega))) h0
end Go.Proofs.YtocbhlohcikapaaGreatDoor
namespace Go.Proofs.YtocbhlohcikapaaGreatDoor
open Go.RowKit

/-- All blocks but one are as they were. -/
def KA (a : Nat) (W W' : World) : Prop := ∀ i, i ≠ a → W'.heap[i]? = W.heap[i]?
theorem KA.refl (a : Nat) (W : World) : KA a W W := fun _ _ => rfl
theorem KA.trans {a : Nat} {X Y Z : World} (h : KA a X Y) (k : KA a Y Z) : KA a X Z := fun i hi => (k i hi).trans (h i hi)
theorem KA.set (a : Nat) (W : World) (k : Nat) (v : Value) : KA a W (W.setCell ⟨a, k, none⟩ v) := fun _ hi => Below.heap_setCell _ _ _ _ hi
theorem KA.boxed {a B : Nat} {t : TypeId} {v : Value} {W W' : World} (h : KA a W W') (hne : B ≠ a) (hb : Boxed W B t v) : Boxed W' B t v := (h B hne).trans hb
/-- A block of one type is not a block of another one. -/
theorem typed_ne {W : World} {a b : Nat} {t t' : TypeId} {c c' : Array Value} {f f' : Nat × Nat} (h : W.heap[a]? = some (.cells c t f)) (h' : W.heap[b]? = some (.cells c' t' f')) (hne : t ≠ t') : a ≠ b := by
  rintro rfl; rw [h] at h'; cases h'; exact hne rfl
/-- Numbers in a block of their type. -/
def SlJ (w : World) (p : Option Addr) (l : List Int) : Prop := Sl w (Value.int .i64) p l ∧ ∀ b o z, p = some ⟨b, o, z⟩ → ∃ cur fz, w.heap[b]? = some (.cells cur 3 fz)
theorem SlJ.ka {a : Nat} {w w' : World} {p : Option Addr} {l : List Int} (h : SlJ w p l) (k : KA a w w') (ha : ∃ cur fz, w.heap[a]? = some (.cells cur 4 fz)) : SlJ w' p l := by
  obtain ⟨h1, h2⟩ := h
  obtain ⟨ca, fa, ha⟩ := ha
  have e : ∀ b o z, p = some ⟨b, o, z⟩ → w'.heap[b]? = w.heap[b]? := fun b o z hp => by
    obtain ⟨c, f, hb⟩ := h2 b o z hp
    exact k b (typed_ne hb ha (by decide))
  refine ⟨h1.imp id ?_, fun b o z hp => by obtain ⟨c, f, hb⟩ := h2 b o z hp; exact ⟨c, f, (e b o z hp).trans hb⟩⟩
  rintro ⟨b, o, rfl, hb, hc⟩
  have e' := e b o none rfl
  refine ⟨b, o, rfl, ?_, fun i hi => (World.cell?_of_block (w := w) (a := ⟨b, o + i, none⟩) e').trans (hc i hi)⟩
  rcases Nat.lt_or_ge b w'.heap.size with h' | h'
  · exact h'
  · rw [Array.getElem?_eq_none h', Array.getElem?_eq_getElem hb] at e'; cases e'
/-- What the search reads: its three variables, and where the edges lead. -/
structure VisM (W : World) (B1 B2 B3 bs bn n : Nat) (es : List Ed) : Prop where
  b1 : Boxed W B1 90 (.slice (some ⟨bs, 0, none⟩) n n)
  b2 : Boxed W B2 47 (.slice (some ⟨bn, 0, none⟩) n n)
  b3 : Boxed W B3 237 (.func (.func 229) #[] #[.pointer (some ⟨B1, 0, none⟩), .pointer (some ⟨B2, 0, none⟩), .pointer (some ⟨B3, 0, none⟩)])
  nx : ∃ cur fz, W.heap[bn]? = some (.cells cur 30 fz)
  rows : ∀ s, s < n → ∃ q c, W.cell? ⟨bn, s, none⟩ = some (.slice q (nxs es s).length c) ∧ SlJ W q (nxs es s)
theorem VisM.ka {W W' : World} {B1 B2 B3 bs bn n : Nat} {es : List Ed} (h : VisM W B1 B2 B3 bs bn n es) (k : KA bs W W') (hs : ∃ cur fz, W.heap[bs]? = some (.cells cur 4 fz)) : VisM W' B1 B2 B3 bs bn n es := by
  have hs' := hs
  obtain ⟨ca, fa, ha⟩ := hs
  obtain ⟨cn, fn, hn⟩ := h.nx
  have hnb : bn ≠ bs := typed_ne hn ha (by decide)
  refine ⟨k.boxed (typed_ne h.b1 ha (by decide)) h.b1, k.boxed (typed_ne h.b2 ha (by decide)) h.b2, k.boxed (typed_ne h.b3 ha (by decide)) h.b3, ⟨cn, fn, (k bn hnb).trans hn⟩, fun s hs => ?_⟩
  obtain ⟨q, c, h1, h2⟩ := h.rows s hs
  exact ⟨q, c, (World.cell?_of_block (w := W) (a := ⟨bn, s, none⟩) (k bn hnb)).trans h1, h2.ka k hs'⟩
theorem vrow_typed {W : World} {b : Nat} {t : TypeId} {l : List Value} (h : VRow W b t l) : ∃ cur fz, W.heap[b]? = some (.cells cur t fz) := ⟨_, _, h⟩
/-- The search from the first so many of the next states on. -/
def visK (es : List Ed) (f : Nat) (L : List Bool) (s k : Nat) : List Bool := ((nxs es s).take k).foldl (vis1 (visA es f)) (L.set s true)
theorem visK_succ {es : List Ed} {f : Nat} {L : List Bool} {s k : Nat} (h : k < (nxs es s).length) : visK es f L s (k + 1) = vis1 (visA es f) (visK es f L s k) (nxs es s)[k] := by
  unfold visK; rw [List.take_succ_eq_append_getElem h, List.foldl_append]; rfl
theorem visK_all (es : List Ed) (f : Nat) (L : List Bool) (s : Nat) : visK es f L s (nxs es s).length = visA es (f + 1) L s := by
  unfold visK; rw [List.take_length]; rfl
/-- Under way, nothing is lost. -/
theorem visK_ok {es : List Ed} {n : Nat} (hes : ∀ x ∈ es, 0 ≤ x.t ∧ x.t < n) {f : Nat} {L : List Bool} {s : Nat} (hl : L.length = n) (hs : s < n) (ho : ¬ On L s) (hf : offs L ≤ f + 1) : ∀ k, k ≤ (nxs es s).length → (visK es f L s k).length = n ∧ offs (visK es f L s k) ≤ f
  | 0, _ => by
    have := offs_set (by omega) ho
    unfold visK; rw [List.take_zero]
    exact ⟨by rw [List.foldl_nil, List.length_set]; exact hl, by rw [List.foldl_nil]; omega⟩
  | k + 1, hk => by
    obtain ⟨h1, h2⟩ := visK_ok hes hl hs ho hf k (by omega)
    rw [visK_succ (by omega)]
    obtain ⟨x, hx, _, he⟩ := mem_nxs.1 (List.getElem_mem (show k < (nxs es s).length by omega))
    have hb := hes x hx
    rw [he] at hb
    unfold vis1
    split
    · exact ⟨h1, h2⟩
    · rename_i hne
      obtain ⟨v, _⟩ := visA_ok hes f _ (nxs es s)[k].toNat h1 (by omega) hne h2
      exact ⟨v.len.trans h1, Nat.le_trans (offs_mono v.len.symm v.mono) h2⟩

/-- What the search promises with so much to go. -/
def VisAt (es : List Ed) (n B1 B2 B3 bs bn f : Nat) : Prop := ∀ (L : List Bool) (s : Nat) (W : World), L.length = n → s < n → ¬ On L s → offs L ≤ f → VisM W B1 B2 B3 bs bn n es → VRow W bs 4 (L.map Value.bool) →
    Calls Tryz.prog 229 #[.int .i64 s, .pointer (some ⟨B1, 0, none⟩), .pointer (some ⟨B2, 0, none⟩), .pointer (some ⟨B3, 0, none⟩)] W fun e w' => e = .returned (.tuple #[]) ∧ VRow w' bs 4 ((visA es f L s).map Value.bool) ∧ KA bs W w' ∧ RowKit.Below bs W w'
set_option maxRecDepth 100000 in
set_option maxHeartbeats 2000000 in
theorem visit_step {es : List Ed} {n B1 B2 B3 bs bn : Nat} (hes : ∀ x ∈ es, 0 ≤ x.t ∧ x.t < n) (hel : es.length ≤ 1024) (hn : n ≤ 64) (f : Nat) (hI : VisAt es n B1 B2 B3 bs bn f) : VisAt es n B1 B2 B3 bs bn (f + 1) := by
  intro L s W hl hs ho hf hM hR
  have IH := hidI hI
  clear hI
  have HOK := hidI (visK_ok hes hl hs ho hf)
  have HM := hidI hM
  have f1 := hM.b1.cell
  obtain ⟨vb, hc0⟩ : ∃ vb : Bool, W.cell? ⟨bs, s, none⟩ = some (.bool vb) := ⟨_, hR.at s (v := .bool (L[s]'(by omega))) (by simp [show s < L.length by omega])⟩
  have hf0 := hR.frozen s
  have hr1 : VRow (W.setCell ⟨bs, s, none⟩ (.bool true)) bs 4 ((visK es f L s 0).map Value.bool) := by
    have := hR.set (i := s) (.bool true)
    rw [← List.map_set] at this
    exact this
  have hk1 : KA bs W (W.setCell ⟨bs, s, none⟩ (.bool true)) := KA.set bs W s _
  have hB1 : RowKit.Below bs W (W.setCell ⟨bs, s, none⟩ (.bool true)) := (RowKit.Below.refl bs W).setCell (p := ⟨bs, s, none⟩) (Nat.le_refl _) _
  have hty := hidI (vrow_typed hR)
  obtain ⟨qn, cn, gW, g2⟩ := hM.rows s hs
  have hnb : bn ≠ bs := by
    obtain ⟨_, _, h1⟩ := hM.nx
    obtain ⟨_, _, h2⟩ := hty.out
    exact typed_ne h1 h2 (by decide)
  have g1 := (World.cell?_of_block (w := W) (a := ⟨bn, s, none⟩) (hk1 bn hnb)).trans gW
  have g0 := (hM.ka hk1 hty.out).b2.cell
  have HSl := hidI g2
  have hlen : (nxs es s).length ≤ 1024 := by unfold nxs; rw [List.length_map]; exact Nat.le_trans (List.length_filter_le _ _) hel
  have hsI : (s : Int) < (n : Int) := by omega
  clear hM hR ho hf hl g2 gW hnb
  obtain ⟨W1, hW1⟩ : ∃ W1, W1 = W.setCell ⟨bs, s, none⟩ (.bool true) := ⟨_, rfl⟩
  rw [← hW1] at hr1 hk1 hB1 g0 g1
  have HW1 := hidI hW1.symm
  clear hW1
  go_enter Tryz.func229, Tryz.ntmps229
  go_upto_region 1 with fail
  rw [HW1.out]
  clear HW1 f1 hc0 hf0
  go_wp2
  clear g0 g1
  go_loopw [6, 15] (fun tv iv wr => ∃ k : Nat, k ≤ (nxs es s).length ∧ iv = .int .i64 k ∧ VRow wr bs 4 ((visK es f L s k).map Value.bool) ∧ KA bs W wr ∧ RowKit.Below bs W wr) (fun _ iv _ => (nxs es s).length - (intOf iv).toNat)
  case atStart => exact ⟨0, by omega, rfl, hr1, hk1, hB1⟩
  case round =>
    clear hr1 hk1 hB1
    obtain ⟨k, hk, rfl, hr, hka, hB⟩ := hrel
    have hM := hidI (HM.out.ka hka hty.out)
    by_cases hlt : k < (nxs es s).length
    · have hltI : (k : Int) < ((nxs es s).length : Int) := by omega
      obtain ⟨bq, oq, rfl, hbq, hcq⟩ := (HSl.out.ka hka hty.out).1.get k hlt
      have e1 := hcq k hlt
      obtain ⟨x, hx, _, hxe⟩ := mem_nxs.1 (List.getElem_mem hlt)
      have hbd := hes x hx
      rw [hxe] at hbd
      have HS := hidI (visK_succ (f := f) (L := L) hlt)
      obtain ⟨h1, h2⟩ := HOK.out k hk
      clear hxe hx hcq
      obtain ⟨m, hm⟩ : ∃ m : Nat, (nxs es s)[k] = m := ⟨(nxs es s)[k].toNat, by omega⟩
      rw [hm] at e1 HS hbd
      replace HS : Hid (visK es f L s (k + 1) = if (visK es f L s k).getD m false = true then visK es f L s k else visA es f (visK es f L s k) m) := by
        rw [Hid, HS.out]; rfl
      clear hm
      have hmn : m < n := by omega
      have hmI : (m : Int) < (n : Int) := by omega
      have hml : m < (visK es f L s k).length := by omega
      have hc1 := hr.at m (v := .bool ((visK es f L s k)[m]'hml)) (by simp [hml])
      have hgd : (visK es f L s k).getD m false = (visK es f L s k)[m]'hml := by simp [List.getD, hml]
      rw [hgd] at HS
      have f1 := hM.out.b1.cell
      have HRc := hidI (fun (hon : (visK es f L s k)[m]'hml = false) => IH.out (visK es f L s k) m wr h1 hmn (fun e => by unfold On at e; rw [hgd, hon] at e; cases e) h2 hM.out hr)
      have f3 := hM.out.b3.cell
      generalize hvv : (visK es f L s k)[m]'hml = v at *
      cases v
      · have HS2 : Hid (visK es f L s (k + 1) = visA es f (visK es f L s k) m) := by rw [Hid, HS.out]; rfl
        have HR := hidI (HRc.out rfl)
        clear HRc hgd h1 h2 hml hbd HS hvv
        go_wp2_with fail
        refine HR.out.mono ?_
        rintro e w2 ⟨rfl, hr2, hk2, hB2⟩
        rw [← HS2.out] at hr2
        clear f1 f3 hc1 e1
        go_wp2
        go_roundw
        case rel => exact ⟨k + 1, by omega, by go_num, hr2, hka.trans hk2, hB.trans hB2⟩
        case measure => simp [intOf]; omega
      · have HS2 : Hid (visK es f L s (k + 1) = visK es f L s k) := by rw [Hid, HS.out]; rfl
        rw [← HS2.out] at hr
        clear HRc hgd h1 h2 hml hbd HS hvv
        go_wp2
        go_roundw
        case rel => exact ⟨k + 1, by omega, by go_num, hr, hka, hB⟩
        case measure => simp [intOf]; omega
    · obtain rfl : k = (nxs es s).length := by omega
      have hltI : ¬ ((nxs es s).length : Int) < ((nxs es s).length : Int) := by omega
      rw [visK_all] at hr
      go_wp2
      go_end0
      exact ⟨rfl, hr, hka, hB⟩
theorem visit_any {es : List Ed} {n B1 B2 B3 bs bn : Nat} (hes : ∀ x ∈ es, 0 ≤ x.t ∧ x.t < n) (hel : es.length ≤ 1024) (hn : n ≤ 64) : ∀ f : Nat, VisAt es n B1 B2 B3 bs bn f
  | 0 => fun L s W hl hs ho hf _ _ => by
    have := offs_set (by omega) ho; omega
  | f + 1 => visit_step hes hel hn f (visit_any hes hel hn f)
end Go.Proofs.YtocbhlohcikapaaGreatDoor
namespace Go.Proofs.YtocbhlohcikapaaGreatDoor
open Go

section
variable {P : Program} {ops : Array Oper} {Q : Exit → Act → World → Prop} {md : Region.Mode}
/-- All that an operation waits for is done. -/
def rdyAtD (md : Region.Mode) (ops : Array Oper) (listed : Array Bool) (i : Nat) : Bool := ((ops[i]?).map (·.after.all fun e => !Region.binds md e || listed.getD e.on false)).getD false
theorem mem_readyD {listed : Array Bool} {i : Nat} : i ∈ Region.ready md ops listed ↔ i < ops.size ∧ listed.getD i true = false ∧ rdyAtD md ops listed i = true := by
  unfold Region.ready rdyAtD
  rw [List.mem_filter, List.mem_range, Bool.and_eq_true, Bool.not_eq_true']
theorem getD_falseD {listed : Array Bool} {i : Nat} (h : listed.getD i true = false) : ∃ hi : i < listed.size, listed[i] = false := by
  by_cases hi : i < listed.size
  · refine ⟨hi, ?_⟩
    simpa [Array.getD, hi] using h
  · simp [Array.getD, hi] at h
theorem wpAny_invD (Inv : Array Bool → Act → World → Prop)
    (hstep : ∀ listed a w i, Inv listed a w → i ∈ Region.ready md ops listed → wpOp P ops Q i (Inv (listed.setIfInBounds i true)) a w)
    (hend : ∀ listed a w, Inv listed a w → Region.ready md ops listed = [] → Q .normal a w) :
    ∀ (fuel : Nat) (listed : Array Bool) (a : Act) (w : World), listed.toList.count false ≤ fuel → Inv listed a w → wpAny P md ops Q fuel listed a w
  | 0, listed, a, w, hc, hI => by
    have hr : Region.ready md ops listed = [] := by
      rw [List.eq_nil_iff_forall_not_mem]
      intro i hi
      obtain ⟨hl, he⟩ := getD_falseD (mem_readyD.1 hi).2.1
      have hm : false ∈ listed.toList := by rw [← he]; exact Array.getElem_mem_toList hl
      have := List.count_pos_iff.2 hm
      omega
    exact ⟨hr, hend _ _ _ hI hr⟩
  | fuel + 1, listed, a, w, hc, hI => ⟨hend _ _ _ hI, fun i hi => wpOp_mono (fun a' w' h => wpAny_invD Inv hstep hend fuel _ a' w' (by
      obtain ⟨hl, he⟩ := getD_falseD (mem_readyD.1 hi).2.1
      rw [Array.toList_setIfInBounds, List.count_set (by simpa using hl)]
      have hm : false ∈ listed.toList := by rw [← he]; exact Array.getElem_mem_toList hl
      have := List.count_pos_iff.2 hm
      have e2 : (listed.toList[i]'(by simpa using hl)) = false := by simpa using he
      rw [e2]
      rw [if_pos (by rfl), if_neg (by decide)]
      omega) h) (hstep _ _ _ i hI hi)⟩
/-- Where nothing is ready, all is done. -/
theorem ready_nilD {listed : Array Bool} (hs : listed.size = ops.size) (hd : ((List.range ops.size).all fun i => ((ops[i]?).map (·.after.all fun e => !Region.binds md e || decide (e.on < i))).getD true) = true)
    (h : Region.ready md ops listed = []) : ∀ i, i < ops.size → listed.getD i false = true := by
  intro i
  induction i using Nat.strongRecOn with
  | ind i ih =>
    intro hi
    cases hx : listed.getD i false with
    | true => rfl
    | false =>
      exfalso
      have hl : i < listed.size := by omega
      have hx2 : listed.getD i true = false := by simpa [Array.getD, hl] using hx
      have : i ∈ Region.ready md ops listed := by
        rw [mem_readyD]
        refine ⟨hi, hx2, ?_⟩
        have h1 := List.all_eq_true.1 hd i (List.mem_range.2 hi)
        unfold rdyAtD
        rw [Array.getElem?_eq_getElem hi] at h1 ⊢
        simp only [Option.map_some, Option.getD_some, Array.all_eq_true] at h1 ⊢
        intro j hj
        have h2 := h1 j hj
        cases hb : Region.binds md ops[i].after[j] with
        | false => rfl
        | true =>
          rw [hb, Bool.not_true, Bool.false_or] at h2
          have h3 := of_decide_eq_true h2
          rw [ih _ h3 (by omega), Bool.or_true]
      rw [h] at this
      cases this
end

/-! ### Frames of which some slots are written -/
def frD (A : Act) (f : Nat → Option Value) : Act := { A with tmps := A.tmps.mapIdx fun i v => (f i).getD v }
theorem fr_noneD (A : Act) : frD A (fun _ => none) = A := by
  unfold frD
  have : (A.tmps.mapIdx fun i v => ((none : Option Value)).getD v) = A.tmps := by apply Array.ext <;> simp
  rw [this]
theorem fr_putD {A : Act} {f : Nat → Option Value} (t : Nat) (v : Value) : (frD A f).put (some t) v = frD A (fun i => if i = t then some v else f i) := by
  unfold frD Act.put
  simp only
  congr 1
  apply Array.ext
  · simp
  · intro i h1 h2
    by_cases e : t = i
    · subst e; simp
    · have e' : ¬ i = t := fun h => e h.symm
      rw [Array.getElem_setIfInBounds_ne (by simpa using h2) e]
      simp [e']
theorem fr_put0D {A : Act} {f : Nat → Option Value} (v : Value) : (frD A f).put none v = frD A f := rfl
theorem fr_eval0D {A : Act} {f : Nat → Option Value} {t : Nat} (h : f t = none) : (frD A f).eval (.tmp t) = A.eval (.tmp t) := by
  show (A.tmps.mapIdx fun i v => (f i).getD v).getD t undef = A.tmps.getD t undef
  by_cases ht : t < A.tmps.size
  · simp [Array.getD, ht, h]
  · simp [Array.getD, ht]
theorem fr_eval1D {A : Act} {f : Nat → Option Value} {t : Nat} {v : Value} (h : f t = some v) (ht : t < A.tmps.size) : (frD A f).eval (.tmp t) = v := by
  show (A.tmps.mapIdx fun i v => (f i).getD v).getD t undef = v
  simp [Array.getD, ht, h]

theorem frD_eval {A : Act} {f : Nat → Option Value} {t : Nat} {v : Value} (h : f t = some v) (ht : t < A.tmps.size) : (frD A f).eval (.tmp t) = v := fr_eval1D h ht
theorem frD_eval_out {A : Act} {f : Nat → Option Value} {t : Nat} (h : f t = none) : (frD A f).eval (.tmp t) = A.eval (.tmp t) := fr_eval0D h
theorem dst_uniqD {ops : Array Oper} (hn : (ops.toList.filterMap (·.dst)).Nodup) {i j : Nat} {o o' : Oper} {t : Nat} (hi : ops[i]? = some o) (hj : ops[j]? = some o') (ht : o.dst = some t) (ht' : o'.dst = some t) : i = j := by
  have key : ∀ (l : List Oper), (l.filterMap (·.dst)).Nodup → ∀ (i j : Nat) (o o' : Oper), l[i]? = some o → l[j]? = some o' → o.dst = some t → o'.dst = some t → i = j := by
    intro l
    induction l with
    | nil => intro _ i j o o' h; simp at h
    | cons x l ih =>
      intro hn i j o o' hi hj h1 h2
      have hn' : (l.filterMap (·.dst)).Nodup := by
        rw [List.filterMap_cons] at hn
        split at hn
        · exact hn
        · exact (List.nodup_cons.1 hn).2
      have hx : ∀ (k : Nat) (o'' : Oper), l[k]? = some o'' → o''.dst = some t → x.dst ≠ some t := by
        intro k o'' hk ho'' he
        rw [List.filterMap_cons, he] at hn
        exact (List.nodup_cons.1 hn).1 (List.mem_filterMap.2 ⟨o'', List.mem_of_getElem? hk, ho''⟩)
      cases i with
      | zero =>
        cases j with
        | zero => rfl
        | succ j => simp at hi hj; subst hi; exact absurd h1 (hx j o' hj h2)
      | succ i =>
        cases j with
        | zero => simp at hi hj; subst hj; exact absurd h2 (hx i o hi h1)
        | succ j => simp at hi hj; rw [ih hn' i j o o' hi hj h1 h2]
  exact key ops.toList hn i j o o' (by simpa using hi) (by simpa using hj) ht ht'

/-- The slots that the region writes: each once. -/
def dstsD (ops : Array Oper) : List Nat := ops.toList.filterMap (·.dst)
section
variable {P : Program} {ops : Array Oper} {Q : Exit → Act → World → Prop}
theorem getD_setD {l : Array Bool} {i j : Nat} (h : l.getD j false = true) : (l.setIfInBounds i true).getD j false = true := by
  by_cases hj : j < l.size
  · by_cases e : i = j
    · subst e; simp [Array.getD, hj]
    · simp [Array.getD, hj] at h
      simp [Array.getD, hj, e, h]
  · simp [Array.getD, hj] at h
/-- What stands in a frame under way: what is done has written its value; nothing else is written. -/
structure InvD (ops : Array Oper) (vals : Nat → Value) (S : World → Prop) (l : Array Bool) (f : Nat → Option Value) (W : World) : Prop where
  sz : l.size = ops.size
  st : S W
  dom : ∀ t, t ∉ dstsD ops → f t = none
  val : ∀ i o t, ops[i]? = some o → o.dst = some t → l.getD i false = true → f t = some (vals i)
/-- A drawn region of which each operation yields a known value, whatever else is done. -/
theorem region_det {id : Nat} {A : Act} {w : World} (hm : P.follows .mixedOrders = true) (vals : Nat → Value) (S : World → Prop)
    (hd : ((List.range ops.size).all fun i => ((ops[i]?).map (·.after.all fun e => !Region.binds .any e || decide (e.on < i))).getD true) = true)
    (hn : (dstsD ops).Nodup) (hlt : (dstsD ops).all (fun t => decide (t < A.tmps.size)) = true)
    (h0 : S { w with drawn := w.drawn + 1 })
    (hstep : ∀ (i : Nat) (o : Oper), ops[i]? = some o → ∀ (a : Act) (W : World), S W → a.tmps.size = A.tmps.size →
      (∀ e ∈ o.after, Region.binds .any e = true → ∀ o', ops[e.on]? = some o' → ∀ t, o'.dst = some t → a.tmps[t]? = some (vals e.on)) →
      (∀ t, t ∉ dstsD ops → a.tmps[t]? = A.tmps[t]?) →
      ∀ K : Act → World → Prop, (∀ W', S W' → K (a.put o.dst (vals i)) W') → if Region.wanted o (yielded ops a.tmps) = true then Oper.wp P o a W K Q else K (a.put o.dst undef) W)
    (hend : ∀ f W, S W → (∀ t, t ∉ dstsD ops → f t = none) → (∀ i o t, ops[i]? = some o → o.dst = some t → f t = some (vals i)) → Q .normal (frD A f) W) :
    (Code.region id ops true).wp P Q A w := by
  refine wp_region_any hm (wpAny_invD (fun l a W => ∃ f, a = frD A f ∧ InvD ops vals S l f W) ?_ ?_ _ _ _ _ ?_ ?_)
  · rintro l a W i ⟨f, rfl, hI⟩ hi
    obtain ⟨h1, h2, h3⟩ := mem_readyD.1 hi
    obtain ⟨hl, he⟩ := getD_falseD h2
    have ho : ops[i]? = some ops[i] := Array.getElem?_eq_getElem h1
    refine wpOp_step ho (fun K hK => ?_)
    refine hstep i ops[i] ho (frD A f) W hI.st (by simp [frD]) ?_ ?_ K ?_
    · intro e he' hb o' hoe t hdt
      have h4 : l.getD e.on false = true := by
        unfold rdyAtD at h3
        rw [ho] at h3
        simp only [Option.map_some, Option.getD_some, Array.all_eq_true] at h3
        obtain ⟨k, hk, rfl⟩ := Array.mem_iff_getElem.1 he'
        have := h3 k hk
        rw [Bool.or_eq_true] at this
        rcases this with h5 | h5
        · rw [hb] at h5; cases h5
        · exact h5
      have hv := hI.val e.on o' t hoe hdt h4
      have ht : t < A.tmps.size := by
        have := List.all_eq_true.1 hlt t (by unfold dstsD; exact List.mem_filterMap.2 ⟨o', by have := Array.mem_of_getElem? hoe; simpa using this, hdt⟩)
        exact of_decide_eq_true this
      simp only [frD, Array.getElem?_mapIdx, hv, Option.getD_some]
      rw [Array.getElem?_eq_getElem ht]; rfl
    · intro t ht
      simp only [frD, Array.getElem?_mapIdx, hI.dom t ht, Option.getD_none]
      cases A.tmps[t]? <;> rfl
    · intro W' hS
      refine hK _ _ ⟨(match ops[i].dst with | some t => fun k => if k = t then some (vals i) else f k | none => f), ?_, ?_⟩
      · cases hx : ops[i].dst with
        | none => exact fr_put0D _
        | some t => exact fr_putD t _
      · refine ⟨by simpa using hI.sz, hS, ?_, ?_⟩
        · intro t ht
          cases hx : ops[i].dst with
          | none => exact hI.dom t ht
          | some t' =>
            have : t ≠ t' := by
              rintro rfl
              exact ht (by unfold dstsD; exact List.mem_filterMap.2 ⟨ops[i], by simp, hx⟩)
            show (if t = t' then _ else f t) = none
            rw [if_neg this]; exact hI.dom t ht
        · intro j o t hoj hdt hdone
          by_cases hij : j = i
          · subst hij
            rw [ho] at hoj
            cases hoj
            rw [hdt]
            show (if t = t then some (vals j) else f t) = _
            rw [if_pos rfl]
          · have hold : l.getD j false = true := by
              by_cases hjl : j < l.size
              · simp [Array.getD, hjl, Ne.symm hij] at hdone
                simp [Array.getD, hjl, hdone]
              · simp [Array.getD, hjl] at hdone
            have hv := hI.val j o t hoj hdt hold
            cases hx : ops[i].dst with
            | none => exact hv
            | some t' =>
              show (if t = t' then some (vals i) else f t) = _
              have : t ≠ t' := by
                rintro rfl
                exact hij (dst_uniqD hn hoj ho hdt hx)
              rw [if_neg this]; exact hv
  · rintro l a W ⟨f, rfl, hI⟩ hr
    have hall := ready_nilD hI.sz hd hr
    refine hend f W hI.st hI.dom (fun i o t ho ht => hI.val i o t ho ht (hall i ?_))
    exact (Array.getElem?_eq_some_iff.1 ho).1
  · rw [Array.toList_replicate]
    exact Nat.le_trans List.count_le_length (by simp)
  · exact ⟨_, (fr_noneD A).symm, by simp, h0, fun _ _ => rfl, fun i o t ho ht hx => by
      by_cases hjl : i < ops.size <;> simp [Array.getD, hjl] at hx⟩

/-- The writing of slots, one after the other. -/
def putsD (A : Act) (L : List (Nat × Value)) : Act := L.foldl (fun a p => a.put (some p.1) p.2) A
def updD (g : Nat → Option Value) (p : Nat × Value) : Nat → Option Value := fun k => if k = p.1 then some p.2 else g k
theorem putsD_fr {A : Act} : ∀ (L : List (Nat × Value)) (g : Nat → Option Value), L.foldl (fun a p => a.put (some p.1) p.2) (frD A g) = frD A (L.foldl updD g)
  | [], _ => rfl
  | p :: L, g => by
    rw [List.foldl_cons, List.foldl_cons, fr_putD]
    exact putsD_fr L _
theorem updD_out : ∀ (L : List (Nat × Value)) (g : Nat → Option Value) (t : Nat), t ∉ L.map (·.1) → L.foldl updD g t = g t
  | [], _, _, _ => rfl
  | p :: L, g, t, h => by
    rw [List.map_cons, List.mem_cons, not_or] at h
    rw [List.foldl_cons, updD_out L _ t h.2]
    show (if t = p.1 then some p.2 else g t) = g t
    rw [if_neg h.1]
theorem updD_in : ∀ (L : List (Nat × Value)) (g : Nat → Option Value) (i : Nat) (h : i < L.length), (L.map (·.1)).Nodup → L.foldl updD g L[i].1 = some L[i].2
  | [], _, i, h, _ => by simp at h
  | p :: L, g, 0, _, hn => by
    rw [List.foldl_cons]
    show L.foldl updD (updD g p) p.1 = some p.2
    rw [updD_out L _ p.1 (List.nodup_cons.1 hn).1]
    show (if p.1 = p.1 then some p.2 else g p.1) = some p.2
    rw [if_pos rfl]
  | p :: L, g, i + 1, h, hn => by
    rw [List.foldl_cons]
    exact updD_in L _ i (by simpa using h) (List.nodup_cons.1 hn).2
/-- As region_det, with a list of what the slots hold: for a region each of whose operations has a slot. -/
theorem region_detL {id : Nat} {A : Act} {w : World} (hm : P.follows .mixedOrders = true) (L : List (Nat × Value)) (S : World → Prop)
    (hL : L.map (fun p => some p.1) = ops.toList.map (·.dst))
    (hd : ((List.range ops.size).all fun i => ((ops[i]?).map (·.after.all fun e => !Region.binds .any e || decide (e.on < i))).getD true) = true)
    (hnb : decide (L.map (·.1)).Nodup = true) (hlt : (L.map (·.1)).all (fun t => decide (t < A.tmps.size)) = true)
    (h0 : S { w with drawn := w.drawn + 1 })
    (hstep : ∀ (i : Nat) (o : Oper), ops[i]? = some o → ∀ (a : Act) (W : World), S W →
      (∀ e ∈ o.after, Region.binds .any e = true → ∀ p, L[e.on]? = some p → a.tmps[p.1]? = some p.2) →
      (∀ t, (L.map (·.1)).contains t = false → a.tmps[t]? = A.tmps[t]?) →
      ∀ K : Act → World → Prop, (∀ W', S W' → K (a.put o.dst ((L[i]?.map (·.2)).getD undef)) W') → if Region.wanted o (yielded ops a.tmps) = true then Oper.wp P o a W K Q else K (a.put o.dst undef) W)
    (hend : ∀ W, S W → Q .normal (putsD A L) W) :
    (Code.region id ops true).wp P Q A w := by
  have hn := of_decide_eq_true hnb
  have hlen : L.length = ops.size := by
    have := congrArg List.length hL
    simpa using this
  have hdst : dstsD ops = L.map (·.1) := by
    unfold dstsD
    have h1 : ∀ (l : List Oper) (M : List (Nat × Value)), M.map (fun p => some p.1) = l.map (·.dst) → l.filterMap (·.dst) = M.map (·.1) := by
      intro l
      induction l with
      | nil => intro M h; cases M with
        | nil => rfl
        | cons p M => simp at h
      | cons o l ih =>
        intro M h
        cases M with
        | nil => simp at h
        | cons p M =>
          simp only [List.map_cons, List.cons.injEq] at h
          rw [List.filterMap_cons, ← h.1, ih M h.2]; rfl
    exact h1 _ _ hL
  have hat : ∀ (i : Nat) (o : Oper) (t : Nat), ops[i]? = some o → o.dst = some t → ∃ v, L[i]? = some (t, v) := by
    intro i o t ho ht
    have h1 := congrArg (fun l => l[i]?) hL
    simp only [List.getElem?_map] at h1
    rw [show ops.toList[i]? = some o by simpa using ho] at h1
    cases hx : L[i]? with
    | none => rw [hx] at h1; simp at h1
    | some p =>
      rw [hx] at h1
      simp only [Option.map_some, Option.some.injEq] at h1
      rw [ht] at h1
      obtain ⟨a, b⟩ := p
      cases h1
      exact ⟨b, rfl⟩
  refine region_det hm (fun i => (L[i]?.map (·.2)).getD undef) S hd (by rw [hdst]; exact hn) (by rw [hdst]; exact hlt) h0 ?_ ?_
  · intro i o ho a W hS hz hdep hout K hK
    refine hstep i o ho a W hS ?_ (fun t ht => hout t (by rw [hdst]; intro hm; rw [List.contains_iff_mem.2 hm] at ht; cases ht)) K hK
    intro e he hb p hp
    have hel : e.on < ops.size := by rw [← hlen]; exact (List.getElem?_eq_some_iff.1 hp).1
    have ho' : ops[e.on]? = some ops[e.on] := Array.getElem?_eq_getElem hel
    have hdp : ops[e.on].dst = some p.1 := by
      have h1 := congrArg (fun l => l[e.on]?) hL
      simp only [List.getElem?_map] at h1
      rw [hp, show ops.toList[e.on]? = some ops[e.on] by rw [Array.getElem?_toList]; exact ho'] at h1
      simpa using h1.symm
    have := hdep e he hb _ ho' p.1 hdp
    rw [this]
    show some ((L[e.on]?.map (·.2)).getD undef) = _
    rw [hp]; rfl
  · intro f W hS hout hval
    have hf : f = L.foldl updD (fun _ => none) := by
      funext t
      by_cases ht : t ∈ L.map (·.1)
      · obtain ⟨i, hi, he⟩ := List.mem_iff_getElem.1 ht
        have hi' : i < L.length := by simpa using hi
        have h1 := updD_in L (fun _ => none) i hi' hn
        have e2 : L[i].1 = t := by simpa using he
        rw [e2] at h1
        rw [h1]
        have hio : i < ops.size := by omega
        have ho' : ops[i]? = some ops[i] := Array.getElem?_eq_getElem hio
        have hdp : ops[i].dst = some t := by
          have h1 := congrArg (fun l => l[i]?) hL
          simp only [List.getElem?_map] at h1
          rw [List.getElem?_eq_getElem hi', show ops.toList[i]? = some ops[i] by rw [Array.getElem?_toList]; exact ho'] at h1
          simp only [Option.map_some, Option.some.injEq] at h1
          rw [← h1, e2]
        have := hval i _ t ho' hdp
        rw [this, List.getElem?_eq_getElem hi']; rfl
      · rw [hout t (by rw [hdst]; exact ht), updD_out L _ t ht]
    have := hend W hS
    have e : L.foldl (fun a p => a.put (some p.1) p.2) (frD A (fun _ => none)) = frD A f := by rw [putsD_fr, ← hf]
    rw [fr_noneD] at e
    unfold putsD at this
    rw [e] at this
    exact this
end
end Go.Proofs.YtocbhlohcikapaaGreatDoor
