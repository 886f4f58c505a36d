/-
  Words, plain lemmas and walks, merged: Nv, Dn, Hm, Ho, Hl, Hn, Hk, Hs, Mk, Hy, Hj, Td, Ta, Hb, Tb.
-/
import Derived.Test.YtmdjndbjfgncmaaGreatDoorMii
import Derived.Lib.SmallJoins
import Derived.Deep.Slices
import Derived.Deep.Fields
import Derived.ChangeSame
import Derived.Test.YtmdjndbjfgncmaaGreatDoorTie
import Derived.Test.YtmdjndbjfgncmaaGreatDoorCards
import Derived.LaidMore
import Derived.SevenTiedAt
import Derived.Carry
import Derived.RangeFuncNested
import Derived.RangeFuncBound
import Derived.RangeFuncCalls
import Derived.RangeFuncLeaves
import Derived.Shelf.Abstract
import Derived.Shelf.RegionOpen
import Derived.OwnWalkIn
import Derived.TacticsInMore
import Derived.LoopNIn
import Derived.LoopIn
import Derived.Test.YtmdjndbjfgncmaaGreatDoorMia
import Derived.Test.YtmdjndbjfgncmaaGreatDoorProg
import Derived.Test.YtmdjndbjfgncmaaGreatDoorMic
import Derived.Test.YtmdjndbjfgncmaaGreatDoorMib
import Derived.Test.YtmdjndbjfgncmaaGreatDoorMie
import Derived.Sort.OwnSortedInts
import Derived.Test.YtmdjndbjfgncmaaGreatDoorMif
import Derived.Lib.SlicesCompact
import Derived.Test.YtmdjndbjfgncmaaGreatDoorMid
import Derived.Test.YtmdjndbjfgncmaaGreatDoorMih
import Derived.Shelf.Strconv.Itoa3
import Derived.Shelf.Strings.BuilderF
import Derived.Shelf.Strings.OnBuilder
set_option linter.unusedVariables false
set_option linter.unusedSimpArgs false
namespace Go.Proofs.YtmdjndbjfgncmaaGreatDoor
open Go.Joins Go.ChangeShapes Go.WideShapes Go.ChangeAt Go.RowKit Go.Deep
open Go.ChangeMaps (open_string shut_string)

section
variable {H : Type} {enc : TypeId × Value → H} {P : Program} {w : World} {base : Nat} {spare : Nat → Bool} {held : Bool}
theorem open_slice_fields {t e : TypeId} {fs : Array Field} {fuel : Nat} {cs : List Value} {x : DataW H × List MemPlace} (ht : P.underlying t = some (.slice e)) (he : P.underlying e = some (.struct fs))
    (hone : oneCellFields P fs = true) (hC : P.cellsOf e = fs.size) (h : DataW.trod enc P w base spare held fuel t cs = some x) :
    (cs = [.slice none 0 0] ∧ x = (.nil, [])) ∨
    ∃ (a : Addr) (len cap m : Nat) (D : Nat → DataW H) (Pl : Nat → List MemPlace), cs = [.slice (some a) len cap] ∧ base ≤ a.block ∧ len ≤ cap ∧ cap ≤ maxLen ∧ m = (if spare a.block then cap else len) ∧
      x = (.slice ((List.range len).map D) ((List.range (m - len)).map fun j => D (len + j)), MemPlace.row a (m * fs.size) ++ (List.range m).flatMap Pl) ∧
      ∀ i, i < m → ∃ (ys : List (DataW H × List MemPlace)) (n : Nat), D i = .agg (ys.map (·.1)) ∧ Pl i = ys.flatMap (·.2) ∧ ys.length = fs.size ∧
        ∀ (j : Nat) (f : Field), fs[j]? = some f → ∃ (v : Value) (y : DataW H × List MemPlace), w.cell? (a.add (i * fs.size + j)) = some v ∧ ys[j]? = some y ∧ DataW.trod enc P w base spare held n f.type [v] = some y := by
  rcases open_slice ht h with h0 | ⟨a, len, cap, m, n, D, Pl, hcs, hb, hl, hm, hmm, hx, hi⟩
  · exact .inl h0
  · refine .inr ⟨a, len, cap, m, D, Pl, hcs, hb, hl, hm, hmm, by rw [hC] at hx; exact hx, fun i him => ?_⟩
    obtain ⟨cs', hc, ht'⟩ := hi i him
    rw [hC] at hc
    obtain ⟨ys, n', hn', hy, hlen, hyl, hf⟩ := DataW.trod_struct he ht'
    obtain ⟨_, hcl, hat⟩ := World.cells?_some hc
    simp only [Prod.mk.injEq] at hy
    refine ⟨ys, n', hy.1, hy.2, hyl, fun j f hj => ?_⟩
    obtain ⟨ho, hk⟩ := hone_of hone j f hj
    have hjl : j < fs.size := (Array.getElem?_eq_some_iff.1 hj).1
    have hcell := hat j hjl
    have hv : cs'[j]? = some (cs'[j]'(by omega)) := List.getElem?_eq_getElem (by omega)
    have h1 := hf j f hj
    rw [ho, hk] at h1
    have hone' : (cs'.drop j).take 1 = [cs'[j]'(by omega)] := by
      rw [List.drop_eq_getElem_cons (by omega)]
      rfl
    rw [hone'] at h1
    have hys : ys[j]? = some (ys[j]'(by omega)) := List.getElem?_eq_getElem (by omega)
    refine ⟨_, _, ?_, hys, h1.trans hys⟩
    rw [← Go.Deep.add_add, hcell, hv]
end
/-- Elements that each exist make a list. -/
theorem list_of {α : Type} {P : Nat → α → Prop} : ∀ (n : Nat), (∀ i, i < n → ∃ x, P i x) → ∃ l : List α, l.length = n ∧ ∀ i (h : i < l.length), P i l[i]
  | 0, _ => ⟨[], rfl, fun i h => by simp at h⟩
  | n + 1, h => by
    obtain ⟨l, hl, hp⟩ := list_of n (fun i hi => h i (by omega))
    obtain ⟨x, hx⟩ := h n (by omega)
    refine ⟨l ++ [x], by simp [hl], fun i hi => ?_⟩
    by_cases h2 : i < l.length
    · rw [List.getElem_append_left h2]; exact hp i h2
    · have : i = n := by simp at hi; omega
      subst this
      subst hl
      simpa using hx

theorem cellsInt : Tryz.prog.cellsOf 3 = 1 := by kernel_rfl
theorem cellsGraph : Tryz.prog.cellsOf 24 = 3 := by kernel_rfl
theorem readGraph : Tryz.prog.readableRec 24 = true ∧ 24 < Tryz.prog.types.size := ⟨by kernel_rfl, of_decide_eq_true (by kernel_rfl)⟩
theorem readInts : Tryz.prog.readableRec 28 = true ∧ 28 < Tryz.prog.types.size := ⟨by kernel_rfl, of_decide_eq_true (by kernel_rfl)⟩
theorem readInt : Tryz.prog.readableRec 3 = true ∧ 3 < Tryz.prog.types.size := ⟨by kernel_rfl, of_decide_eq_true (by kernel_rfl)⟩

/-- A list of ints inside what came in, as the walks take it. -/
theorem ints_at {H : Type} {enc : TypeId × Value → H} {W : World} {fuel : Nat} {v : Value} {y : DataW H × List MemPlace}
    (h : DataW.trod enc Tryz.prog W 0 (fun _ => true) true fuel 28 [v] = some y) (hlt : ∀ x ∈ y.2, x.block < W.heap.size) :
    ∃ (p : Option Addr) (l : List Int) (c : Nat), v = .slice p l.length c ∧ Sl W (Value.int .i64) p l ∧ l.length ≤ 9223372036854775807 ∧ l.length ≤ c := by
  rcases open_ints Tryz.underlying28 Tryz.underlying3 cellsInt h with ⟨hcs, hx⟩ | ⟨a, len, cap, zs, hcs, _, hl, hm, hz, hx, hcell, _⟩
  · simp at hcs
    subst hcs
    exact ⟨none, [], 0, rfl, Sl.nil _ _ _, by simp, by simp⟩
  · simp at hcs
    subst hcs hx
    simp only [if_true] at hz
    have hlen : (zs.take len).length = len := by simp; omega
    refine ⟨some a, zs.take len, cap, by rw [hlen], ?_, by rw [hlen]; unfold maxLen at hm; omega, by rw [hlen]; exact hl⟩
    by_cases h0 : len = 0
    · subst h0; exact .inl (by simp)
    · obtain ⟨b, off, spot⟩ := a
      have hspot : spot = none := by simpa [Addr.add] using World.cell?_spot (hcell 0 (by omega))
      subst hspot
      refine .inr ⟨b, off, rfl, hlt (.cell b off) (MemPlace.mem_row.2 ⟨0, by omega, by simp⟩), fun i hi => ?_⟩
      rw [← add_plain, hcell i (by omega)]
      have : i < zs.length := by omega
      simp [List.getD_eq_getElem?_getD, this]
/-- A list of edges inside what came in, as the walks take it. -/
theorem edges_at {H : Type} {enc : TypeId × Value → H} {W : World} {fuel : Nat} {v : Value} {y : DataW H × List MemPlace}
    (h : DataW.trod enc Tryz.prog W 0 (fun _ => true) true fuel 22 [v] = some y) (hlt : ∀ x ∈ y.2, x.block < W.heap.size) :
    ∃ (p : Option Addr) (l : List Ed) (c : Nat), v = .slice p l.length c ∧ Sg 3 W edE p l ∧ l.length ≤ 9223372036854775807 := by
  rcases open_slice_fields Tryz.underlying22 Tryz.underlying42 (by kernel_rfl) (by kernel_rfl) h with ⟨hcs, hx⟩ | ⟨a, len, cap, m, D, Pl, hcs, _, hl, hm, hmm, hx, hf⟩
  · simp at hcs
    subst hcs
    exact ⟨none, [], 0, rfl, Sg.nil _ _ _ _, by simp⟩
  · simp at hcs
    subst hcs hx
    simp only [if_true] at hmm
    subst hmm
    obtain ⟨l, hll, hp⟩ := list_of (P := fun i (s : Ed) => W.cell? (a.add (i * 3 + 0)) = some (.int .i64 s.f) ∧ W.cell? (a.add (i * 3 + 1)) = some (.int .i64 s.l) ∧ W.cell? (a.add (i * 3 + 2)) = some (.int .i64 s.t)) len (fun i hi => by
      obtain ⟨ys, n, _, _, _, hj⟩ := hf i (by omega)
      obtain ⟨v0, y0, hc0, _, h0⟩ := hj 0 _ rfl
      obtain ⟨v1, y1, hc1, _, h1⟩ := hj 1 _ rfl
      obtain ⟨v2, y2, hc2, _, h2⟩ := hj 2 _ rfl
      obtain ⟨n0, e0, _, _⟩ := DataW.trod_int Tryz.underlying3 h0
      obtain ⟨n1, e1, _, _⟩ := DataW.trod_int Tryz.underlying3 h1
      obtain ⟨n2, e2, _, _⟩ := DataW.trod_int Tryz.underlying3 h2
      simp at e0 e1 e2
      subst e0 e1 e2
      exact ⟨⟨n0, n1, n2⟩, hc0, hc1, hc2⟩)
    subst hll
    refine ⟨some a, l, _, rfl, ?_, by unfold maxLen at hm; omega⟩
    by_cases h0 : l.length = 0
    · exact .inl (List.length_eq_zero_iff.1 h0)
    · obtain ⟨b, off, spot⟩ := a
      have hspot : spot = none := by simpa [Addr.add] using World.cell?_spot (hp 0 (by omega)).1
      subst hspot
      refine .inr ⟨b, off, rfl, hlt (.cell b off) (List.mem_append_left _ (MemPlace.mem_row.2 ⟨0, Nat.mul_pos (by omega) (by decide), by simp⟩)), fun i hi j hj => ?_⟩
      have hc := hp i hi
      have : j = 0 ∨ j = 1 ∨ j = 2 := by omega
      rw [Nat.add_assoc, ← add_plain]
      rcases this with rfl | rfl | rfl
      · rw [hc.1]; rfl
      · rw [hc.2.1]; rfl
      · rw [hc.2.2]; rfl
set_option maxRecDepth 100000 in
/-- A graph that came in, as the walks take it. -/
theorem graph_in {H : Type} {enc : TypeId × Value → H} {W : World} {ps : List MemPlace} {v : Value} {d : DataW H} {base : Nat} (hval : Value.okWide Tryz.prog W .any base 24 v)
    (h : DataW.Trod enc Tryz.prog W 0 (fun _ => true) true 24 v d ps) (hlt : ∀ x ∈ ps, x.block < W.heap.size) :
    ∃ (G : Gr) (p : Option Addr) (c : Nat), v = .agg #[.int .i64 G.q, .int .i64 G.n, .slice p G.es.length c] ∧ Sg 3 W edE p G.es ∧ G.es.length ≤ 9223372036854775807 := by
  obtain ⟨v0, v1, v2, y0, y1, y2, n, rfl, rfl, rfl, h0, h1, h2⟩ := open_agg3 Tryz.underlying24 (by kernel_rfl) cellsGraph hval h
  obtain ⟨q, e0, _, _⟩ := DataW.trod_int Tryz.underlying3 h0
  obtain ⟨k, e1, _, _⟩ := DataW.trod_int Tryz.underlying3 h1
  simp at e0 e1
  subst e0 e1
  obtain ⟨p, l, c, rfl, s, b⟩ := edges_at h2 (fun x hx => hlt x (List.mem_append_right _ (List.mem_append_right _ hx)))
  exact ⟨⟨q, k, l⟩, p, c, rfl, s, b⟩

end Go.Proofs.YtmdjndbjfgncmaaGreatDoor
namespace Go.Proofs.YtmdjndbjfgncmaaGreatDoor
open Go.Joins Go.ChangeShapes Go.WideShapes Go.ChangeAt Go.RowKit Go.Deep

set_option maxRecDepth 100000 in
theorem door_metN (os : Os) (args : Array Value) : laidMetH Tryz.prog Rows.minimalEqualsRow.laid ((World.doorLaid Tryz.prog 24 os).forCall (fun _ _ => 0) ⟨#[], args, []⟩).memory :=
  laidMetH_of_parts3 (fuel := 8) (laidMet_of_run' 8 (by kernel_rfl) (by kernel_rfl)) (by kernel_rfl) (by kernel_rfl)
end Go.Proofs.YtmdjndbjfgncmaaGreatDoor
namespace Go.Proofs.YtmdjndbjfgncmaaGreatDoor
open Go.RowKit Go.Shelf
attribute [local go_sem] Oper.semAt_some

/-- What the sequence yields among the first k edges. -/
def lvL (es : List Ed) (s : Int) (k : Nat) : List (Nat × Ed) := ((List.range k).filter (fun i => decide ((eget es i).f = s))).map (fun i => (i, eget es i))
theorem lvL_zero (es : List Ed) (s : Int) : lvL es s 0 = [] := rfl
theorem lvL_succ {es : List Ed} {s : Int} {k : Nat} (h : k < es.length) : lvL es s (k + 1) = lvL es s k ++ (if es[k].f = s then [(k, es[k])] else []) := by
  unfold lvL
  rw [List.range_succ, List.filter_append, List.map_append]
  congr 1
  by_cases hs : es[k].f = s <;> simp [eget_eq es k h, hs]
theorem lvL_len (es : List Ed) (s : Int) (k : Nat) : (lvL es s k).length ≤ k := by
  unfold lvL
  rw [List.length_map]
  exact Nat.le_trans (List.length_filter_le _ _) (by simp)
/-- All blocks below b, but a, are as they were. -/
def KX (a b : Nat) (W W' : World) : Prop := ∀ i, i < b → i ≠ a → W'.heap[i]? = W.heap[i]?
theorem KX.refl (a b : Nat) (W : World) : KX a b W W := fun _ _ _ => rfl
theorem KX.trans {a b : Nat} {X Y Z : World} (h : KX a b X Y) (k : KX a b Y Z) : KX a b X Z := fun i h1 h2 => (k i h1 h2).trans (h i h1 h2)
theorem KX_b {a b n : Nat} (hn : b ≤ n) (W : World) (l : Nat) (o o' : Obj) (hl : n ≤ l) (_ : W.heap[l]? = some o) (_ : o.isCells = false) (_ : o.isWalk = false) : KX a b W (W.putObj l o') :=
  fun i h1 _ => World.putObj_heap_other (by omega)
theorem KX.boxed {a b B : Nat} {t : TypeId} {v : Value} {W W' : World} (h : KX a b W W') (h1 : B < b) (h2 : B ≠ a) (hb : Boxed W B t v) : Boxed W' B t v := (h B h1 h2).trans hb
/-- Edges in memory, in a block below n. -/
def SgB (n : Nat) (w : World) (p : Option Addr) (l : List Ed) : Prop :=
  l = [] ∨ ∃ b off, p = some ⟨b, off, none⟩ ∧ b < n ∧ b < w.heap.size ∧ ∀ i (h : i < l.length) j, j < 3 → w.cell? ⟨b, off + i * 3 + j, none⟩ = (edE l[i])[j]?
theorem SgB.of {n : Nat} {w : World} {p : Option Addr} {l : List Ed} (h : Sg 3 w edE p l) (hn : w.heap.size ≤ n) : SgB n w p l := by
  rcases h with h | ⟨b, off, h1, h2, h3⟩
  · exact .inl h
  · exact .inr ⟨b, off, h1, by omega, h2, h3⟩
theorem SgB.sg {n : Nat} {w : World} {p : Option Addr} {l : List Ed} (h : SgB n w p l) : Sg 3 w edE p l := by
  rcases h with h | ⟨b, off, h1, _, h2, h3⟩
  · exact .inl h
  · exact .inr ⟨b, off, h1, h2, h3⟩
theorem SgB.kept {n : Nat} {w w' : World} {p : Option Addr} {l : List Ed} (h : SgB n w p l) (hk : ∀ i, i < n → w'.heap[i]? = w.heap[i]?) : SgB n w' p l := by
  rcases h with h | ⟨b, off, h1, h2, h3, h4⟩
  · exact .inl h
  · have e := hk b h2
    have hlt : b < w'.heap.size := by
      rcases Nat.lt_or_ge b w'.heap.size with h' | h'
      · exact h'
      · rw [Array.getElem?_eq_none h', Array.getElem?_eq_getElem h3] at e; cases e
    exact .inr ⟨b, off, h1, h2, hlt, fun i hi j hj => (World.cell?_of_block (w := w) (a := ⟨b, off + i * 3 + j, none⟩) e).trans (h4 i hi j hj)⟩
theorem SgB.kx {n a b : Nat} {w w' : World} {p : Option Addr} {l : List Ed} (h : SgB n w p l) (hk : KX a b w w') (h1 : n ≤ b) (h2 : n ≤ a) : SgB n w' p l :=
  h.kept (fun i hi => hk i (by omega) (by omega))
theorem SgB.alloc {n : Nat} {w : World} {p : Option Addr} {l : List Ed} (h : SgB n w p l) (hn : n ≤ w.heap.size) (o : Obj) : SgB n (w.alloc o) p l :=
  h.kept (fun i hi => Below.heap_alloc w o i (by omega))
def encL (x : Nat × Ed) : Array Value := #[.int .i64 (x.1 : Int), .agg #[.int .i64 x.2.f, .int .i64 x.2.l, .int .i64 x.2.t]]

set_option maxRecDepth 100000 in
set_option maxHeartbeats 1000000 in
theorem leaving1_in (F : Fence) (n : Nat) (hf : F.fn 108) (hro : F.round = none) (hn : 1 ≤ n) (l a b m Bg Bs : Nat) (G : Gr) (s : Int) (p : Option Addr) (c : Nat) (hlen : G.es.length ≤ 1024) (J Jx : List (Nat × Ed) → World → Prop)
    (hA : ∀ pre W o, J pre W → J pre (W.alloc o))
    (hY : ∀ pre x W, J pre W → pre.length < G.es.length → YieldAt F (n - 1) Tryz.prog l (encL x) W fun e W' =>
      (e = .returned (.bool true) ∧ J (pre ++ [x]) W' ∧ KX a b W W') ∨ (e = .returned (.bool false) ∧ Jx (pre ++ [x]) W'))
    (W : World) (hma : m ≤ a) (hmb : m ≤ Bs) (hBs : Bs < b) (hBa : Bs ≠ a) (hg : VRow W Bg 24 [.int .i64 G.q, .int .i64 G.n, .slice p G.es.length c]) (hs : Boxed W Bs 3 (.int .i64 s)) (hin : SgB m W p G.es) (h0 : J [] W) :
    CallsIn F n Tryz.prog 108 #[.func (.yield l) #[] #[], .pointer (some ⟨Bg, 0, none⟩), .pointer (some ⟨Bs, 0, none⟩)] W fun e W' => (∃ v, e = .returned v) ∧
      ((∃ ys : List (Nat × Ed), ys = lvL G.es s G.es.length ∧ J ys W') ∨ (∃ pre : List (Nat × Ed), True ∧ Jx pre W')) := by
  refine callsIn_of_wp Tryz.func108 rfl hf ?_ hro
  simp only [Tryz.ntmps108, List.size_toArray, List.length_cons, List.length_nil, Nat.reduceAdd, Nat.reduceSub, Array.replicate_succ, Array.replicate_zero, List.push_toArray, List.append_toArray, List.nil_append, List.cons_append]
  have f2 := hg.at 2 rfl
  gi_wp2
  clear f2
  gi_loopw [9] (fun i wr => ∃ (k : Nat) (pre : List (Nat × Ed)), k ≤ G.es.length ∧ i = .int .i64 k ∧ Hid (pre = lvL G.es s k) ∧ J pre wr ∧ Boxed wr Bs 3 (.int .i64 s) ∧ SgB m wr p G.es) (fun i _ => G.es.length - (intOf i).toNat)
  case atStart => exact ⟨0, [], Nat.zero_le _, rfl, rfl, h0, hs, hin⟩
  case round =>
    obtain ⟨k, pre, hk, rfl, hp, hJs, hnx, hsg⟩ := hrel
    by_cases hlt : k < G.es.length
    · have hpl : pre.length < G.es.length := by rw [hp.out]; have := lvL_len G.es s k; omega
      obtain ⟨b3, o3, rfl, hb3, e0, e1, e2⟩ := hsg.sg.get3 k hlt rfl
      have HN := hidI (lvL_succ (s := s) hlt)
      have hnA := hnx.alloc (.cells #[.int .i64 G.es[k].f, .int .i64 G.es[k].l, .int .i64 G.es[k].t] 42)
      have hgA := hsg.alloc (by have := hnx.lt; omega) (.cells #[.int .i64 G.es[k].f, .int .i64 G.es[k].l, .int .i64 G.es[k].t] 42)
      have hJA := hA pre wr (.cells #[.int .i64 G.es[k].f, .int .i64 G.es[k].l, .int .i64 G.es[k].t] 42) hJs
      have HY := hidI (hY pre (k, G.es[k]) (wr.alloc (.cells #[.int .i64 G.es[k].f, .int .i64 G.es[k].l, .int .i64 G.es[k].t] 42)) hJA hpl)
      have hbs := hnA.cell
      generalize hx : G.es[k] = x at *
      by_cases he : x.f = s
      · have hb : (x.f == s) = true := by simpa using he
        have HN : Hid (lvL G.es s (k + 1) = lvL G.es s k ++ [(k, x)]) := by rw [Hid, HN.out, if_pos he]
        obtain ⟨fn, tmps, assign, body, hy, hR⟩ := HY.out
        unfold encL at hy
        simp only at hy
        clear he
        gi_wp2
        refine hR.mono ?_
        rintro e W3 (⟨rfl, hJ3, hk3⟩ | ⟨rfl, hJx3⟩)
        · gi_wp2
          go_roundw
          case rel => exact ⟨k + 1, _, by omega, by go_num, by unfold Hid; rw [HN.out, ← hp.out], hJ3, hk3.boxed hBs hBa hnA, hgA.kx hk3 (by omega) hma⟩
          case measure => simp [intOf]; omega
        · gi_wp2
          refine bodyPost_ret (results_none rfl _ _ _) rfl ?_
          exact ⟨⟨_, rfl⟩, .inr ⟨_, trivial, hJx3⟩⟩
      · have hb : (x.f == s) = false := by simpa using he
        have HN : Hid (lvL G.es s (k + 1) = lvL G.es s k) := by rw [Hid, HN.out, if_neg he, List.append_nil]
        clear he
        gi_wp2
        rename_i K1 hK1 x1 h1 w1 e1
        refine ⟨fun f hf => (by cases hf), hK1 _ _ ?_⟩
        clear e1
        gi_wp2
        go_roundw
        case rel => exact ⟨k + 1, _, by omega, by go_num, by unfold Hid; rw [HN.out, ← hp.out], hJA, hnA, hgA⟩
        case measure => simp [intOf]; omega
    · obtain rfl : k = G.es.length := by omega
      gi_wp2
      go_end0
      exact ⟨⟨_, rfl⟩, .inl ⟨_, hp.out, hJs⟩⟩

/-- The sequence, as the law of the loop takes it. -/
theorem leaving_stops (F : Fence) (n : Nat) (hf : F.fn 108) (hro : F.round = none) (hn : 1 ≤ n) (a b m Bg Bs : Nat) (G : Gr) (s : Int) (p : Option Addr) (c : Nat) (hlen : G.es.length ≤ 1024) (w : World)
    (hma : m ≤ a) (hmb : m ≤ Bs) (hBs : Bs < b) (hBa : Bs ≠ a) (hg : VRow w Bg 24 [.int .i64 G.q, .int .i64 G.n, .slice p G.es.length c]) (hs : Boxed w Bs 3 (.int .i64 s)) (hin : SgB m w p G.es) :
    SeqStopsK F n Tryz.prog 108 #[.pointer (some ⟨Bg, 0, none⟩), .pointer (some ⟨Bs, 0, none⟩)] encL (KX a b) (fun ys => ys = lvL G.es s G.es.length) (fun _ => True) G.es.length w := fun l J Jx W hW hJ _ hY h0 =>
  leaving1_in F n hf hro hn l a b m Bg Bs G s p c hlen J Jx (fun pre W o h => hJ pre W _ none h (World.grownBy_alloc W o none) (fun r e => by cases e)) hY W hma hmb hBs hBa (hg.below hW hg.lt) ((KH.of_below hW hs.lt).boxed hs) (hin.kept (fun i hi => hW.block i (by have := hs.lt; omega))) h0
end Go.Proofs.YtmdjndbjfgncmaaGreatDoor
namespace Go.Proofs.YtmdjndbjfgncmaaGreatDoor
open Go.RowKit Go.Shelf
attribute [local go_sem] Oper.semAt_some

/-- All blocks below m, and block B, are as they were. -/
def KS (m B : Nat) (W W' : World) : Prop := ∀ i, (i < m ∨ i = B) → W'.heap[i]? = W.heap[i]?
theorem KS.refl (m B : Nat) (W : World) : KS m B W W := fun _ _ => rfl
theorem KS.trans {m B : Nat} {X Y Z : World} (h : KS m B X Y) (k : KS m B Y Z) : KS m B X Z := fun i h1 => (k i h1).trans (h i h1)
theorem KS_b {m B n : Nat} (hm : m ≤ n) (hB : B < n) (W : World) (l : Nat) (o o' : Obj) (hl : n ≤ l) (_ : W.heap[l]? = some o) (_ : o.isCells = false) (_ : o.isWalk = false) : KS m B W (W.putObj l o') :=
  fun i h1 => World.putObj_heap_other (by omega)
theorem KS.boxed {m B : Nat} {t : TypeId} {v : Value} {W W' : World} (h : KS m B W W') (hb : Boxed W B t v) : Boxed W' B t v := (h B (.inr rfl)).trans hb
theorem KS.low {m B : Nat} {W W' : World} (h : KS m B W W') : ∀ i, i < m → W'.heap[i]? = W.heap[i]? := fun i hi => h i (.inl hi)

set_option maxRecDepth 100000 in
set_option maxHeartbeats 1000000 in
theorem leavingS_in (F : Fence) (n : Nat) (hf : F.fn 108) (hro : F.round = none) (hn : 1 ≤ n) (l m Bg Bs : Nat) (G : Gr) (s : Int) (p : Option Addr) (c : Nat) (hlen : G.es.length ≤ 1024) (J Jx : List (Nat × Ed) → World → Prop)
    (hA : ∀ pre W o, J pre W → J pre (W.alloc o))
    (hY : ∀ pre x W, J pre W → pre.length < G.es.length → YieldAt F (n - 1) Tryz.prog l (encL x) W fun e W' =>
      (e = .returned (.bool true) ∧ J (pre ++ [x]) W' ∧ KS m Bs W W') ∨ (e = .returned (.bool false) ∧ Jx (pre ++ [x]) W'))
    (W : World) (hmb : m ≤ Bs) (hg : VRow W Bg 24 [.int .i64 G.q, .int .i64 G.n, .slice p G.es.length c]) (hs : Boxed W Bs 3 (.int .i64 s)) (hin : SgB m W p G.es) (h0 : J [] W) :
    CallsIn F n Tryz.prog 108 #[.func (.yield l) #[] #[], .pointer (some ⟨Bg, 0, none⟩), .pointer (some ⟨Bs, 0, none⟩)] W fun e W' => (∃ v, e = .returned v) ∧
      ((∃ ys : List (Nat × Ed), ys = lvL G.es s G.es.length ∧ J ys W') ∨ (∃ pre : List (Nat × Ed), True ∧ Jx pre W')) := by
  refine callsIn_of_wp Tryz.func108 rfl hf ?_ hro
  simp only [Tryz.ntmps108, List.size_toArray, List.length_cons, List.length_nil, Nat.reduceAdd, Nat.reduceSub, Array.replicate_succ, Array.replicate_zero, List.push_toArray, List.append_toArray, List.nil_append, List.cons_append]
  have f2 := hg.at 2 rfl
  gi_wp2
  clear f2
  gi_loopw [9] (fun i wr => ∃ (k : Nat) (pre : List (Nat × Ed)), k ≤ G.es.length ∧ i = .int .i64 k ∧ Hid (pre = lvL G.es s k) ∧ J pre wr ∧ Boxed wr Bs 3 (.int .i64 s) ∧ SgB m wr p G.es) (fun i _ => G.es.length - (intOf i).toNat)
  case atStart => exact ⟨0, [], Nat.zero_le _, rfl, rfl, h0, hs, hin⟩
  case round =>
    obtain ⟨k, pre, hk, rfl, hp, hJs, hnx, hsg⟩ := hrel
    by_cases hlt : k < G.es.length
    · have hpl : pre.length < G.es.length := by rw [hp.out]; have := lvL_len G.es s k; omega
      obtain ⟨b3, o3, rfl, hb3, e0, e1, e2⟩ := hsg.sg.get3 k hlt rfl
      have HN := hidI (lvL_succ (s := s) hlt)
      have hnA := hnx.alloc (.cells #[.int .i64 G.es[k].f, .int .i64 G.es[k].l, .int .i64 G.es[k].t] 42)
      have hgA := hsg.alloc (by have := hnx.lt; omega) (.cells #[.int .i64 G.es[k].f, .int .i64 G.es[k].l, .int .i64 G.es[k].t] 42)
      have hJA := hA pre wr (.cells #[.int .i64 G.es[k].f, .int .i64 G.es[k].l, .int .i64 G.es[k].t] 42) hJs
      have HY := hidI (hY pre (k, G.es[k]) (wr.alloc (.cells #[.int .i64 G.es[k].f, .int .i64 G.es[k].l, .int .i64 G.es[k].t] 42)) hJA hpl)
      have hbs := hnA.cell
      generalize hx : G.es[k] = x at *
      by_cases he : x.f = s
      · have hb : (x.f == s) = true := by simpa using he
        have HN : Hid (lvL G.es s (k + 1) = lvL G.es s k ++ [(k, x)]) := by rw [Hid, HN.out, if_pos he]
        obtain ⟨fn, tmps, assign, body, hy, hR⟩ := HY.out
        unfold encL at hy
        simp only at hy
        clear he
        gi_wp2
        refine hR.mono ?_
        rintro e W3 (⟨rfl, hJ3, hk3⟩ | ⟨rfl, hJx3⟩)
        · gi_wp2
          go_roundw
          case rel => exact ⟨k + 1, _, by omega, by go_num, by unfold Hid; rw [HN.out, ← hp.out], hJ3, hk3.boxed hnA, hgA.kept hk3.low⟩
          case measure => simp [intOf]; omega
        · gi_wp2
          refine bodyPost_ret (results_none rfl _ _ _) rfl ?_
          exact ⟨⟨_, rfl⟩, .inr ⟨_, trivial, hJx3⟩⟩
      · have hb : (x.f == s) = false := by simpa using he
        have HN : Hid (lvL G.es s (k + 1) = lvL G.es s k) := by rw [Hid, HN.out, if_neg he, List.append_nil]
        clear he
        gi_wp2
        rename_i K1 hK1 x1 h1 w1 e1
        refine ⟨fun f hf => (by cases hf), hK1 _ _ ?_⟩
        clear e1
        gi_wp2
        go_roundw
        case rel => exact ⟨k + 1, _, by omega, by go_num, by unfold Hid; rw [HN.out, ← hp.out], hJA, hnA, hgA⟩
        case measure => simp [intOf]; omega
    · obtain rfl : k = G.es.length := by omega
      gi_wp2
      go_end0
      exact ⟨⟨_, rfl⟩, .inl ⟨_, hp.out, hJs⟩⟩

/-- The sequence, as the law of the loop takes it. -/
theorem leavingS_stops (F : Fence) (n : Nat) (hf : F.fn 108) (hro : F.round = none) (hn : 1 ≤ n) (m Bg Bs : Nat) (G : Gr) (s : Int) (p : Option Addr) (c : Nat) (hlen : G.es.length ≤ 1024) (w : World)
    (hmb : m ≤ Bs) (hg : VRow w Bg 24 [.int .i64 G.q, .int .i64 G.n, .slice p G.es.length c]) (hs : Boxed w Bs 3 (.int .i64 s)) (hin : SgB m w p G.es) :
    SeqStopsK F n Tryz.prog 108 #[.pointer (some ⟨Bg, 0, none⟩), .pointer (some ⟨Bs, 0, none⟩)] encL (KS m Bs) (fun ys => ys = lvL G.es s G.es.length) (fun _ => True) G.es.length w := fun l J Jx W hW hJ _ hY h0 =>
  leavingS_in F n hf hro hn l m Bg Bs G s p c hlen J Jx (fun pre W o h => hJ pre W _ none h (World.grownBy_alloc W o none) (fun r e => by cases e)) hY W hmb (hg.below hW hg.lt) ((KH.of_below hW hs.lt).boxed hs) (hin.kept (fun i hi => hW.block i (by have := hs.lt; omega))) h0
end Go.Proofs.YtmdjndbjfgncmaaGreatDoor
namespace Go.Proofs.YtmdjndbjfgncmaaGreatDoor
open Go.RowKit

set_option maxHeartbeats 1000000 in
theorem leaving_in (F : Fence) (n : Nat) (hf : F.fn 83) (hro : F.round = none) (g : Value) (s : Int) (q m : Int) (p : Option Addr) (k c : Nat) (hg : g = .agg #[.int .i64 q, .int .i64 m, .slice p k c]) (w : World) :
    CallsIn F n Tryz.prog 83 #[g, .int .i64 s] w fun e w' => e = .returned (.func (.func 108) #[] #[.pointer (some ⟨w.heap.size, 0, none⟩), .pointer (some ⟨w.heap.size + 1, 0, none⟩)]) ∧
      w' = (w.alloc (.cells #[.int .i64 q, .int .i64 m, .slice p k c] 24)).alloc (.cells #[.int .i64 s] 3) := by
  subst hg
  refine callsIn_of_wp Tryz.func83 rfl hf ?_ hro
  simp only [Tryz.ntmps83, List.size_toArray, List.length_cons, List.length_nil, Nat.reduceAdd, Nat.reduceSub, Array.replicate_succ, Array.replicate_zero, List.push_toArray, List.append_toArray, List.nil_append, List.cons_append]
  gi_wp2
  go_ret
  exact ⟨rfl, rfl⟩
end Go.Proofs.YtmdjndbjfgncmaaGreatDoor
namespace Go.Proofs.YtmdjndbjfgncmaaGreatDoor
open Go.RowKit Go.Shelf
attribute [local go_sem] Oper.semAt_some

theorem lvL_out (es : List Ed) (s : Int) : ∀ k, k ≤ es.length → (lvL es s k).map (fun x => ((x.1 : Nat) : Int)) = outI es s k
  | 0, _ => rfl
  | k + 1, h => by
    rw [lvL_succ (by omega), outI_succ (by omega), List.map_append, lvL_out es s k (by omega)]
    split <;> rfl
theorem own_shI {w : World} {B e size n : Nat} {v : Value} {xs : List Value} (h : w.ownsRow B e size v n xs) : ∃ p m c, v = .slice p m c := by
  rcases h.2 with ⟨rfl, _⟩ | ⟨g, cap, cur, rfl, _⟩
  · exact ⟨_, _, _, rfl⟩
  · exact ⟨_, _, _, rfl⟩
theorem own_cells {w : World} {B e size n : Nat} {v : Value} {xs : List Value} (h : w.ownsRow B e size v n xs) {j : Nat} {o : Obj} (hj : v.ownBlock = some j) (ho : w.heap[j]? = some o) : o.isCells = true := by
  rcases h.2 with ⟨rfl, _⟩ | ⟨g, cap, cur, rfl, _, hh, _⟩
  · simp [Value.ownBlock] at hj
  · obtain rfl : g = j := by simpa [Value.ownBlock] using hj
    rw [hh] at ho; cases ho; rfl
theorem own_put {W : World} {B e size n D : Nat} {v : Value} {xs : List Value} {o : Obj} {ds : Option (List Deferred)} (hK : W.heap[D]? = some (.deferred ds)) (h : W.ownsRow B e size v n xs) : (W.putObj D o).ownsRow B e size v n xs := by
  refine h.kept (grownBy_putObj' W D o) ?_
  rcases h.2 with ⟨rfl, _⟩ | ⟨g, cap, cur, rfl, _, hh, _⟩
  · exact .inl rfl
  · refine .inr (fun e => ?_)
    obtain rfl : g = D := by simpa [Value.ownBlock] using e
    rw [hh] at hK; cases hK
theorem own_baseI {W : World} {B B' e size n : Nat} {v : Value} {xs : List Value} (h : W.ownsRow B e size v n xs) (hB : B' ≤ B) : W.ownsRow B' e size v n xs :=
  ⟨h.1, h.2.imp id (fun ⟨g, cap, cur, a, b, z⟩ => ⟨g, cap, cur, a, Nat.le_trans hB b, z⟩)⟩
/-- A row of numbers of the call's own, behind a variable's cell. -/
def OutI (B b : Nat) (l : List Int) (W : World) : Prop := ∃ v, VRow W b 28 [v] ∧ W.ownsRow B 3 1 v l.length (l.map (Value.int .i64)) ∧ v.ownBlock ≠ some b
theorem OutI.own {β : Type} (B b : Nat) (f : β → List Int) : Own (fun s W => OutI B b (f s) W) := by
  rintro s X Y row ⟨v, h1, h2, h3⟩ hg hrow
  refine ⟨v, VRow.own b 28 (fun _ : Unit => [v]) () X Y row h1 hg hrow, ?_, h3⟩
  refine h2.kept hg ?_
  rcases h2.2 with ⟨rfl, _⟩ | ⟨g, cap, cur, rfl, _, hh, _⟩
  · exact .inl rfl
  · refine .inr (fun e => ?_)
    obtain ⟨o, ho, hc⟩ := hrow g (by rw [← e]; rfl)
    rw [hh] at ho; cases ho; cases hc

end Go.Proofs.YtmdjndbjfgncmaaGreatDoor
namespace Go.Proofs.YtmdjndbjfgncmaaGreatDoor
open Go.RowKit Go.Sort Go.Shelf Go.Lib

theorem sortI_any (l : List Int) (B n : Nat) (v : Value) (w : World) (h : w.ownsRow B 3 1 v n (l.map (Value.int .i64))) (hn : n ≤ 100000) :
    Calls Tryz.prog 84 #[v] w fun e w' => e = .returned (.tuple #[]) ∧ w'.ownsRow B 3 1 v n ((l.mergeSort fun x y => decide (x ≤ y)).map (Value.int .i64)) ∧ w.grownBy w' v.ownBlock := by
  have hl : l.length = n := by have := h.1; simpa using this
  subst hl
  rcases h.2 with ⟨rfl, h0⟩ | ⟨g, cap, cur, rfl, hg, hh, hc, hm, hs, ht⟩
  · have : l = [] := List.length_eq_zero_iff.1 h0
    subst this
    refine (Tryz.slices_Sort_int_none none 0 w).mono ?_
    rintro e w' ⟨rfl, rfl⟩
    exact ⟨rfl, by simpa using h, rfl, rfl, rfl, Nat.le_refl _, fun _ _ _ => rfl⟩
  · refine (Tryz.slices_Sort_int g 0 cap l w (holds_of_blockI hh (by simpa using ht)) (Array.getElem?_eq_some_iff.1 hh).1 (by omega)).mono ?_
    rintro e w' ⟨rfl, q, os, rfl⟩
    exact ⟨rfl, ownsRow_sortedI (List.length_mergeSort _) hg hh hc hm hs, grownBy_sortedI _⟩
theorem compactI_any (l : List Int) (B n : Nat) (v : Value) (w : World) (h : w.ownsRow B 3 1 v n (l.map (Value.int .i64))) (hn : n ≤ 100000) (hk : (Lib.compact l).length ≤ l.length) :
    Calls Tryz.prog 85 #[v] w fun e w' => ∃ v', e = .returned v' ∧ w'.ownsRow B 3 1 v' (Lib.compact l).length ((Lib.compact l).map (Value.int .i64)) ∧ w.grownBy w' v.ownBlock := by
  have hl : l.length = n := by have := h.1; simpa using this
  subst hl
  rcases h.2 with ⟨rfl, h0⟩ | ⟨g, cap, cur, rfl, hg, hh, hc, hm, hs, ht⟩
  · have : l = [] := List.length_eq_zero_iff.1 h0
    subst this
    refine (Tryz.slices_Compact_int_empty none 0 w).mono ?_
    rintro e w' ⟨rfl, rfl⟩
    have e : Lib.compact ([] : List Int) = [] := rfl
    rw [e]
    exact ⟨_, rfl, by simpa using h, rfl, rfl, rfl, Nat.le_refl _, fun _ _ _ => rfl⟩
  · refine (Tryz.slices_Compact_int g 0 cap l w (holds_of_blockI hh (by simpa using ht)) (by omega) hc).mono ?_
    rintro e w' ⟨rfl, q, rfl⟩
    have hb := grownBy_sortedI (w := w) (g := g) (n := q) (os := #[]) (Lib.compact l ++ List.replicate (l.length - (Lib.compact l).length) 0).toArray
    have hp := heap_sortedI (g := g) (n := q) (os := #[]) (Lib.compact l ++ List.replicate (l.length - (Lib.compact l).length) 0).toArray hh
    rw [grow_empty] at hb hp
    refine ⟨_, rfl, ⟨by simp, .inr ⟨g, cap, _, rfl, hg, hp, by omega, hm, by simp [putCells, hs], ?_⟩⟩, hb⟩
    have h1 := take_putCellsI cur (Lib.compact l ++ List.replicate (l.length - (Lib.compact l).length) 0) (by simp; omega)
    have h2 := congrArg (List.take (Lib.compact l).length) h1
    rw [List.take_take, List.map_append, List.take_append_of_le_length (by simp), Nat.min_eq_left (by simp)] at h2
    rw [Nat.mul_one, h2, ← List.length_map (Value.int .i64), List.take_length]
end Go.Proofs.YtmdjndbjfgncmaaGreatDoor
namespace Go.Proofs.YtmdjndbjfgncmaaGreatDoor
open Go.RowKit

theorem cmpt_inv (d : Array Int) (hs : ∀ i j, i ≤ j → j < d.size → d[i]! ≤ d[j]!) : ∀ m, m ≤ d.size → (Lib.compactUpTo d m).Pairwise (· < ·) ∧ ∀ x, x ∈ Lib.compactUpTo d m ↔ ∃ i, i < m ∧ d[i]! = x
  | 0, _ => ⟨by simp [Lib.compactUpTo], by simp [Lib.compactUpTo]⟩
  | m + 1, hm => by
    obtain ⟨h1, h2⟩ := cmpt_inv d hs m (by omega)
    rw [Lib.compactUpTo_succ]
    by_cases hk : Lib.keeps d m = true
    · rw [if_pos hk]
      refine ⟨List.pairwise_append.2 ⟨h1, by simp, fun a ha b hb => ?_⟩, fun x => ?_⟩
      · rw [List.mem_singleton] at hb
        subst hb
        obtain ⟨i, hi, rfl⟩ := (h2 a).1 ha
        have hne : m = 0 ∨ d[m]! ≠ d[m - 1]! := by simpa [Lib.keeps] using hk
        have hne : d[m]! ≠ d[m - 1]! := hne.resolve_left (by omega)
        have a1 := hs i (m - 1) (by omega) (by omega)
        have a2 := hs (m - 1) m (by omega) (by omega)
        omega
      · rw [List.mem_append, h2, List.mem_singleton]
        constructor
        · rintro (⟨i, hi, e⟩ | e)
          · exact ⟨i, by omega, e⟩
          · exact ⟨m, by omega, e.symm⟩
        · rintro ⟨i, hi, e⟩
          by_cases him : i = m
          · subst him; exact .inr e.symm
          · exact .inl ⟨i, by omega, e⟩
    · rw [if_neg hk, List.append_nil]
      have hne : ¬ (m = 0 ∨ d[m]! ≠ d[m - 1]!) := by simpa [Lib.keeps] using hk
      have h0 : m ≠ 0 := fun e => hne (.inl e)
      have he : d[m]! = d[m - 1]! := Classical.byContradiction (fun e => hne (.inr e))
      refine ⟨h1, fun x => ?_⟩
      rw [h2]
      constructor
      · rintro ⟨i, hi, e⟩; exact ⟨i, by omega, e⟩
      · rintro ⟨i, hi, e⟩
        by_cases him : i = m
        · subst him; exact ⟨i - 1, by omega, by rw [← he]; exact e⟩
        · exact ⟨i, by omega, e⟩
theorem sort_compact (l : List Int) : (Lib.compact (l.mergeSort fun x y => decide (x ≤ y))).Pairwise (· < ·) ∧ ∀ x, x ∈ Lib.compact (l.mergeSort fun x y => decide (x ≤ y)) ↔ x ∈ l := by
  have hsrt : (l.mergeSort fun x y => decide (x ≤ y)).Pairwise (fun x y => x ≤ y) := by
    have := List.pairwise_mergeSort (le := fun (x y : Int) => decide (x ≤ y)) (fun a b c h1 h2 => by simp at *; omega) (fun a b => by simp; omega) l
    exact this.imp (fun h => by simpa using h)
  have hmem : ∀ x, x ∈ (l.mergeSort fun x y => decide (x ≤ y)) ↔ x ∈ l := fun x => List.mem_mergeSort
  generalize (l.mergeSort fun x y => decide (x ≤ y)) = z at *
  have hs : ∀ i j, i ≤ j → j < z.toArray.size → z.toArray[i]! ≤ z.toArray[j]! := by
    intro i j hij hj
    have hj' : j < z.length := by simpa using hj
    rw [getElem!_pos z.toArray i (by simp; omega), getElem!_pos z.toArray j hj]
    by_cases e : i = j
    · subst e; exact Int.le_refl _
    · have := List.pairwise_iff_getElem.1 hsrt i j (by omega) hj' (by omega)
      simpa using this
  obtain ⟨h1, h2⟩ := cmpt_inv z.toArray hs z.length (by simp)
  refine ⟨h1, fun x => ?_⟩
  rw [← hmem x]
  show x ∈ Lib.compactUpTo z.toArray z.length ↔ _
  rw [h2]
  constructor
  · rintro ⟨i, hi, rfl⟩
    rw [getElem!_pos z.toArray i (by simpa using hi)]
    simp
  · intro hx
    obtain ⟨i, hi, e⟩ := List.mem_iff_getElem.1 hx
    exact ⟨i, hi, by rw [getElem!_pos z.toArray i (by simpa using hi)]; simpa using e⟩
/-- What the program's step returns is what the reference finds. -/
theorem step_sorted {G : Gr} {st : List Int} {b : Int} (hv : Vg G) : Lib.compact ((stepL G.es st b).mergeSort fun x y => decide (x ≤ y)) = nextA G st b :=
  step_law hv (sort_compact _).1 (sort_compact _).2
end Go.Proofs.YtmdjndbjfgncmaaGreatDoor
namespace Go.Proofs.YtmdjndbjfgncmaaGreatDoor
open Go.RowKit

/-! ### Marks among the deferred calls -/
/-- Cells are as they were; nothing below B has turned. -/
structure KC (B : Nat) (W W' : World) : Prop where
  below : Below B W W'
  cells : ∀ (k : Nat) (o : Obj), W.heap[k]? = some o → o.isCells = true → W'.heap[k]? = some o
theorem KC.refl (B : Nat) (W : World) : KC B W W := ⟨Below.refl _ _, fun _ _ h _ => h⟩
theorem KC.trans {B : Nat} {X Y Z : World} (h : KC B X Y) (k : KC B Y Z) : KC B X Z := ⟨h.below.trans k.below, fun i o hi ho => k.cells i o (h.cells i o hi ho) ho⟩
theorem KC.sl {α : Type} {B : Nat} {W W' : World} {enc : α → Value} {p : Option Addr} {l : List α} (h : KC B W W') (hs : Sl W enc p l) : Sl W' enc p l := by
  rcases hs with hs | ⟨b, off, hp, hb, hc⟩
  · exact .inl hs
  · by_cases hl : l = []
    · exact .inl hl
    · refine .inr ⟨b, off, hp, Nat.lt_of_lt_of_le hb h.below.size, fun i hi => ?_⟩
      obtain ⟨o, ho, hk⟩ := cells_of_cell (hc i hi)
      exact (World.cell?_of_block (w := W) (a := ⟨b, off + i, none⟩) ((h.cells b o ho hk).trans ho.symm)).trans (hc i hi)
def Marks (B : Nat) (W : World) : List Deferred → Prop
  | [] => True
  | d :: ds => (∃ D, d = { target := .collected D, args := #[] } ∧ B ≤ D ∧ W.heap[D]? = some (.deferred (some [])) ∧ ∀ d' ∈ ds, d'.target ≠ .collected D) ∧ Marks B W ds
theorem Marks.lt {B : Nat} {W : World} : ∀ {ds : List Deferred}, Marks B W ds → ∀ d ∈ ds, ∃ D, d.target = .collected D ∧ D < W.heap.size
  | [], _, _, h => by cases h
  | _ :: _, ⟨⟨D, hd, _, hk, _⟩, hr⟩, d', h => by
    rcases List.mem_cons.1 h with h | h
    · subst h; subst hd; exact ⟨D, rfl, (Array.getElem?_eq_some_iff.1 hk).1⟩
    · exact Marks.lt hr d' h
theorem Marks.keep {B : Nat} {W W' : World} : ∀ {ds : List Deferred}, Marks B W ds → (∀ D, B ≤ D → W.heap[D]? = some (.deferred (some [])) → (∃ d ∈ ds, d.target = .collected D) → W'.heap[D]? = some (.deferred (some []))) → Marks B W' ds
  | [], _, _ => trivial
  | _ :: _, ⟨⟨D, hd, hB, hk, hn⟩, hr⟩, h =>
    ⟨⟨D, hd, hB, h D hB hk ⟨_, List.mem_cons_self, by rw [hd]⟩, hn⟩, hr.keep (fun D' h1 h2 ⟨d, hd', ht⟩ => h D' h1 h2 ⟨d, List.mem_cons_of_mem _ hd', ht⟩)⟩
theorem Marks.others {B : Nat} {W W' : World} {ds : List Deferred} (h : Marks B W ds) (k : KeepsOthers W W') : Marks B W' ds := h.keep (fun D _ hk _ => k.same D _ hk rfl)
theorem Marks.cons {B D : Nat} {W : World} {ds : List Deferred} (h : Marks B W ds) (hB : B ≤ D) (hk : W.heap[D]? = some (.deferred (some []))) (hn : ∀ d ∈ ds, ∃ D', d.target = .collected D' ∧ D' < D) :
    Marks B W ({ target := .collected D, args := #[] } :: ds) :=
  ⟨⟨D, rfl, hB, hk, fun d hd e => by
    obtain ⟨D', h1, h2⟩ := hn d hd
    rw [h1] at e; cases e; omega⟩, h⟩
theorem leaves_marks {F : Fence} {n : Nat} {P : Program} {fn : Func} {tmps : Array Value} {R : Ending → World → Prop} {B : Nat} :
    ∀ (ds : List Deferred) (W : World), Marks B W ds → (∀ W', KC B W W' → LeavesInM F n P fn tmps R [] .returning W') → LeavesInM F n P fn tmps R ds .returning W
  | [], W, _, h => h W (KC.refl _ _)
  | d :: ds, W, ⟨⟨D, hd, hB, hk, hn⟩, hr⟩, h => by
    subst hd
    have hp : KC B W (W.putObj D (.deferred none)) := by
      refine ⟨⟨rfl, rfl, rfl, by simp, fun i hi => World.putObj_heap_other (by omega)⟩, fun i o hi ho => ?_⟩
      rw [World.putObj_heap_other (by rintro rfl; rw [hk] at hi; cases hi; cases ho)]
      exact hi
    refine ⟨by simp, .inl ⟨D, _, rfl, run_takeDeferred hk, ?_⟩⟩
    refine leaves_marks ds _ (hr.keep (fun D' _ hk' hm => ?_)) (fun W' hW' => h W' (hp.trans hW'))
    obtain ⟨d', hd', ht⟩ := hm
    rw [World.putObj_heap_other (by rintro rfl; exact hn d' hd' ht)]
    exact hk'
theorem grownBy_trans {A B C : World} {r : Option Nat} (h : A.grownBy B r) (k : B.grownBy C r) : A.grownBy C r :=
  ⟨k.os.trans h.os, k.tape.trans h.tape, k.output.trans h.output, Nat.le_trans h.size k.size, fun i hi hr => (k.block i (Nat.lt_of_lt_of_le hi h.size) hr).trans (h.block i hi hr)⟩
theorem grownBy_own {β : Type} (W0 : World) (c : Nat) : OwnFrom W0.heap.size (fun (_ : β) W => W0.grownBy W (some c)) := fun _ X Y row hs hg hr =>
  ⟨hg.os.trans hs.os, hg.tape.trans hs.tape, hg.output.trans hs.output, Nat.le_trans hs.size hg.size, fun i hi hc =>
    (hg.block i (Nat.lt_of_lt_of_le hi hs.size) (fun e => by have := (hr i e.symm).1; omega)).trans (hs.block i hi hc)⟩
theorem grownBy_refl (W : World) (r : Option Nat) : W.grownBy W r := ⟨rfl, rfl, rfl, Nat.le_refl _, fun _ _ _ => rfl⟩
theorem Marks.grown {B c : Nat} {W W' : World} {ds : List Deferred} {o : Obj} (h : Marks B W ds) (hg : W.grownBy W' (some c)) (hc : W.heap[c]? = some o) (ho : o.isCells = true) : Marks B W' ds :=
  h.keep (fun D _ hk _ => by
    rw [hg.block D (Array.getElem?_eq_some_iff.1 hk).1 (by rintro ⟨rfl⟩; rw [hk] at hc; cases hc; cases ho)]; exact hk)

theorem Marks.appended {B base e n size : Nat} {V w1 : World} {ds : List Deferred} {ov : Value} {xs : List Value} {o : Obj} (h : Marks B V ds) (hown : V.ownsRow base e size ov n xs) (hg : (V.alloc o).grownBy w1 ov.ownBlock) : Marks B w1 ds :=
  h.keep (fun D _ hk _ => by
    have hD := (Array.getElem?_eq_some_iff.1 hk).1
    rw [hg.block D (by simp; omega) ?_, Below.heap_alloc V o D hD]; exact hk
    intro e
    rcases hown.2 with ⟨rfl, _⟩ | ⟨g, cap, cur, rfl, _, hgb, _⟩
    · simp [Value.ownBlock] at e
    · obtain rfl : D = g := by simpa [Value.ownBlock] using e
      rw [hk] at hgb; cases hgb)
end Go.Proofs.YtmdjndbjfgncmaaGreatDoor
namespace Go.Proofs.YtmdjndbjfgncmaaGreatDoor
open Go.RowKit Go.Shelf
attribute [local go_sem] Oper.semAt_some

theorem cmp_len (l : List Int) : (Lib.compact l).length ≤ l.length := by
  have key : ∀ m, (Lib.compactUpTo l.toArray m).length ≤ m := by
    intro m
    induction m with
    | zero => simp [Lib.compactUpTo]
    | succ m ih => rw [Lib.compactUpTo_succ, List.length_append]; split <;> simp <;> omega
  exact key l.length
theorem KC.own {B B' e n size : Nat} {W W' : World} {v : Value} {xs : List Value} (h : KC B W W') (ho : W.ownsRow B' e size v n xs) : W'.ownsRow B' e size v n xs :=
  ⟨ho.1, ho.2.imp id (fun ⟨g, cap, cur, a, b, hh, z⟩ => ⟨g, cap, cur, a, b, h.cells g _ hh rfl, z⟩)⟩
/-- The ends of those edges that bear the label. -/
def labL (b : Int) (l : List (Nat × Ed)) : List Int := (l.filter (fun x => decide (x.2.l = b))).map (fun x => x.2.t)
theorem labL_hit {b : Int} {l : List (Nat × Ed)} {i : Nat} {x : Ed} (h : x.l = b) : labL b (l ++ [(i, x)]) = labL b l ++ [x.t] := by simp [labL, h]
theorem labL_miss {b : Int} {l : List (Nat × Ed)} {i : Nat} {x : Ed} (h : ¬ x.l = b) : labL b (l ++ [(i, x)]) = labL b l := by simp [labL, h]
theorem labL_le (b : Int) (l : List (Nat × Ed)) : (labL b l).length ≤ l.length := by unfold labL; rw [List.length_map]; exact List.length_filter_le _ _
theorem labL_lv (es : List Ed) (s b : Int) : ∀ k, k ≤ es.length → labL b (lvL es s k) = (((es.take k).filter (fun x => decide (x.f = s) && decide (x.l = b))).map Ed.t)
  | 0, _ => rfl
  | k + 1, h => by
    rw [lvL_succ (by omega), List.take_succ_eq_append_getElem (by omega : k < es.length), List.filter_append, List.map_append, ← labL_lv es s b k (by omega)]
    by_cases h1 : es[k].f = s
    · rw [if_pos h1]
      by_cases h2 : es[k].l = b
      · rw [labL_hit h2]; simp [h1, h2]
      · rw [labL_miss h2]; simp [h2]
    · rw [if_neg h1, List.append_nil]; simp [h1]
theorem stepL_succ (es : List Ed) (st : List Int) (b : Int) (k : Nat) (h : k < st.length) : stepL es (st.take (k + 1)) b = stepL es (st.take k) b ++ labL b (lvL es st[k] es.length) := by
  rw [labL_lv _ _ _ _ (Nat.le_refl _), List.take_length]
  unfold stepL
  rw [List.take_succ_eq_append_getElem h, List.flatMap_append, List.flatMap_cons, List.flatMap_nil, List.append_nil]
theorem stepL_len (es : List Ed) (st : List Int) (b : Int) : (stepL es st b).length ≤ st.length * es.length := by
  unfold stepL
  induction st with
  | nil => simp
  | cons s st ih =>
    rw [List.flatMap_cons, List.length_append, List.length_map, List.length_cons, Nat.add_mul, Nat.one_mul]
    have := List.length_filter_le (fun x => decide (x.f = s) && decide (x.l = b)) es
    omega
/-- A row of numbers that is no block of the sequence's. -/
def OutS (B b : Nat) (l : List Int) (W : World) : Prop := ∃ v, VRow W b 28 [v] ∧ W.ownsRow B 3 1 v l.length (l.map (Value.int .i64)) ∧ v.ownBlock ≠ some b ∧ (l = [] → v = .slice none 0 0)
/-- Where the rounds of Step stand. -/
def SInv (G : Gr) (p : Option Addr) (c : Nat) (st : List Int) (q : Option Addr) (d : Nat) (b : Int) (w : World) (bx k : Nat) (a : Act) (W : World) : Prop :=
  ∃ (ds : List Deferred) (u4 u8 u10 u11 u12 u13 u14 u15 u16 u17 u18 u19 u20 u21 u22 u23 u24 u25 u26 u27 u28 u29 u30 u34 u35 u36 u37 u38 u39 u40 u41 u42 u43 u44 u45 u46 u47 u48 u49 u50 u51 u52 u53 u54 u55 : Value), a = { tmps := #[(.agg #[.int .i64 G.q, .int .i64 G.n, .slice p G.es.length c]), (.slice q st.length d), (.int .i64 b), (.pointer (some ⟨w.heap.size, 0, none⟩)), u4, (.pointer (some ⟨w.heap.size + 1, 0, none⟩)), (.slice none 0 0), (.int .i64 0), u8, (.pointer (some ⟨bx, 0, none⟩)), u10, u11, u12, u13, u14, u15, u16, u17, u18, u19, u20, u21, u22, u23, u24, u25, u26, u27, u28, u29, u30, (.slice q st.length d), (.int .i64 st.length), (.int .i64 k), u34, u35, u36, u37, u38, u39, u40, u41, u42, u43, u44, u45, u46, u47, u48, u49, u50, u51, u52, u53, u54, u55], defers := ds } ∧
    k ≤ st.length ∧ OutS (bx + 1) bx (stepL G.es (st.take k) b) W ∧ Marks (bx + 1) W ds ∧ VRow W w.heap.size 24 [.int .i64 G.q, .int .i64 G.n, .slice p G.es.length c] ∧ VRow W (w.heap.size + 1) 3 [.int .i64 b] ∧ RowKit.Below w.heap.size w W ∧ bx + 1 ≤ W.heap.size
def smu (st : List Int) (a : Act) : Nat := st.length - (intOf (a.tmps.getD 33 undef)).toNat
/-- All blocks below n are as they were. -/
def KL (n : Nat) (W W' : World) : Prop := n ≤ W'.heap.size ∧ ∀ i, i < n → W'.heap[i]? = W.heap[i]?
theorem ownFrom_kl {β : Type} {n B : Nat} (W0 : World) (h : n ≤ B) : OwnFrom B (fun (_ : β) W => KL n W0 W) := fun _ X Y row hs hg hr =>
  ⟨Nat.le_trans hs.1 hg.size, fun i hi => (hg.block i (by have := hs.1; omega) (fun e => by have := (hr i e.symm).1; omega)).trans (hs.2 i hi)⟩
theorem ownFrom_keepsO {β : Type} (W0 : World) : OwnFrom W0.heap.size (fun (_ : β) W => KeepsOthers W0 W) := fun _ X Y row hs hg hr =>
  ⟨Nat.le_trans hs.size hg.size, fun i o hi ho => by
    have hlt := (Array.getElem?_eq_some_iff.1 hi).1
    exact (hg.block i (Nat.lt_of_lt_of_le hlt hs.size) (fun e => by have := (hr i e.symm).1; omega)).trans (hs.same i o hi ho)⟩
/-- The same, and no block of the sequence's that is at hand. -/
def OutT (B b Bs : Nat) (l : List Int) (W : World) : Prop := ∃ v, VRow W b 28 [v] ∧ W.ownsRow B 3 1 v l.length (l.map (Value.int .i64)) ∧ v.ownBlock ≠ some b ∧ (l = [] → v = .slice none 0 0) ∧ v.ownBlock ≠ some Bs
theorem OutT.own {β : Type} (B b Bs : Nat) (f : β → List Int) : Own (fun s W => OutT B b Bs (f s) W) := by
  rintro s X Y row ⟨v, h1, h2, h3, h4⟩ hg hrow
  refine ⟨v, VRow.own b 28 (fun _ : Unit => [v]) () X Y row h1 hg hrow, ?_, h3, h4⟩
  refine h2.kept hg ?_
  rcases h2.2 with ⟨rfl, _⟩ | ⟨g, cap, cur, rfl, _, hh, _⟩
  · exact .inl rfl
  · refine .inr (fun e => ?_)
    obtain ⟨o, ho, hc⟩ := hrow g (by rw [← e]; rfl)
    rw [hh] at ho; cases ho; cases hc
theorem sgB_mono {n m : Nat} {w : World} {p : Option Addr} {l : List Ed} (h : SgB n w p l) (hm : n ≤ m) : SgB m w p l := by
  rcases h with h | ⟨b, off, h1, h2, h3, h4⟩
  · exact .inl h
  · exact .inr ⟨b, off, h1, by omega, h3, h4⟩
/-- Where a row begins: behind all that lies, if it is nil. -/
theorem own_start {W : World} {B n : Nat} {v : Value} {xs : List Value} (h : W.ownsRow B 3 1 v n xs) (hB : B ≤ W.heap.size) (hn : n = 0 → v = .slice none 0 0) :
    ∃ B', B ≤ B' ∧ B' ≤ W.heap.size ∧ W.ownsRow B' 3 1 v n xs ∧ (n = 0 → B' = W.heap.size) := by
  by_cases h0 : n = 0
  · have hv := hn h0
    subst h0; subst hv
    exact ⟨W.heap.size, hB, Nat.le_refl _, ⟨h.1, .inl ⟨rfl, rfl⟩⟩, fun _ => rfl⟩
  · exact ⟨B, Nat.le_refl _, hB, h, fun e => absurd e h0⟩
/-- Behind an append a row is no cell that another row's was not. -/
theorem own_apart {W : World} {B' n : Nat} {v v' : Value} {x : Value} {xs : List Value} {W' : World} {Bs : Nat} (hs : VRow W Bs 3 [x]) (hg : W.grownBy W' v.ownBlock) (hne : v.ownBlock ≠ some Bs) (h : W'.ownsRow B' 3 1 v' (n + 1) xs)
    (hB : n = 0 → Bs < B') : v'.ownBlock ≠ some Bs := by
  intro e
  rcases h.2 with ⟨rfl, _⟩ | ⟨g, cap, cur, rfl, hgB, hh, hc, _, hsz, _⟩
  · simp [Value.ownBlock] at e
  · obtain rfl : g = Bs := by simpa [Value.ownBlock] using e
    by_cases h0 : n = 0
    · have := hB h0; omega
    · rw [hg.block g hs.lt (fun e => hne e.symm), show W.heap[g]? = _ from hs] at hh
      cases hh
      simp at hsz
      omega

set_option maxRecDepth 100000 in
set_option maxHeartbeats 4000000 in
theorem gStep_in (G : Gr) (p : Option Addr) (c : Nat) (st : List Int) (q : Option Addr) (d : Nat) (b : Int) (w : World) (hin : Sg 3 w edE p G.es) (hst : Sl w (Value.int .i64) q st) (hv : Vg G) (hs : st.length ≤ 64) (hc : chkS G.n none st = 0) (h0 : 0 ≤ b) (h1 : b < G.q) :
    CallsIn Fence.wide 9 Tryz.prog 50 #[(.agg #[.int .i64 G.q, .int .i64 G.n, .slice p G.es.length c]), .slice q st.length d, .int .i64 b] w (RetLi (nextA G st b) 0 w) := by
  have HIN := hidI hin; have HST := hidI hst; have HV := hidI hv; have HC := hidI hc
  have hl := hv.len
  clear hin hst hv hc
  obtain ⟨i0, hi0, hz0, hz1, hz3⟩ := info_parts infoIn
  obtain ⟨w0, hw0⟩ : ∃ w0, w0 = (w.alloc (.cells #[.int .i64 G.q, .int .i64 G.n, .slice p G.es.length c] 24)).alloc (.cells #[.int .i64 b] 3) := ⟨_, rfl⟩
  have b0 : VRow w0 w.heap.size 24 [.int .i64 G.q, .int .i64 G.n, .slice p G.es.length c] := by subst hw0; exact (VRow.new w _ _).alloc _
  have b1 : VRow w0 (w.heap.size + 1) 3 [.int .i64 b] := by subst hw0; exact VRow.new1 w _ _ _
  have hB0 : RowKit.Below w.heap.size w w0 := by subst hw0; exact ((RowKit.Below.refl _ _).alloc (Nat.le_refl _) _).alloc (by simp) _
  refine callsIn_of_wp_marks Tryz.func50 rfl trivial ?_ rfl
  simp only [Tryz.ntmps50, List.size_toArray, List.length_cons, List.length_nil, Nat.reduceAdd, Nat.reduceSub, Array.replicate_succ, Array.replicate_zero, List.push_toArray, List.append_toArray, List.nil_append, List.cons_append]
  gi_wp2_with (refine ⟨trivial, ?_⟩; gi_at_call 49)
  rw [← hw0]
  clear hw0
  refine (callsIn_wide.2 (gCheck_r G p c _ 0 (chkG_ok.2 HV.out) (HIN.out.below hB0) (by omega))).mono ?_
  rintro e w1 ⟨rfl, hB1⟩
  have x1 := hB0.trans (hB1.mono hB0.size)
  have c0 := b0.below hB1 b0.lt
  have c1 := b1.below hB1 b1.lt
  clear hB1 b0 b1 hB0
  have f0 := c0.at 0 rfl; have f1 := c0.at 1 rfl; have f2 := c0.at 2 rfl
  gi_wp2_with (refine ⟨trivial, ?_⟩; gi_at_call 59)
  refine (callsIn_wide.2 (gCheckSet_any G p c st q d _ (HST.out.below x1) (by omega))).mono ?_
  rw [HC.out]
  rintro e w2 ⟨rfl, hB2⟩
  have x2 := x1.trans (hB2.mono x1.size)
  have d0 := c0.below hB2 c0.lt
  have d1 := c1.below hB2 c1.lt
  clear f0 f1 f2 hB2 c0 c1 x1
  have f0 := d0.at 0 rfl; have g0 := d1.at 0 rfl
  have hz : w.heap.size + 1 < w2.heap.size := d1.lt
  gi_wp2
  have e0 := d0.alloc (.cells #[.slice none 0 0] 28)
  have e1 := d1.alloc (.cells #[.slice none 0 0] 28)
  have e9 : VRow (w2.alloc (.cells #[.slice none 0 0] 28)) w2.heap.size 28 [.slice none 0 0] := VRow.new w2 _ _
  have x3 := x2.alloc x2.size (.cells #[.slice none 0 0] 28)
  clear d0 d1 f0 g0
  refine wpIn_loop (fun a W => ∃ k, SInv G p c st q d b w w2.heap.size k a W) (fun a _ => smu st a) ⟨0, _, _, _, _, _, _, _, _, _, _, _, _, _, _, _, _, _, _, _, _, _, _, _, _, _, _, _, _, _, _, _, _, _, _, _, _, _, _, _, _, _, _, _, _, _, _, rfl, by omega, ⟨_, e9, World.ownsRow_nil _ _ _ _, by simp [Value.ownBlock], fun _ => rfl⟩, trivial, e0, e1, x3, by simp⟩ ?_
  clear e0 e1 e9 x3
  rintro a W ⟨k, ds, u4, u8, u10, u11, u12, u13, u14, u15, u16, u17, u18, u19, u20, u21, u22, u23, u24, u25, u26, u27, u28, u29, u30, u34, u35, u36, u37, u38, u39, u40, u41, u42, u43, u44, u45, u46, u47, u48, u49, u50, u51, u52, u53, u54, u55, rfl, hk, ⟨v, c9, hown, hn9, hnil⟩, hM, c0, c1, hB, hge⟩
  have HBM : Hid (RowKit.Below w.heap.size w W) := hB
  have hmu : smu st { tmps := #[(.agg #[.int .i64 G.q, .int .i64 G.n, .slice p G.es.length c]), (.slice q st.length d), (.int .i64 b), (.pointer (some ⟨w.heap.size, 0, none⟩)), u4, (.pointer (some ⟨w.heap.size + 1, 0, none⟩)), (.slice none 0 0), (.int .i64 0), u8, (.pointer (some ⟨w2.heap.size, 0, none⟩)), u10, u11, u12, u13, u14, u15, u16, u17, u18, u19, u20, u21, u22, u23, u24, u25, u26, u27, u28, u29, u30, (.slice q st.length d), (.int .i64 st.length), (.int .i64 k), u34, u35, u36, u37, u38, u39, u40, u41, u42, u43, u44, u45, u46, u47, u48, u49, u50, u51, u52, u53, u54, u55], defers := ds } = st.length - (intOf (.int .i64 (k : Int))).toNat := rfl
  have HMU := hidI hmu
  clear hmu
  have hbz := hB.size
  have hbx := c9.lt
  by_cases hlt : k < st.length
  · obtain ⟨bs1, os1, rfl, hbs1, hcs1⟩ := (HST.out.below hB).get k hlt
    have e1 := hcs1 k hlt
    clear hcs1
    have HSN := hidI (stepL_succ G.es st b k hlt)
    have HSL : Hid ((stepL G.es (st.take k) b).length ≤ 64 * 1024) := by
      unfold Hid
      have h1 := stepL_len G.es (st.take k) b
      have h2 : (st.take k).length * G.es.length ≤ 64 * 1024 := Nat.mul_le_mul (by rw [List.length_take]; omega) hl
      omega
    generalize st[k] = s at *
    generalize stepL G.es (st.take k) b = L at *
    have f0 := c0.at 0 rfl; have f1 := c0.at 1 rfl; have f2 := c0.at 2 rfl
    gi_wp2_with (refine ⟨trivial, ?_⟩; gi_at_call 83)
    refine (leaving_in Fence.wide 8 trivial rfl _ s G.q G.n p G.es.length c rfl _).mono ?_
    rintro e w' ⟨rfl, rfl⟩
    gi_wp2
    obtain ⟨V0, hV0⟩ : ∃ V0, V0 = (W.alloc (.cells #[.int .i64 G.q, .int .i64 G.n, .slice p G.es.length c] 24)).alloc (.cells #[.int .i64 s] 3) := ⟨_, rfl⟩
    have y1 : VRow V0 W.heap.size 24 [.int .i64 G.q, .int .i64 G.n, .slice p G.es.length c] := by subst hV0; exact (VRow.new W _ _).alloc _
    have y2 : VRow V0 (W.heap.size + 1) 3 [.int .i64 s] := by subst hV0; exact VRow.new1 W _ _ _
    have y9 : VRow V0 w2.heap.size 28 [v] := by subst hV0; exact (c9.alloc _).alloc _
    have yown : V0.ownsRow (w2.heap.size + 1) 3 1 v L.length (L.map (Value.int .i64)) := by subst hV0; exact (hown.alloc _).alloc _
    have z0 : VRow V0 w.heap.size 24 [.int .i64 G.q, .int .i64 G.n, .slice p G.es.length c] := by subst hV0; exact (c0.alloc _).alloc _
    have z1 : VRow V0 (w.heap.size + 1) 3 [.int .i64 b] := by subst hV0; exact (c1.alloc _).alloc _
    have hBV : RowKit.Below w.heap.size w V0 := by subst hV0; exact (hB.alloc hbz _).alloc (by simp; omega) _
    have hsz : V0.heap.size = W.heap.size + 2 := by subst hV0; simp
    have hKV : KeepsOthers W V0 := by subst hV0; exact (KeepsOthers.alloc _ _).trans (KeepsOthers.alloc _ _)
    have hvb : ∀ j, v.ownBlock = some j → w2.heap.size + 1 ≤ j ∧ j < W.heap.size := fun j e => hown.lt j e
    have hsg : SgB w2.heap.size V0 p G.es := sgB_mono ((SgB.of HIN.out (Nat.le_refl _)).kept (fun i hi => hBV.block i hi)) (by omega)
    rw [← hV0]
    clear hV0 hown c9 c0 c1 f0 f1 f2 e1 hB
    refine' wpIn_rangeFunc_ownH rfl (by omega) (gf := 108) (lb := #[.pointer (some ⟨W.heap.size, 0, none⟩), .pointer (some ⟨W.heap.size + 1, 0, none⟩)]) rfl trivial (enters_of Tryz.func108 (by kernel_rfl) rfl)
      (leavingS_stops Fence.wide 8 trivial rfl (by omega) w2.heap.size W.heap.size (W.heap.size + 1) G s p c hl V0 (by omega) y1 y2 hsg) KS.trans (KS_b (by omega) (by omega)) (RowKit.Below.refl _ _) (fun _ => rfl)
      (fun pre V => (((OutT (w2.heap.size + 1) w2.heap.size (W.heap.size + 1) (L ++ labL b pre) V ∧ RowKit.Below w.heap.size w V) ∧ KeepsOthers V0 V) ∧ KL w2.heap.size V0 V) ∧ VRow V (W.heap.size + 1) 3 [.int .i64 s])
      (fun _ _ _ => False)
      (OwnFrom.and (OwnFrom.and (OwnFrom.and (OwnFrom.and ((OutT.own _ _ _ (fun pre => L ++ labL b pre)).from _) (ownFrom_below (Nat.le_refl _) (by omega))) (ownFrom_keepsO _)) (ownFrom_kl _ (by omega))) ((VRow.own _ _ (fun _ => [.int .i64 s])).from _))
      (fun _ _ _ _ _ hs _ _ => hs)
      ⟨⟨⟨⟨⟨v, y9, by simpa [labL] using yown, hn9, fun h => hnil (by simpa [labL] using h), fun e => by have := (hvb _ e).2; omega⟩, hBV⟩, KeepsOthers.refl _⟩, by omega, fun _ _ => rfl⟩, y2⟩
      (fun x a' V => ∃ Bx, V0.heap.size ≤ Bx ∧ VRow V Bx 42 [.int .i64 x.2.f, .int .i64 x.2.l, .int .i64 x.2.t] ∧ a' = { tmps := #[(.agg #[.int .i64 G.q, .int .i64 G.n, .slice p G.es.length c]), (.slice (some ⟨bs1, os1, none⟩) st.length d), (.int .i64 b), (.pointer (some ⟨w.heap.size, 0, none⟩)), u4, (.pointer (some ⟨w.heap.size + 1, 0, none⟩)), (.slice none 0 0), (.int .i64 0), u8, (.pointer (some ⟨w2.heap.size, 0, none⟩)), u10, (.int .i64 s), u12, (.pointer (some ⟨Bx, 0, none⟩)), u14, u15, u16, u17, u18, u19, u20, u21, u22, u23, u24, u25, u26, u27, u28, u29, u30, (.slice (some ⟨bs1, os1, none⟩) st.length d), (.int .i64 st.length), (.int .i64 k), (.bool true), (.pointer (some ⟨bs1, os1 + k, none⟩)), (.int .i64 s), (.agg #[.int .i64 G.q, .int .i64 G.n, .slice p G.es.length c]), (.int .i64 s), (.func (.func 108) #[] #[.pointer (some ⟨W.heap.size, 0, none⟩), .pointer (some ⟨W.heap.size + 1, 0, none⟩)]), (.int .i64 (x.1 : Int)), (.agg #[.int .i64 x.2.f, .int .i64 x.2.l, .int .i64 x.2.t]), u42, u43, u44, u45, u46, u47, u48, u49, u50, u51, u52, u53, u54, u55], defers := [] })
      (fun x a' _ X Y row hs hg hr => by
        obtain ⟨Bx, h1, h2, h3⟩ := hs
        exact ⟨Bx, h1, VRow.own Bx 42 (fun _ : Unit => [.int .i64 x.2.f, .int .i64 x.2.l, .int .i64 x.2.t]) () X Y row h2 hg (fun r e => (hr r e).2), h3⟩)
      ?assign ?body ?done ?stop
    case assign =>
      rintro l pre x V K ⟨⟨⟨⟨hT, hB1⟩, hK1⟩, hL1⟩, ly⟩ hK
      have hsV := hK1.size
      unfold encL
      gi_wp2
      obtain ⟨v', t1, t2, t3, t4, t5⟩ := hT
      exact hK _ _ ((KeepsOthers.alloc _ _).from _) (fun i hi => Below.heap_alloc _ _ i (by omega)) ⟨⟨⟨⟨⟨v', t1.alloc _, t2.alloc _, t3, t4, t5⟩, hB1.alloc hB1.size _⟩, hK1.trans (KeepsOthers.alloc _ _)⟩, Nat.le_trans hL1.1 (by simp), fun i hi => (Below.heap_alloc _ _ i (by have := hL1.1; omega)).trans (hL1.2 i hi)⟩, ly.alloc _⟩
        ⟨V.heap.size, hsV, VRow.new V 42 [.int .i64 x.2.f, .int .i64 x.2.l, .int .i64 x.2.t], rfl⟩
    case body =>
      rintro l pre ⟨i, x⟩ a' V hl' ⟨r, hr⟩ ⟨⟨⟨⟨⟨v', t1, t2, t3, t4, t5⟩, hB1⟩, hK1⟩, hL1⟩, ly⟩ ⟨Bx, hBx, hx, rfl⟩ hlen
      have hsV := hK1.size
      have hlb : (L ++ labL b pre).length ≤ 70000 := by rw [List.length_append]; have := labL_le b pre; have := HSL.out; omega
      have lb : VRow V (w.heap.size + 1) 3 [.int .i64 b] := (hL1.2 _ hz).trans z1
      have k1 := hx.at 1 rfl; have k2 := hx.at 2 rfl
      have k0 := lb.at 0 rfl
      by_cases he : x.l = b
      · have hb : (x.l == b) = true := by simpa using he
        have HS : Hid (L ++ labL b (pre ++ [(i, x)]) = L ++ labL b pre ++ [x.t]) := by rw [Hid, labL_hit he, List.append_assoc]
        clear he
        generalize L ++ labL b pre = M at *
        have d6 := t1.at 0 rfl; have z6 := t1.frozen 0
        have hnew := cell_one_at V (.int .i64 x.t) 3 V.heap.size rfl
        have hV1 : V.heap.size + 1 = (V.alloc (.cells #[.int .i64 x.t] 3)).heap.size := (World.size_alloc _ _).symm
        obtain ⟨B', hb1, hb2, hownB, hb3⟩ := own_start (t2.alloc (.cells #[.int .i64 x.t] 3)) (by omega) (fun e => t4 (List.length_eq_zero_iff.1 e))
        have hcl : ∀ (j : Nat) (o : Obj), v'.ownBlock = some j → (V.alloc (.cells #[.int .i64 x.t] 3)).heap[j]? = some o → o.isCells = true := fun j o e h => own_cells hownB e h
        have hvb' : ∀ j, v'.ownBlock = some j → w2.heap.size + 1 ≤ j := fun j e => (t2.lt j e).1
        have lyA := ly.alloc (.cells #[.int .i64 x.t] 3)
        gi_wp2_with (gi_at_builtin; refine wpListIn_append_own _ rfl _ _ 28 rfl B' 3 i0 (.int .i64 0) 1 8 Tryz.underlying28 hi0 hz0 hz1 hz3 rfl (by decide) _ _ _ rfl hownB ⟨V.heap.size, 0, none⟩ 1 1 [.int .i64 x.t] rfl rfl hnew (by simp [Value.oneCell']) (by simp [maxLen]; omega) (by omega) (by omega) ?_; intro v2 W2 hown' hgrow0 _; have hgrow : (V.alloc (.cells #[.int .i64 x.t] 3)).grownBy W2 v'.ownBlock := hgrow0; have hap := own_apart lyA hgrow t5 hown' (fun e => by have := hb3 e; omega); obtain ⟨pv, mv, cv, rfl⟩ := own_shI hown'; have r6 := (t1.alloc (.cells #[.int .i64 x.t] 3)).grown hgrow (fun e => t3 e.symm); have s6 := r6.at 0 rfl; have t6 := r6.frozen 0)
        have hn2 : (Value.slice pv mv cv).ownBlock ≠ some w2.heap.size := fun e => by have := (hown'.lt _ e).1; omega
        have hgz := hgrow.size
        have hks : KS w2.heap.size (W.heap.size + 1) V (W2.setCell ⟨w2.heap.size, 0, none⟩ (.slice pv mv cv)) := fun j h1 => by
          rw [Below.heap_setCell _ _ _ _ (show j ≠ w2.heap.size by omega), hgrow.block j (by omega) (fun e => by
            rcases h1 with h1 | h1
            · have := hvb' _ e.symm; omega
            · exact t5 (by rw [← e, h1])), Below.heap_alloc V _ j (by omega)]
        have hko : KeepsOthers V (W2.setCell ⟨w2.heap.size, 0, none⟩ (.slice pv mv cv)) := ((KeepsOthers.alloc V _).trans (KeepsOthers.of_grownBy hgrow hcl)).trans (KeepsOthers.setCell _ _ _)
        refine ⟨hko.from _, hks, ⟨⟨⟨⟨_, VRow.set (i := 0) _ r6, ?_, hn2, fun e => ?_, hap⟩, ?_⟩, hK1.trans hko⟩, ?_, fun j hj => (hks j (.inl hj)).trans (hL1.2 j hj)⟩, (hks _ (.inr rfl)).trans ly⟩
        · rw [HS.out, List.length_append, List.map_append]
          exact ownsRow_setCell_below (a := ⟨w2.heap.size, 0, none⟩) (own_baseI hown' hb1) (show w2.heap.size < w2.heap.size + 1 by omega) _
        · rw [HS.out] at e; simp at e
        · exact ((hB1.alloc hB1.size _).grown hgrow (Nat.le_trans hB1.size (by simp)) (fun j e => by have := hvb' _ e; omega)).setCell (show w.heap.size ≤ w2.heap.size by omega) _
        · rw [World.size_setCell]; have := hL1.1; omega
      · have hb : (x.l == b) = false := by simpa using he
        have HS : Hid (L ++ labL b (pre ++ [(i, x)]) = L ++ labL b pre) := by rw [Hid, labL_miss he]
        clear he
        gi_wp2
        exact ⟨(KeepsOthers.refl _).from _, KS.refl _ _ _, ⟨⟨⟨⟨v', t1, by rw [HS.out]; exact t2, t3, by rw [HS.out]; exact t4, t5⟩, hB1⟩, hK1⟩, hL1⟩, ly⟩
    case done =>
      rintro D ys V hD' hys ⟨⟨⟨⟨⟨v', t1, t2, t3, t4, t5⟩, hB1⟩, hK1⟩, hL1⟩, ly⟩ hK
      subst hys
      rw [← HSN.out] at t2 t4
      have hMV : Marks (w2.heap.size + 1) V ({ target := .collected D, args := #[] } :: ds) :=
        (hM.others (hKV.trans hK1)).cons (by omega) hK (fun d hd => by obtain ⟨D', h1, h2⟩ := hM.lt d hd; exact ⟨D', h1, by omega⟩)
      have l0 : VRow V w.heap.size 24 [.int .i64 G.q, .int .i64 G.n, .slice p G.es.length c] := (hL1.2 _ (by omega)).trans z0
      have l1 : VRow V (w.heap.size + 1) 3 [.int .i64 b] := (hL1.2 _ hz).trans z1
      have hV2 := hK1.size
      gi_wp2
      refine ⟨⟨k + 1, _, _, _, _, _, _, _, _, _, _, _, _, _, _, _, _, _, _, _, _, _, _, _, _, _, _, _, _, _, _, _, _, _, _, _, _, _, _, _, _, _, _, _, _, _, _, rfl, by omega, ⟨v', t1, t2, t3, t4⟩, hMV, l0, l1, hB1, by omega⟩, ?_⟩
      rw [HMU.out]
      refine Nat.lt_of_le_of_lt (Nat.le_of_eq (show smu _ _ = st.length - (intOf (.int .i64 ((k : Int) + 1))).toNat from rfl)) ?_
      simp [intOf]; omega
    case stop =>
      rintro D c pre W _ _ h _
      exact h.elim
  · obtain rfl : k = st.length := by omega
    rw [List.take_length] at hown hnil
    have HSR : Hid (Lib.compact ((stepL G.es st b).mergeSort fun x y => decide (x ≤ y)) = nextA G st b) := step_sorted HV.out
    have hLl : (stepL G.es st b).length ≤ 64 * 1024 := Nat.le_trans (stepL_len G.es st b) (Nat.mul_le_mul hs hl)
    generalize stepL G.es st b = L at *
    have d9 := c9.at 0 rfl
    have hn9' : some w2.heap.size ≠ v.ownBlock := fun e => hn9 e.symm
    have hcW : ∀ (j : Nat) (o : Obj), v.ownBlock = some j → W.heap[j]? = some o → o.isCells = true := fun j o e h => own_cells hown e h
    have hvb : ∀ j, v.ownBlock = some j → w2.heap.size + 1 ≤ j := fun j e => (hown.lt j e).1
    gi_wp2_with (refine ⟨trivial, ?_⟩; gi_at_call 84)
    refine (callsIn_wide.2 (sortI_any L (w2.heap.size + 1) L.length v W hown (by omega))).mono ?_
    rintro e w3 ⟨rfl, hown3, G3⟩
    have c9' := c9.grown G3 hn9'
    have d9' := c9'.at 0 rfl
    have hM3 := hM.others (KeepsOthers.of_grownBy G3 hcW)
    have hB3 := hB.grown G3 hB.size (fun j e => by have := hvb _ e; omega)
    have hcl := cmp_len (L.mergeSort fun x y => decide (x ≤ y))
    have hml : (L.mergeSort fun x y => decide (x ≤ y)).length = L.length := List.length_mergeSort _
    have hc3 : ∀ (j : Nat) (o : Obj), v.ownBlock = some j → w3.heap[j]? = some o → o.isCells = true := fun j o e h => own_cells hown3 e h
    clear d9 c9 hown c0 c1
    gi_wp2_with (refine ⟨trivial, ?_⟩; gi_at_call 85)
    refine (callsIn_wide.2 (compactI_any (L.mergeSort fun x y => decide (x ≤ y)) (w2.heap.size + 1) L.length v w3 hown3 (by omega) hcl)).mono ?_
    rw [HSR.out]
    rintro e w4 ⟨v4, rfl, hown4, G4⟩
    have hM4 := hM3.others (KeepsOthers.of_grownBy G4 hc3)
    have hB4 := hB3.grown G4 hB3.size (fun j e => by have := hvb _ e; omega)
    gi_wp2
    refine leaves_marks ds w4 hM4 (fun W' hW' => ?_)
    refine ⟨_, results_tmp2 (t := 6) (u := 7) rfl _ _ _, ?_⟩
    obtain ⟨pv, mv, cv, rfl⟩ := own_shI hown4
    exact ⟨pv, mv, cv, rfl, own_baseI (hW'.own hown4) (by omega), hB4.trans (hW'.below.mono (by omega))⟩
end Go.Proofs.YtmdjndbjfgncmaaGreatDoor
namespace Go.Proofs.YtmdjndbjfgncmaaGreatDoor
open Go.RowKit Go.Sort Go.Shelf Go.Lib

set_option maxRecDepth 100000 in
set_option maxHeartbeats 2000000 in
theorem gStep_any (G : Gr) (p : Option Addr) (c : Nat) (st : List Int) (q : Option Addr) (d : Nat) (b : Int) (w : World) (hin : Sg 3 w edE p G.es) (hst : Sl w (Value.int .i64) q st) (hl : G.es.length ≤ 10000) (hs : st.length ≤ 100000) :
    Calls Tryz.prog 50 #[(.agg #[.int .i64 G.q, .int .i64 G.n, .slice p G.es.length c]), .slice q st.length d, .int .i64 b] w (RetLi (stepA G st b).1 (stepA G st b).2 w) := by
  have HIN := hidI hin; have HST := hidI hst
  clear hin hst
  obtain ⟨w0, hw0⟩ : ∃ w0, w0 = (w.alloc (.cells #[.int .i64 G.q, .int .i64 G.n, .slice p G.es.length c] 24)).alloc (.cells #[.int .i64 b] 3) := ⟨_, rfl⟩
  have b0 : VRow w0 w.heap.size 24 [.int .i64 G.q, .int .i64 G.n, .slice p G.es.length c] := by subst hw0; exact (VRow.new w _ _).alloc _
  have b1 : VRow w0 (w.heap.size + 1) 3 [.int .i64 b] := by subst hw0; exact VRow.new1 w _ _ _
  have hB0 : RowKit.Below w.heap.size w w0 := by subst hw0; exact ((RowKit.Below.refl _ _).alloc (Nat.le_refl _) _).alloc (by simp) _
  obtain ⟨r, hr⟩ : ∃ r, chkG G = r := ⟨_, rfl⟩
  by_cases hr0 : r = 0
  · subst hr0
    obtain ⟨r2, hr2⟩ : ∃ r2, chkS G.n none st = r2 := ⟨_, rfl⟩
    by_cases hok : r2 = 0 ∧ 0 ≤ b ∧ b < G.q
    · obtain ⟨rfl, h0, h1⟩ := hok
      have hv := chkG_ok.1 hr
      have : stepA G st b = (nextA G st b, 0) := by unfold stepA; rw [if_pos hr, if_pos hr2, if_neg (by omega)]
      rw [this]
      have hso := chkS_ok hr2
      have hlen := (St.mk hso.1 hso.2.1 : St G.n st).len hv.n1
      exact callsIn_wide.1 (gStep_in G p c st q d b w HIN.out HST.out hv (by have := hv.n2; omega) hr2 h0 h1)
    · have HR := hidI hr; have HR2 := hidI hr2
      clear hr
      go_enter Tryz.func50, Tryz.ntmps50
      go_wp2_with fail
      rw [← hw0]
      clear hw0
      refine (gCheck_r G p c _ 0 HR.out (HIN.out.below hB0) (by omega)).mono ?_
      rintro e w1 ⟨rfl, hB1⟩
      have x1 := hB0.trans (hB1.mono hB0.size)
      have c0 := b0.below hB1 b0.lt
      have c1 := b1.below hB1 b1.lt
      clear hB1 hB0 b0 b1
      have f0 := c0.at 0 rfl; have f1 := c0.at 1 rfl; have f2 := c0.at 2 rfl
      go_wp2_with fail
      refine (gCheckSet_any G p c st q d _ (HST.out.below x1) (by omega)).mono ?_
      rw [hr2]
      rintro e w2 ⟨rfl, hB2⟩
      have x2 := x1.trans (hB2.mono x1.size)
      have d0 := c0.below hB2 c0.lt
      have d1 := c1.below hB2 c1.lt
      clear f0 f1 f2 hB2 c0 c1
      have f0 := d0.at 0 rfl; have g0 := d1.at 0 rfl
      by_cases h2 : r2 = 0
      · subst h2
        clear hr2
        by_cases h0 : b < 0
        · have HK : Hid (stepA G st b = ([], 2)) := by unfold Hid stepA; rw [if_pos HR.out, if_pos HR2.out, if_pos (.inl h0)]
          go_wp2
          go_ret2
          exact RetLi.nil HK.out x2
        · have h1 : G.q ≤ b := by omega
          have HK : Hid (stepA G st b = ([], 2)) := by unfold Hid stepA; rw [if_pos HR.out, if_pos HR2.out, if_pos (.inr h1)]
          go_wp2
          go_ret2
          exact RetLi.nil HK.out x2
      · have HK : Hid (stepA G st b = ([], r2)) := by unfold Hid stepA; rw [if_pos HR.out, HR2.out, if_neg h2]
        have hrb : (r2 == 0) = false := by simpa using h2
        clear hr2 hok
        go_wp2
        go_ret2
        exact RetLi.nil HK.out x2
  · have HK : Hid (stepA G st b = ([], 1)) := by unfold Hid stepA; rw [if_neg (by rw [hr]; exact hr0)]
    have hrb : (r == 0) = false := by simpa using hr0
    have HR := hidI hr
    clear hr
    go_enter Tryz.func50, Tryz.ntmps50
    go_wp2_with fail
    rw [← hw0]
    clear hw0
    refine (gCheck_r G p c _ r HR.out (HIN.out.below hB0) (by omega)).mono ?_
    rintro e w1 ⟨rfl, hB1⟩
    have x1 := hB0.trans (hB1.mono hB0.size)
    go_wp2
    go_ret2
    exact RetLi.nil HK.out x1
end Go.Proofs.YtmdjndbjfgncmaaGreatDoor
namespace Go.Proofs.YtmdjndbjfgncmaaGreatDoor
open Go.RowKit Go.Sort Go.Shelf Go.Lib

theorem stepA_next {G : Gr} {st : List Int} {b : Int} (hv : Vg G) (hc : chkS G.n none st = 0) (h0 : 0 ≤ b) (h1 : b < G.q) : stepA G st b = (nextA G st b, 0) := by
  unfold stepA; rw [if_pos (chkG_ok.2 hv), if_pos hc, if_neg (by omega)]
theorem own_len {w : World} {B e n : Nat} {p : Option Addr} {m c : Nat} {xs : List Value} (h : w.ownsRow B e 1 (.slice p m c) n xs) : m = n := by
  rcases h.2 with ⟨e, rfl⟩ | ⟨g, cap, cur, e, _⟩
  · cases e; rfl
  · cases e; rfl
theorem retLi_own {r : List Int} {k : Int} {w : World} {e : Ending} {w' : World} (h : RetLi r k w e w') : ∃ p c, e = .returned (.tuple #[.slice p r.length c, .int .i64 k]) ∧ w'.ownsRow w.heap.size 3 1 (.slice p r.length c) r.length (r.map (Value.int .i64)) ∧ RowKit.Below w.heap.size w w' := by
  obtain ⟨p, m, c, rfl, ho, hB⟩ := h
  obtain rfl := own_len ho
  exact ⟨p, c, rfl, ho, hB⟩

set_option maxRecDepth 100000 in
set_option maxHeartbeats 2000000 in
theorem ssteps_any (G : Gr) (p : Option Addr) (c : Nat) (st : List Int) (q : Option Addr) (d : Nat) (gi : Nat) (lb : Array Value) (J : Nat → World → Prop) (w : World)
    (hv : Vg G) (hc : chkS G.n none st = 0) (hs : st.length ≤ 64) (eg : ∀ args w, (callFunc gi args).run Tryz.prog w = .ok (.enter gi args) w)
    (hJs : ∀ a W, J a W → Sg 3 W edE p G.es ∧ Sl W (Value.int .i64) q st)
    (hJb : ∀ a W W', J a W → RowKit.Below W.heap.size W W' → J a W')
    (hJn : ∀ (a : Nat) W, (a : Int) < G.q → nextA G st a = [] → J a W → J (a + 1) W)
    (hJe : ∀ (a : Nat) W pn cn, (a : Int) < G.q → nextA G st a ≠ [] → w.heap.size < W.heap.size → J a W →
      W.ownsRow w.heap.size 3 1 (.slice pn (nextA G st a).length cn) (nextA G st a).length ((nextA G st a).map (Value.int .i64)) →
      Calls Tryz.prog gi (#[.int .i64 a, .slice pn (nextA G st a).length cn] ++ lb) W fun e W' => e = .returned (.tuple #[]) ∧ J (a + 1) W' ∧ (∀ l, VRow W w.heap.size 24 l → VRow W' w.heap.size 24 l))
    (h0 : J 0 w) :
    Calls Tryz.prog 90 #[(.agg #[.int .i64 G.q, .int .i64 G.n, .slice p G.es.length c]), .slice q st.length d, .func (.func gi) #[] lb] w fun e w' => e = .returned (.tuple #[]) ∧ J G.q.toNat w' := by
  obtain ⟨w0, hw0⟩ : ∃ w0, w0 = w.alloc (.cells #[.int .i64 G.q, .int .i64 G.n, .slice p G.es.length c] 24) := ⟨_, rfl⟩
  have b0 : VRow w0 w.heap.size 24 [.int .i64 G.q, .int .i64 G.n, .slice p G.es.length c] := by subst hw0; exact VRow.new w _ _
  have hB0 : RowKit.Below w.heap.size w w0 := by subst hw0; exact (RowKit.Below.refl _ _).alloc (Nat.le_refl _) _
  have J0 := hJb 0 w w0 h0 hB0
  obtain ⟨Q, hQ⟩ : ∃ Q : Nat, G.q = Q := ⟨G.q.toNat, by have := hv.q1; omega⟩
  have HQ : Hid (G.q.toNat = Q) := by rw [Hid, hQ]; rfl
  have HQ2 := hidI hQ
  have hq2 : Q ≤ 256 := by have := hv.q2; omega
  have HV := hidI hv; have HC := hidI hc
  have hlen := HV.out.len
  have g0 := b0.at 0 rfl
  clear hv hc hQ h0 hB0
  rw [HQ.out]
  go_enter Tryz.func90, Tryz.ntmps90
  go_wp2
  rw [← hw0]
  clear hw0 g0
  go_loopw [11] (fun iv wr => ∃ k : Nat, k ≤ Q ∧ iv = .int .i64 k ∧ J k wr ∧ VRow wr w.heap.size 24 [.int .i64 G.q, .int .i64 G.n, .slice p G.es.length c]) (fun iv _ => Q - (intOf iv).toNat)
  case atStart => exact ⟨0, by omega, rfl, J0, b0⟩
  case round =>
    clear J0 b0
    obtain ⟨k, hk, rfl, hJ, br⟩ := hrel
    by_cases hlt : k < Q
    · have hltk : (k : Int) < G.q := by rw [HQ2.out]; omega
      have f0 := br.at 0 rfl; have f1 := br.at 1 rfl; have f2 := br.at 2 rfl
      have hlt0 := br.lt
      obtain ⟨hsg, hsl⟩ := hJs k wr hJ
      have HG := hidI (gStep_any G p c st q d k wr hsg hsl (by omega) (by omega))
      rw [stepA_next HV.out HC.out (by omega) hltk] at HG
      have HN := hidI (hJn k); have HE := hidI (hJe k)
      generalize nextA G st (k : Int) = nx at *
      have HLT := hidI hltk
      go_wp2_with fail
      refine HG.out.mono ?_
      rintro e w1 hret
      obtain ⟨pn, cn, rfl, hown, hB1⟩ := retLi_own hret
      have J1 := hJb k wr w1 hJ hB1
      have b1 := br.below hB1 hlt0
      clear hJ br f0 f1 f2 hret
      by_cases hn : nx = []
      · have J2 := HN.out w1 HLT.out hn J1
        have hl0 : nx.length = 0 := by rw [hn]; rfl
        go_wp2
        go_roundw
        case rel => exact ⟨k + 1, by omega, by go_num, J2, b1⟩
        case measure => simp [intOf]; omega
      · have hl0 : (0 : Int) < (nx.length : Int) := by have := List.length_pos_iff.2 hn; omega
        have hw1 : w.heap.size < w1.heap.size := b1.lt
        have HE2 := hidI (HE.out w1 pn cn HLT.out hn hw1 J1 (own_downN hown (by omega)))
        go_wp2_with fail
        go_at_fn gi
        refine HE2.out.mono ?_
        rintro e w2 ⟨rfl, J2, hk2⟩
        have b2 := hk2 _ b1
        go_wp2
        go_roundw
        case rel => exact ⟨k + 1, by omega, by go_num, J2, b2⟩
        case measure => simp [intOf]; omega
    · have hltk : ¬ (k : Int) < G.q := by rw [HQ2.out]; omega
      obtain rfl : k = Q := by omega
      go_wp2
      go_end0
      exact ⟨rfl, hJ⟩
end Go.Proofs.YtmdjndbjfgncmaaGreatDoor
namespace Go.Proofs.YtmdjndbjfgncmaaGreatDoor
open Go.RowKit

def keyL : List Int → List UInt8
  | [] => []
  | s :: l => Lib.decDigits s.toNat ++ 32 :: keyL l
theorem dg_no : ∀ i, i < 100 → (32 : UInt8) ∉ Lib.decDigits i := by decide +kernel
theorem dg_inj : ∀ i, i < 100 → ∀ j, j < 100 → Lib.decDigits i = Lib.decDigits j → i = j := by decide +kernel
theorem sep_inj {c : UInt8} : ∀ {a b r r' : List UInt8}, c ∉ a → c ∉ b → a ++ c :: r = b ++ c :: r' → a = b ∧ r = r'
  | [], [], r, r', _, _, h => by simp at h; exact ⟨rfl, h⟩
  | [], y :: b, r, r', _, hb, h => by simp at h; exact absurd (by simp [h.1]) hb
  | x :: a, [], r, r', ha, _, h => by simp at h; exact absurd (by simp [h.1]) ha
  | x :: a, y :: b, r, r', ha, hb, h => by
    simp only [List.cons_append, List.cons.injEq] at h
    obtain ⟨h1, h2⟩ := sep_inj (fun hm => ha (List.mem_cons_of_mem _ hm)) (fun hm => hb (List.mem_cons_of_mem _ hm)) h.2
    exact ⟨by rw [h.1, h1], h2⟩
/-- The key tells sets apart. -/
theorem keyL_inj : ∀ {l m : List Int}, (∀ x ∈ l, 0 ≤ x ∧ x < 100) → (∀ x ∈ m, 0 ≤ x ∧ x < 100) → keyL l = keyL m → l = m
  | [], [], _, _, _ => rfl
  | [], y :: m, _, _, h => by simp [keyL] at h
  | x :: l, [], _, _, h => by simp [keyL] at h
  | x :: l, y :: m, hl, hm, h => by
    have h1 := hl x (by simp)
    have h2 := hm y (by simp)
    obtain ⟨k1, k2⟩ := sep_inj (dg_no x.toNat (by omega)) (dg_no y.toNat (by omega)) h
    have e := dg_inj x.toNat (by omega) y.toNat (by omega) k1
    have e2 : x = y := by omega
    rw [e2, keyL_inj (fun z hz => hl z (by simp [hz])) (fun z hz => hm z (by simp [hz])) k2]
theorem keyL_snoc : ∀ (l : List Int) (s : Int), keyL (l ++ [s]) = keyL l ++ (Lib.decDigits s.toNat ++ [32])
  | [], s => by simp [keyL]
  | x :: l, s => by simp [keyL, keyL_snoc l s]
theorem dit_small : ∀ i, i < 100 → (Lib.decDigits i).length ≤ 2 := by decide +kernel
theorem keyL_len : ∀ {l : List Int}, (∀ x ∈ l, 0 ≤ x ∧ x < 100) → (keyL l).length ≤ 3 * l.length
  | [], _ => Nat.le_refl _
  | x :: l, h => by
    have h1 := dit_small x.toNat (by have := h x (by simp); omega)
    have h2 := keyL_len (l := l) (fun y hy => h y (by simp [hy]))
    simp only [keyL, List.length_append, List.length_cons]
    omega
end Go.Proofs.YtmdjndbjfgncmaaGreatDoor
namespace Go.Proofs.YtmdjndbjfgncmaaGreatDoor
open Go.RowKit

/-- Edges in memory are as they were. -/
def KT (w w' : World) : Prop := ∀ (i : Nat) (cur : Array Value) (fz : Nat × Nat), w.heap[i]? = some (Obj.cells cur 42 fz) → w'.heap[i]? = some (Obj.cells cur 42 fz)
theorem KT.refl (w : World) : KT w w := fun _ _ _ h => h
theorem KT.trans {a b c : World} (h : KT a b) (k : KT b c) : KT a c := fun i cur fz e => k i cur fz (h i cur fz e)
theorem KT.below {w w' : World} (h : Below w.heap.size w w') : KT w w' := fun i _ _ e => (h.block i (Array.getElem?_eq_some_iff.1 e).1).trans e
theorem KT.set {w : World} {b : Nat} {cur : Array Value} {fz : Nat × Nat} (hb : w.heap[b]? = some (.cells cur 131 fz)) (k : Nat) (v : Value) : KT w (w.setCell ⟨b, k, none⟩ v) := fun i c z e => by
  have hne : i ≠ b := by rintro rfl; rw [hb] at e; cases e
  exact (Below.heap_setCell _ _ _ _ hne).trans e
theorem KT.vrow {w w' : World} {B : Nat} {l : List Value} (h : KT w w') (hr : VRow w B 42 l) : VRow w' B 42 l := h _ _ _ hr
theorem sizeBuilder : (Tryz.prog.info? 131).map (·.size) = some 2 := by kernel_rfl
theorem liesBuilder : liesAt Tryz.prog Tryz.prog.depth 131 (2 / Tryz.prog.cellsOf 131) 0 131 1 = true := by kernel_rfl
theorem infoByte : (Tryz.prog.info? 5).map (fun i => (i.zero, i.size, i.bytes)) = some (some (.int .u8 0), 1, 1) := by kernel_rfl

set_option maxHeartbeats 1000000 in
set_option maxRecDepth 100000 in
theorem bcopy_used (b : Nat) (w : World) (h0 : w.cell? ⟨b, 0, none⟩ = some (.pointer (some ⟨b, 0, none⟩))) :
    Calls Tryz.prog 139 #[.pointer (some ⟨b, 0, none⟩)] w fun e w' => e = .returned (.tuple #[]) ∧ w' = w := by
  obtain ⟨j, hj, _⟩ := Option.map_eq_some_iff.1 sizeBuilder
  go_enter Tryz.func139, Tryz.ntmps139
  go_wp2
  rw [Lib.run_neq_ptr_same w _ Tryz.underlying129 hj]
  go_wp2
  go_end0
  exact ⟨rfl, rfl⟩

set_option maxHeartbeats 1000000 in
set_option maxRecDepth 100000 in
theorem bcopy_fresh (b : Nat) (w : World) (h0 : w.cell? ⟨b, 0, none⟩ = some (.pointer none)) (hsh : w.shape? b = some (131, 2)) (hfz : w.frozen? ⟨b, 0, none⟩ = false) :
    Calls Tryz.prog 139 #[.pointer (some ⟨b, 0, none⟩)] w fun e w' => e = .returned (.tuple #[]) ∧ w' = w.setCell ⟨b, 0, none⟩ (.pointer (some ⟨b, 0, none⟩)) := by
  obtain ⟨j, hj, hjs⟩ := Option.map_eq_some_iff.1 sizeBuilder
  go_enter Tryz.func139, Tryz.ntmps139
  go_wp2
  rw [Lib.run_to_unsafe w ⟨b, 0, none⟩ Tryz.underlying129 Tryz.underlying171 hj (by rw [hjs]; decide) hsh (Nat.zero_lt_succ 1)]
  simp only [Result.andThen]
  rw [Oper.upon_value]
  go_wp2
  rw [run_callFunc_extern Tryz.func153 (by kernel_rfl) (by kernel_rfl) (by kernel_rfl) (e := Extern.AbiNoEscape.same) (by kernel_rfl)]
  rw [Lib.run_noEscape]
  simp only [Result.andThen]
  rw [Oper.upon_value]
  go_wp2
  rw [Lib.run_from_unsafe w ⟨b, 0, none⟩ Tryz.underlying171 Tryz.underlying129 hj hsh liesBuilder]
  simp only [Result.andThen]
  rw [Oper.upon_value]
  go_wp2
  go_end0
  exact ⟨rfl, rfl⟩

theorem bcopy_any (B b : Nat) (bs : List Value) (w : World) (h : Lib.IsBuilderF 131 5 B b bs w) :
    Calls Tryz.prog 139 #[.pointer (some ⟨b, 0, none⟩)] w fun e w' => e = .returned (.tuple #[]) ∧ (Lib.BuilderAtF 131 5 B b (.pointer (some ⟨b, 0, none⟩)) bs w' ∧ Below B w w' ∧ KT w w') := by
  rcases h with h | h
  · refine (bcopy_fresh b w h.cell0 h.shape h.frozen0).mono ?_
    rintro e w' ⟨rfl, rfl⟩
    obtain ⟨v, hbk, _⟩ := h.2
    exact ⟨rfl, h.used _, (Below.refl B w).setCell (p := ⟨b, 0, none⟩) h.1 _, KT.set hbk 0 _⟩
  · refine (bcopy_used b w h.cell0).mono ?_
    rintro e w' ⟨rfl, rfl⟩
    exact ⟨rfl, h, Below.refl B _, KT.refl _⟩

set_option maxHeartbeats 2000000 in
set_option maxRecDepth 100000 in
theorem bwrite_any (B b : Nat) (bs : List Value) (s : ByteArray) (w : World) (h : Lib.IsBuilderF 131 5 B b bs w) (hlen : bs.length + s.size ≤ 140737488355328) (hBw : B ≤ w.heap.size) :
    Calls Tryz.prog 110 #[.pointer (some ⟨b, 0, none⟩), .string s] w fun e w' => e = .returned (.tuple #[.int .i64 s.size, .nilIface]) ∧ (Lib.BuilderAtF 131 5 B b (.pointer (some ⟨b, 0, none⟩)) (bs ++ Lib.strCells s) w' ∧ Below B w w' ∧ KT w w') := by
  obtain ⟨i0, hi, hz0, hz1, hz2⟩ := info_parts infoByte
  go_enter Tryz.func110, Tryz.ntmps110
  go_wp2_with (go_at_call 139; refine (bcopy_any B b bs _ h).mono ?_)
  rintro e w1 ⟨rfl, h1, hb1, kt1⟩
  obtain ⟨hB, v, hbk, hown, hne⟩ := h1
  have c0 : w1.cell? ⟨b, 0, none⟩ = some (.pointer (some ⟨b, 0, none⟩)) := by rw [Lib.cell_of_heap hbk]; rfl
  have c1 : w1.cell? ⟨b, 1, none⟩ = some v := by rw [Lib.cell_of_heap hbk]; rfl
  go_wp2_with (at_builtin; refine Lib.wpList_append_own_stringF _ rfl _ _ 25 9 rfl B 5 i0 Tryz.underlying25 Tryz.underlying9 hi hz0 hz1 hz2 _ _ _ rfl hown s rfl ?c3 ?c4 ?c5 ?_)
  case c3 => unfold maxLen; omega
  case c4 => omega
  case c5 => have := hb1.size; omega
  intro v' w2 hown' hgrow _
  have hlt : b < w1.heap.size := by
    rcases Nat.lt_or_ge b w1.heap.size with h' | h'
    · exact h'
    · simp [Array.getElem?_eq_none h'] at hbk
  have hb2 : w2.heap[b]? = some (.cells #[.pointer (some ⟨b, 0, none⟩), v] 131 (0, 0)) := by
    rw [hgrow.block b hlt (fun e => hne e.symm)]
    exact hbk
  have d0 : w2.cell? ⟨b, 0, none⟩ = some (.pointer (some ⟨b, 0, none⟩)) := by rw [Lib.cell_of_heap hb2]; rfl
  have d1 : w2.cell? ⟨b, 1, none⟩ = some v := by rw [Lib.cell_of_heap hb2]; rfl
  have f1 : w2.frozen? ⟨b, 1, none⟩ = false := Lib.frozen_of_heap hb2 1
  obtain ⟨ao, n', cap, rfl⟩ : ∃ ao n' cap, v' = .slice ao n' cap := by
    rcases hown'.2 with ⟨hv, _⟩ | ⟨g, cap, cur, fz, hv, _⟩
    · exact ⟨_, _, _, hv⟩
    · exact ⟨_, _, _, hv⟩
  have kt2 : KT w1 w2 := fun i cur fz e => by
    refine (hgrow.block i (Array.getElem?_eq_some_iff.1 e).1 (fun e' => ?_)).trans e
    rcases hown.2 with ⟨rfl, _⟩ | ⟨g, cap, cu, f, rfl, _, hg, _⟩
    · simp [Value.ownBlock] at e'
    · obtain rfl : i = g := by simpa [Value.ownBlock] using e'
      rw [hg] at e; cases e
  have kt3 := (kt1.trans kt2).trans (KT.set hb2 1 (.slice ao n' cap))
  go_wp2
  go_ret2
  refine ⟨rfl, ?_, ?_, kt3⟩
  · exact Lib.BuilderAtF.put (T := 131) (e := 5) hB hb2 (bs' := bs ++ Lib.strCells s) (by simpa [Lib.strCells_length] using hown') (by decide)
  · exact (hb1.grown hgrow (by have := hb1.size; omega) (fun k hk => (hown.lt k hk).1)).setCell (p := ⟨b, 1, none⟩) hB _
end Go.Proofs.YtmdjndbjfgncmaaGreatDoor
namespace Go.Proofs.YtmdjndbjfgncmaaGreatDoor
open Go.RowKit Go.Sort Go.Shelf Go.Lib

theorem bcT_app (o : List UInt8) (s : ByteArray) : Lib.byteCells o ++ Lib.strCells s = Lib.byteCells (o ++ s.data.toList) := by simp [Lib.byteCells, Lib.strCells]
def ditB (v : Int) : ByteArray := ⟨(Lib.decDigits v.toNat).toArray⟩
theorem dit_any (v : Int) (h : 0 ≤ v ∧ v < 100) (w : World) : Calls Tryz.prog 111 #[.int .i64 v] w fun e w' => e = .returned (.string (ditB v)) ∧ w = w' := by
  obtain ⟨i, rfl⟩ : ∃ i : Nat, v = (i : Int) := ⟨v.toNat, by omega⟩
  exact (Tryz.strconv_Itoa_small i (by omega) w).mono (fun e w' h => ⟨h.1, h.2.symm⟩)
set_option maxRecDepth 100000 in
set_option maxHeartbeats 1000000 in
theorem skey_any (st : List Int) (q : Option Addr) (d : Nat) (w : World) (hst : Sl w (Value.int .i64) q st) (hb : ∀ x ∈ st, 0 ≤ x ∧ x < 100) (hl : st.length ≤ 1000) :
    Calls Tryz.prog 88 #[.slice q st.length d] w fun e w' => e = .returned (.string ⟨(keyL st).toArray⟩) ∧ RowKit.Below w.heap.size w w' := by
  obtain ⟨w0, hw0⟩ : ∃ w0, w0 = w.alloc (.cells #[.pointer none, .slice none 0 0] 131) := ⟨_, rfl⟩
  have hbd : Lib.IsBuilderF 131 5 w.heap.size w.heap.size (Lib.byteCells []) w0 := by
    subst hw0
    exact Lib.IsBuilderF.of (.inl ⟨Nat.le_refl _, .slice none 0 0, World.alloc_heap_new _ _, World.ownsRow_nil _ _ _ _, by simp [Value.ownBlock]⟩)
  have hB0 : RowKit.Below w.heap.size w w0 := by subst hw0; exact (RowKit.Below.refl _ _).alloc (Nat.le_refl _) _
  have HST := hidI (fun W (hW : RowKit.Below w.heap.size w W) => hst.below hW)
  have HB := hidI hb
  have HLN := hidI (fun k => keyL_len (l := st.take k) (fun x hx => hb x (List.mem_of_mem_take hx)))
  clear hst hb
  go_enter Tryz.func88, Tryz.ntmps88
  go_upto_region 2 with fail
  rw [← hw0]
  clear hw0
  go_wp2
  go_loopw [8] (fun kv wr => ∃ k : Nat, k ≤ st.length ∧ kv = .int .i64 k ∧ Lib.IsBuilderF 131 5 w.heap.size w.heap.size (Lib.byteCells (keyL (st.take k))) wr ∧ RowKit.Below w.heap.size w wr) (fun kv _ => st.length - (RowKit.intOf kv).toNat)
  case atStart => exact ⟨0, by omega, rfl, hbd, hB0⟩
  case round =>
    clear hbd hB0
    obtain ⟨k, hk, rfl, hbd, hB⟩ := hrel
    have hbz := hB.size
    have HBD := hidI hbd
    clear hbd
    by_cases hlt : k < st.length
    · have hltI : (k : Int) < (st.length : Int) := by omega
      obtain ⟨b1, o1, rfl, hb1, hc1⟩ := (HST.out wr hB).get k hlt
      have e0 := hc1 k hlt
      have h100 := HB.out _ (List.getElem_mem hlt)
      have HK : Hid (keyL (st.take (k + 1)) = keyL (st.take k) ++ (Lib.decDigits (st[k]).toNat ++ [32])) := by rw [Hid, List.take_succ_eq_append_getElem hlt, keyL_snoc]
      have hln := HLN.out k
      have htk : (st.take k).length = k := by rw [List.length_take]; omega
      rw [htk] at hln
      have HDS := hidI (dit_small st[k].toNat (by omega))
      generalize st[k] = x at *
      generalize st.take k = pre at *
      have hsz2 : (ditB x).size ≤ 2 := by have := HDS.out; show (Lib.decDigits x.toNat).toArray.size ≤ 2; simpa using this
      clear hc1 htk
      have hkz : (⟨#[32]⟩ : ByteArray).size = 1 := rfl
      go_wp2_with fail
      refine (dit_any x h100 _).mono ?_
      rintro e w' ⟨rfl, hw⟩
      subst hw
      go_wp2_with fail
      refine (bwrite_any w.heap.size w.heap.size (Lib.byteCells (keyL pre)) (ditB x ++ (⟨#[32]⟩ : ByteArray)) wr HBD.out ?_ hbz).mono ?_
      · simp [Lib.byteCells]; omega
      rintro e w2 ⟨rfl, hA, hB2, kt⟩
      go_wp2
      go_roundw
      case rel =>
        refine ⟨k + 1, by omega, by go_num, ?_, hB.trans hB2⟩
        rw [HK.out]
        have : Lib.byteCells (keyL pre) ++ Lib.strCells (ditB x ++ (⟨#[32]⟩ : ByteArray)) = Lib.byteCells (keyL pre ++ (Lib.decDigits x.toNat ++ [32])) := by rw [bcT_app]; simp [ditB]
        rw [← this]
        exact .inr hA
      case measure => simp [RowKit.intOf]; omega
    · obtain rfl : st.length = k := by omega
      have hltI : ¬ (st.length : Int) < (st.length : Int) := by omega
      rw [List.take_length] at HBD
      go_wp2_with (go_at_call 112; refine (Tryz.Builder_String_any_f w.heap.size w.heap.size _ wr HBD.out hbz).mono ?_; rintro e w4 ⟨rfl, hbd4, hB4⟩)
      go_ret
      exact ⟨rfl, hB.trans hB4⟩
end Go.Proofs.YtmdjndbjfgncmaaGreatDoor
