/-
  Words, plain lemmas and walks, merged: Hs, Mk, Gs, Gz, Hy, Gm, Gw, Gv, Gn, Gt, Pa, Ci.
-/
import Derived.Test.YtaclgmhinljkbaaGreatDoorZpe
import Derived.Lib.SlicesCompact
import Derived.Test.YtaclgmhinljkbaaGreatDoorZpd
import Derived.RangeFuncLeaves
import Derived.Test.YtaclgmhinljkbaaGreatDoorZpb
import Derived.Test.YtaclgmhinljkbaaGreatDoorZpa
import Derived.Test.YtaclgmhinljkbaaGreatDoorZpc
set_option linter.unusedVariables false
set_option linter.unusedSimpArgs false
namespace Go.Proofs.YtaclgmhinljkbaaGreatDoor
open Go.RowKit

theorem cmpt_inv (d : Array Int) (hs : ∀ i j, i ≤ j → j < d.size → d[i]! ≤ d[j]!) : ∀ m, m ≤ d.size → (Lib.compactUpTo d m).Pairwise (· < ·) ∧ ∀ x, x ∈ Lib.compactUpTo d m ↔ ∃ i, i < m ∧ d[i]! = x
  | 0, _ => ⟨by simp [Lib.compactUpTo], by simp [Lib.compactUpTo]⟩
  | m + 1, hm => by
    obtain ⟨h1, h2⟩ := cmpt_inv d hs m (by omega)
    rw [Lib.compactUpTo_succ]
    by_cases hk : Lib.keeps d m = true
    · rw [if_pos hk]
      refine ⟨List.pairwise_append.2 ⟨h1, by simp, fun a ha b hb => ?_⟩, fun x => ?_⟩
      · rw [List.mem_singleton] at hb
        subst hb
        obtain ⟨i, hi, rfl⟩ := (h2 a).1 ha
        have hne : m = 0 ∨ d[m]! ≠ d[m - 1]! := by simpa [Lib.keeps] using hk
        have hne : d[m]! ≠ d[m - 1]! := hne.resolve_left (by omega)
        have a1 := hs i (m - 1) (by omega) (by omega)
        have a2 := hs (m - 1) m (by omega) (by omega)
        omega
      · rw [List.mem_append, h2, List.mem_singleton]
        constructor
        · rintro (⟨i, hi, e⟩ | e)
          · exact ⟨i, by omega, e⟩
          · exact ⟨m, by omega, e.symm⟩
        · rintro ⟨i, hi, e⟩
          by_cases him : i = m
          · subst him; exact .inr e.symm
          · exact .inl ⟨i, by omega, e⟩
    · rw [if_neg hk, List.append_nil]
      have hne : ¬ (m = 0 ∨ d[m]! ≠ d[m - 1]!) := by simpa [Lib.keeps] using hk
      have h0 : m ≠ 0 := fun e => hne (.inl e)
      have he : d[m]! = d[m - 1]! := Classical.byContradiction (fun e => hne (.inr e))
      refine ⟨h1, fun x => ?_⟩
      rw [h2]
      constructor
      · rintro ⟨i, hi, e⟩; exact ⟨i, by omega, e⟩
      · rintro ⟨i, hi, e⟩
        by_cases him : i = m
        · subst him; exact ⟨i - 1, by omega, by rw [← he]; exact e⟩
        · exact ⟨i, by omega, e⟩
theorem sort_compact (l : List Int) : (Lib.compact (l.mergeSort fun x y => decide (x ≤ y))).Pairwise (· < ·) ∧ ∀ x, x ∈ Lib.compact (l.mergeSort fun x y => decide (x ≤ y)) ↔ x ∈ l := by
  have hsrt : (l.mergeSort fun x y => decide (x ≤ y)).Pairwise (fun x y => x ≤ y) := by
    have := List.pairwise_mergeSort (le := fun (x y : Int) => decide (x ≤ y)) (fun a b c h1 h2 => by simp at *; omega) (fun a b => by simp; omega) l
    exact this.imp (fun h => by simpa using h)
  have hmem : ∀ x, x ∈ (l.mergeSort fun x y => decide (x ≤ y)) ↔ x ∈ l := fun x => List.mem_mergeSort
  generalize (l.mergeSort fun x y => decide (x ≤ y)) = z at *
  have hs : ∀ i j, i ≤ j → j < z.toArray.size → z.toArray[i]! ≤ z.toArray[j]! := by
    intro i j hij hj
    have hj' : j < z.length := by simpa using hj
    rw [getElem!_pos z.toArray i (by simp; omega), getElem!_pos z.toArray j hj]
    by_cases e : i = j
    · subst e; exact Int.le_refl _
    · have := List.pairwise_iff_getElem.1 hsrt i j (by omega) hj' (by omega)
      simpa using this
  obtain ⟨h1, h2⟩ := cmpt_inv z.toArray hs z.length (by simp)
  refine ⟨h1, fun x => ?_⟩
  rw [← hmem x]
  show x ∈ Lib.compactUpTo z.toArray z.length ↔ _
  rw [h2]
  constructor
  · rintro ⟨i, hi, rfl⟩
    rw [getElem!_pos z.toArray i (by simpa using hi)]
    simp
  · intro hx
    obtain ⟨i, hi, e⟩ := List.mem_iff_getElem.1 hx
    exact ⟨i, hi, by rw [getElem!_pos z.toArray i (by simpa using hi)]; simpa using e⟩
/-- What the program's step returns is what the reference finds. -/
theorem step_sorted {G : Gr} {st : List Int} {b : Int} (hv : Vg G) : Lib.compact ((stepL G.es st b).mergeSort fun x y => decide (x ≤ y)) = nextA G st b :=
  step_law hv (sort_compact _).1 (sort_compact _).2
end Go.Proofs.YtaclgmhinljkbaaGreatDoor
namespace Go.Proofs.YtaclgmhinljkbaaGreatDoor
open Go.RowKit

/-! ### Marks among the deferred calls -/
/-- Cells are as they were; nothing below B has turned. -/
structure KC (B : Nat) (W W' : World) : Prop where
  below : Below B W W'
  cells : ∀ (k : Nat) (o : Obj), W.heap[k]? = some o → o.isCells = true → W'.heap[k]? = some o
theorem KC.refl (B : Nat) (W : World) : KC B W W := ⟨Below.refl _ _, fun _ _ h _ => h⟩
theorem KC.trans {B : Nat} {X Y Z : World} (h : KC B X Y) (k : KC B Y Z) : KC B X Z := ⟨h.below.trans k.below, fun i o hi ho => k.cells i o (h.cells i o hi ho) ho⟩
theorem KC.sl {α : Type} {B : Nat} {W W' : World} {enc : α → Value} {p : Option Addr} {l : List α} (h : KC B W W') (hs : Sl W enc p l) : Sl W' enc p l := by
  rcases hs with hs | ⟨b, off, hp, hb, hc⟩
  · exact .inl hs
  · by_cases hl : l = []
    · exact .inl hl
    · refine .inr ⟨b, off, hp, Nat.lt_of_lt_of_le hb h.below.size, fun i hi => ?_⟩
      obtain ⟨o, ho, hk⟩ := cells_of_cell (hc i hi)
      exact (World.cell?_of_block (w := W) (a := ⟨b, off + i, none⟩) ((h.cells b o ho hk).trans ho.symm)).trans (hc i hi)
def Marks (B : Nat) (W : World) : List Deferred → Prop
  | [] => True
  | d :: ds => (∃ D, d = { target := .collected D, args := #[] } ∧ B ≤ D ∧ W.heap[D]? = some (.deferred (some [])) ∧ ∀ d' ∈ ds, d'.target ≠ .collected D) ∧ Marks B W ds
theorem Marks.lt {B : Nat} {W : World} : ∀ {ds : List Deferred}, Marks B W ds → ∀ d ∈ ds, ∃ D, d.target = .collected D ∧ D < W.heap.size
  | [], _, _, h => by cases h
  | _ :: _, ⟨⟨D, hd, _, hk, _⟩, hr⟩, d', h => by
    rcases List.mem_cons.1 h with h | h
    · subst h; subst hd; exact ⟨D, rfl, (Array.getElem?_eq_some_iff.1 hk).1⟩
    · exact Marks.lt hr d' h
theorem Marks.keep {B : Nat} {W W' : World} : ∀ {ds : List Deferred}, Marks B W ds → (∀ D, B ≤ D → W.heap[D]? = some (.deferred (some [])) → (∃ d ∈ ds, d.target = .collected D) → W'.heap[D]? = some (.deferred (some []))) → Marks B W' ds
  | [], _, _ => trivial
  | _ :: _, ⟨⟨D, hd, hB, hk, hn⟩, hr⟩, h =>
    ⟨⟨D, hd, hB, h D hB hk ⟨_, List.mem_cons_self, by rw [hd]⟩, hn⟩, hr.keep (fun D' h1 h2 ⟨d, hd', ht⟩ => h D' h1 h2 ⟨d, List.mem_cons_of_mem _ hd', ht⟩)⟩
theorem Marks.others {B : Nat} {W W' : World} {ds : List Deferred} (h : Marks B W ds) (k : KeepsOthers W W') : Marks B W' ds := h.keep (fun D _ hk _ => k.same D _ hk rfl)
theorem Marks.cons {B D : Nat} {W : World} {ds : List Deferred} (h : Marks B W ds) (hB : B ≤ D) (hk : W.heap[D]? = some (.deferred (some []))) (hn : ∀ d ∈ ds, ∃ D', d.target = .collected D' ∧ D' < D) :
    Marks B W ({ target := .collected D, args := #[] } :: ds) :=
  ⟨⟨D, rfl, hB, hk, fun d hd e => by
    obtain ⟨D', h1, h2⟩ := hn d hd
    rw [h1] at e; cases e; omega⟩, h⟩
theorem leaves_marks {F : Fence} {n : Nat} {P : Program} {fn : Func} {tmps : Array Value} {R : Ending → World → Prop} {B : Nat} :
    ∀ (ds : List Deferred) (W : World), Marks B W ds → (∀ W', KC B W W' → LeavesInM F n P fn tmps R [] .returning W') → LeavesInM F n P fn tmps R ds .returning W
  | [], W, _, h => h W (KC.refl _ _)
  | d :: ds, W, ⟨⟨D, hd, hB, hk, hn⟩, hr⟩, h => by
    subst hd
    have hp : KC B W (W.putObj D (.deferred none)) := by
      refine ⟨⟨rfl, rfl, rfl, by simp, fun i hi => World.putObj_heap_other (by omega)⟩, fun i o hi ho => ?_⟩
      rw [World.putObj_heap_other (by rintro rfl; rw [hk] at hi; cases hi; cases ho)]
      exact hi
    refine ⟨by simp, .inl ⟨D, _, rfl, run_takeDeferred hk, ?_⟩⟩
    refine leaves_marks ds _ (hr.keep (fun D' _ hk' hm => ?_)) (fun W' hW' => h W' (hp.trans hW'))
    obtain ⟨d', hd', ht⟩ := hm
    rw [World.putObj_heap_other (by rintro rfl; exact hn d' hd' ht)]
    exact hk'
theorem grownBy_trans {A B C : World} {r : Option Nat} (h : A.grownBy B r) (k : B.grownBy C r) : A.grownBy C r :=
  ⟨k.os.trans h.os, k.tape.trans h.tape, k.output.trans h.output, Nat.le_trans h.size k.size, fun i hi hr => (k.block i (Nat.lt_of_lt_of_le hi h.size) hr).trans (h.block i hi hr)⟩
theorem grownBy_own {β : Type} (W0 : World) (c : Nat) : OwnFrom W0.heap.size (fun (_ : β) W => W0.grownBy W (some c)) := fun _ X Y row hs hg hr =>
  ⟨hg.os.trans hs.os, hg.tape.trans hs.tape, hg.output.trans hs.output, Nat.le_trans hs.size hg.size, fun i hi hc =>
    (hg.block i (Nat.lt_of_lt_of_le hi hs.size) (fun e => by have := (hr i e.symm).1; omega)).trans (hs.block i hi hc)⟩
theorem grownBy_refl (W : World) (r : Option Nat) : W.grownBy W r := ⟨rfl, rfl, rfl, Nat.le_refl _, fun _ _ _ => rfl⟩
theorem Marks.grown {B c : Nat} {W W' : World} {ds : List Deferred} {o : Obj} (h : Marks B W ds) (hg : W.grownBy W' (some c)) (hc : W.heap[c]? = some o) (ho : o.isCells = true) : Marks B W' ds :=
  h.keep (fun D _ hk _ => by
    rw [hg.block D (Array.getElem?_eq_some_iff.1 hk).1 (by rintro ⟨rfl⟩; rw [hk] at hc; cases hc; cases ho)]; exact hk)

theorem Marks.appended {B base e n size : Nat} {V w1 : World} {ds : List Deferred} {ov : Value} {xs : List Value} {o : Obj} (h : Marks B V ds) (hown : V.ownsRow base e size ov n xs) (hg : (V.alloc o).grownBy w1 ov.ownBlock) : Marks B w1 ds :=
  h.keep (fun D _ hk _ => by
    have hD := (Array.getElem?_eq_some_iff.1 hk).1
    rw [hg.block D (by simp; omega) ?_, Below.heap_alloc V o D hD]; exact hk
    intro e
    rcases hown.2 with ⟨rfl, _⟩ | ⟨g, cap, cur, rfl, _, hgb, _⟩
    · simp [Value.ownBlock] at e
    · obtain rfl : D = g := by simpa [Value.ownBlock] using e
      rw [hk] at hgb; cases hgb)
end Go.Proofs.YtaclgmhinljkbaaGreatDoor
namespace Go.Proofs.YtaclgmhinljkbaaGreatDoor
open Go.RowKit Go.Sort Go.Lib

end Go.Proofs.YtaclgmhinljkbaaGreatDoor
namespace Go.Proofs.YtaclgmhinljkbaaGreatDoor
open Go.RowKit Go.Sort Go.Shelf Go.Lib

/-- The states that are reached from a set by a label, and the error. -/
def stepA (G : Gr) (st : List Int) (b : Int) : List Int × Int := if chkG G = 0 then (if chkS G.n none st = 0 then (if b < 0 ∨ G.q ≤ b then ([], 2) else (nextA G st b, 0)) else ([], chkS G.n none st)) else ([], 1)

end Go.Proofs.YtaclgmhinljkbaaGreatDoor
namespace Go.Proofs.YtaclgmhinljkbaaGreatDoor
open Go.RowKit Go.Shelf
attribute [local go_sem] Oper.semAt_some

theorem cmp_len (l : List Int) : (Lib.compact l).length ≤ l.length := by
  have key : ∀ m, (Lib.compactUpTo l.toArray m).length ≤ m := by
    intro m
    induction m with
    | zero => simp [Lib.compactUpTo]
    | succ m ih => rw [Lib.compactUpTo_succ, List.length_append]; split <;> simp <;> omega
  exact key l.length
theorem KC.own {B B' e n size : Nat} {W W' : World} {v : Value} {xs : List Value} (h : KC B W W') (ho : W.ownsRow B' e size v n xs) : W'.ownsRow B' e size v n xs :=
  ⟨ho.1, ho.2.imp id (fun ⟨g, cap, cur, a, b, hh, z⟩ => ⟨g, cap, cur, a, b, h.cells g _ hh rfl, z⟩)⟩
/-- The ends of those edges that bear the label. -/
def labL (b : Int) (l : List (Nat × Ed)) : List Int := (l.filter (fun x => decide (x.2.l = b))).map (fun x => x.2.t)
theorem labL_hit {b : Int} {l : List (Nat × Ed)} {i : Nat} {x : Ed} (h : x.l = b) : labL b (l ++ [(i, x)]) = labL b l ++ [x.t] := by simp [labL, h]
theorem labL_miss {b : Int} {l : List (Nat × Ed)} {i : Nat} {x : Ed} (h : ¬ x.l = b) : labL b (l ++ [(i, x)]) = labL b l := by simp [labL, h]
theorem labL_le (b : Int) (l : List (Nat × Ed)) : (labL b l).length ≤ l.length := by unfold labL; rw [List.length_map]; exact List.length_filter_le _ _
theorem labL_lv (es : List Ed) (s b : Int) : ∀ k, k ≤ es.length → labL b (lvL es s k) = (((es.take k).filter (fun x => decide (x.f = s) && decide (x.l = b))).map Ed.t)
  | 0, _ => rfl
  | k + 1, h => by
    rw [lvL_succ (by omega), List.take_succ_eq_append_getElem (by omega : k < es.length), List.filter_append, List.map_append, ← labL_lv es s b k (by omega)]
    by_cases h1 : es[k].f = s
    · rw [if_pos h1]
      by_cases h2 : es[k].l = b
      · rw [labL_hit h2]; simp [h1, h2]
      · rw [labL_miss h2]; simp [h2]
    · rw [if_neg h1, List.append_nil]; simp [h1]
theorem stepL_succ (es : List Ed) (st : List Int) (b : Int) (k : Nat) (h : k < st.length) : stepL es (st.take (k + 1)) b = stepL es (st.take k) b ++ labL b (lvL es st[k] es.length) := by
  rw [labL_lv _ _ _ _ (Nat.le_refl _), List.take_length]
  unfold stepL
  rw [List.take_succ_eq_append_getElem h, List.flatMap_append, List.flatMap_cons, List.flatMap_nil, List.append_nil]
theorem stepL_len (es : List Ed) (st : List Int) (b : Int) : (stepL es st b).length ≤ st.length * es.length := by
  unfold stepL
  induction st with
  | nil => simp
  | cons s st ih =>
    rw [List.flatMap_cons, List.length_append, List.length_map, List.length_cons, Nat.add_mul, Nat.one_mul]
    have := List.length_filter_le (fun x => decide (x.f = s) && decide (x.l = b)) es
    omega
/-- A row of numbers that is no block of the sequence's. -/
def OutS (B b : Nat) (l : List Int) (W : World) : Prop := ∃ v, VRow W b 34 [v] ∧ W.ownsRow B 3 1 v l.length (l.map (Value.int .i64)) ∧ v.ownBlock ≠ some b ∧ (l = [] → v = .slice none 0 0)
/-- Where the rounds of Step stand. -/
def SInv (G : Gr) (p : Option Addr) (c : Nat) (st : List Int) (q : Option Addr) (d : Nat) (b : Int) (w : World) (bx k : Nat) (a : Act) (W : World) : Prop :=
  ∃ (ds : List Deferred) (u4 u8 u10 u11 u12 u13 u14 u15 u16 u17 u18 u19 u20 u21 u22 u23 u24 u25 u26 u27 u28 u29 u30 u34 u35 u36 u37 u38 u39 u40 u41 u42 u43 u44 u45 u46 u47 u48 u49 u50 u51 u52 u53 u54 u55 : Value), a = { tmps := #[(.agg #[.int .i64 G.q, .int .i64 G.n, .slice p G.es.length c]), (.slice q st.length d), (.int .i64 b), (.pointer (some ⟨w.heap.size, 0, none⟩)), u4, (.pointer (some ⟨w.heap.size + 1, 0, none⟩)), (.slice none 0 0), (.int .i64 0), u8, (.pointer (some ⟨bx, 0, none⟩)), u10, u11, u12, u13, u14, u15, u16, u17, u18, u19, u20, u21, u22, u23, u24, u25, u26, u27, u28, u29, u30, (.slice q st.length d), (.int .i64 st.length), (.int .i64 k), u34, u35, u36, u37, u38, u39, u40, u41, u42, u43, u44, u45, u46, u47, u48, u49, u50, u51, u52, u53, u54, u55], defers := ds } ∧
    k ≤ st.length ∧ OutS (bx + 1) bx (stepL G.es (st.take k) b) W ∧ Marks (bx + 1) W ds ∧ VRow W w.heap.size 29 [.int .i64 G.q, .int .i64 G.n, .slice p G.es.length c] ∧ VRow W (w.heap.size + 1) 3 [.int .i64 b] ∧ RowKit.Below w.heap.size w W ∧ bx + 1 ≤ W.heap.size
def smu (st : List Int) (a : Act) : Nat := st.length - (intOf (a.tmps.getD 33 undef)).toNat
/-- All blocks below n are as they were. -/
def KL (n : Nat) (W W' : World) : Prop := n ≤ W'.heap.size ∧ ∀ i, i < n → W'.heap[i]? = W.heap[i]?
theorem ownFrom_kl {β : Type} {n B : Nat} (W0 : World) (h : n ≤ B) : OwnFrom B (fun (_ : β) W => KL n W0 W) := fun _ X Y row hs hg hr =>
  ⟨Nat.le_trans hs.1 hg.size, fun i hi => (hg.block i (by have := hs.1; omega) (fun e => by have := (hr i e.symm).1; omega)).trans (hs.2 i hi)⟩
theorem ownFrom_keepsO {β : Type} (W0 : World) : OwnFrom W0.heap.size (fun (_ : β) W => KeepsOthers W0 W) := fun _ X Y row hs hg hr =>
  ⟨Nat.le_trans hs.size hg.size, fun i o hi ho => by
    have hlt := (Array.getElem?_eq_some_iff.1 hi).1
    exact (hg.block i (Nat.lt_of_lt_of_le hlt hs.size) (fun e => by have := (hr i e.symm).1; omega)).trans (hs.same i o hi ho)⟩
/-- The same, and no block of the sequence's that is at hand. -/
def OutT (B b Bs : Nat) (l : List Int) (W : World) : Prop := ∃ v, VRow W b 34 [v] ∧ W.ownsRow B 3 1 v l.length (l.map (Value.int .i64)) ∧ v.ownBlock ≠ some b ∧ (l = [] → v = .slice none 0 0) ∧ v.ownBlock ≠ some Bs
theorem OutT.own {β : Type} (B b Bs : Nat) (f : β → List Int) : Own (fun s W => OutT B b Bs (f s) W) := by
  rintro s X Y row ⟨v, h1, h2, h3, h4⟩ hg hrow
  refine ⟨v, VRow.own b 34 (fun _ : Unit => [v]) () X Y row h1 hg hrow, ?_, h3, h4⟩
  refine h2.kept hg ?_
  rcases h2.2 with ⟨rfl, _⟩ | ⟨g, cap, cur, rfl, _, hh, _⟩
  · exact .inl rfl
  · refine .inr (fun e => ?_)
    obtain ⟨o, ho, hc⟩ := hrow g (by rw [← e]; rfl)
    rw [hh] at ho; cases ho; cases hc
theorem sgB_mono {n m : Nat} {w : World} {p : Option Addr} {l : List Ed} (h : SgB n w p l) (hm : n ≤ m) : SgB m w p l := by
  rcases h with h | ⟨b, off, h1, h2, h3, h4⟩
  · exact .inl h
  · exact .inr ⟨b, off, h1, by omega, h3, h4⟩
/-- Where a row begins: behind all that lies, if it is nil. -/
theorem own_start {W : World} {B n : Nat} {v : Value} {xs : List Value} (h : W.ownsRow B 3 1 v n xs) (hB : B ≤ W.heap.size) (hn : n = 0 → v = .slice none 0 0) :
    ∃ B', B ≤ B' ∧ B' ≤ W.heap.size ∧ W.ownsRow B' 3 1 v n xs ∧ (n = 0 → B' = W.heap.size) := by
  by_cases h0 : n = 0
  · have hv := hn h0
    subst h0; subst hv
    exact ⟨W.heap.size, hB, Nat.le_refl _, ⟨h.1, .inl ⟨rfl, rfl⟩⟩, fun _ => rfl⟩
  · exact ⟨B, Nat.le_refl _, hB, h, fun e => absurd e h0⟩
/-- Behind an append a row is no cell that another row's was not. -/
theorem own_apart {W : World} {B' n : Nat} {v v' : Value} {x : Value} {xs : List Value} {W' : World} {Bs : Nat} (hs : VRow W Bs 3 [x]) (hg : W.grownBy W' v.ownBlock) (hne : v.ownBlock ≠ some Bs) (h : W'.ownsRow B' 3 1 v' (n + 1) xs)
    (hB : n = 0 → Bs < B') : v'.ownBlock ≠ some Bs := by
  intro e
  rcases h.2 with ⟨rfl, _⟩ | ⟨g, cap, cur, rfl, hgB, hh, hc, _, hsz, _⟩
  · simp [Value.ownBlock] at e
  · obtain rfl : g = Bs := by simpa [Value.ownBlock] using e
    by_cases h0 : n = 0
    · have := hB h0; omega
    · rw [hg.block g hs.lt (fun e => hne e.symm), show W.heap[g]? = _ from hs] at hh
      cases hh
      simp at hsz
      omega

set_option maxRecDepth 100000 in
set_option maxHeartbeats 4000000 in
theorem gStep_in (G : Gr) (p : Option Addr) (c : Nat) (st : List Int) (q : Option Addr) (d : Nat) (b : Int) (w : World) (hin : Sg 3 w edE p G.es) (hst : Sl w (Value.int .i64) q st) (hv : Vg G) (hs : st.length ≤ 64) (hc : chkS G.n none st = 0) (h0 : 0 ≤ b) (h1 : b < G.q) :
    CallsIn Fence.wide 9 Tryz.prog 111 #[(.agg #[.int .i64 G.q, .int .i64 G.n, .slice p G.es.length c]), .slice q st.length d, .int .i64 b] w (RetLi (nextA G st b) 0 w) := by
  have HIN := hidI hin; have HST := hidI hst; have HV := hidI hv; have HC := hidI hc
  have hl := hv.len
  clear hin hst hv hc
  obtain ⟨i0, hi0, hz0, hz1, hz3⟩ := info_parts infoIn
  obtain ⟨w0, hw0⟩ : ∃ w0, w0 = (w.alloc (.cells #[.int .i64 G.q, .int .i64 G.n, .slice p G.es.length c] 29)).alloc (.cells #[.int .i64 b] 3) := ⟨_, rfl⟩
  have b0 : VRow w0 w.heap.size 29 [.int .i64 G.q, .int .i64 G.n, .slice p G.es.length c] := by subst hw0; exact (VRow.new w _ _).alloc _
  have b1 : VRow w0 (w.heap.size + 1) 3 [.int .i64 b] := by subst hw0; exact VRow.new1 w _ _ _
  have hB0 : RowKit.Below w.heap.size w w0 := by subst hw0; exact ((RowKit.Below.refl _ _).alloc (Nat.le_refl _) _).alloc (by simp) _
  refine callsIn_of_wp_marks Tryz.func111 rfl trivial ?_ rfl
  simp only [Tryz.ntmps111, List.size_toArray, List.length_cons, List.length_nil, Nat.reduceAdd, Nat.reduceSub, Array.replicate_succ, Array.replicate_zero, List.push_toArray, List.append_toArray, List.nil_append, List.cons_append]
  gi_wp2_with (refine ⟨trivial, ?_⟩; gi_at_call 24)
  rw [← hw0]
  clear hw0
  refine (callsIn_wide.2 (gCheck_r G p c _ 0 (chkG_ok.2 HV.out) (HIN.out.below hB0) (by omega))).mono ?_
  rintro e w1 ⟨rfl, hB1⟩
  have x1 := hB0.trans (hB1.mono hB0.size)
  have c0 := b0.below hB1 b0.lt
  have c1 := b1.below hB1 b1.lt
  clear hB1 b0 b1 hB0
  have f0 := c0.at 0 rfl; have f1 := c0.at 1 rfl; have f2 := c0.at 2 rfl
  gi_wp2_with (refine ⟨trivial, ?_⟩; gi_at_call 128)
  refine (callsIn_wide.2 (gCheckSet_any G p c st q d _ (HST.out.below x1) (by omega))).mono ?_
  rw [HC.out]
  rintro e w2 ⟨rfl, hB2⟩
  have x2 := x1.trans (hB2.mono x1.size)
  have d0 := c0.below hB2 c0.lt
  have d1 := c1.below hB2 c1.lt
  clear f0 f1 f2 hB2 c0 c1 x1
  have f0 := d0.at 0 rfl; have g0 := d1.at 0 rfl
  have hz : w.heap.size + 1 < w2.heap.size := d1.lt
  gi_wp2
  have e0 := d0.alloc (.cells #[.slice none 0 0] 34)
  have e1 := d1.alloc (.cells #[.slice none 0 0] 34)
  have e9 : VRow (w2.alloc (.cells #[.slice none 0 0] 34)) w2.heap.size 34 [.slice none 0 0] := VRow.new w2 _ _
  have x3 := x2.alloc x2.size (.cells #[.slice none 0 0] 34)
  clear d0 d1 f0 g0
  refine wpIn_loop (fun a W => ∃ k, SInv G p c st q d b w w2.heap.size k a W) (fun a _ => smu st a) ⟨0, _, _, _, _, _, _, _, _, _, _, _, _, _, _, _, _, _, _, _, _, _, _, _, _, _, _, _, _, _, _, _, _, _, _, _, _, _, _, _, _, _, _, _, _, _, _, rfl, by omega, ⟨_, e9, World.ownsRow_nil _ _ _ _, by simp [Value.ownBlock], fun _ => rfl⟩, trivial, e0, e1, x3, by simp⟩ ?_
  clear e0 e1 e9 x3
  rintro a W ⟨k, ds, u4, u8, u10, u11, u12, u13, u14, u15, u16, u17, u18, u19, u20, u21, u22, u23, u24, u25, u26, u27, u28, u29, u30, u34, u35, u36, u37, u38, u39, u40, u41, u42, u43, u44, u45, u46, u47, u48, u49, u50, u51, u52, u53, u54, u55, rfl, hk, ⟨v, c9, hown, hn9, hnil⟩, hM, c0, c1, hB, hge⟩
  have HBM : Hid (RowKit.Below w.heap.size w W) := hB
  have hmu : smu st { tmps := #[(.agg #[.int .i64 G.q, .int .i64 G.n, .slice p G.es.length c]), (.slice q st.length d), (.int .i64 b), (.pointer (some ⟨w.heap.size, 0, none⟩)), u4, (.pointer (some ⟨w.heap.size + 1, 0, none⟩)), (.slice none 0 0), (.int .i64 0), u8, (.pointer (some ⟨w2.heap.size, 0, none⟩)), u10, u11, u12, u13, u14, u15, u16, u17, u18, u19, u20, u21, u22, u23, u24, u25, u26, u27, u28, u29, u30, (.slice q st.length d), (.int .i64 st.length), (.int .i64 k), u34, u35, u36, u37, u38, u39, u40, u41, u42, u43, u44, u45, u46, u47, u48, u49, u50, u51, u52, u53, u54, u55], defers := ds } = st.length - (intOf (.int .i64 (k : Int))).toNat := rfl
  have HMU := hidI hmu
  clear hmu
  have hbz := hB.size
  have hbx := c9.lt
  by_cases hlt : k < st.length
  · obtain ⟨bs1, os1, rfl, hbs1, hcs1⟩ := (HST.out.below hB).get k hlt
    have e1 := hcs1 k hlt
    clear hcs1
    have HSN := hidI (stepL_succ G.es st b k hlt)
    have HSL : Hid ((stepL G.es (st.take k) b).length ≤ 64 * 1024) := by
      unfold Hid
      have h1 := stepL_len G.es (st.take k) b
      have h2 : (st.take k).length * G.es.length ≤ 64 * 1024 := Nat.mul_le_mul (by rw [List.length_take]; omega) hl
      omega
    generalize st[k] = s at *
    generalize stepL G.es (st.take k) b = L at *
    have f0 := c0.at 0 rfl; have f1 := c0.at 1 rfl; have f2 := c0.at 2 rfl
    gi_wp2_with (refine ⟨trivial, ?_⟩; gi_at_call 129)
    refine (leaving_in Fence.wide 8 trivial rfl _ s G.q G.n p G.es.length c rfl _).mono ?_
    rintro e w' ⟨rfl, rfl⟩
    gi_wp2
    obtain ⟨V0, hV0⟩ : ∃ V0, V0 = (W.alloc (.cells #[.int .i64 G.q, .int .i64 G.n, .slice p G.es.length c] 29)).alloc (.cells #[.int .i64 s] 3) := ⟨_, rfl⟩
    have y1 : VRow V0 W.heap.size 29 [.int .i64 G.q, .int .i64 G.n, .slice p G.es.length c] := by subst hV0; exact (VRow.new W _ _).alloc _
    have y2 : VRow V0 (W.heap.size + 1) 3 [.int .i64 s] := by subst hV0; exact VRow.new1 W _ _ _
    have y9 : VRow V0 w2.heap.size 34 [v] := by subst hV0; exact (c9.alloc _).alloc _
    have yown : V0.ownsRow (w2.heap.size + 1) 3 1 v L.length (L.map (Value.int .i64)) := by subst hV0; exact (hown.alloc _).alloc _
    have z0 : VRow V0 w.heap.size 29 [.int .i64 G.q, .int .i64 G.n, .slice p G.es.length c] := by subst hV0; exact (c0.alloc _).alloc _
    have z1 : VRow V0 (w.heap.size + 1) 3 [.int .i64 b] := by subst hV0; exact (c1.alloc _).alloc _
    have hBV : RowKit.Below w.heap.size w V0 := by subst hV0; exact (hB.alloc hbz _).alloc (by simp; omega) _
    have hsz : V0.heap.size = W.heap.size + 2 := by subst hV0; simp
    have hKV : KeepsOthers W V0 := by subst hV0; exact (KeepsOthers.alloc _ _).trans (KeepsOthers.alloc _ _)
    have hvb : ∀ j, v.ownBlock = some j → w2.heap.size + 1 ≤ j ∧ j < W.heap.size := fun j e => hown.lt j e
    have hsg : SgB w2.heap.size V0 p G.es := sgB_mono ((SgB.of HIN.out (Nat.le_refl _)).kept (fun i hi => hBV.block i hi)) (by omega)
    rw [← hV0]
    clear hV0 hown c9 c0 c1 f0 f1 f2 e1 hB
    refine' wpIn_rangeFunc_ownH rfl (by omega) (gf := 147) (lb := #[.pointer (some ⟨W.heap.size, 0, none⟩), .pointer (some ⟨W.heap.size + 1, 0, none⟩)]) rfl trivial (enters_of Tryz.func147 (by kernel_rfl) rfl)
      (leavingS_stops Fence.wide 8 trivial rfl (by omega) w2.heap.size W.heap.size (W.heap.size + 1) G s p c hl V0 (by omega) y1 y2 hsg) KS.trans (KS_b (by omega) (by omega)) (RowKit.Below.refl _ _) (fun _ => rfl)
      (fun pre V => (((OutT (w2.heap.size + 1) w2.heap.size (W.heap.size + 1) (L ++ labL b pre) V ∧ RowKit.Below w.heap.size w V) ∧ KeepsOthers V0 V) ∧ KL w2.heap.size V0 V) ∧ VRow V (W.heap.size + 1) 3 [.int .i64 s])
      (fun _ _ _ => False)
      (OwnFrom.and (OwnFrom.and (OwnFrom.and (OwnFrom.and ((OutT.own _ _ _ (fun pre => L ++ labL b pre)).from _) (ownFrom_below (Nat.le_refl _) (by omega))) (ownFrom_keepsO _)) (ownFrom_kl _ (by omega))) ((VRow.own _ _ (fun _ => [.int .i64 s])).from _))
      (fun _ _ _ _ _ hs _ _ => hs)
      ⟨⟨⟨⟨⟨v, y9, by simpa [labL] using yown, hn9, fun h => hnil (by simpa [labL] using h), fun e => by have := (hvb _ e).2; omega⟩, hBV⟩, KeepsOthers.refl _⟩, by omega, fun _ _ => rfl⟩, y2⟩
      (fun x a' V => ∃ Bx, V0.heap.size ≤ Bx ∧ VRow V Bx 42 [.int .i64 x.2.f, .int .i64 x.2.l, .int .i64 x.2.t] ∧ a' = { tmps := #[(.agg #[.int .i64 G.q, .int .i64 G.n, .slice p G.es.length c]), (.slice (some ⟨bs1, os1, none⟩) st.length d), (.int .i64 b), (.pointer (some ⟨w.heap.size, 0, none⟩)), u4, (.pointer (some ⟨w.heap.size + 1, 0, none⟩)), (.slice none 0 0), (.int .i64 0), u8, (.pointer (some ⟨w2.heap.size, 0, none⟩)), u10, (.int .i64 s), u12, (.pointer (some ⟨Bx, 0, none⟩)), u14, u15, u16, u17, u18, u19, u20, u21, u22, u23, u24, u25, u26, u27, u28, u29, u30, (.slice (some ⟨bs1, os1, none⟩) st.length d), (.int .i64 st.length), (.int .i64 k), (.bool true), (.pointer (some ⟨bs1, os1 + k, none⟩)), (.int .i64 s), (.agg #[.int .i64 G.q, .int .i64 G.n, .slice p G.es.length c]), (.int .i64 s), (.func (.func 147) #[] #[.pointer (some ⟨W.heap.size, 0, none⟩), .pointer (some ⟨W.heap.size + 1, 0, none⟩)]), (.int .i64 (x.1 : Int)), (.agg #[.int .i64 x.2.f, .int .i64 x.2.l, .int .i64 x.2.t]), u42, u43, u44, u45, u46, u47, u48, u49, u50, u51, u52, u53, u54, u55], defers := [] })
      (fun x a' _ X Y row hs hg hr => by
        obtain ⟨Bx, h1, h2, h3⟩ := hs
        exact ⟨Bx, h1, VRow.own Bx 42 (fun _ : Unit => [.int .i64 x.2.f, .int .i64 x.2.l, .int .i64 x.2.t]) () X Y row h2 hg (fun r e => (hr r e).2), h3⟩)
      ?assign ?body ?done ?stop
    case assign =>
      rintro l pre x V K ⟨⟨⟨⟨hT, hB1⟩, hK1⟩, hL1⟩, ly⟩ hK
      have hsV := hK1.size
      unfold encL
      gi_wp2
      obtain ⟨v', t1, t2, t3, t4, t5⟩ := hT
      exact hK _ _ ((KeepsOthers.alloc _ _).from _) (fun i hi => Below.heap_alloc _ _ i (by omega)) ⟨⟨⟨⟨⟨v', t1.alloc _, t2.alloc _, t3, t4, t5⟩, hB1.alloc hB1.size _⟩, hK1.trans (KeepsOthers.alloc _ _)⟩, Nat.le_trans hL1.1 (by simp), fun i hi => (Below.heap_alloc _ _ i (by have := hL1.1; omega)).trans (hL1.2 i hi)⟩, ly.alloc _⟩
        ⟨V.heap.size, hsV, VRow.new V 42 [.int .i64 x.2.f, .int .i64 x.2.l, .int .i64 x.2.t], rfl⟩
    case body =>
      rintro l pre ⟨i, x⟩ a' V hl' ⟨r, hr⟩ ⟨⟨⟨⟨⟨v', t1, t2, t3, t4, t5⟩, hB1⟩, hK1⟩, hL1⟩, ly⟩ ⟨Bx, hBx, hx, rfl⟩ hlen
      have hsV := hK1.size
      have hlb : (L ++ labL b pre).length ≤ 70000 := by rw [List.length_append]; have := labL_le b pre; have := HSL.out; omega
      have lb : VRow V (w.heap.size + 1) 3 [.int .i64 b] := (hL1.2 _ hz).trans z1
      have k1 := hx.at 1 rfl; have k2 := hx.at 2 rfl
      have k0 := lb.at 0 rfl
      by_cases he : x.l = b
      · have hb : (x.l == b) = true := by simpa using he
        have HS : Hid (L ++ labL b (pre ++ [(i, x)]) = L ++ labL b pre ++ [x.t]) := by rw [Hid, labL_hit he, List.append_assoc]
        clear he
        generalize L ++ labL b pre = M at *
        have d6 := t1.at 0 rfl; have z6 := t1.frozen 0
        have hnew := cell_one_at V (.int .i64 x.t) 3 V.heap.size rfl
        have hV1 : V.heap.size + 1 = (V.alloc (.cells #[.int .i64 x.t] 3)).heap.size := (World.size_alloc _ _).symm
        obtain ⟨B', hb1, hb2, hownB, hb3⟩ := own_start (t2.alloc (.cells #[.int .i64 x.t] 3)) (by omega) (fun e => t4 (List.length_eq_zero_iff.1 e))
        have hcl : ∀ (j : Nat) (o : Obj), v'.ownBlock = some j → (V.alloc (.cells #[.int .i64 x.t] 3)).heap[j]? = some o → o.isCells = true := fun j o e h => own_cells hownB e h
        have hvb' : ∀ j, v'.ownBlock = some j → w2.heap.size + 1 ≤ j := fun j e => (t2.lt j e).1
        have lyA := ly.alloc (.cells #[.int .i64 x.t] 3)
        gi_wp2_with (gi_at_builtin; refine wpListIn_append_own _ rfl _ _ 34 rfl B' 3 i0 (.int .i64 0) 1 8 Tryz.underlying34 hi0 hz0 hz1 hz3 rfl (by decide) _ _ _ rfl hownB ⟨V.heap.size, 0, none⟩ 1 1 [.int .i64 x.t] rfl rfl hnew (by simp [Value.oneCell']) (by simp [maxLen]; omega) (by omega) (by omega) ?_; intro v2 W2 hown' hgrow0 _; have hgrow : (V.alloc (.cells #[.int .i64 x.t] 3)).grownBy W2 v'.ownBlock := hgrow0; have hap := own_apart lyA hgrow t5 hown' (fun e => by have := hb3 e; omega); obtain ⟨pv, mv, cv, rfl⟩ := own_shI hown'; have r6 := (t1.alloc (.cells #[.int .i64 x.t] 3)).grown hgrow (fun e => t3 e.symm); have s6 := r6.at 0 rfl; have t6 := r6.frozen 0)
        have hn2 : (Value.slice pv mv cv).ownBlock ≠ some w2.heap.size := fun e => by have := (hown'.lt _ e).1; omega
        have hgz := hgrow.size
        have hks : KS w2.heap.size (W.heap.size + 1) V (W2.setCell ⟨w2.heap.size, 0, none⟩ (.slice pv mv cv)) := fun j h1 => by
          rw [Below.heap_setCell _ _ _ _ (show j ≠ w2.heap.size by omega), hgrow.block j (by omega) (fun e => by
            rcases h1 with h1 | h1
            · have := hvb' _ e.symm; omega
            · exact t5 (by rw [← e, h1])), Below.heap_alloc V _ j (by omega)]
        have hko : KeepsOthers V (W2.setCell ⟨w2.heap.size, 0, none⟩ (.slice pv mv cv)) := ((KeepsOthers.alloc V _).trans (KeepsOthers.of_grownBy hgrow hcl)).trans (KeepsOthers.setCell _ _ _)
        refine ⟨hko.from _, hks, ⟨⟨⟨⟨_, VRow.set (i := 0) _ r6, ?_, hn2, fun e => ?_, hap⟩, ?_⟩, hK1.trans hko⟩, ?_, fun j hj => (hks j (.inl hj)).trans (hL1.2 j hj)⟩, (hks _ (.inr rfl)).trans ly⟩
        · rw [HS.out, List.length_append, List.map_append]
          exact ownsRow_setCell_below (a := ⟨w2.heap.size, 0, none⟩) (own_baseI hown' hb1) (show w2.heap.size < w2.heap.size + 1 by omega) _
        · rw [HS.out] at e; simp at e
        · exact ((hB1.alloc hB1.size _).grown hgrow (Nat.le_trans hB1.size (by simp)) (fun j e => by have := hvb' _ e; omega)).setCell (show w.heap.size ≤ w2.heap.size by omega) _
        · rw [World.size_setCell]; have := hL1.1; omega
      · have hb : (x.l == b) = false := by simpa using he
        have HS : Hid (L ++ labL b (pre ++ [(i, x)]) = L ++ labL b pre) := by rw [Hid, labL_miss he]
        clear he
        gi_wp2
        exact ⟨(KeepsOthers.refl _).from _, KS.refl _ _ _, ⟨⟨⟨⟨v', t1, by rw [HS.out]; exact t2, t3, by rw [HS.out]; exact t4, t5⟩, hB1⟩, hK1⟩, hL1⟩, ly⟩
    case done =>
      rintro D ys V hD' hys ⟨⟨⟨⟨⟨v', t1, t2, t3, t4, t5⟩, hB1⟩, hK1⟩, hL1⟩, ly⟩ hK
      subst hys
      rw [← HSN.out] at t2 t4
      have hMV : Marks (w2.heap.size + 1) V ({ target := .collected D, args := #[] } :: ds) :=
        (hM.others (hKV.trans hK1)).cons (by omega) hK (fun d hd => by obtain ⟨D', h1, h2⟩ := hM.lt d hd; exact ⟨D', h1, by omega⟩)
      have l0 : VRow V w.heap.size 29 [.int .i64 G.q, .int .i64 G.n, .slice p G.es.length c] := (hL1.2 _ (by omega)).trans z0
      have l1 : VRow V (w.heap.size + 1) 3 [.int .i64 b] := (hL1.2 _ hz).trans z1
      have hV2 := hK1.size
      gi_wp2
      refine ⟨⟨k + 1, _, _, _, _, _, _, _, _, _, _, _, _, _, _, _, _, _, _, _, _, _, _, _, _, _, _, _, _, _, _, _, _, _, _, _, _, _, _, _, _, _, _, _, _, _, _, rfl, by omega, ⟨v', t1, t2, t3, t4⟩, hMV, l0, l1, hB1, by omega⟩, ?_⟩
      rw [HMU.out]
      refine Nat.lt_of_le_of_lt (Nat.le_of_eq (show smu _ _ = st.length - (intOf (.int .i64 ((k : Int) + 1))).toNat from rfl)) ?_
      simp [intOf]; omega
    case stop =>
      rintro D c pre W _ _ h _
      exact h.elim
  · obtain rfl : k = st.length := by omega
    rw [List.take_length] at hown hnil
    have HSR : Hid (Lib.compact ((stepL G.es st b).mergeSort fun x y => decide (x ≤ y)) = nextA G st b) := step_sorted HV.out
    have hLl : (stepL G.es st b).length ≤ 64 * 1024 := Nat.le_trans (stepL_len G.es st b) (Nat.mul_le_mul hs hl)
    generalize stepL G.es st b = L at *
    have d9 := c9.at 0 rfl
    have hn9' : some w2.heap.size ≠ v.ownBlock := fun e => hn9 e.symm
    have hcW : ∀ (j : Nat) (o : Obj), v.ownBlock = some j → W.heap[j]? = some o → o.isCells = true := fun j o e h => own_cells hown e h
    have hvb : ∀ j, v.ownBlock = some j → w2.heap.size + 1 ≤ j := fun j e => (hown.lt j e).1
    gi_wp2_with (refine ⟨trivial, ?_⟩; gi_at_call 130)
    refine (callsIn_wide.2 (sortI_any L (w2.heap.size + 1) L.length v W hown (by omega))).mono ?_
    rintro e w3 ⟨rfl, hown3, G3⟩
    have c9' := c9.grown G3 hn9'
    have d9' := c9'.at 0 rfl
    have hM3 := hM.others (KeepsOthers.of_grownBy G3 hcW)
    have hB3 := hB.grown G3 hB.size (fun j e => by have := hvb _ e; omega)
    have hcl := cmp_len (L.mergeSort fun x y => decide (x ≤ y))
    have hml : (L.mergeSort fun x y => decide (x ≤ y)).length = L.length := List.length_mergeSort _
    have hc3 : ∀ (j : Nat) (o : Obj), v.ownBlock = some j → w3.heap[j]? = some o → o.isCells = true := fun j o e h => own_cells hown3 e h
    clear d9 c9 hown c0 c1
    gi_wp2_with (refine ⟨trivial, ?_⟩; gi_at_call 131)
    refine (callsIn_wide.2 (compactI_any (L.mergeSort fun x y => decide (x ≤ y)) (w2.heap.size + 1) L.length v w3 hown3 (by omega) hcl)).mono ?_
    rw [HSR.out]
    rintro e w4 ⟨v4, rfl, hown4, G4⟩
    have hM4 := hM3.others (KeepsOthers.of_grownBy G4 hc3)
    have hB4 := hB3.grown G4 hB3.size (fun j e => by have := hvb _ e; omega)
    gi_wp2
    refine leaves_marks ds w4 hM4 (fun W' hW' => ?_)
    refine ⟨_, results_tmp2 (t := 6) (u := 7) rfl _ _ _, ?_⟩
    obtain ⟨pv, mv, cv, rfl⟩ := own_shI hown4
    exact ⟨pv, mv, cv, rfl, own_baseI (hW'.own hown4) (by omega), hB4.trans (hW'.below.mono (by omega))⟩
end Go.Proofs.YtaclgmhinljkbaaGreatDoor
namespace Go.Proofs.YtaclgmhinljkbaaGreatDoor
open Go.RowKit Go.Sort Go.Shelf Go.Lib

/-- One graph, its edges in memory that the call made. -/
def RetG (G : Gr) (w : World) (e : Ending) (w' : World) : Prop := ∃ p m c, e = .returned (.agg #[.int .i64 G.q, .int .i64 G.n, .slice p m c]) ∧ w'.ownsRow w.heap.size 42 3 (.slice p m c) G.es.length (cat G.es) ∧ RowKit.Below w.heap.size w w'
theorem cell_new3 (W : World) (y : Ed) (t n : Nat) (hn : W.heap.size = n) : ∀ (j : Nat) (u : Value), (cat [y])[j]? = some u → (W.alloc (.cells (edE y).toArray t)).cell? ((⟨n, 0, none⟩ : Addr).add j) = some u := by
  subst hn
  intro j u hu
  rw [show (⟨W.heap.size, 0, none⟩ : Addr).add j = ⟨W.heap.size, j, none⟩ by unfold Addr.add; split <;> simp_all, (VRow.new W t (edE y)).cell]
  simpa [cat] using hu
theorem own_shape {w : World} {B e n : Nat} {v : Value} {l : List Ed} (h : w.ownsRow B e 3 v n (cat l)) : ∃ p m c, v = .slice p m c := by
  obtain ⟨p, c, h, _⟩ := own_sg h; exact ⟨p, _, c, h⟩
theorem part_stop {st : List Int} {x : Ed} (h : ¬ (x.f ∈ st ∧ x.t ∈ st)) : partE st x = none := if_neg h
theorem part_go {st : List Int} {x : Ed} (h : x.f ∈ st ∧ x.t ∈ st) : partE st x = some ⟨((st.idxOf x.f : Nat) : Int), x.l, ((st.idxOf x.t : Nat) : Int)⟩ := if_pos h
theorem idxI_neg {n : Int} {l : List Int} (h : n ∉ l) : idxI n l = -1 := if_neg h
theorem idxI_pos {n : Int} {l : List Int} (h : n ∈ l) : idxI n l = ((l.idxOf n : Nat) : Int) := if_pos h

end Go.Proofs.YtaclgmhinljkbaaGreatDoor
namespace Go.Proofs.YtaclgmhinljkbaaGreatDoor
open Go.RowKit Go.Sort Go.Shelf Go.Lib

/-- A graph and an error; its edges lie in memory that the call made. -/
def RetGo (G : Gr) (k : Int) (w : World) (e : Ending) (w' : World) : Prop := ∃ p m c, e = .returned (.tuple #[.agg #[.int .i64 G.q, .int .i64 G.n, .slice p m c], .int .i64 k]) ∧ w'.ownsRow w.heap.size 42 3 (.slice p m c) G.es.length (cat G.es) ∧ RowKit.Below w.heap.size w w'
theorem RetGo.of {G' : Gr} {k' : Int} {x : Gr × Int} {w w' : World} {p : Option Addr} {m c : Nat} (hr : x = (G', k')) (hs : w'.ownsRow w.heap.size 42 3 (.slice p m c) G'.es.length (cat G'.es)) (hB : RowKit.Below w.heap.size w w') :
    RetGo x.1 x.2 w (.returned (.tuple #[.agg #[.int .i64 G'.q, .int .i64 G'.n, .slice p m c], .int .i64 k'])) w' := by subst hr; exact ⟨p, m, c, rfl, hs, hB⟩

set_option maxRecDepth 100000 in
set_option maxHeartbeats 1000000 in
theorem gMake_own (q n : Int) (l : List Ed) (p : Option Addr) (c : Nat) (w : World) (hin : Sg 3 w edE p l) (hl : l.length ≤ 100000) :
    Calls Tryz.prog 22 #[.int .i64 q, .int .i64 n, .slice p l.length c] w (RetGo (makeA q n l).1 (makeA q n l).2 w) := by
  have hB0 : Below w.heap.size w (w.alloc (.cells #[.int .i64 0, .int .i64 0, .slice none 0 0] 29)) := (Below.refl _ _).alloc (Nat.le_refl _) _
  have b0 : VRow (w.alloc (.cells #[.int .i64 0, .int .i64 0, .slice none 0 0] 29)) w.heap.size 29 [.int .i64 0, .int .i64 0, .slice none 0 0] := VRow.new w _ _
  go_enter Tryz.func22, Tryz.ntmps22
  go_wp2_with fail
  refine (cloneE_any l p c _ (hin.below hB0) hl).mono ?_
  rintro e w1 ⟨v1, rfl, hown1, hB1⟩
  have x1 := hB0.trans (hB1.mono hB0.size)
  have b1 := b0.below hB1 (by simp)
  go_wp2_with fail
  refine (gBy_any _).mono ?_
  rintro e w2 ⟨rfl, rfl⟩
  have hown2 := hown1.alloc (.cells #[.func (.func 43) #[] #[]] 75)
  have bf2 : VRow (w1.alloc (.cells #[.func (.func 43) #[] #[]] 75)) w1.heap.size 75 [.func (.func 43) #[] #[]] := VRow.new w1 _ _
  have b2 := b1.alloc (.cells #[.func (.func 43) #[] #[]] 75)
  have x2 := x1.alloc x1.size (.cells #[.func (.func 43) #[] #[]] 75)
  have hne : v1.ownBlock ≠ some w1.heap.size := fun e => by have := (hown1.lt _ e).2; omega
  have hz0 : w.heap.size < (w.alloc (.cells #[.int .i64 0, .int .i64 0, .slice none 0 0] 29)).heap.size := b0.lt
  have HS : Hid (compact (srtE l) = norm l) := norm_sort l
  have hBz := hB1.size
  clear hB1 hB0 b0
  generalize (w.alloc (.cells #[.int .i64 0, .int .i64 0, .slice none 0 0] 29)).heap.size = B at *
  go_wp2_with fail
  refine (sortE_any l B l.length w1.heap.size v1 _ hown2 (bf2.at 0 rfl) hne hl (Nat.le_trans hBz (by simp))).mono ?_
  rintro e w3 ⟨rfl, hown3, hB3⟩
  have x3 := x2.trans (hB3.mono (Nat.le_of_lt hz0))
  have b3 := b2.below hB3 hz0
  have hBz3 : B ≤ w3.heap.size := Nat.le_trans hBz (Nat.le_trans (by simp) hB3.size)
  clear hown2 bf2 b2 hne hown1
  go_wp2_with fail
  refine (compactE_any (srtE l) B l.length v1 _ hown3 hl hBz3).mono ?_
  rw [HS.out]
  rintro e w4 ⟨v4, rfl, hown4, hB4⟩
  have x4 := x3.trans (hB4.mono (Nat.le_of_lt hz0))
  have b4 := b3.below hB4 hz0
  obtain ⟨p4, c4, rfl, hs4, hc4, _⟩ := own_sg hown4
  have f0 := b4.at 0 rfl; have f1 := b4.at 1 rfl; have f2 := b4.at 2 rfl
  have hfz := fun j => b4.frozen j
  have hz4 := b4.lt
  have hw5 : Sg 3 (w4.alloc (.cells #[.int .i64 (⟨q, n, norm l⟩ : Gr).q, .int .i64 (⟨q, n, norm l⟩ : Gr).n, .slice p4 (⟨q, n, norm l⟩ : Gr).es.length c4] 29)) edE p4 (norm l) := hs4.below ((Below.refl _ _).alloc (Nat.le_refl _) _)
  have hln : (norm l).length ≤ 100000 := by
    have := compact_len (srtE l); rw [HS.out, srtE_len] at this; omega
  obtain ⟨r, hr⟩ : ∃ r, chkG ⟨q, n, norm l⟩ = r := ⟨_, rfl⟩
  have b4' : VRow (w4.alloc (.cells #[.int .i64 (⟨q, n, norm l⟩ : Gr).q, .int .i64 (⟨q, n, norm l⟩ : Gr).n, .slice p4 (⟨q, n, norm l⟩ : Gr).es.length c4] 29)) w.heap.size 29 [.int .i64 0, .int .i64 0, .slice none 0 0] := b4.alloc _
  have c4' : VRow (w4.alloc (.cells #[.int .i64 (⟨q, n, norm l⟩ : Gr).q, .int .i64 (⟨q, n, norm l⟩ : Gr).n, .slice p4 (⟨q, n, norm l⟩ : Gr).es.length c4] 29)) w4.heap.size 29 [.int .i64 (⟨q, n, norm l⟩ : Gr).q, .int .i64 (⟨q, n, norm l⟩ : Gr).n, .slice p4 (⟨q, n, norm l⟩ : Gr).es.length c4] := VRow.new w4 _ _
  have x4' := x4.alloc x4.size (.cells #[.int .i64 (⟨q, n, norm l⟩ : Gr).q, .int .i64 (⟨q, n, norm l⟩ : Gr).n, .slice p4 (⟨q, n, norm l⟩ : Gr).es.length c4] 29)
  have hL : Hid ((norm l).length ≤ c4) := hc4
  by_cases hr0 : r = 0
  · subst hr0
    have HR := hidI (makeA_ok hr)
    go_wp2_with fail
    refine (gCheck_r ⟨q, n, norm l⟩ p4 c4 _ 0 hr hw5 (by show (norm l).length ≤ _; omega)).mono ?_
    rintro e w5 ⟨rfl, hB5⟩
    have x5 := x4'.trans (hB5.mono x4'.size)
    have b5 := b4'.below hB5 b4'.lt
    have c5 := c4'.below hB5 c4'.lt
    have o5 := (hown4.alloc (.cells #[.int .i64 (⟨q, n, norm l⟩ : Gr).q, .int .i64 (⟨q, n, norm l⟩ : Gr).n, .slice p4 (⟨q, n, norm l⟩ : Gr).es.length c4] 29)).below hB5
    have g0 := c5.at 0 rfl; have g1 := c5.at 1 rfl; have g2 := c5.at 2 rfl
    have k0 := b5.at 0 rfl; have k1 := b5.at 1 rfl; have k2 := b5.at 2 rfl
    have z0 := b5.frozen 0; have z1 := b5.frozen 1; have z2 := b5.frozen 2
    clear f0 f1 f2 hfz hr
    go_wp2
    have r6 := VRow.set (i := 2) (.slice p4 (norm l).length c4) (VRow.set (i := 1) (.int .i64 n) (VRow.set (i := 0) (.int .i64 q) b5))
    have y0 := r6.at 0 rfl; have y1 := r6.at 1 rfl; have y2 := r6.at 2 rfl
    have o6 := ownsRow_setCell_below (a := ⟨w.heap.size, 2, none⟩) (ownsRow_setCell_below (a := ⟨w.heap.size, 1, none⟩) (ownsRow_setCell_below (a := ⟨w.heap.size, 0, none⟩) o5 hz0 (.int .i64 q)) hz0 (.int .i64 n)) hz0 (.slice p4 (norm l).length c4)
    have x6 : Below w.heap.size w (((w5.setCell ⟨w.heap.size, 0, none⟩ (.int .i64 q)).setCell ⟨w.heap.size, 1, none⟩ (.int .i64 n)).setCell ⟨w.heap.size, 2, none⟩ (.slice p4 (norm l).length c4)) := ((x5.setCell (Nat.le_refl _) _).setCell (Nat.le_refl _) _).setCell (Nat.le_refl _) _
    refine bodyPost_ret (v := .tuple #[.agg #[.int .i64 q, .int .i64 n, .slice p4 (norm l).length c4], .int .i64 0]) (by simp [results, Tryz.results22, go_sem, y0, y1, y2]) rfl ?_
    exact RetGo.of HR.out (own_conv o6 rfl (Nat.le_of_lt hz0)) x6
  · have hrb : (r == 0) = false := by simpa using hr0
    have HR := hidI (makeA_bad (by rw [hr]; exact hr0))
    rw [hr] at HR
    go_wp2_with fail
    refine (gCheck_r ⟨q, n, norm l⟩ p4 c4 _ r hr hw5 (by show (norm l).length ≤ _; omega)).mono ?_
    rintro e w5 ⟨rfl, hB5⟩
    have x5 := x4'.trans (hB5.mono x4'.size)
    have b5 := b4'.below hB5 b4'.lt
    have o5 := (hown4.alloc (.cells #[.int .i64 (⟨q, n, norm l⟩ : Gr).q, .int .i64 (⟨q, n, norm l⟩ : Gr).n, .slice p4 (⟨q, n, norm l⟩ : Gr).es.length c4] 29)).below hB5
    have k0 := b5.at 0 rfl; have k1 := b5.at 1 rfl; have k2 := b5.at 2 rfl
    have z0 := b5.frozen 0; have z1 := b5.frozen 1; have z2 := b5.frozen 2
    clear f0 f1 f2 hfz hr
    go_wp2
    have r6 := VRow.set (i := 2) (.slice none 0 0) (VRow.set (i := 1) (.int .i64 0) (VRow.set (i := 0) (.int .i64 0) b5))
    have y0 := r6.at 0 rfl; have y1 := r6.at 1 rfl; have y2 := r6.at 2 rfl
    have o6 := ownsRow_setCell_below (a := ⟨w.heap.size, 2, none⟩) (ownsRow_setCell_below (a := ⟨w.heap.size, 1, none⟩) (ownsRow_setCell_below (a := ⟨w.heap.size, 0, none⟩) o5 hz0 (.int .i64 0)) hz0 (.int .i64 0)) hz0 (.slice none 0 0)
    have x6 : Below w.heap.size w (((w5.setCell ⟨w.heap.size, 0, none⟩ (.int .i64 0)).setCell ⟨w.heap.size, 1, none⟩ (.int .i64 0)).setCell ⟨w.heap.size, 2, none⟩ (.slice none 0 0)) := ((x5.setCell (Nat.le_refl _) _).setCell (Nat.le_refl _) _).setCell (Nat.le_refl _) _
    refine bodyPost_ret (v := .tuple #[.agg #[.int .i64 0, .int .i64 0, .slice none 0 0], .int .i64 r]) (by simp [results, Tryz.results22, go_sem, y0, y1, y2]) rfl ?_
    exact RetGo.of (G' := ⟨0, 0, []⟩) HR.out (World.ownsRow_nil _ _ _ _) x6
end Go.Proofs.YtaclgmhinljkbaaGreatDoor
namespace Go.Proofs.YtaclgmhinljkbaaGreatDoor
open Go.RowKit Go.Sort Go.Shelf Go.Lib

def rvE (x : Ed) : Ed := ⟨x.t, x.l, x.f⟩
/-- The graph with all edges turned around, and the error. -/
def revA (G : Gr) : Gr × Int := if chkG G = 0 then makeA G.q G.n (G.es.map rvE) else (⟨0, 0, []⟩, 1)
theorem rv_snoc (l : List Ed) (k : Nat) (h : k < l.length) : (l.take (k + 1)).map rvE = (l.take k).map rvE ++ [⟨l[k].t, l[k].l, l[k].f⟩] := by
  rw [List.take_succ_eq_append_getElem h, List.map_append]; rfl
theorem sg_len {w : World} {p : Option Addr} {l : List Ed} {B e n : Nat} {p' : Option Addr} {m c : Nat} (h : w.ownsRow B e 3 (.slice p m c) n (cat l)) : m = l.length ∧ Sg 3 w edE p l := by
  obtain ⟨q, d, hv, hs, _, _⟩ := own_sg h
  cases hv
  exact ⟨rfl, hs⟩

end Go.Proofs.YtaclgmhinljkbaaGreatDoor
namespace Go.Proofs.YtaclgmhinljkbaaGreatDoor
open Go.RowKit Go.Sort Go.Shelf Go.Lib

theorem binI_any (l : List Int) (p : Option Addr) (c : Nat) (x : Int) (w : World) (hp : Sl w (Value.int .i64) p l) (hs : l.Pairwise (· < ·)) (hl : l.length ≤ 100000) :
    Calls Tryz.prog 45 #[.slice p l.length c, .int .i64 x] w fun e w' => (∃ i : Int, e = .returned (.tuple #[.int .i64 i, .bool (decide (x ∈ l))]) ∧ (x ∈ l → i = ((l.idxOf x : Nat) : Int))) ∧ Dr w w' := by
  rcases Nat.eq_zero_or_pos l.length with h0 | h0
  · have : l = [] := List.length_eq_zero_iff.1 h0
    subst this
    refine (Tryz.slices_BinarySearch_int_empty p c x w).mono ?_
    rintro e w' ⟨rfl, rfl⟩
    exact ⟨⟨0, by simp, by simp⟩, Dr.refl _⟩
  · obtain ⟨b, off, rfl, hb, hc⟩ := hp.get 0 h0
    refine (Tryz.slices_BinarySearch_int b off l.length c l x w (Nat.le_refl _) (by omega) (fun j hj => by rw [hc j hj, List.getD_eq_getElem?_getD, List.getElem?_eq_getElem hj]; rfl) (by rw [List.take_length]; exact hs.imp (fun h => by omega))).mono ?_
    rintro e w' ⟨rfl, hD⟩
    rw [List.take_length]
    refine ⟨⟨((l.countP (· < x) : Nat) : Int), ?_, fun hm => congrArg Int.ofNat (countP_idxOf hs hm)⟩, hD⟩
    rw [show l.contains x = decide (x ∈ l) by rw [Bool.eq_iff_iff]; simp]

set_option maxRecDepth 100000 in
set_option maxHeartbeats 2000000 in
theorem gkeep_any (G : Gr) (p : Option Addr) (c : Nat) (st : List Int) (q : Option Addr) (d : Nat) (w : World) (hin : Sg 3 w edE p G.es) (hst : Sl w (Value.int .i64) q st) (hl : G.es.length ≤ 10000) (hs : st.length ≤ 100000) (hso : st.Pairwise (· < ·)) :
    Calls Tryz.prog 48 #[(.agg #[.int .i64 G.q, .int .i64 G.n, .slice p G.es.length c]), .slice q st.length d] w (RetG (partA G st) w) := by
  have HIN := hidI hin; have HST := hidI hst; have HSO := hidI hso
  obtain ⟨i0, hi0, hz0, hz1, hz2⟩ := info_parts infoE
  clear hin hst hso
  obtain ⟨w0, hw0⟩ : ∃ w0, w0 = ((w.alloc (.cells #[.int .i64 G.q, .int .i64 G.n, .slice p G.es.length c] 29)).alloc (.cells #[.int .i64 0, .int .i64 0, .slice none 0 0] 29)).alloc (.cells #[.int .i64 G.q, .int .i64 st.length, .slice none 0 0] 29) := ⟨_, rfl⟩
  have b0 : VRow w0 w.heap.size 29 [.int .i64 G.q, .int .i64 G.n, .slice p G.es.length c] := by subst hw0; exact ((VRow.new w _ _).alloc _).alloc _
  have b1 : VRow w0 (w.heap.size + 1) 29 [.int .i64 0, .int .i64 0, .slice none 0 0] := by subst hw0; exact (VRow.new1 w _ _ _).alloc _
  have b2 : VRow w0 (w.heap.size + 1 + 1) 29 [.int .i64 G.q, .int .i64 st.length, .slice none 0 0] := by subst hw0; exact VRow.new2 w _ _ _ _
  have hB0 : Below w.heap.size w w0 := by subst hw0; exact (((Below.refl _ _).alloc (Nat.le_refl _) _).alloc (by simp) _).alloc (by simp; omega) _
  have hsz0 : w0.heap.size = w.heap.size + 1 + 1 + 1 := by subst hw0; simp
  go_enter Tryz.func48, Tryz.ntmps48
  go_wp2
  rw [← hw0]
  clear hw0
  go_loopw [20] (fun iv wr => ∃ (k : Nat) (v : Value), k ≤ G.es.length ∧ iv = .int .i64 k ∧ VRow wr w.heap.size 29 [.int .i64 G.q, .int .i64 G.n, .slice p G.es.length c] ∧ VRow wr (w.heap.size + 1) 29 [.int .i64 0, .int .i64 0, .slice none 0 0] ∧ VRow wr (w.heap.size + 1 + 1) 29 [.int .i64 G.q, .int .i64 st.length, v] ∧
      wr.ownsRow (w.heap.size + 1 + 1 + 1) 42 3 v ((G.es.take k).filterMap (partE st)).length (cat ((G.es.take k).filterMap (partE st))) ∧ Below w.heap.size w wr ∧ w.heap.size + 1 + 1 + 1 ≤ wr.heap.size) (fun iv _ => G.es.length - (intOf iv).toNat)
  case atStart => exact ⟨0, _, by omega, rfl, b0, b1, b2, World.ownsRow_nil _ _ _ _, hB0, by omega⟩
  case round =>
    obtain ⟨k, v, hk, rfl, c0, c1, c2, hown, hB, hge⟩ := hrel
    have f2 := c0.at 2 rfl
    by_cases hlt : k < G.es.length
    · obtain ⟨b3, o3, rfl, hb3, e0, e1, e2⟩ := (HIN.out.below hB).get3 k hlt rfl
      have hSN := hidI (partE_snoc st G.es k hlt)
      have hML : ((G.es.take k).filterMap (partE st)).length ≤ k := Nat.le_trans (List.length_filterMap_le _ _) (by rw [List.length_take]; omega)
      generalize (G.es.take k).filterMap (partE st) = M at *
      generalize hx : G.es[k] = x at *
      have HS1 : Sl (wr.alloc (.cells #[.int .i64 x.f, .int .i64 x.l, .int .i64 x.t] 42)) (Value.int .i64) q st := HST.out.below (hB.alloc hB.size _)
      have y0 : VRow (wr.alloc (.cells #[.int .i64 x.f, .int .i64 x.l, .int .i64 x.t] 42)) wr.heap.size 42 (edE x) := VRow.new wr _ _
      have hown1 := hown.alloc (.cells #[.int .i64 x.f, .int .i64 x.l, .int .i64 x.t] 42)
      have d0 := c0.alloc (.cells #[.int .i64 x.f, .int .i64 x.l, .int .i64 x.t] 42)
      have d1 := c1.alloc (.cells #[.int .i64 x.f, .int .i64 x.l, .int .i64 x.t] 42)
      have d2 := c2.alloc (.cells #[.int .i64 x.f, .int .i64 x.l, .int .i64 x.t] 42)
      have hB1 := hB.alloc hB.size (.cells #[.int .i64 x.f, .int .i64 x.l, .int .i64 x.t] 42)
      have hsz1 : (wr.alloc (.cells #[.int .i64 x.f, .int .i64 x.l, .int .i64 x.t] 42)).heap.size = wr.heap.size + 1 := World.size_alloc _ _
      go_wp2_with fail
      generalize (wr.alloc (.cells #[.int .i64 x.f, .int .i64 x.l, .int .i64 x.t] 42)) = W1 at *
      have g0 := y0.at 0 rfl; have g1 := y0.at 1 rfl; have g2 := y0.at 2 rfl
      have k0 := d2.at 0 rfl; have k1 := d2.at 1 rfl; have k2 := d2.at 2 rfl; have kf := d2.frozen 2
      clear e0 e1 e2 f2
      refine (binI_any st q d x.f W1 HS1 HSO.out hs).mono ?_
      rintro e wa ⟨⟨i, rfl, hi⟩, hDa⟩
      have HS2 := HS1.dr hDa
      have y1 := y0.dr hDa
      have l2 := y1.at 2 rfl
      have g2 := y1.at 2 rfl
      clear g0 g1 k0 k1 k2 kf
      go_wp2_with fail
      refine (binI_any st q d x.t wa HS2 HSO.out hs).mono ?_
      rintro e W2 ⟨⟨j, rfl, hj⟩, hDb⟩
      have hD := hDa.trans hDb
      have y2 := y0.dr hD
      have g1 := y2.at 1 rfl
      have hownq := hown1.dr hD
      have hq0 := d0.dr hD
      have hq1 := d1.dr hD
      have hq2 := d2.dr hD
      have hBq := hB1.trans (hD.below _)
      have hszq : W2.heap.size = wr.heap.size + 1 := by rw [hD.size]; exact hsz1
      have kk2 := hq2.at 2 rfl
      clear d0 d1 d2 hown1 hB1 hsz1 HS1 HS2 y0 y1 y2 hDa hDb hD l2 g2
      by_cases hm : x.f ∈ st ∧ x.t ∈ st
      · have HSN : Hid (List.filterMap (partE st) (G.es.take (k + 1)) = M ++ [⟨i, x.l, j⟩]) := by rw [Hid, hSN.out, part_go hm, hi hm.1, hj hm.2]
        have m1 : decide (x.f ∈ st) = true := decide_eq_true hm.1
        have m2 : decide (x.t ∈ st) = true := decide_eq_true hm.2
        rw [m1, m2]
        clear hSN hi hj hm m1 m2
        have hnew := cell_new3 W2 ⟨i, x.l, j⟩ 42 (wr.heap.size + 1) hszq
        have hownA := hownq.alloc (.cells (edE ⟨i, x.l, j⟩).toArray 42)
        have hBA := hBq.alloc hBq.size (.cells (edE ⟨i, x.l, j⟩).toArray 42)
        have p0 := hq0.alloc (.cells (edE ⟨i, x.l, j⟩).toArray 42)
        have p1 := hq1.alloc (.cells (edE ⟨i, x.l, j⟩).toArray 42)
        have p2 := hq2.alloc (.cells (edE ⟨i, x.l, j⟩).toArray 42)
        have hne : ∀ j, v.ownBlock = some j → w.heap.size + 1 + 1 + 1 ≤ j := fun j e => (hownq.lt j e).1
        go_wp2_with (at_builtin; refine wpList_append_own _ rfl _ _ 27 rfl (w.heap.size + 1 + 1 + 1) 42 i0 _ 3 24 Tryz.underlying27 hi0 hz0 hz1 hz2 rfl (by decide) _ _ _ rfl hownA ⟨wr.heap.size + 1, 0, none⟩ 1 1 (cat [⟨i, x.l, j⟩]) rfl rfl hnew (cat_one _) (by simp [maxLen]; omega) (by omega) (by rw [World.size_alloc, hszq]; omega) ?_; intro v' w1 hown' hgrow _; rw [← cat_app] at hown'; obtain ⟨pv, mv, cv, rfl⟩ := own_shape hown'; have r2 := VRow.grown p2 hgrow (fun e => by have := hne _ e.symm; omega); have z2 := r2.frozen 2; have s2 := r2.at 2 rfl)
        have hr0 := VRow.other (i := 2) (.slice pv mv cv) (p0.grown hgrow (fun e => by have := hne _ e.symm; omega)) (C := w.heap.size + 1 + 1) (by omega)
        have hr1 := VRow.other (i := 2) (.slice pv mv cv) (p1.grown hgrow (fun e => by have := hne _ e.symm; omega)) (C := w.heap.size + 1 + 1) (by omega)
        have hBf : RowKit.Below w.heap.size w (w1.setCell (⟨w.heap.size + 1 + 1, 2, none⟩ : Addr) (.slice pv mv cv)) := (hBA.grown hgrow (Nat.le_trans hBq.size (by simp)) (fun j e => by have := hne _ e; omega)).setCell (show w.heap.size ≤ w.heap.size + 1 + 1 by omega) _
        go_roundw
        case rel =>
          refine ⟨k + 1, _, by omega, by go_num, hr0, hr1, VRow.set (i := 2) _ r2, ?_, hBf, ?_⟩
          · rw [HSN.out]
            exact ownsRow_setCell_below (a := (⟨w.heap.size + 1 + 1, 2, none⟩ : Addr)) (own_conv hown' rfl (Nat.le_refl _)) (show w.heap.size + 1 + 1 < w.heap.size + 1 + 1 + 1 by omega) _
          · rw [World.size_setCell]; have := hgrow.size; rw [World.size_alloc] at this; omega
        case measure => simp [intOf]; omega
      · have HSN : Hid (List.filterMap (partE st) (G.es.take (k + 1)) = M) := by rw [Hid, hSN.out, part_stop hm]; simp
        have hor : decide (x.f ∈ st) = false ∨ (decide (x.f ∈ st) = true ∧ decide (x.t ∈ st) = false) := by
          by_cases h1 : x.f ∈ st
          · exact .inr ⟨decide_eq_true h1, decide_eq_false (fun h2 => hm ⟨h1, h2⟩)⟩
          · exact .inl (decide_eq_false h1)
        clear hSN hm hi hj
        generalize decide (x.f ∈ st) = b1 at *
        generalize decide (x.t ∈ st) = b2 at *
        rcases hor with rfl | ⟨rfl, rfl⟩
        all_goals
          go_wp2_with fail
          go_roundw
          case rel =>
            refine ⟨k + 1, v, by omega, by go_num, hq0, hq1, hq2, ?_, hBq, by omega⟩
            rw [HSN.out]; exact hownq
          case measure => simp [intOf]; omega
    · obtain rfl : k = G.es.length := by omega
      rw [List.take_length] at hown
      have k0 := c2.at 0 rfl; have k1 := c2.at 1 rfl; have k2 := c2.at 2 rfl
      have j0 := c1.at 0 rfl; have j1 := c1.at 1 rfl; have j2 := c1.at 2 rfl
      have z0 := c1.frozen 0; have z1 := c1.frozen 1; have z2 := c1.frozen 2
      obtain ⟨pv, mv, cv, rfl⟩ := own_shape hown
      go_wp2
      have r6 := VRow.set (i := 2) (.slice pv mv cv) (VRow.set (i := 1) (.int .i64 st.length) (VRow.set (i := 0) (.int .i64 G.q) c1))
      have y0 := r6.at 0 rfl; have y1 := r6.at 1 rfl; have y2 := r6.at 2 rfl
      have hz0 : w.heap.size + 1 < w.heap.size + 1 + 1 + 1 := by omega
      have o6 := ownsRow_setCell_below (a := (⟨w.heap.size + 1, 2, none⟩ : Addr)) (ownsRow_setCell_below (a := (⟨w.heap.size + 1, 1, none⟩ : Addr)) (ownsRow_setCell_below (a := (⟨w.heap.size + 1, 0, none⟩ : Addr)) hown hz0 (.int .i64 G.q)) hz0 (.int .i64 st.length)) hz0 (.slice pv mv cv)
      have x6 : RowKit.Below w.heap.size w (((wr.setCell (⟨w.heap.size + 1, 0, none⟩ : Addr) (.int .i64 G.q)).setCell (⟨w.heap.size + 1, 1, none⟩ : Addr) (.int .i64 st.length)).setCell (⟨w.heap.size + 1, 2, none⟩ : Addr) (.slice pv mv cv)) :=
        ((hB.setCell (show w.heap.size ≤ w.heap.size + 1 by omega) _).setCell (show w.heap.size ≤ w.heap.size + 1 by omega) _).setCell (show w.heap.size ≤ w.heap.size + 1 by omega) _
      refine bodyPost_ret (v := .agg #[.int .i64 G.q, .int .i64 st.length, .slice pv mv cv]) (by simp [results, Tryz.results48, go_sem, y0, y1, y2]) rfl ?_
      exact ⟨_, _, _, rfl, own_conv o6 rfl (by omega), x6⟩
end Go.Proofs.YtaclgmhinljkbaaGreatDoor
namespace Go.Proofs.YtaclgmhinljkbaaGreatDoor
open Go.RowKit Go.Sort Go.Shelf Go.Lib

/-- The part on a set, and the error. -/
def keepA (G : Gr) (st : List Int) : Gr × Int := if chkG G = 0 then (if chkS G.n none st = 0 then (partA G st, 0) else (⟨0, 0, []⟩, chkS G.n none st)) else (⟨0, 0, []⟩, 1)

end Go.Proofs.YtaclgmhinljkbaaGreatDoor
namespace Go.Proofs.YtaclgmhinljkbaaGreatDoor
open Go.RowKit

/-! ### Graphs turned around -/
theorem norm_le (l : List Ed) : (norm l).length ≤ l.length := by
  rw [← norm_sort]; exact Nat.le_trans (compact_len _) (by simp)
theorem mem_rv {es : List Ed} {x : Ed} : x ∈ es.map rvE ↔ rvE x ∈ es := by
  rw [List.mem_map]
  constructor
  · rintro ⟨y, hy, rfl⟩; exact hy
  · intro h; exact ⟨rvE x, h, rfl⟩
theorem vg_make {q n : Int} {l : List Ed} (h1 : 1 ≤ q) (h2 : q ≤ 256) (h3 : 0 ≤ n) (h4 : n ≤ 64) (hl : l.length ≤ 1024) (hi : ∀ x ∈ l, 0 ≤ x.f ∧ 0 ≤ x.l ∧ 0 ≤ x.t ∧ x.f < n ∧ x.t < n ∧ x.l < q) : Vg ⟨q, n, norm l⟩ :=
  ⟨h1, h2, h3, h4, Nat.le_trans (norm_le l) hl, fun x hx => hi x (mem_norm.1 hx), norm_srt l⟩
theorem vg_rev {G : Gr} (h : Vg G) : Vg ⟨G.q, G.n, norm (G.es.map rvE)⟩ :=
  vg_make h.q1 h.q2 h.n1 h.n2 (by rw [List.length_map]; exact h.len) (fun x hx => by have := h.ins _ (mem_rv.1 hx); simp only [rvE] at this; omega)
theorem revA_ok {G : Gr} (h : Vg G) : revA G = (⟨G.q, G.n, norm (G.es.map rvE)⟩, 0) := by
  unfold revA; rw [if_pos (chkG_ok.2 h)]; exact makeA_ok (chkG_ok.2 (vg_rev h))
theorem rev_rev {G : Gr} (h : Vg G) : revA ⟨G.q, G.n, norm (G.es.map rvE)⟩ = (G, 0) := by
  rw [revA_ok (vg_rev h)]
  have : norm ((norm (G.es.map rvE)).map rvE) = G.es := (norm_eq h.srt (fun x => by rw [mem_rv, mem_norm, mem_rv]; exact Iff.rfl)).symm
  show ((⟨G.q, G.n, norm ((norm (G.es.map rvE)).map rvE)⟩ : Gr), (0:Int)) = _
  rw [this]
theorem rev_step {G : Gr} (h : Vg G) (s t b : Int) : (t ∈ nextA G [s] b ↔ s ∈ nextA ⟨G.q, G.n, norm (G.es.map rvE)⟩ [t] b) := by
  rw [mem_nextA h, mem_nextA (vg_rev h)]
  constructor
  · rintro ⟨x, hx, h1, h2, h3⟩
    rw [List.mem_singleton] at h3
    exact ⟨rvE x, mem_norm.2 (mem_rv.2 hx), h3, h2, by simp [rvE, h1]⟩
  · rintro ⟨x, hx, h1, h2, h3⟩
    rw [List.mem_singleton] at h3
    exact ⟨rvE x, mem_rv.1 (mem_norm.1 hx), h3, h2, by simp [rvE, h1]⟩

/-! ### Sets of states -/
theorem chkS_of {n : Int} : ∀ {l : List Int} {p : Option Int}, l.Pairwise (· < ·) → (∀ x ∈ l, 0 ≤ x ∧ x < n) → (∀ q, p = some q → ∀ x ∈ l, q < x) → chkS n p l = 0
  | [], _, _, _, _ => rfl
  | s :: l, p, h1, h2, h3 => by
    obtain ⟨a, b⟩ := List.pairwise_cons.1 h1
    have hp : ¬ leP p s = true := by
      cases p with
      | none => simp [leP]
      | some q => have := h3 q rfl s List.mem_cons_self; simp [leP]; omega
    rw [chkS_cons, if_neg (by have := h2 s List.mem_cons_self; omega), if_neg hp]
    exact chkS_of b (fun x hx => h2 x (List.mem_cons_of_mem _ hx)) (fun q hq x hx => by cases hq; exact a x hx)
theorem stepA_one {G : Gr} (h : Vg G) {s b : Int} (h1 : 0 ≤ s) (h2 : s < G.n) (h3 : 0 ≤ b) (h4 : b < G.q) : stepA G [s] b = (nextA G [s] b, 0) := by
  unfold stepA
  rw [if_pos (chkG_ok.2 h), if_pos (chkS_of (by simp) (by simp [h1, h2]) (by simp)), if_neg (by omega)]
/-- A set of states. -/
structure St (n : Int) (l : List Int) : Prop where
  srt : l.Pairwise (· < ·)
  ins : ∀ x ∈ l, 0 ≤ x ∧ x < n
theorem St.chk {n : Int} {l : List Int} (h : St n l) : chkS n none l = 0 := chkS_of h.srt h.ins (by simp)
theorem St.eq {n : Int} {l : List Int} (h : St n l) : l = (upto n.toNat).filter (fun x => decide (x ∈ l)) :=
  srt_unique h.srt ((upto_srt _).filter _) (fun x => by
    rw [List.mem_filter, mem_upto, decide_eq_true_eq]
    exact ⟨fun hx => ⟨by have := h.ins x hx; omega, hx⟩, fun hx => hx.2⟩)
theorem St.len {n : Int} {l : List Int} (h : St n l) (hn : 0 ≤ n) : (l.length : Int) ≤ n := by
  have := List.length_filter_le (fun x => decide (x ∈ l)) (upto n.toNat)
  rw [← h.eq, upto_len] at this
  omega
theorem St.upto {n : Int} (hn : 0 ≤ n) : St n (upto n.toNat) := ⟨upto_srt _, fun x hx => by rw [mem_upto] at hx; omega⟩
theorem St.filter {n : Int} {l : List Int} (h : St n l) (p : Int → Bool) : St n (l.filter p) := ⟨h.srt.filter _, fun x hx => h.ins x (List.mem_filter.1 hx).1⟩
theorem iof_lt {x : Int} {l : List Int} (h : x ∈ l) : l.idxOf x < l.length := List.idxOf_lt_length_iff.2 h
theorem iof_get {x : Int} {l : List Int} (h : x ∈ l) : l[l.idxOf x]'(iof_lt h) = x := List.getElem_idxOf (iof_lt h)
theorem iof_mono {x y : Int} {l : List Int} (hs : l.Pairwise (· < ·)) (hx : x ∈ l) (hy : y ∈ l) (h : x < y) : l.idxOf x < l.idxOf y := by
  rcases Nat.lt_or_ge (l.idxOf x) (l.idxOf y) with h' | h'
  · exact h'
  · have ex := iof_get hx; have ey := iof_get hy
    by_cases e : l.idxOf y = l.idxOf x
    · have : y = x := by rw [← ex, ← ey]; congr 1
      omega
    · have := List.pairwise_iff_getElem.1 hs _ _ (iof_lt hy) (iof_lt hx) (by omega)
      rw [ex, ey] at this; omega
theorem iof_inj {x y : Int} {l : List Int} (hx : x ∈ l) (hy : y ∈ l) (h : l.idxOf x = l.idxOf y) : x = y := by
  rw [← iof_get hx, ← iof_get hy]; congr 1
theorem upto_get {n i : Nat} (h : i < (upto n).length) : (upto n)[i] = (i : Int) := by simp [Go.Proofs.YtaclgmhinljkbaaGreatDoor.upto]
theorem iof_upto {n : Nat} {x : Int} (h0 : 0 ≤ x) (h1 : x < n) : (((upto n).idxOf x : Nat) : Int) = x := by
  have hm : x ∈ upto n := mem_upto.2 ⟨h0, h1⟩
  have e := iof_get hm
  have hl := iof_lt hm
  have e2 := upto_get hl
  omega

/-! ### Parts -/
theorem fm_congr {f g : Ed → Option Ed} : ∀ {l : List Ed}, (∀ x ∈ l, f x = g x) → l.filterMap f = l.filterMap g
  | [], _ => rfl
  | x :: l, h => by
    rw [List.filterMap_cons, List.filterMap_cons, h x List.mem_cons_self, fm_congr (fun y hy => h y (List.mem_cons_of_mem _ hy))]
theorem partE_some {st : List Int} {x y : Ed} (h : partE st x = some y) : x.f ∈ st ∧ x.t ∈ st ∧ y = ⟨((st.idxOf x.f : Nat) : Int), x.l, ((st.idxOf x.t : Nat) : Int)⟩ := by
  unfold partE at h
  split at h
  · rename_i hh; cases h; exact ⟨hh.1, hh.2, rfl⟩
  · cases h
theorem part_vg {G : Gr} (h : Vg G) {st : List Int} (hs : St G.n st) : Vg (partA G st) := by
  have hl := hs.len h.n1
  have h2 := h.n2
  refine ⟨h.q1, h.q2, by show (0:Int) ≤ (st.length : Int); omega, by show (st.length : Int) ≤ 64; omega, Nat.le_trans (partE_len _ _) h.len, fun y hy => ?_, ?_⟩
  · obtain ⟨x, hx, e⟩ := List.mem_filterMap.1 hy
    obtain ⟨a, b, rfl⟩ := partE_some e
    have := h.ins x hx
    have := iof_lt a; have := iof_lt b
    show (0:Int) ≤ ((st.idxOf x.f : Nat) : Int) ∧ 0 ≤ x.l ∧ (0:Int) ≤ ((st.idxOf x.t : Nat) : Int) ∧ ((st.idxOf x.f : Nat) : Int) < (st.length : Int) ∧ ((st.idxOf x.t : Nat) : Int) < (st.length : Int) ∧ x.l < G.q
    omega
  · refine h.srt.filterMap _ (fun x x' hlt y hy y' hy' => ?_)
    obtain ⟨a, b, rfl⟩ := partE_some hy
    obtain ⟨a', b', rfl⟩ := partE_some hy'
    rw [ltE_iff] at hlt ⊢
    show ((st.idxOf x.f : Nat) : Int) < ((st.idxOf x'.f : Nat) : Int) ∨ (((st.idxOf x.f : Nat) : Int) = ((st.idxOf x'.f : Nat) : Int) ∧ (x.l < x'.l ∨ (x.l = x'.l ∧ ((st.idxOf x.t : Nat) : Int) < ((st.idxOf x'.t : Nat) : Int))))
    rcases hlt with h1 | ⟨h1, h2 | ⟨h2, h3⟩⟩
    · have := iof_mono hs.srt a a' h1; omega
    · rw [h1]; exact .inr ⟨rfl, .inl h2⟩
    · have := iof_mono hs.srt b b' h3
      rw [h1]; exact .inr ⟨rfl, .inr ⟨h2, by omega⟩⟩
theorem part_all {G : Gr} (h : Vg G) : partA G (upto G.n.toNat) = G := by
  have h1 := h.n1
  have : G.es.filterMap (partE (upto G.n.toNat)) = G.es := by
    have hc : ∀ x ∈ G.es, partE (upto G.n.toNat) x = some x := fun x hx => by
      have := h.ins x hx
      unfold partE
      rw [if_pos ⟨mem_upto.2 (by omega), mem_upto.2 (by omega)⟩, iof_upto (by omega) (by omega), iof_upto (by omega) (by omega)]
    rw [fm_congr hc]; simp
  unfold partA
  rw [this, upto_len]
  cases G; simp at h1 ⊢; omega
theorem iof_map {f : Int → Int} {i : Int} : ∀ {l : List Int}, (∀ j ∈ l, f j = f i → j = i) → (l.map f).idxOf (f i) = l.idxOf i
  | [], _ => rfl
  | y :: l, h => by
    rw [List.map_cons, List.idxOf_cons, List.idxOf_cons, iof_map (fun j hj => h j (List.mem_cons_of_mem _ hj))]
    by_cases e : y = i
    · subst e; simp
    · have : f y ≠ f i := fun e' => e (h y List.mem_cons_self e')
      rw [show (f y == f i) = false by simpa using this, show (y == i) = false by simpa using e]
/-- The states that numbers of states of a part stand for. -/
def bothA (st inner : List Int) : List Int := inner.map (fun i => st.getD i.toNat 0)
theorem both_get {st : List Int} {i : Int} (h0 : 0 ≤ i) (h1 : i < st.length) : st.getD i.toNat 0 = st[i.toNat]'(by omega) := by
  rw [List.getD_eq_getElem?_getD, List.getElem?_eq_getElem (by omega)]; rfl
theorem both_iff {st inner : List Int} (hs : st.Pairwise (· < ·)) (hi : ∀ i ∈ inner, 0 ≤ i ∧ i < st.length) (x : Int) : x ∈ bothA st inner ↔ x ∈ st ∧ ((st.idxOf x : Nat) : Int) ∈ inner := by
  unfold bothA
  rw [List.mem_map]
  constructor
  · rintro ⟨i, hm, rfl⟩
    obtain ⟨h0, h1⟩ := hi i hm
    rw [both_get h0 h1]
    have hmem : st[i.toNat]'(by omega) ∈ st := List.getElem_mem _
    refine ⟨hmem, ?_⟩
    have e := iof_get hmem
    have hl := iof_lt hmem
    have : st.idxOf (st[i.toNat]'(by omega)) = i.toNat := by
      rcases Nat.lt_trichotomy (st.idxOf (st[i.toNat]'(by omega))) i.toNat with h | h | h
      · have := List.pairwise_iff_getElem.1 hs _ _ hl (by omega) h; omega
      · exact h
      · have := List.pairwise_iff_getElem.1 hs _ _ (by omega) hl h; omega
    rw [this, Int.toNat_of_nonneg h0]; exact hm
  · rintro ⟨hm, hx⟩
    refine ⟨_, hx, ?_⟩
    rw [both_get (by omega) (by have := iof_lt hm; omega)]
    simp
theorem both_idx {st inner : List Int} (hs : st.Pairwise (· < ·)) (hi : ∀ i ∈ inner, 0 ≤ i ∧ i < st.length) {x : Int} (hx : x ∈ st) : (bothA st inner).idxOf x = inner.idxOf ((st.idxOf x : Nat) : Int) := by
  have hl := iof_lt hx
  have e : st.getD ((st.idxOf x : Nat) : Int).toNat 0 = x := by
    rw [both_get (by omega) (by omega)]; simp
  have := @iof_map (fun i => st.getD i.toNat 0) ((st.idxOf x : Nat) : Int) inner (fun j hj h => by
    obtain ⟨h0, h1⟩ := hi j hj
    rw [e, both_get h0 h1] at h
    rcases Int.lt_trichotomy j ((st.idxOf x : Nat) : Int) with h' | h' | h'
    · have := List.pairwise_iff_getElem.1 hs j.toNat (st.idxOf x) (by omega) hl (by omega)
      rw [h, iof_get hx] at this; omega
    · exact h'
    · have := List.pairwise_iff_getElem.1 hs (st.idxOf x) j.toNat hl (by omega) (by omega)
      rw [h, iof_get hx] at this; omega)
  simp only [e] at this
  exact this
theorem both_st {n : Int} {st inner : List Int} (hs : St n st) (hi : St st.length inner) : St n (bothA st inner) := by
  refine ⟨?_, fun x hx => hs.ins x ((both_iff hs.srt hi.ins x).1 hx).1⟩
  unfold bothA
  rw [List.pairwise_map]
  refine List.Pairwise.imp_of_mem (fun {a b} ha hb h => ?_) hi.srt
  obtain ⟨a0, a1⟩ := hi.ins a ha
  obtain ⟨b0, b1⟩ := hi.ins b hb
  rw [both_get a0 a1, both_get b0 b1]
  exact List.pairwise_iff_getElem.1 hs.srt _ _ (by omega) (by omega) (by omega)
theorem part_part {G : Gr} {st inner : List Int} (hs : St G.n st) (hi : St st.length inner) : partA (partA G st) inner = partA G (bothA st inner) := by
  unfold partA
  have hb := hi.ins
  simp only [Gr.mk.injEq, true_and]
  refine ⟨by simp [bothA], ?_⟩
  rw [List.filterMap_filterMap]
  refine fm_congr (fun x _ => ?_)
  by_cases h : x.f ∈ st ∧ x.t ∈ st
  · rw [part_go h]
    show partE inner _ = _
    unfold partE
    simp only [both_iff hs.srt hb, both_idx hs.srt hb h.1, both_idx hs.srt hb h.2, h.1, h.2, true_and]
  · rw [part_stop h, part_stop (fun h' => h ⟨((both_iff hs.srt hb _).1 h'.1).1, ((both_iff hs.srt hb _).1 h'.2).1⟩)]
    rfl
theorem keepA_ok {G : Gr} (h : Vg G) {st : List Int} (hs : St G.n st) : keepA G st = (partA G st, 0) := by
  unfold keepA; rw [if_pos (chkG_ok.2 h), if_pos hs.chk]

/-! ### Deterministic graphs -/
def Uq (l : List Ed) : Prop := l.Pairwise (fun a b => ¬ (a.f = b.f ∧ a.l = b.l))
theorem uq_of_det : ∀ {l : List Ed}, l.Pairwise (fun a b => ltE a b = true) → detB l = true → Uq l
  | [], _, _ => List.Pairwise.nil
  | [_], _, _ => by simp [Uq]
  | x :: y :: l, h, hd => by
    obtain ⟨h1, h2⟩ := List.pairwise_cons.1 h
    have hd1 : ¬ (x.f = y.f ∧ x.l = y.l) := fun e => by
      have := detB_f (l := x :: y :: l) 0 (by simp) (by simpa using e.1) (by simpa using e.2)
      rw [hd] at this; cases this
    have hd2 : detB (y :: l) = true := by
      cases hc : detB (y :: l)
      · exfalso
        have : detB (x :: y :: l) = true → detB (y :: l) = true := fun h => by
          unfold detB at h
          first
          | exact (Bool.and_eq_true_iff.1 h).2
          | (split at h <;> simp_all)
        rw [this hd] at hc; cases hc
      · rfl
    have ih := uq_of_det h2 hd2
    refine List.pairwise_cons.2 ⟨fun z hz => ?_, ih⟩
    rcases List.mem_cons.1 hz with e | hz
    · subst e; exact hd1
    · have a := ltE_iff.1 (h1 y List.mem_cons_self)
      have b := ltE_iff.1 ((List.pairwise_cons.1 h2).1 z hz)
      omega
theorem det_of_uq {l : List Ed} (h : Uq l) : detB l = true :=
  detB_t (fun k hk => List.pairwise_iff_getElem.1 h k (k + 1) (by omega) hk (by omega))
theorem det_part {G : Gr} (h : Vg G) {st : List Int} (hd : detB G.es = true) : detB (partA G st).es = true := by
  refine det_of_uq ((uq_of_det h.srt hd).filterMap _ (fun x x' hne y hy y' hy' e => ?_))
  obtain ⟨a, b, rfl⟩ := partE_some hy
  obtain ⟨a', b', rfl⟩ := partE_some hy'
  exact hne ⟨iof_inj a a' (by have := e.1; simp only at this; omega), e.2⟩
theorem two_of_mem {l : List Int} {x y : Int} (hx : x ∈ l) (hy : y ∈ l) (h : x ≠ y) : 2 ≤ l.length := by
  match l, hx, hy with
  | [z], hx, hy => simp at hx hy; omega
  | _ :: _ :: _, _, _ => simp
theorem step_one {G : Gr} (h : Vg G) (hd : detB G.es = true) (s b : Int) : (nextA G [s] b).length < 2 := by
  have hu := uq_of_det h.srt hd
  rcases Nat.lt_or_ge (nextA G [s] b).length 2 with h' | h'
  · exact h'
  · exfalso
    have hm0 := List.getElem_mem (l := nextA G [s] b) (n := 0) (by omega)
    have hm1 := List.getElem_mem (l := nextA G [s] b) (n := 1) (by omega)
    have hlt := List.pairwise_iff_getElem.1 (nextA_srt G [s] b) 0 1 (by omega) (by omega) (by omega)
    obtain ⟨x, hx, e1, e2, e3⟩ := (mem_nextA h).1 hm0
    obtain ⟨y, hy, f1, f2, f3⟩ := (mem_nextA h).1 hm1
    rw [List.mem_singleton] at e3 f3
    obtain ⟨i, hi, rfl⟩ := List.mem_iff_getElem.1 hx
    obtain ⟨j, hj, rfl⟩ := List.mem_iff_getElem.1 hy
    rcases Nat.lt_trichotomy i j with hij | hij | hij
    · exact List.pairwise_iff_getElem.1 hu i j hi hj hij ⟨by omega, by omega⟩
    · subst hij; omega
    · exact List.pairwise_iff_getElem.1 hu j i hj hi hij ⟨by omega, by omega⟩
theorem det_of_steps {G : Gr} (h : Vg G) (hs : ∀ s b : Int, 0 ≤ s → s < G.n → 0 ≤ b → b < G.q → (nextA G [s] b).length < 2) : detB G.es = true := by
  refine detB_t (fun k hk e => ?_)
  have hx := List.getElem_mem (l := G.es) (n := k) (by omega)
  have hy := List.getElem_mem (l := G.es) (n := k + 1) hk
  have ix := h.ins _ hx
  have lt := ltE_iff.1 (List.pairwise_iff_getElem.1 h.srt k (k + 1) (by omega) hk (by omega))
  have := hs G.es[k].f G.es[k].l (by omega) (by omega) (by omega) (by omega)
  have h1 : G.es[k].t ∈ nextA G [G.es[k].f] G.es[k].l := (mem_nextA h).2 ⟨_, hx, rfl, rfl, by simp⟩
  have h2 : G.es[k + 1].t ∈ nextA G [G.es[k].f] G.es[k].l := (mem_nextA h).2 ⟨_, hy, rfl, e.2.symm, by simp [e.1]⟩
  have := two_of_mem h1 h2 (by omega)
  omega
end Go.Proofs.YtaclgmhinljkbaaGreatDoor
namespace Go.Proofs.YtaclgmhinljkbaaGreatDoor
open Go.RowKit Go.Sort Go.Shelf Go.Lib

/-! ### What the functions answer -/
/-- The labels of a word. -/
def ltr (s : ByteArray) : List Int := s.data.toList.map (fun c => Chg.dig c.toNat)
/-- The states in which the paths with some labels end that begin in a set. -/
def endA (G : Gr) (st : List Int) (l : List Int) : List Int := l.foldl (nextA G) st
def accA (G : Gr) (s : ByteArray) : Bool := decide (0 < (endA G (upto G.n.toNat) (ltr s)).length)
theorem endA_snoc (G : Gr) (st l : List Int) (b : Int) : endA G st (l ++ [b]) = nextA G (endA G st l) b := by simp [endA]
theorem nextA_nil (G : Gr) (b : Int) : nextA G [] b = [] := by
  unfold nextA
  rw [List.filter_eq_nil_iff]
  intro a _
  simp [nxP, nxE]
theorem endA_nil (G : Gr) : ∀ l, endA G [] l = []
  | [] => rfl
  | b :: l => by
    have := endA_nil G l
    unfold endA at this ⊢
    rw [List.foldl_cons, nextA_nil]; exact this
theorem nextA_st (G : Gr) (st : List Int) (b : Int) : St G.n (nextA G st b) := by
  refine ⟨nextA_srt G st b, fun x hx => ?_⟩
  have h := mem_upto.1 (List.mem_filter.1 (show x ∈ (upto G.n.toNat).filter (nxP G.es st b) from hx)).1
  omega
theorem endA_st (G : Gr) (st : List Int) (h : St G.n st) (l : List Int) : St G.n (endA G st l) := by
  induction l generalizing st with
  | nil => exact h
  | cons b l ih => exact ih _ (nextA_st G st b)
theorem ltr_len (s : ByteArray) : (ltr s).length = s.size := by simp [ltr]
theorem ltr_get (s : ByteArray) (k : Nat) (h : k < s.size) : (ltr s)[k]'(by rw [ltr_len]; exact h) = Chg.dig (s[k].toNat : Int) := by
  simp only [ltr, List.getElem_map]
  rfl
theorem ltr_take (s : ByteArray) (k : Nat) (h : k < s.size) : (ltr s).take (k + 1) = (ltr s).take k ++ [Chg.dig (s[k].toNat : Int)] := by
  rw [List.take_succ_eq_append_getElem (by rw [ltr_len]; exact h), ltr_get s k h]
theorem ltr_all (s : ByteArray) : (ltr s).take s.size = ltr s := by rw [← ltr_len, List.take_length]
theorem idx_all : ∀ c : Nat, c < 256 → 0 ≤ Chg.dig (c : Int) → Lib.indexByte [48, 49, 50, 51, 52, 53, 54, 55, 56, 57, 97, 98, 99, 100, 101, 102] (UInt8.ofNat c) = Chg.dig (c : Int) := by decide +kernel
theorem idx_dig (c : UInt8) (h : 0 ≤ Chg.dig (c.toNat : Int)) : Lib.indexByte [48, 49, 50, 51, 52, 53, 54, 55, 56, 57, 97, 98, 99, 100, 101, 102] (((c.toNat : Int)).toNat.toUInt8) = Chg.dig (c.toNat : Int) := by
  have := idx_all c.toNat (UInt8.toNat_lt c) h
  simpa using this
theorem okw_at {q : Int} {s : ByteArray} (h : Chg.okw q s.data.toList = true) (k : Nat) (hk : k < s.size) : 0 ≤ Chg.dig (s[k].toNat : Int) ∧ Chg.dig (s[k].toNat : Int) < q := by
  have hm : s[k] ∈ s.data.toList := by
    have : s[k] = s.data.toList[k]'(by simpa using hk) := by rfl
    rw [this]; exact List.getElem_mem _
  have := List.all_eq_true.1 h _ hm
  simpa [Chg.okc] using this
theorem wchk_okw {q : Int} {l : List UInt8} (h : Chg.wchk q l = 0) : Chg.okw q l = true := by
  unfold Chg.wchk at h
  split at h
  · omega
  · split at h
    · omega
    · split at h
      · assumption
      · omega
theorem up_row (N k : Nat) (h : k < N) : ((upto k ++ List.replicate (N - k) 0).map (Value.int .i64))[k]? = some (.int .i64 0) := by
  rw [List.getElem?_map, List.getElem?_append_right (by rw [upto_len]; omega), upto_len, List.getElem?_replicate, if_pos (by omega)]
  rfl
theorem up_set (N k : Nat) (h : k < N) : ((upto k ++ List.replicate (N - k) 0).map (Value.int .i64)).set k (.int .i64 k) = (upto (k + 1) ++ List.replicate (N - (k + 1)) 0).map (Value.int .i64) := by
  obtain ⟨m, hm⟩ : ∃ m, N - k = m + 1 := ⟨N - k - 1, by omega⟩
  rw [hm, show N - (k + 1) = m by omega, upto_succ, List.replicate_succ, List.map_append, List.set_append_right _ _ (by rw [List.length_map, upto_len]; omega), List.length_map, upto_len, Nat.sub_self]
  simp

/-- A set of states, in memory. -/
def LsOut (l : List Int) (w : World) (e : Ending) (w' : World) : Prop := ∃ q d, e = .returned (.slice q l.length d) ∧ Sl w' (Value.int .i64) q l ∧ RowKit.Below w.heap.size w w'

/-! ### The functions -/
theorem lCheck_any (G : Gr) (p : Option Addr) (c : Nat) (w : World) (hin : Sg 3 w edE p G.es) (hv : Vg G) (hq : G.q ≤ 16) :
    Calls Tryz.prog 85 #[(.agg #[.int .i64 G.q, .int .i64 G.n, .slice p G.es.length c])] w fun e w' => e = .returned (.int .i64 0) ∧ RowKit.Below w.heap.size w w' := by
  have HIN := hidI hin; have HV := hidI hv
  clear hin hv
  obtain ⟨w0, hw0⟩ : ∃ w0, w0 = w.alloc (.cells #[.int .i64 G.q, .int .i64 G.n, .slice p G.es.length c] 29) := ⟨_, rfl⟩
  have b0 : VRow w0 w.heap.size 29 [.int .i64 G.q, .int .i64 G.n, .slice p G.es.length c] := by subst hw0; exact VRow.new w _ _
  have hB0 : RowKit.Below w.heap.size w w0 := by subst hw0; exact (RowKit.Below.refl _ _).alloc (Nat.le_refl _) _
  go_enter Tryz.func85, Tryz.ntmps85
  go_wp2_with fail
  rw [← hw0]
  clear hw0
  refine (gCheck_r G p c w0 0 (chkG_ok.2 HV.out) (HIN.out.below hB0) (by have := HV.out.len; omega)).mono ?_
  rintro e w1 ⟨rfl, hB1⟩
  have f0 := (b0.below hB1 b0.lt).at 0 rfl
  have hq2 : ¬ 16 < G.q := by omega
  go_wp2
  go_ret
  exact ⟨rfl, hB0.trans (hB1.mono hB0.size)⟩

theorem lSpells_any (G : Gr) (p : Option Addr) (c : Nat) (s : ByteArray) (w : World) (hin : Sg 3 w edE p G.es) (hv : Vg G) (hq : G.q ≤ 16) (hs : s.size ≤ maxLen) :
    Calls Tryz.prog 54 #[(.agg #[.int .i64 G.q, .int .i64 G.n, .slice p G.es.length c]), .string s] w fun e w' => e = .returned (.int .i64 (Chg.wchk G.q s.data.toList)) ∧ RowKit.Below w.heap.size w w' := by
  have HIN := hidI hin; have HV := hidI hv
  clear hin hv
  obtain ⟨w0, hw0⟩ : ∃ w0, w0 = w.alloc (.cells #[.int .i64 G.q, .int .i64 G.n, .slice p G.es.length c] 29) := ⟨_, rfl⟩
  have b0 : VRow w0 w.heap.size 29 [.int .i64 G.q, .int .i64 G.n, .slice p G.es.length c] := by subst hw0; exact VRow.new w _ _
  have hB0 : RowKit.Below w.heap.size w w0 := by subst hw0; exact (RowKit.Below.refl _ _).alloc (Nat.le_refl _) _
  go_enter Tryz.func54, Tryz.ntmps54
  go_wp2_with fail
  rw [← hw0]
  clear hw0
  refine (lCheck_any G p c w0 (HIN.out.below hB0) HV.out hq).mono ?_
  rintro e w1 ⟨rfl, hB1⟩
  have x1 := hB0.trans (hB1.mono hB0.size)
  have f0 := (b0.below hB1 b0.lt).at 0 rfl
  go_wp2_with fail
  refine (Chg.wcheck_any G.q s w1 hs).mono ?_
  rintro e w2 ⟨rfl, hD⟩
  have hD' : Dr w1 w2 := hD
  go_wp2
  go_ret
  exact ⟨rfl, x1.trans (hD'.below _)⟩

set_option maxRecDepth 100000 in
set_option maxHeartbeats 1000000 in
theorem lStates_any (G : Gr) (p : Option Addr) (c : Nat) (w : World) (hv : Vg G) :
    Calls Tryz.prog 51 #[(.agg #[.int .i64 G.q, .int .i64 G.n, .slice p G.es.length c])] w (LsOut (upto G.n.toNat) w) := by
  obtain ⟨i0, hi0, hz0, hz1, hz3⟩ := info_parts infoIn
  obtain ⟨gq, gn, ges⟩ := G
  have hn0 : 0 ≤ gn := hv.n1
  have hn1 : gn ≤ 64 := hv.n2
  obtain ⟨N, rfl⟩ : ∃ N : Nat, gn = N := ⟨gn.toNat, by omega⟩
  clear hv
  show Calls Tryz.prog 51 #[.agg #[.int .i64 gq, .int .i64 (N : Int), .slice p ges.length c]] w (LsOut (upto ((N : Int)).toNat) w)
  rw [Int.toNat_natCast]
  obtain ⟨w0, hw0⟩ : ∃ w0, w0 = w.alloc (.cells #[.int .i64 gq, .int .i64 (N : Int), .slice p ges.length c] 29) := ⟨_, rfl⟩
  have hs0 : w0.heap.size = w.heap.size + 1 := by subst hw0; simp
  have hB0 : RowKit.Below w.heap.size w w0 := by subst hw0; exact (RowKit.Below.refl _ _).alloc (Nat.le_refl _) _
  have f1 : w0.cell? ⟨w.heap.size, 1, none⟩ = some (.int .i64 (N : Int)) := by subst hw0; exact (VRow.new w _ _).at 1 rfl
  go_enter Tryz.func51, Tryz.ntmps51
  go_upto_region 1 with fail
  rw [← hw0]
  clear hw0
  go_wp2_with (at_make; refine wpList_make_full _ rfl _ _ 34 rfl w0.heap.size 3 i0 (.int .i64 0) 1 Tryz.underlying34 hi0 hz0 hz1 .i64 .i64 _ _ N rfl rfl (by omega) (by omega) (by rw [hz3]; omega) (by unfold maxLen; omega) (Nat.le_refl _) ?_; intro w1 hown hgrow)
  have hv : VRow w1 w0.heap.size 3 ((upto 0 ++ List.replicate (N - 0) 0).map (Value.int .i64)) := Chg.made_row hown
  have hB1 : RowKit.Below w.heap.size w w1 := hB0.grown hgrow (by omega) (by simp)
  have hwB : w.heap.size ≤ w0.heap.size := by omega
  rw [hs0] at hv
  clear hown hgrow
  go_loopw [10] (fun iv wr => ∃ k : Nat, k ≤ N ∧ iv = .int .i64 k ∧ VRow wr (w.heap.size + 1) 3 ((upto k ++ List.replicate (N - k) 0).map (Value.int .i64)) ∧ RowKit.Below w.heap.size w wr) (fun iv _ => N - (intOf iv).toNat)
  case atStart => exact ⟨0, by omega, rfl, hv, hB1⟩
  case round =>
    clear hv hB1
    obtain ⟨k, hk, rfl, hv, hB⟩ := hrel
    by_cases hlt : k < N
    · have hltN : (k : Int) < (N : Int) := by omega
      have hc := hv.at k (up_row N k hlt)
      have hf := hv.frozen k
      have HS := hidI (up_set N k hlt)
      go_wp2
      go_roundw
      case rel => exact ⟨k + 1, by omega, by go_num, by rw [← HS.out]; exact VRow.set (i := k) _ hv, hB.setCell (p := ⟨w.heap.size + 1, k, none⟩) (show w.heap.size ≤ w.heap.size + 1 by omega) _⟩
      case measure => simp [intOf]; omega
    · obtain rfl : k = N := by omega
      have hkk : ¬ (k : Int) < (k : Int) := by omega
      rw [Nat.sub_self, List.replicate_zero, List.append_nil] at hv
      go_wp2
      go_ret
      exact ⟨some ⟨w.heap.size + 1, 0, none⟩, k, by rw [upto_len]; rfl, Sl.of_vrow hv, hB⟩

def StepOut (l : List Int) (w : World) (v : Value) (w' : World) : Prop := ∃ p m c, v = .slice p m c ∧ w'.ownsRow w.heap.size 3 1 (.slice p m c) l.length (l.map (Value.int .i64)) ∧ RowKit.Below w.heap.size w w'

set_option maxRecDepth 100000 in
set_option maxHeartbeats 1000000 in
theorem lStep_any (G : Gr) (p : Option Addr) (c : Nat) (st : List Int) (q : Option Addr) (d : Nat) (ch : UInt8) (w : World) (hin : Sg 3 w edE p G.es) (hst : Sl w (Value.int .i64) q st) (hv : Vg G) (hS : St G.n st) (h0 : 0 ≤ Chg.dig (ch.toNat : Int)) (h1 : Chg.dig (ch.toNat : Int) < G.q) :
    Calls Tryz.prog 86 #[(.agg #[.int .i64 G.q, .int .i64 G.n, .slice p G.es.length c]), .slice q st.length d, .int .u8 ch.toNat] w fun e w' => ∃ p m c, e = .returned (.slice p m c) ∧ w'.ownsRow w.heap.size 3 1 (.slice p m c) (nextA G st (Chg.dig (ch.toNat : Int))).length ((nextA G st (Chg.dig (ch.toNat : Int))).map (Value.int .i64)) ∧ RowKit.Below w.heap.size w w' := by
  have HIN := hidI hin; have HST := hidI hst; have HV := hidI hv
  have HX := hidI (idx_dig ch h0)
  generalize Chg.dig (ch.toNat : Int) = b at *
  have hlen := hS.len hv.n1
  have hn2 := hv.n2
  have HC := hidI hS.chk
  clear hin hst hv hS
  obtain ⟨w0, hw0⟩ : ∃ w0, w0 = w.alloc (.cells #[.int .i64 G.q, .int .i64 G.n, .slice p G.es.length c] 29) := ⟨_, rfl⟩
  have b0 : VRow w0 w.heap.size 29 [.int .i64 G.q, .int .i64 G.n, .slice p G.es.length c] := by subst hw0; exact VRow.new w _ _
  have hB0 : RowKit.Below w.heap.size w w0 := by subst hw0; exact (RowKit.Below.refl _ _).alloc (Nat.le_refl _) _
  have HI := fun W => Tryz.strings_IndexByte ⟨#[48, 49, 50, 51, 52, 53, 54, 55, 56, 57, 97, 98, 99, 100, 101, 102]⟩ (ch.toNat : Int) W
  rw [show Lib.indexByte (⟨#[48, 49, 50, 51, 52, 53, 54, 55, 56, 57, 97, 98, 99, 100, 101, 102]⟩ : ByteArray).data.toList ((ch.toNat : Int)).toNat.toUInt8 = b from HX.out] at HI
  go_enter Tryz.func86, Tryz.ntmps86
  go_upto_region 1 with fail
  rw [← hw0]
  clear hw0
  have g0 := b0.at 0 rfl; have g1 := b0.at 1 rfl; have g2 := b0.at 2 rfl
  have zb : w.heap.size < w0.heap.size := b0.lt
  have HSX : Hid (∀ W, RowKit.Below w0.heap.size w0 W → Sl W (Value.int .i64) q st) := fun W h => HST.out.below (hB0.trans (h.mono hB0.size))
  have HIX : Hid (∀ W, RowKit.Below w0.heap.size w0 W → Sg 3 W edE p G.es) := fun W h => HIN.out.below (hB0.trans (h.mono hB0.size))
  go_cut [7] (fun s7 wx => StepOut (nextA G st b) w0 s7 wx)
  case first =>
    go_region_held3 (fun w' => w'.cell? ⟨w.heap.size, 0, none⟩ = some (.int .i64 G.q) ∧ w'.cell? ⟨w.heap.size, 1, none⟩ = some (.int .i64 G.n) ∧ w'.cell? ⟨w.heap.size, 2, none⟩ = some (.slice p G.es.length c) ∧ RowKit.Below w0.heap.size w0 w')
      (first | (go_split_ands; refine ⟨?_, ?_, ?_, ?_⟩ <;> first | assumption | (go_keep; done) | exact below_drewN (RowKit.Below.refl _ _) 1 | exact (hBb.cell (Nat.lt_of_lt_of_le zb (RowKit.Below.size (by assumption)))).trans (by assumption) | exact RowKit.Below.trans (by assumption) (hBb.mono (RowKit.Below.size (by assumption)))))
      (first
        | (go_at_call 65; refine (HI _).mono ?_; rintro e wA ⟨rfl, rfl⟩)
        | (go_at_call 111; go_split_ands; refine (callsIn_wide.1 (gStep_in G p c st q d b _ (HIX.out _ (by assumption)) (HSX.out _ (by assumption)) HV.out (by omega) HC.out h0 h1)).mono ?_; rintro e wB ⟨p', m', c', rfl, hown, hBb⟩; have hwz := RowKit.Below.size (show RowKit.Below w0.heap.size w0 _ by assumption); have hfin := own_baseI hown hwz))
    all_goals
      go_wp2_with fail
      go_meet
      exact ⟨p', m', c', rfl, hfin, RowKit.Below.trans (by assumption) (hBb.mono hwz)⟩
  case rest =>
    obtain ⟨p', m', c', rfl, hown, hB1⟩ := hcut
    go_wp2
    go_ret
    exact ⟨p', m', c', rfl, own_baseI hown hB0.size, hB0.trans (hB1.mono hB0.size)⟩
end Go.Proofs.YtaclgmhinljkbaaGreatDoor
