/-
  Plain definitions and lemmas on Polarity. Nothing here speaks of a program.
-/
import Derived.Test.YtlgjhmenjfmpfaaChPlain
import Derived.RangeFuncLeaves
namespace Go.Proofs.Ytlgjhmenjfmpfaa.Chg
open Go.RowKit

/-! ### Marks among the deferred calls -/
/-- Cells are as they were; nothing below B has turned. -/
structure KC (B : Nat) (W W' : World) : Prop where
  below : Below B W W'
  cells : ∀ (k : Nat) (o : Obj), W.heap[k]? = some o → o.isCells = true → W'.heap[k]? = some o
theorem KC.refl (B : Nat) (W : World) : KC B W W := ⟨Below.refl _ _, fun _ _ h _ => h⟩
theorem KC.trans {B : Nat} {X Y Z : World} (h : KC B X Y) (k : KC B Y Z) : KC B X Z := ⟨h.below.trans k.below, fun i o hi ho => k.cells i o (h.cells i o hi ho) ho⟩
theorem KC.sl {α : Type} {B : Nat} {W W' : World} {enc : α → Value} {p : Option Addr} {l : List α} (h : KC B W W') (hs : Sl W enc p l) : Sl W' enc p l := by
  rcases hs with hs | ⟨b, off, hp, hb, hc⟩
  · exact .inl hs
  · by_cases hl : l = []
    · exact .inl hl
    · refine .inr ⟨b, off, hp, Nat.lt_of_lt_of_le hb h.below.size, fun i hi => ?_⟩
      obtain ⟨o, ho, hk⟩ := cells_of_cell (hc i hi)
      exact (World.cell?_of_block (w := W) (a := ⟨b, off + i, none⟩) ((h.cells b o ho hk).trans ho.symm)).trans (hc i hi)
def Marks (B : Nat) (W : World) : List Deferred → Prop
  | [] => True
  | d :: ds => (∃ D, d = { target := .collected D, args := #[] } ∧ B ≤ D ∧ W.heap[D]? = some (.deferred (some [])) ∧ ∀ d' ∈ ds, d'.target ≠ .collected D) ∧ Marks B W ds
theorem Marks.lt {B : Nat} {W : World} : ∀ {ds : List Deferred}, Marks B W ds → ∀ d ∈ ds, ∃ D, d.target = .collected D ∧ D < W.heap.size
  | [], _, _, h => by cases h
  | _ :: _, ⟨⟨D, hd, _, hk, _⟩, hr⟩, d', h => by
    rcases List.mem_cons.1 h with h | h
    · subst h; subst hd; exact ⟨D, rfl, (Array.getElem?_eq_some_iff.1 hk).1⟩
    · exact Marks.lt hr d' h
theorem Marks.keep {B : Nat} {W W' : World} : ∀ {ds : List Deferred}, Marks B W ds → (∀ D, B ≤ D → W.heap[D]? = some (.deferred (some [])) → (∃ d ∈ ds, d.target = .collected D) → W'.heap[D]? = some (.deferred (some []))) → Marks B W' ds
  | [], _, _ => trivial
  | _ :: _, ⟨⟨D, hd, hB, hk, hn⟩, hr⟩, h =>
    ⟨⟨D, hd, hB, h D hB hk ⟨_, List.mem_cons_self, by rw [hd]⟩, hn⟩, hr.keep (fun D' h1 h2 ⟨d, hd', ht⟩ => h D' h1 h2 ⟨d, List.mem_cons_of_mem _ hd', ht⟩)⟩
theorem Marks.others {B : Nat} {W W' : World} {ds : List Deferred} (h : Marks B W ds) (k : KeepsOthers W W') : Marks B W' ds := h.keep (fun D _ hk _ => k.same D _ hk rfl)
theorem Marks.cons {B D : Nat} {W : World} {ds : List Deferred} (h : Marks B W ds) (hB : B ≤ D) (hk : W.heap[D]? = some (.deferred (some []))) (hn : ∀ d ∈ ds, ∃ D', d.target = .collected D' ∧ D' < D) :
    Marks B W ({ target := .collected D, args := #[] } :: ds) :=
  ⟨⟨D, rfl, hB, hk, fun d hd e => by
    obtain ⟨D', h1, h2⟩ := hn d hd
    rw [h1] at e; cases e; omega⟩, h⟩
theorem leaves_marks {F : Fence} {n : Nat} {P : Program} {fn : Func} {tmps : Array Value} {R : Ending → World → Prop} {B : Nat} :
    ∀ (ds : List Deferred) (W : World), Marks B W ds → (∀ W', KC B W W' → LeavesInM F n P fn tmps R [] .returning W') → LeavesInM F n P fn tmps R ds .returning W
  | [], W, _, h => h W (KC.refl _ _)
  | d :: ds, W, ⟨⟨D, hd, hB, hk, hn⟩, hr⟩, h => by
    subst hd
    have hp : KC B W (W.putObj D (.deferred none)) := by
      refine ⟨⟨rfl, rfl, rfl, by simp, fun i hi => World.putObj_heap_other (by omega)⟩, fun i o hi ho => ?_⟩
      rw [World.putObj_heap_other (by rintro rfl; rw [hk] at hi; cases hi; cases ho)]
      exact hi
    refine ⟨by simp, .inl ⟨D, _, rfl, run_takeDeferred hk, ?_⟩⟩
    refine leaves_marks ds _ (hr.keep (fun D' _ hk' hm => ?_)) (fun W' hW' => h W' (hp.trans hW'))
    obtain ⟨d', hd', ht⟩ := hm
    rw [World.putObj_heap_other (by rintro rfl; exact hn d' hd' ht)]
    exact hk'
theorem grownBy_trans {A B C : World} {r : Option Nat} (h : A.grownBy B r) (k : B.grownBy C r) : A.grownBy C r :=
  ⟨k.os.trans h.os, k.tape.trans h.tape, k.output.trans h.output, Nat.le_trans h.size k.size, fun i hi hr => (k.block i (Nat.lt_of_lt_of_le hi h.size) hr).trans (h.block i hi hr)⟩
theorem grownBy_own {β : Type} (W0 : World) (c : Nat) : OwnFrom W0.heap.size (fun (_ : β) W => W0.grownBy W (some c)) := fun _ X Y row hs hg hr =>
  ⟨hg.os.trans hs.os, hg.tape.trans hs.tape, hg.output.trans hs.output, Nat.le_trans hs.size hg.size, fun i hi hc =>
    (hg.block i (Nat.lt_of_lt_of_le hi hs.size) (fun e => by have := (hr i e.symm).1; omega)).trans (hs.block i hi hc)⟩
theorem grownBy_refl (W : World) (r : Option Nat) : W.grownBy W r := ⟨rfl, rfl, rfl, Nat.le_refl _, fun _ _ _ => rfl⟩
theorem Marks.grown {B c : Nat} {W W' : World} {ds : List Deferred} {o : Obj} (h : Marks B W ds) (hg : W.grownBy W' (some c)) (hc : W.heap[c]? = some o) (ho : o.isCells = true) : Marks B W' ds :=
  h.keep (fun D _ hk _ => by
    rw [hg.block D (Array.getElem?_eq_some_iff.1 hk).1 (by rintro ⟨rfl⟩; rw [hk] at hc; cases hc; cases ho)]; exact hk)

theorem Marks.appended {B base e n size : Nat} {V w1 : World} {ds : List Deferred} {ov : Value} {xs : List Value} {o : Obj} (h : Marks B V ds) (hown : V.ownsRow base e size ov n xs) (hg : (V.alloc o).grownBy w1 ov.ownBlock) : Marks B w1 ds :=
  h.keep (fun D _ hk _ => by
    have hD := (Array.getElem?_eq_some_iff.1 hk).1
    rw [hg.block D (by simp; omega) ?_, Below.heap_alloc V o D hD]; exact hk
    intro e
    rcases hown.2 with ⟨rfl, _⟩ | ⟨g, cap, cur, rfl, _, hgb, _⟩
    · simp [Value.ownBlock] at e
    · obtain rfl : D = g := by simpa [Value.ownBlock] using e
      rw [hk] at hgb; cases hgb)
/-! ### Polarity -/
theorem fold_done (t : Bool) (s : ByteArray) (k : Nat) : stf t s (List.range k) = (Su (vAt t s) k, Lo (vAt t s) k, Hi (vAt t s) k) := by
  induction k with
  | zero => rfl
  | succ k ih => rw [List.range_succ, stf_snoc, ih]; rfl
/-- The disparity. -/
def dsp (s : ByteArray) : Int := Su (vAt false s) s.size
theorem dsp_bd (s : ByteArray) : -(s.size : Int) ≤ dsp s ∧ dsp s ≤ s.size := Su_bd _ (vAt_bd false s) _
def inv (w : Int) (s : ByteArray) : Bool := decide (max (w - dsp s) (dsp s - w) < max (w + dsp s) (-w - dsp s))
/-- One word more: the charge, and which words have been inverted. -/
def polF (x : Int × List Bool) (s : ByteArray) : Int × List Bool := (x.1 + (if inv x.1 s then -(dsp s) else dsp s), x.2 ++ [inv x.1 s])
def polS (w : Int) (l : List ByteArray) : Int × List Bool := l.foldl polF (w, [])
theorem polS_snoc (w : Int) (l : List ByteArray) (s : ByteArray) : polS w (l ++ [s]) = polF (polS w l) s := by simp [polS]
theorem polS_take (w : Int) (l : List ByteArray) (k : Nat) (h : k < l.length) : polS w (l.take (k + 1)) = polF (polS w (l.take k)) l[k] := by
  rw [List.take_succ_eq_append_getElem h, polS_snoc]
theorem polS_len (w : Int) (l : List ByteArray) : (polS w l).2.length = l.length := by
  have h : ∀ (l : List ByteArray) (x : Int × List Bool), (l.foldl polF x).2.length = x.2.length + l.length := by
    intro l
    induction l with
    | nil => simp
    | cons s l ih => intro x; rw [List.foldl_cons, ih]; simp [polF]; omega
  unfold polS; simpa using h l (w, [])
/-- Why a list of words, or the charge, is refused. -/
def chkL (n : Nat) : List ByteArray → Int | [] => 0 | s :: l => if wchk 2 s.data.toList ≠ 0 then wchk 2 s.data.toList else if s.size ≠ n then 11 else chkL n l
theorem chkL_bad (n : Nat) (l : List ByteArray) (k : Nat) (h : k < l.length) (hj : ∀ j (hj : j < l.length), j < k → wchk 2 l[j].data.toList = 0 ∧ l[j].size = n) (hk : wchk 2 l[k].data.toList ≠ 0) :
    chkL n l = wchk 2 l[k].data.toList := by
  induction l generalizing k with
  | nil => simp at h
  | cons s l ih =>
    cases k with
    | zero => simp only [List.getElem_cons_zero] at hk ⊢; simp only [chkL, if_pos hk]
    | succ k =>
      have h0 := hj 0 (by simp) (by omega)
      simp only [List.getElem_cons_zero] at h0
      have := ih k (by simpa using h) (fun j h1 h2 => by have := hj (j + 1) (by simpa using h1) (by omega); simpa using this) (by simpa using hk)
      simp only [chkL, h0.1, h0.2, List.getElem_cons_succ, this]; simp
theorem chkL_len (n : Nat) (l : List ByteArray) (k : Nat) (h : k < l.length) (hj : ∀ j (hj : j < l.length), j < k → wchk 2 l[j].data.toList = 0 ∧ l[j].size = n) (hk : wchk 2 l[k].data.toList = 0) (hn : l[k].size ≠ n) :
    chkL n l = 11 := by
  induction l generalizing k with
  | nil => simp at h
  | cons s l ih =>
    cases k with
    | zero => simp only [List.getElem_cons_zero] at hk hn; simp [chkL, hk, hn]
    | succ k =>
      have h0 := hj 0 (by simp) (by omega)
      simp only [List.getElem_cons_zero] at h0
      have := ih k (by simpa using h) (fun j h1 h2 => by have := hj (j + 1) (by simpa using h1) (by omega); simpa using this) (by simpa using hk) (by simpa using hn)
      simp only [chkL, h0.1, h0.2, this]; simp
theorem chkL_ok (n : Nat) (l : List ByteArray) (hj : ∀ j (hj : j < l.length), wchk 2 l[j].data.toList = 0 ∧ l[j].size = n) : chkL n l = 0 := by
  induction l with
  | nil => rfl
  | cons s l ih =>
    have h0 := hj 0 (by simp)
    simp only [List.getElem_cons_zero] at h0
    have := ih (fun j h1 => by have := hj (j + 1) (by simpa using h1); simpa using this)
    simp only [chkL, h0.1, h0.2, this]; simp
def polErr (w : Int) (l : List ByteArray) : Int := if w < -65536 ∨ 65536 < w then 2 else if 4096 < l.length then 4 else chkL (l.headD ByteArray.empty).size l
/-- What Polarity answers. -/
def polR (w : Int) (l : List ByteArray) : List Bool := if polErr w l = 0 then (polS w l).2 else []
theorem pol_out (w : Int) (l : List ByteArray) (h : w < -65536 ∨ 65536 < w) : polErr w l = 2 ∧ polR w l = [] := by simp [polErr, polR, h]
theorem pol_long (w : Int) (l : List ByteArray) (h1 : -65536 ≤ w) (h2 : w ≤ 65536) (h : 4096 < l.length) : polErr w l = 4 ∧ polR w l = [] := by
  have : polErr w l = 4 := by unfold polErr; rw [if_neg (by omega), if_pos h]
  simp [polR, this]
theorem pol_chk (w : Int) (l : List ByteArray) (h1 : -65536 ≤ w) (h2 : w ≤ 65536) (h : l.length ≤ 4096) (e : Int) (he : chkL (l.headD ByteArray.empty).size l = e) (hne : e ≠ 0) : polErr w l = e ∧ polR w l = [] := by
  have : polErr w l = e := by unfold polErr; rw [if_neg (by omega), if_neg (by omega), he]
  simp [polR, this, hne]
theorem pol_ok (w : Int) (l : List ByteArray) (h1 : -65536 ≤ w) (h2 : w ≤ 65536) (h : l.length ≤ 4096) (he : chkL (l.headD ByteArray.empty).size l = 0) : polErr w l = 0 ∧ polR w l = (polS w l).2 := by
  have : polErr w l = 0 := by unfold polErr; rw [if_neg (by omega), if_neg (by omega), he]
  simp [polR, this]
theorem polS_bd (w : Int) (l : List ByteArray) (k : Nat) (hj : ∀ j (hj : j < l.length), l[j].size ≤ 65536) (hk : k ≤ l.length) (h1 : -65536 ≤ w) (h2 : w ≤ 65536) :
    -(65536 * (k : Int) + 65536) ≤ (polS w (l.take k)).1 ∧ (polS w (l.take k)).1 ≤ 65536 * k + 65536 := by
  induction k with
  | zero => simp [polS]; omega
  | succ k ih =>
    have := ih (by omega)
    rw [polS_take w l k (by omega)]
    have hd := dsp_bd l[k]
    have hs := hj k (by omega)
    simp only [polF]
    split <;> omega
theorem headD_size (l : List ByteArray) (h : 0 < l.length) : (l.headD ByteArray.empty).size = l[0].size := by
  cases l with
  | nil => simp at h
  | cons s l => rfl
end Go.Proofs.Ytlgjhmenjfmpfaa.Chg
