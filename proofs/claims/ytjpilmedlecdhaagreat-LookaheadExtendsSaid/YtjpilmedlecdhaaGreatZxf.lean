/-
  Words, plain lemmas and walks, merged: Qa, Word, Builder, Map, LkA, LkB, LkC, Qb, Ta, Qc.
-/
import Derived.Test.YtjpilmedlecdhaaGreatZxc
import Derived.Test.YtjpilmedlecdhaaGreatZxe
import Derived.Test.YtjpilmedlecdhaaGreatProg
import Derived.Test.YtjpilmedlecdhaaGreatZxb
import Derived.WalkKit
import Derived.WalkSpells
import Derived.WalkLawsBesides
import Derived.Deep.QuietTactic
import Derived.BigQuiet
import Derived.Shelf.Strings.BuilderF
import Derived.Maps.OwnIn
import Derived.DeepKeys4
import Derived.StillTailTactics
import Derived.Outline
import Derived.WideKeyPair
import Derived.Test.YtjpilmedlecdhaaGreatZxd
import Derived.Shelf.Strconv.Itoa3
import Derived.Lib.AppendIntMem
set_option linter.unusedVariables false
set_option linter.unusedSimpArgs false
namespace Go.Proofs.YtjpilmedlecdhaaGreat
open Go.RowKit

/-! ### Readable tables -/
/-- A pair is no swap. -/
def frW (T : Tb) (i j : Int) : Bool := (swapW T.swaps i j).isNone
/-- The blocks that can follow the Base word of an input. -/
def flw (T : Tb) (i : Int) : List ByteArray :=
  ((List.range T.base.length).filter (fun (j : Nat) => frW T i (j : Int))).map (fun j => bget T.base j) ++ (T.swaps.filter (fun s => frW T i s.i)).map (fun s => s.wd.extract 0 T.n.toNat)
def tkn (T : Tb) (w : ByteArray) : Bool := T.swaps.any (fun s => eqb s.wd w)
def rdbl (T : Tb) : Bool := (List.range T.base.length).all (fun (i : Nat) => (flw T (i : Int)).all (fun b => !tkn T (bget T.base i ++ b)))
theorem rdbl_get {T : Tb} (h : rdbl T = true) {i : Nat} (hi : i < T.base.length) {b : ByteArray} (hb : b ∈ flw T (i : Int)) : ∀ s ∈ T.swaps, s.wd ≠ bget T.base i ++ b := fun s hs e => by
  have h1 := List.all_eq_true.1 h i (List.mem_range.2 hi)
  have h2 := List.all_eq_true.1 h1 b hb
  unfold tkn at h2
  rw [Bool.not_eq_true', List.any_eq_false] at h2
  exact h2 s hs (eqb_t e)
theorem swapW_mem {T : Tb} {i j : Int} {w : ByteArray} (h : swapW T.swaps i j = some w) : ∃ k, ∃ hk : k < T.swaps.length, T.swaps[k].i = i ∧ T.swaps[k].j = j ∧ T.swaps[k].wd = w := by
  unfold swapW at h
  obtain ⟨s, hs, rfl⟩ := Option.map_eq_some_iff.1 h
  have hm := List.mem_of_find?_eq_some hs
  have hp := List.find?_some hs
  simp only [Bool.and_eq_true, decide_eq_true_eq] at hp
  obtain ⟨k, hk, rfl⟩ := List.getElem_of_mem hm
  exact ⟨k, hk, hp.1, hp.2, rfl⟩
theorem swaps_in {T : Tb} (hf : fmd T = true) {s : Sw} (hs : s ∈ T.swaps) : 0 ≤ s.i ∧ s.i < T.base.length ∧ 0 ≤ s.j ∧ s.j < T.base.length := by
  obtain ⟨k, hk, rfl⟩ := List.getElem_of_mem hs
  have h := (fmd_split hf).2.1
  have h1 := allB_get h k hk
  unfold sOk at h1
  rw [Bool.and_eq_true, sget_eq _ _ hk] at h1
  have h2 := h1.1
  unfold inB at h2
  simp only [Bool.and_eq_true, decide_eq_true_eq] at h2
  omega
theorem frW_start {T : Tb} (hf : fmd T = true) (j : Int) : frW T (-1) j = true := by
  unfold frW
  rw [Option.isNone_iff_eq_none]
  cases h : swapW T.swaps (-1) j with
  | none => rfl
  | some w =>
    obtain ⟨k, hk, h1, _, _⟩ := swapW_mem h
    have := swaps_in hf (List.getElem_mem hk)
    omega

theorem pre_base {T : Tb} (hf : fmd T = true) : 0 < T.base.length := by
  have h := of_decide_eq_true (show decide (2 ≤ T.q ∧ T.q ≤ 16 ∧ 1 ≤ T.n ∧ T.n ≤ 8 ∧ 2 ≤ T.base.length ∧ T.base.length ≤ 16 ∧ T.swaps.length ≤ 64) = true from (fmd_split hf).1)
  omega

/-! ### Reading back -/
theorem encW_nil (T : Tb) : encW T [] = (⟨#[]⟩ : ByteArray) := rfl
theorem encW_one (T : Tb) (x : Int) : encW T [x] = baseW T x := by
  unfold encW; simp only [encB]
theorem encW_base {T : Tb} {x y : Int} {r : List Int} (h : swapW T.swaps x y = none) : encW T (x :: y :: r) = baseW T x ++ encW T (y :: r) := by
  unfold encW; rw [encB, h]; apply ByteArray.ext; simp
theorem encW_swap {T : Tb} {x y : Int} {r : List Int} {w : ByteArray} (h : swapW T.swaps x y = some w) : encW T (x :: y :: r) = w ++ encW T r := by
  unfold encW; rw [encB, h]; apply ByteArray.ext; simp
theorem toL_ext (w : ByteArray) (i k : Nat) : (w.extract i k).data.toList = (w.data.toList.take k).drop i := by
  rw [ByteArray.data_extract, Array.toList_extract, List.extract_eq_take_drop, List.drop_take]
theorem toL_app (a b : ByteArray) : (a ++ b).data.toList = a.data.toList ++ b.data.toList := by rw [ByteArray.data_append, Array.toList_append]
theorem toL_len (a : ByteArray) : a.data.toList.length = a.size := by cases a; rfl
theorem ba_eq {a b : ByteArray} (h : a.data.toList = b.data.toList) : a = b := ByteArray.ext (Array.toList_inj.1 h)
theorem ext_pre (a b : ByteArray) : (a ++ b).extract 0 a.size = a := by
  apply ba_eq
  rw [toL_ext, toL_app, List.drop_zero, ← toL_len, List.take_left]
theorem ext_suf (a b : ByteArray) : (a ++ b).extract a.size (a ++ b).size = b := by
  apply ba_eq
  rw [toL_ext, ← toL_len, ← toL_len, List.take_length, toL_app, List.drop_left]
theorem ext_pre2 (a b : ByteArray) (n : Nat) (h : n ≤ a.size) : (a ++ b).extract 0 n = a.extract 0 n := by
  apply ba_eq
  rw [toL_ext, toL_ext, toL_app, List.drop_zero, List.drop_zero, List.take_append_of_le_length (by rw [toL_len]; exact h)]
theorem ext_two (a b : ByteArray) (n m : Nat) (h : a.size = n) : (a ++ b).extract 0 (n + m) = a ++ b.extract 0 m := by
  subst h
  apply ba_eq
  rw [toL_ext, toL_app, toL_app, toL_ext, List.drop_zero, List.drop_zero, ← toL_len, List.take_length_add_append]
/-- The first block of what is written. -/
theorem head_flw {T : Tb} (hf : fmd T = true) {x y : Int} {r : List Int} (ho : (y :: r).any (outB T.base.length) = false) (h : swapW T.swaps x y = none) : (encW T (y :: r)).extract 0 T.n.toNat ∈ flw T x := by
  have hy := outB_f (any_f ho 0 (by simp))
  simp only [List.getElem_cons_zero] at hy
  have hbs := base_size hf y hy.1 hy.2
  have hfr : frW T x y = true := by unfold frW; rw [h]; rfl
  have hbase : baseW T y ∈ flw T x := by
    unfold flw
    refine List.mem_append_left _ (List.mem_map.2 ⟨y.toNat, List.mem_filter.2 ⟨List.mem_range.2 (by omega), ?_⟩, rfl⟩)
    rw [show ((y.toNat : Nat) : Int) = y by omega]; exact hfr
  cases r with
  | nil =>
    rw [encW_one]
    have : (baseW T y).extract 0 T.n.toNat = baseW T y := by
      rw [show T.n.toNat = (baseW T y).size by omega]; simp
    rw [this]; exact hbase
  | cons z r =>
    cases hs : swapW T.swaps y z with
    | none =>
      rw [encW_base hs, ext_pre2 _ _ _ (by omega)]
      have : (baseW T y).extract 0 T.n.toNat = baseW T y := by
        rw [show T.n.toNat = (baseW T y).size by omega]; simp
      rw [this]; exact hbase
    | some w =>
      have hw := swapW_size hf hs
      obtain ⟨k, hk, h1, h2, h3⟩ := swapW_mem hs
      rw [encW_swap hs, ext_pre2 _ _ _ (by have := fmd_bd hf; omega)]
      unfold flw
      refine List.mem_append_right _ (List.mem_map.2 ⟨T.swaps[k], List.mem_filter.2 ⟨List.getElem_mem hk, ?_⟩, by rw [h3]⟩)
      rw [h1]; exact hfr
theorem dec_enc {T : Tb} (hf : fmd T = true) (hr : rdbl T = true) : ∀ (m : Nat) (l : List Int), l.length ≤ m → l.any (outB T.base.length) = false → decF T (encW T l) = some l
  | _, [], _, _ => by rw [encW_nil]; exact decF_nil T rfl
  | _, [x], _, ho => by
    have hx := outB_f (any_f ho 0 (by simp))
    simp only [List.getElem_cons_zero] at hx
    have hb := fmd_bd hf
    have hbs := base_size hf x hx.1 hx.2
    rw [encW_one]
    have he : (baseW T x).extract 0 T.n.toNat = baseW T x := by
      rw [show T.n.toNat = (baseW T x).size by omega]; simp
    have hrd : rdF T (baseW T x) = some [x] := by
      have := rd_base_hit hf (s := baseW T x) (by omega) (k := x.toNat) (by omega) rfl
      rw [this, show ((x.toNat : Nat) : Int) = x by omega]
    have hst : stepS T (baseW T x) = some ([x], T.n.toNat) := by
      rw [step_base (fun h => by omega), he, hrd]; rfl
    rw [decF_step (by omega) (by omega) (by omega) hst, decF_nil T (by rw [ext_size]; omega)]
    rfl
  | 0, x :: y :: r, hn, _ => by simp at hn
  | m + 1, x :: y :: r, hn, ho => by
    have hx := outB_f (any_f ho 0 (by simp))
    simp only [List.getElem_cons_zero] at hx
    have hb := fmd_bd hf
    have ho1 : (y :: r).any (outB T.base.length) = false := by rw [List.any_cons] at ho; simp at ho ⊢; exact ho.2
    have ho2 : r.any (outB T.base.length) = false := by rw [List.any_cons] at ho1; simp at ho1 ⊢; exact ho1.2
    cases hs : swapW T.swaps x y with
    | none =>
      have ih := dec_enc hf hr m (y :: r) (by simp at hn ⊢; omega) ho1
      have hbs := base_size hf x hx.1 hx.2
      have hfl := head_flw hf ho1 hs
      rw [encW_base hs]
      generalize encW T (y :: r) = e at *
      have hz : (baseW T x).size = T.n.toNat := by omega
      have he : (baseW T x ++ e).extract 0 T.n.toNat = baseW T x := by rw [← hz, ext_pre]
      have he2 : (baseW T x ++ e).extract 0 (2 * T.n.toNat) = baseW T x ++ e.extract 0 T.n.toNat := by
        rw [show 2 * T.n.toNat = T.n.toNat + T.n.toNat by omega, ext_two _ _ _ _ hz]
      have hrd : rdF T (baseW T x) = some [x] := by
        have := rd_base_hit hf (s := baseW T x) (by omega) (k := x.toNat) (by omega) rfl
        rw [this, show ((x.toNat : Nat) : Int) = x by omega]
      have hst : stepS T (baseW T x ++ e) = some ([x], T.n.toNat) := by
        rw [step_base (fun h => ?_), he, hrd]; rfl
        rw [ByteArray.size_append] at h
        rw [he2]
        refine rd_swap_miss hf ?_ (fun j hj e1 => ?_)
        · rw [ByteArray.size_append]; simp; omega
        · rw [sget_eq _ _ hj] at e1
          have hxe : ((x.toNat : Nat) : Int) = x := by omega
          exact rdbl_get hr (i := x.toNat) (by omega) (b := e.extract 0 T.n.toNat) (by rw [hxe]; exact hfl) _ (List.getElem_mem hj) e1
      have hrest : (baseW T x ++ e).extract T.n.toNat (baseW T x ++ e).size = e := by
        rw [← hz]; exact ext_suf _ _
      rw [decF_step (by omega) (by rw [ByteArray.size_append]; omega) (by omega) hst, hrest, ih]
      rfl
    | some w =>
      have ih := dec_enc hf hr m r (by simp at hn ⊢; omega) ho2
      have hw := swapW_size hf hs
      obtain ⟨k, hk, h1, h2, h3⟩ := swapW_mem hs
      rw [encW_swap hs]
      generalize encW T r = e at *
      have hz : w.size = 2 * T.n.toNat := by omega
      have he : (w ++ e).extract 0 (2 * T.n.toNat) = w := by rw [← hz, ext_pre]
      have hrd : rdF T w = some [x, y] := by
        have := rd_swap_hit hf (s := w) (k := k) hk (by rw [sget_eq _ _ hk]; exact h3)
        rw [this, sget_eq _ _ hk, h1, h2]
      have hst : stepS T (w ++ e) = some ([x, y], 2 * T.n.toNat) := step_swap (by rw [ByteArray.size_append]; omega) (by rw [he]; exact hrd)
      have hrest : (w ++ e).extract (2 * T.n.toNat) (w ++ e).size = e := by
        rw [← hz]; exact ext_suf _ _
      rw [decF_step (by omega) (by rw [ByteArray.size_append]; omega) (by omega) hst, hrest, ih]
      rfl

/-! ### The places that encoding reaches -/
abbrev Pl := Int × List Int
/-- A place is noted behind a word. -/
def wrP (G : Gr) (q : List Pl) (p : Pl) (w : ByteArray) (last : Int) : List Pl × Int :=
  if endA G p.2 (ltr w) = [] then (q, 13) else if (last, endA G p.2 (ltr w)) ∈ q then (q, 0) else if q.length = 1024 then (q, 4) else (q ++ [(last, endA G p.2 (ltr w))], 0)
def bsP (T : Tb) (G : Gr) (p : Pl) (x : List Pl × Int) (j : Nat) : List Pl × Int :=
  if x.2 ≠ 0 then x else if frW T p.1 (j : Int) = true then wrP G x.1 p (bget T.base j) (j : Int) else x
def ssP (T : Tb) (G : Gr) (p : Pl) (x : List Pl × Int) (s : Sw) : List Pl × Int :=
  if x.2 ≠ 0 then x else if frW T p.1 s.i = true then wrP G x.1 p s.wd (-1) else x
def rB (T : Tb) (G : Gr) (p : Pl) (q : List Pl) (k : Nat) : List Pl × Int := (List.range k).foldl (bsP T G p) (q, 0)
def rS (T : Tb) (G : Gr) (p : Pl) (x : List Pl × Int) (k : Nat) : List Pl × Int := (T.swaps.take k).foldl (ssP T G p) x
def rndP (T : Tb) (G : Gr) (p : Pl) (q : List Pl) : List Pl × Int := rS T G p (rB T G p q T.base.length) T.swaps.length
def kpN (T : Tb) (G : Gr) : Nat → Nat → List Pl → Int
  | 0, _, _ => 0
  | f + 1, i, q => if h : i < q.length then (if (rndP T G q[i] q).2 ≠ 0 then (rndP T G q[i] q).2 else kpN T G f (i + 1) (rndP T G q[i] q).1) else 0
def stP (G : Gr) : Pl := (-1, upto G.n.toNat)
/-- Why a table does not keep a graph. -/
def kpA (T : Tb) (G : Gr) : Int := kpN T G 1025 0 [stP G]
/-- What Check answers. -/
def chkL (T : Tb) (G : Gr) : Int := if fmd T = false ∨ chkG G ≠ 0 then 1 else if G.q ≠ T.q then 11 else if rdbl T = false then 14 else kpA T G
theorem rB_succ (T : Tb) (G : Gr) (p : Pl) (q : List Pl) (k : Nat) : rB T G p q (k + 1) = bsP T G p (rB T G p q k) k := by
  unfold rB; rw [List.range_succ, List.foldl_append]; rfl
theorem rS_succ (T : Tb) (G : Gr) (p : Pl) (x : List Pl × Int) (k : Nat) (h : k < T.swaps.length) : rS T G p x (k + 1) = ssP T G p (rS T G p x k) T.swaps[k] := by
  unfold rS; rw [List.take_succ_eq_append_getElem h, List.foldl_append]; rfl
/-- The queue grows, and stays short. -/
structure Grw (q q' : List Pl) : Prop where
  pre : q <+: q'
  len : q.length ≤ 1024 → q'.length ≤ 1024
theorem Grw.refl (q : List Pl) : Grw q q := ⟨List.prefix_refl _, id⟩
theorem Grw.trans {a b c : List Pl} (h : Grw a b) (k : Grw b c) : Grw a c := ⟨h.pre.trans k.pre, fun e => k.len (h.len e)⟩
theorem wrP_grw (G : Gr) (q : List Pl) (p : Pl) (w : ByteArray) (last : Int) : Grw q (wrP G q p w last).1 := by
  unfold wrP
  split
  · exact Grw.refl _
  · split
    · exact Grw.refl _
    · split
      · exact Grw.refl _
      · exact ⟨List.prefix_append _ _, fun h => by simp; omega⟩
theorem wrP_ok {G : Gr} {q : List Pl} {p : Pl} {w : ByteArray} {last : Int} (h : (wrP G q p w last).2 = 0) : endA G p.2 (ltr w) ≠ [] ∧ (last, endA G p.2 (ltr w)) ∈ (wrP G q p w last).1 := by
  unfold wrP at h ⊢
  split at h
  · simp at h
  · rename_i h0
    rw [if_neg h0]
    refine ⟨h0, ?_⟩
    split at h
    · rename_i h1; rw [if_pos h1]; exact h1
    · rename_i h1
      split at h
      · simp at h
      · rename_i h2; rw [if_neg h1, if_neg h2]; simp
theorem bsP_grw (T : Tb) (G : Gr) (p : Pl) (x : List Pl × Int) (j : Nat) : Grw x.1 (bsP T G p x j).1 := by
  unfold bsP; split
  · exact Grw.refl _
  · split
    · exact wrP_grw _ _ _ _ _
    · exact Grw.refl _
theorem ssP_grw (T : Tb) (G : Gr) (p : Pl) (x : List Pl × Int) (s : Sw) : Grw x.1 (ssP T G p x s).1 := by
  unfold ssP; split
  · exact Grw.refl _
  · split
    · exact wrP_grw _ _ _ _ _
    · exact Grw.refl _
theorem rB_grw (T : Tb) (G : Gr) (p : Pl) (q : List Pl) : ∀ k, Grw q (rB T G p q k).1
  | 0 => Grw.refl _
  | k + 1 => by rw [rB_succ]; exact (rB_grw T G p q k).trans (bsP_grw _ _ _ _ _)
theorem rS_grw (T : Tb) (G : Gr) (p : Pl) (x : List Pl × Int) : ∀ k, k ≤ T.swaps.length → Grw x.1 (rS T G p x k).1
  | 0, _ => by unfold rS; rw [List.take_zero]; exact Grw.refl _
  | k + 1, h => by rw [rS_succ _ _ _ _ _ (by omega)]; exact (rS_grw T G p x k (by omega)).trans (ssP_grw _ _ _ _ _)
/-- All that follows a place is there. -/
def FolB (T : Tb) (G : Gr) (p : Pl) (q : List Pl) (k : Nat) : Prop := ∀ j, j < k → frW T p.1 (j : Int) = true → endA G p.2 (ltr (bget T.base j)) ≠ [] ∧ ((j : Int), endA G p.2 (ltr (bget T.base j))) ∈ q
def FolS (T : Tb) (G : Gr) (p : Pl) (q : List Pl) (k : Nat) : Prop := ∀ j (h : j < T.swaps.length), j < k → frW T p.1 T.swaps[j].i = true → endA G p.2 (ltr T.swaps[j].wd) ≠ [] ∧ ((-1 : Int), endA G p.2 (ltr T.swaps[j].wd)) ∈ q
theorem rB_ok {T : Tb} {G : Gr} {p : Pl} {q : List Pl} : ∀ {k}, (rB T G p q k).2 = 0 → FolB T G p (rB T G p q k).1 k
  | 0, _ => fun j hj => by omega
  | k + 1, h => by
    rw [rB_succ] at h ⊢
    have h0 : (rB T G p q k).2 = 0 := by
      unfold bsP at h
      split at h
      · rename_i h1; exact absurd h h1
      · rename_i h1; simpa using h1
    have ih := rB_ok h0
    have hg := bsP_grw T G p (rB T G p q k) k
    intro j hj hfr
    rcases Nat.lt_succ_iff_lt_or_eq.1 hj with h2 | h2
    · have := ih j h2 hfr; exact ⟨this.1, hg.pre.subset this.2⟩
    · subst h2
      unfold bsP at h ⊢
      rw [if_neg (by simpa using h0), if_pos hfr] at h ⊢
      exact wrP_ok h
theorem rS_ok {T : Tb} {G : Gr} {p : Pl} {x : List Pl × Int} : ∀ {k}, k ≤ T.swaps.length → (rS T G p x k).2 = 0 → x.2 = 0 ∧ FolS T G p (rS T G p x k).1 k
  | 0, _, h => ⟨by unfold rS at h; rw [List.take_zero] at h; exact h, fun j _ hj => by omega⟩
  | k + 1, hk, h => by
    rw [rS_succ _ _ _ _ _ (by omega)] at h ⊢
    have h0 : (rS T G p x k).2 = 0 := by
      unfold ssP at h
      split at h
      · rename_i h1; exact absurd h h1
      · rename_i h1; simpa using h1
    obtain ⟨hx, ih⟩ := rS_ok (by omega) h0
    have hg := ssP_grw T G p (rS T G p x k) T.swaps[k]
    refine ⟨hx, fun j hj1 hj hfr => ?_⟩
    rcases Nat.lt_succ_iff_lt_or_eq.1 hj with h2 | h2
    · have := ih j hj1 h2 hfr; exact ⟨this.1, hg.pre.subset this.2⟩
    · subst h2
      unfold ssP at h ⊢
      rw [if_neg (by simpa using h0), if_pos hfr] at h ⊢
      exact wrP_ok h
theorem rnd_grw (T : Tb) (G : Gr) (p : Pl) (q : List Pl) : Grw q (rndP T G p q).1 := (rB_grw T G p q _).trans (rS_grw T G p _ _ (Nat.le_refl _))
theorem rnd_ok {T : Tb} {G : Gr} {p : Pl} {q : List Pl} (h : (rndP T G p q).2 = 0) : FolB T G p (rndP T G p q).1 T.base.length ∧ FolS T G p (rndP T G p q).1 T.swaps.length := by
  obtain ⟨h1, h2⟩ := rS_ok (Nat.le_refl _) h
  refine ⟨fun j hj hfr => ?_, h2⟩
  have := rB_ok h1 j hj hfr
  exact ⟨this.1, (rS_grw T G p _ _ (Nat.le_refl _)).pre.subset this.2⟩
/-- A set of places that holds all that follows them. -/
def Clo (T : Tb) (G : Gr) (q : List Pl) : Prop := ∀ p ∈ q, FolB T G p q T.base.length ∧ FolS T G p q T.swaps.length
theorem kpN_ok {T : Tb} {G : Gr} : ∀ (f i : Nat) (q : List Pl), q.length ≤ 1024 → 1025 ≤ f + i → i ≤ q.length → (∀ j (h : j < q.length), j < i → FolB T G q[j] q T.base.length ∧ FolS T G q[j] q T.swaps.length) → kpN T G f i q = 0 → ∃ q', q <+: q' ∧ Clo T G q'
  | 0, i, q, hl, hf, hi, _, _ => by omega
  | f + 1, i, q, hl, hf, hi, hcl, h => by
    rw [kpN] at h
    by_cases hlt : i < q.length
    · rw [dif_pos hlt] at h
      by_cases he : (rndP T G q[i] q).2 = 0
      · rw [if_neg (by simpa using he)] at h
        have hg := rnd_grw T G q[i] q
        have hr := rnd_ok he
        generalize (rndP T G q[i] q).1 = q' at *
        have hlen := hg.pre.length_le
        obtain ⟨q'', hp, hc⟩ := kpN_ok f (i + 1) q' (hg.len hl) (by omega) (by omega) (fun j hj hji => by
          have hjq : j < q.length := by omega
          have heq : q'[j] = q[j] := (hg.pre.getElem hjq).symm
          rw [heq]
          rcases Nat.lt_succ_iff_lt_or_eq.1 hji with h2 | h2
          · obtain ⟨a, b⟩ := hcl j hjq h2
            exact ⟨fun k hk hfr => ⟨(a k hk hfr).1, hg.pre.subset (a k hk hfr).2⟩, fun k h3 hk hfr => ⟨(b k h3 hk hfr).1, hg.pre.subset (b k h3 hk hfr).2⟩⟩
          · subst h2; exact hr) h
        exact ⟨q'', hg.pre.trans hp, hc⟩
      · rw [if_pos he] at h; exact absurd h he
    · refine ⟨q, List.prefix_refl _, fun p hp => ?_⟩
      obtain ⟨j, hj, rfl⟩ := List.getElem_of_mem hp
      exact hcl j hj (by omega)
theorem kp_clo {T : Tb} {G : Gr} (h : kpA T G = 0) : ∃ q, stP G ∈ q ∧ Clo T G q := by
  obtain ⟨q, hp, hc⟩ := kpN_ok 1025 0 [stP G] (by simp) (by omega) (by omega) (fun j _ hj => by omega) h
  exact ⟨q, hp.subset (by simp), hc⟩
theorem ltr_app (a b : ByteArray) : ltr (a ++ b) = ltr a ++ ltr b := by
  unfold ltr; rw [ByteArray.data_append, Array.toList_append, List.map_append]
theorem endA_app (G : Gr) (st : List Int) (a b : List Int) : endA G st (a ++ b) = endA G (endA G st a) b := by unfold endA; rw [List.foldl_append]
/-- What is written is spelled by the graph. -/
theorem clo_acc {T : Tb} {G : Gr} (hf : fmd T = true) {q : List Pl} (hc : Clo T G q) : ∀ (m : Nat) (l : List Int), l.length ≤ m → l.any (outB T.base.length) = false → ∀ p ∈ q, p.2 ≠ [] → (∀ y, l.head? = some y → frW T p.1 y = true) → endA G p.2 (ltr (encW T l)) ≠ []
  | _, [], _, _, p, _, hp, _ => by
    rw [encW_nil, show ltr (⟨#[]⟩ : ByteArray) = [] from rfl]; exact hp
  | _, [x], _, ho, p, hq, _, hfr => by
    have hx := outB_f (any_f ho 0 (by simp))
    simp only [List.getElem_cons_zero] at hx
    rw [encW_one]
    have h1 := (hc p hq).1 x.toNat (by omega) (by rw [show ((x.toNat : Nat) : Int) = x by omega]; exact hfr x rfl)
    exact h1.1
  | 0, x :: y :: r, hn, _, _, _, _, _ => by simp at hn
  | m + 1, x :: y :: r, hn, ho, p, hq, _, hfr => by
    have hx := outB_f (any_f ho 0 (by simp))
    simp only [List.getElem_cons_zero] at hx
    have ho1 : (y :: r).any (outB T.base.length) = false := by rw [List.any_cons] at ho; simp at ho ⊢; exact ho.2
    have ho2 : r.any (outB T.base.length) = false := by rw [List.any_cons] at ho1; simp at ho1 ⊢; exact ho1.2
    have hxe : ((x.toNat : Nat) : Int) = x := by omega
    cases hs : swapW T.swaps x y with
    | none =>
      have h1 := (hc p hq).1 x.toNat (by omega) (by rw [hxe]; exact hfr x rfl)
      rw [hxe] at h1
      rw [encW_base hs, ltr_app, endA_app]
      exact clo_acc hf hc m (y :: r) (by simp at hn ⊢; omega) ho1 _ h1.2 h1.1 (fun z hz => by
        have : z = y := by simpa using hz.symm
        subst this
        unfold frW; rw [hs]; rfl)
    | some w =>
      obtain ⟨k, hk, e1, e2, e3⟩ := swapW_mem hs
      have h1 := (hc p hq).2 k hk hk (by rw [e1]; exact hfr x rfl)
      rw [e3] at h1
      rw [encW_swap hs, ltr_app, endA_app]
      exact clo_acc hf hc m r (by simp at hn ⊢; omega) ho2 _ h1.2 h1.1 (fun z _ => frW_start hf z)
theorem clo_st {T : Tb} {G : Gr} (hf : fmd T = true) {q : List Pl} (hc : Clo T G q) (hs : stP G ∈ q) : upto G.n.toNat ≠ [] := fun e => by
  have hN := (pre_base hf)
  have h1 := (hc _ hs).1 0 hN (frW_start hf _)
  apply h1.1
  show endA G (upto G.n.toNat) _ = []
  rw [e, endA_nil]
/-- LookaheadInverse. -/
theorem inv_law {T : Tb} {G : Gr} (h : chkL T G = 0) {l : List Int} (ho : l.any (outB T.base.length) = false) : decF T (encW T l) = some l ∧ accA G (encW T l) = true := by
  have hf : fmd T = true := by
    unfold chkL at h
    split at h
    · cases h
    · rename_i h1
      cases hx : fmd T
      · exact absurd (.inl hx) h1
      · rfl
  have hr : rdbl T = true ∧ kpA T G = 0 := by
    unfold chkL at h
    split at h
    · cases h
    · split at h
      · cases h
      · split at h
        · cases h
        · rename_i h1; exact ⟨by simpa using h1, h⟩
  refine ⟨dec_enc hf hr.1 l.length l (Nat.le_refl _) ho, ?_⟩
  obtain ⟨q, hs, hc⟩ := kp_clo hr.2
  have := clo_acc hf hc l.length l (Nat.le_refl _) ho _ hs (clo_st hf hc hs) (fun y _ => frW_start hf y)
  unfold accA
  rw [decide_eq_true_eq]
  exact List.length_pos_iff.2 this
/-- LookaheadPairs: without swaps all pairs of Base words are words. -/
theorem pair_law {T : Tb} {G : Gr} (h : chkL T G = 0) (h0 : T.swaps = []) {i j : Nat} (hi : i < T.base.length) (hj : j < T.base.length) : accA G (bget T.base i ++ bget T.base j) = true := by
  have ho : [(i : Int), (j : Int)].any (outB T.base.length) = false := by simp [outB]; omega
  have := (inv_law h ho).2
  have hs : swapW T.swaps (i : Int) (j : Int) = none := by rw [h0]; rfl
  rw [encW_base hs, encW_one] at this
  exact this
end Go.Proofs.YtjpilmedlecdhaaGreat
namespace Go.Proofs.YtjpilmedlecdhaaGreat
open Go.RowKit

set_option maxHeartbeats 400000 in
theorem digit_any (c : Int) (w : World) :
    Calls Tryz.prog 83 #[.int .u8 c] w fun e w' => e = .returned (.int .i64 (dig c)) ∧ w = w' := by
  go_enter Tryz.func83, Tryz.ntmps83
  go_wp2
  go_loop [3] (fun i => ∃ k : Nat, k ≤ 16 ∧ i = .int .i64 k ∧ Hid (∀ j, j < k → letv j ≠ c)) (fun i => 16 - (intOf i).toNat)
  case atStart => exact ⟨0, by omega, rfl, fun _ h => by omega⟩
  case round =>
    obtain ⟨k, hk, rfl, hj⟩ := hrel
    by_cases hlt : k < 16
    · have hL := letb_get k hlt
      unfold letb at hL
      have HL := hidI hL; clear hL
      go_wp2
      · have h : _ = true := ‹(_ == c) = true›
        rw [HL.out, beq_iff_eq] at h
        go_ret
        exact ⟨ret_int (by rw [← h, dig_letv k hlt]), rfl⟩
      · have h : _ = false := ‹(_ == c) = false›
        rw [HL.out, beq_eq_false_iff_ne] at h
        go_round
        case rel => exact ⟨k + 1, by omega, by go_num, fun j hj' => by
          rcases Nat.lt_succ_iff_lt_or_eq.1 hj' with h1 | h1
          · exact hj.out j h1
          · rw [h1]; exact h⟩
        case measure => simp [intOf]; omega
    · obtain rfl : k = 16 := by omega
      go_wp2
      go_ret
      exact ⟨ret_int (dig_none c hj.out).symm, rfl⟩

set_option maxHeartbeats 400000 in
theorem check07_any (q : Int) (s : ByteArray) (w : World) (hs : s.size ≤ maxLen) :
    Calls Tryz.prog 58 #[.int .i64 q, .string s] w fun e w' => e = .returned (.int .i64 (wchk q s.data.toList)) ∧ w = w' := by
  unfold maxLen at hs
  have hl : s.data.toList.length = s.size := by simp
  by_cases h1 : q < 1
  · have HP := hidI (wchk_alpha q s.data.toList (.inl h1))
    go_enter Tryz.func58, Tryz.ntmps58
    go_wp2
    go_ret
    exact ⟨ret_int HP.out.symm, rfl⟩
  by_cases h2 : 16 < q
  · have HP := hidI (wchk_alpha q s.data.toList (.inr h2))
    go_enter Tryz.func58, Tryz.ntmps58
    go_wp2
    go_ret
    exact ⟨ret_int HP.out.symm, rfl⟩
  by_cases h3 : 65536 < s.size
  · have HP := hidI (wchk_long q s.data.toList (by omega) (by omega) (by omega))
    clear hl
    go_enter Tryz.func58, Tryz.ntmps58
    go_wp2
    go_ret
    exact ⟨ret_int HP.out.symm, rfl⟩
  have HB := hidI (wchk_bad q s.data.toList (by omega) (by omega) (by omega))
  have HO := hidI (wchk_ok q s.data.toList (by omega) (by omega) (by omega))
  clear hl
  go_enter Tryz.func58, Tryz.ntmps58
  go_wp2
  go_loop [5] (fun i => ∃ k : Nat, k ≤ s.size ∧ i = .int .i64 k ∧ Hid (okw q (s.data.toList.take k) = true)) (fun i => s.size - (intOf i).toNat)
  case atStart => exact ⟨0, by omega, rfl, by simp [Hid, okw]⟩
  case round =>
    obtain ⟨k, hk, rfl, hj⟩ := hrel
    by_cases hlt : k < s.size
    · have db := dig_bd s[k].toNat
      by_cases c1 : dig s[k].toNat < 0
      · have hc : okc q s[k] = false := by simp [okc]; omega
        have HC := hidI (HB.out (okw_bad q s k hlt hc)); clear hc
        go_wp2_with (go_at_call 83; refine (digit_any _ _).mono ?_; rintro e w' ⟨rfl, rfl⟩)
        go_ret
        exact ⟨ret_int HC.out.symm, rfl⟩
      by_cases c2 : q ≤ dig s[k].toNat
      · have hc : okc q s[k] = false := by simp [okc]; omega
        have HC := hidI (HB.out (okw_bad q s k hlt hc)); clear hc
        go_wp2_with (go_at_call 83; refine (digit_any _ _).mono ?_; rintro e w' ⟨rfl, rfl⟩)
        go_ret
        exact ⟨ret_int HC.out.symm, rfl⟩
      have hc : okc q s[k] = true := by simp [okc]; omega
      have HC := hidI (okw_snoc q s k hlt hj.out hc); clear hc
      go_wp2_with (go_at_call 83; refine (digit_any _ _).mono ?_; rintro e w' ⟨rfl, rfl⟩)
      go_round
      case rel => exact ⟨k + 1, by omega, by go_num, HC⟩
      case measure => simp [intOf]; omega
    · have HP := hidI (HO.out (okw_of_take q _ k (by simp; omega) hj.out))
      go_wp2
      go_ret
      exact ⟨ret_int HP.out.symm, rfl⟩

set_option maxHeartbeats 400000 in
theorem known_t (q : Int) (w : World) (h1 : 1 ≤ q) (h2 : q ≤ 16) :
    Calls Tryz.prog 46 #[.int .i64 q] w fun e w' => e = .returned (.bool true) ∧ w = w' := by
  go_enter Tryz.func46, Tryz.ntmps46
  go_wp2
  go_ret
  exact ⟨rfl, rfl⟩

set_option maxHeartbeats 400000 in
theorem known_f (q : Int) (w : World) (h : q < 1 ∨ 16 < q) :
    Calls Tryz.prog 46 #[.int .i64 q] w fun e w' => e = .returned (.bool false) ∧ w = w' := by
  by_cases h1 : 1 ≤ q
  · have h2 : 16 < q := by omega
    go_enter Tryz.func46, Tryz.ntmps46
    go_wp2
    go_ret
    exact ⟨ret_bool (by simp; omega), rfl⟩
  · go_enter Tryz.func46, Tryz.ntmps46
    go_wp2
    go_ret
    exact ⟨rfl, rfl⟩

set_option maxHeartbeats 400000 in
theorem wcheck_any (q : Int) (s : ByteArray) (w : World) (hs : s.size ≤ maxLen) :
    Calls Tryz.prog 44 #[.int .i64 q, .string s] w fun e w' => e = .returned (.int .i64 (wchk q s.data.toList)) ∧ Dr w w' := by
  unfold maxLen at hs
  have hl : s.data.toList.length = s.size := by simp
  by_cases h1 : q < 1
  · have HP := hidI (wchk_alpha q s.data.toList (.inl h1))
    go_enter Tryz.func44, Tryz.ntmps44
    go_wp2_with (go_at_call 46; refine (known_f _ _ (.inl h1)).mono ?_; rintro e w' ⟨rfl, rfl⟩)
    go_ret
    exact ⟨ret_int HP.out.symm, Dr.refl _⟩
  by_cases h2 : 16 < q
  · have HP := hidI (wchk_alpha q s.data.toList (.inr h2))
    go_enter Tryz.func44, Tryz.ntmps44
    go_wp2_with (go_at_call 46; refine (known_f _ _ (.inr h2)).mono ?_; rintro e w' ⟨rfl, rfl⟩)
    go_ret
    exact ⟨ret_int HP.out.symm, Dr.refl _⟩
  by_cases h3 : 65536 < s.size
  · have HP := hidI (wchk_long q s.data.toList (by omega) (by omega) (by omega))
    clear hl
    go_enter Tryz.func44, Tryz.ntmps44
    go_wp2_with (go_at_call 46; refine (known_t _ _ (by omega) (by omega)).mono ?_; rintro e w' ⟨rfl, rfl⟩)
    go_ret
    exact ⟨ret_int HP.out.symm, Dr.refl _⟩
  have HB := hidI (wchk_bad q s.data.toList (by omega) (by omega) (by omega))
  have HO := hidI (wchk_ok q s.data.toList (by omega) (by omega) (by omega))
  clear hl
  go_enter Tryz.func44, Tryz.ntmps44
  go_wp2_with (go_at_call 46; refine (known_t _ _ (by omega) (by omega)).mono ?_; rintro e w' ⟨rfl, rfl⟩)
  go_loopw [16] (fun i wr => ∃ k : Nat, k ≤ s.size ∧ i = .int .i64 k ∧ Hid (okw q (s.data.toList.take k) = true) ∧ Dr w wr) (fun i _ => s.size - (intOf i).toNat)
  case atStart => exact ⟨0, by omega, rfl, by simp [Hid, okw], Dr.refl _⟩
  case round =>
    obtain ⟨k, hk, rfl, hj, hD⟩ := hrel
    by_cases hlt : k < s.size
    · go_wp2_with fail
      have hq0 : 0 ≤ q := by omega
      have hq0' : 1 ≤ q := by omega
      have hq16 : q ≤ 16 := by omega
      go_quiet ((go_at_call 63; exact Calls.quiet_of_same (Tryz.strings_IndexByte _ _ _)))
      go_wp2
      · have hc := idx_lt q s[k] hq0' hq16 ‹_›
        go_ret
        exact ⟨ret_int (HB.out (okw_bad q s k hlt hc)).symm, hD.one _⟩
      · have hc := idx_ge q s[k] hq0' hq16 ‹_›
        go_roundw
        case rel => exact ⟨k + 1, by omega, by go_num, okw_snoc q s k hlt hj.out hc, hD.one _⟩
        case measure => simp [intOf]; omega
    · have HP := hidI (HO.out (okw_of_take q _ k (by simp; omega) hj.out))
      go_wp2
      go_ret
      exact ⟨ret_int HP.out.symm, hD⟩
end Go.Proofs.YtjpilmedlecdhaaGreat
namespace Go.Proofs.YtjpilmedlecdhaaGreat
open Go.RowKit

theorem sizeBuilder : (Tryz.prog.info? 72).map (·.size) = some 2 := by kernel_rfl
theorem liesBuilder : liesAt Tryz.prog Tryz.prog.depth 72 (2 / Tryz.prog.cellsOf 72) 0 72 1 = true := by kernel_rfl
theorem infoByte : (Tryz.prog.info? 5).map (fun i => (i.zero, i.size, i.bytes)) = some (some (.int .u8 0), 1, 1) := by kernel_rfl

set_option maxHeartbeats 1000000 in
set_option maxRecDepth 100000 in
theorem bcopy_used (b : Nat) (w : World) (h0 : w.cell? ⟨b, 0, none⟩ = some (.pointer (some ⟨b, 0, none⟩))) :
    Calls Tryz.prog 62 #[.pointer (some ⟨b, 0, none⟩)] w fun e w' => e = .returned (.tuple #[]) ∧ w' = w := by
  obtain ⟨j, hj, _⟩ := Option.map_eq_some_iff.1 sizeBuilder
  go_enter Tryz.func62, Tryz.ntmps62
  go_wp2
  rw [Lib.run_neq_ptr_same w _ Tryz.underlying69 hj]
  go_wp2
  go_end0
  exact ⟨rfl, rfl⟩

set_option maxHeartbeats 1000000 in
set_option maxRecDepth 100000 in
theorem bcopy_fresh (b : Nat) (w : World) (h0 : w.cell? ⟨b, 0, none⟩ = some (.pointer none)) (hsh : w.shape? b = some (72, 2)) (hfz : w.frozen? ⟨b, 0, none⟩ = false) :
    Calls Tryz.prog 62 #[.pointer (some ⟨b, 0, none⟩)] w fun e w' => e = .returned (.tuple #[]) ∧ w' = w.setCell ⟨b, 0, none⟩ (.pointer (some ⟨b, 0, none⟩)) := by
  obtain ⟨j, hj, hjs⟩ := Option.map_eq_some_iff.1 sizeBuilder
  go_enter Tryz.func62, Tryz.ntmps62
  go_wp2
  rw [Lib.run_to_unsafe w ⟨b, 0, none⟩ Tryz.underlying69 Tryz.underlying123 hj (by rw [hjs]; decide) hsh (Nat.zero_lt_succ 1)]
  simp only [Result.andThen]
  rw [Oper.upon_value]
  go_wp2
  rw [run_callFunc_extern Tryz.func84 (by kernel_rfl) (by kernel_rfl) (by kernel_rfl) (e := Extern.AbiNoEscape.same) (by kernel_rfl)]
  rw [Lib.run_noEscape]
  simp only [Result.andThen]
  rw [Oper.upon_value]
  go_wp2
  rw [Lib.run_from_unsafe w ⟨b, 0, none⟩ Tryz.underlying123 Tryz.underlying69 hj hsh liesBuilder]
  simp only [Result.andThen]
  rw [Oper.upon_value]
  go_wp2
  go_end0
  exact ⟨rfl, rfl⟩

theorem bcopy_any (B b : Nat) (bs : List Value) (w : World) (h : Lib.IsBuilderF 72 5 B b bs w) :
    Calls Tryz.prog 62 #[.pointer (some ⟨b, 0, none⟩)] w fun e w' => e = .returned (.tuple #[]) ∧ (Lib.BuilderAtF 72 5 B b (.pointer (some ⟨b, 0, none⟩)) bs w' ∧ Below B w w') := by
  rcases h with h | h
  · refine (bcopy_fresh b w h.cell0 h.shape h.frozen0).mono ?_
    rintro e w' ⟨rfl, rfl⟩
    exact ⟨rfl, h.used _, (Below.refl B w).setCell (p := ⟨b, 0, none⟩) h.1 _⟩
  · refine (bcopy_used b w h.cell0).mono ?_
    rintro e w' ⟨rfl, rfl⟩
    exact ⟨rfl, h, Below.refl B _⟩

set_option maxHeartbeats 2000000 in
set_option maxRecDepth 100000 in
theorem bwrite_any (B b : Nat) (bs : List Value) (s : ByteArray) (w : World) (h : Lib.IsBuilderF 72 5 B b bs w) (hlen : bs.length + s.size ≤ 140737488355328) (hBw : B ≤ w.heap.size) :
    Calls Tryz.prog 42 #[.pointer (some ⟨b, 0, none⟩), .string s] w fun e w' => e = .returned (.tuple #[.int .i64 s.size, .nilIface]) ∧ (Lib.BuilderAtF 72 5 B b (.pointer (some ⟨b, 0, none⟩)) (bs ++ Lib.strCells s) w' ∧ Below B w w') := by
  obtain ⟨i0, hi, hz0, hz1, hz2⟩ := info_parts infoByte
  go_enter Tryz.func42, Tryz.ntmps42
  go_wp2_with (go_at_call 62; refine (bcopy_any B b bs _ h).mono ?_)
  rintro e w1 ⟨rfl, h1, hb1⟩
  obtain ⟨hB, v, hbk, hown, hne⟩ := h1
  have c0 : w1.cell? ⟨b, 0, none⟩ = some (.pointer (some ⟨b, 0, none⟩)) := by rw [Lib.cell_of_heap hbk]; rfl
  have c1 : w1.cell? ⟨b, 1, none⟩ = some v := by rw [Lib.cell_of_heap hbk]; rfl
  go_wp2_with (at_builtin; refine Lib.wpList_append_own_stringF _ rfl _ _ 70 9 rfl B 5 i0 Tryz.underlying70 Tryz.underlying9 hi hz0 hz1 hz2 _ _ _ rfl hown s rfl ?c3 ?c4 ?c5 ?_)
  case c3 => unfold maxLen; omega
  case c4 => omega
  case c5 => have := hb1.size; omega
  intro v' w2 hown' hgrow _
  have hlt : b < w1.heap.size := by
    rcases Nat.lt_or_ge b w1.heap.size with h' | h'
    · exact h'
    · simp [Array.getElem?_eq_none h'] at hbk
  have hb2 : w2.heap[b]? = some (.cells #[.pointer (some ⟨b, 0, none⟩), v] 72 (0, 0)) := by
    rw [hgrow.block b hlt (fun e => hne e.symm)]
    exact hbk
  have d0 : w2.cell? ⟨b, 0, none⟩ = some (.pointer (some ⟨b, 0, none⟩)) := by rw [Lib.cell_of_heap hb2]; rfl
  have d1 : w2.cell? ⟨b, 1, none⟩ = some v := by rw [Lib.cell_of_heap hb2]; rfl
  have f1 : w2.frozen? ⟨b, 1, none⟩ = false := Lib.frozen_of_heap hb2 1
  obtain ⟨ao, n', cap, rfl⟩ : ∃ ao n' cap, v' = .slice ao n' cap := by
    rcases hown'.2 with ⟨hv, _⟩ | ⟨g, cap, cur, fz, hv, _⟩
    · exact ⟨_, _, _, hv⟩
    · exact ⟨_, _, _, hv⟩
  go_wp2
  go_ret2
  refine ⟨rfl, ?_, ?_⟩
  · exact Lib.BuilderAtF.put (T := 72) (e := 5) hB hb2 (bs' := bs ++ Lib.strCells s) (by simpa [Lib.strCells_length] using hown') (by decide)
  · exact (hb1.grown hgrow (by have := hb1.size; omega) (fun k hk => (hown.lt k hk).1)).setCell (p := ⟨b, 1, none⟩) hB _
end Go.Proofs.YtjpilmedlecdhaaGreat
namespace Go.Proofs.YtjpilmedlecdhaaGreat
open Go.RowKit Go.ChangeMaps Go.MapKept Go.WideShapes Go.Maps

/-- The keys of a kind, as they lie in memory. -/
structure KeyBy {α : Type} (P : Program) (k : TypeId) (kv : α → Value) (ok : α → Prop) : Prop where
  law : Keyed P k
  reads : ∀ a, ok a → ∃ l, keyOf P k (kv a) = some l
  inj : ∀ a b, ok a → ok b → kv a = kv b → a = b

/-- Block b is a map that answers as f does. -/
def Mp {α β : Type} (kv : α → Value) (ok : α → Prop) (vv : β → Value) (w : World) (b : Nat) (f : α → Option β) : Prop :=
  ∃ es clock, w.heap[b]? = some (.map es clock) ∧ es.toList.Pairwise (fun x y => x.key ≠ y.key) ∧
    (∀ e ∈ es.toList, ∃ a x, e.key = kv a ∧ ok a ∧ e.val = vv x ∧ f a = some x) ∧ (∀ a x, f a = some x → ∃ e ∈ es.toList, e.key = kv a)

section
variable {α β : Type} {kv : α → Value} {ok : α → Prop} {vv : β → Value} {w : World} {b : Nat} {f : α → Option β} {P : Program} {k : TypeId}

theorem Mp.lt (h : Mp kv ok vv w b f) : b < w.heap.size := by
  obtain ⟨es, clock, hb, _⟩ := h
  exact (Array.getElem?_eq_some_iff.1 hb).1
theorem Mp.same {w' : World} (h : Mp kv ok vv w b f) (hb : w'.heap[b]? = w.heap[b]?) : Mp kv ok vv w' b f := by
  obtain ⟨es, clock, hb', r⟩ := h
  exact ⟨es, clock, hb.trans hb', r⟩
theorem Mp.alloc (h : Mp kv ok vv w b f) (o : Obj) : Mp kv ok vv (w.alloc o) b f := h.same (Below.heap_alloc w o b h.lt)
theorem Mp.drewN (h : Mp kv ok vv w b f) (n : Nat) : Mp kv ok vv (w.drewN n) b f := h
theorem Mp.drew (h : Mp kv ok vv w b f) : Mp kv ok vv w.drew b f := h
theorem Mp.below {w' : World} {B : Nat} (h : Mp kv ok vv w b f) (hB : Below B w w') (hb : b < B) : Mp kv ok vv w' b f := h.same (hB.block b hb)
theorem Mp.kept {w' : World} {row : Option Nat} (h : Mp kv ok vv w b f) (hg : w.grownBy w' row) (hne : some b ≠ row) : Mp kv ok vv w' b f :=
  h.same (hg.block b h.lt hne)
theorem Mp.setCell (h : Mp kv ok vv w b f) {a : Addr} (ha : b ≠ a.block) (u : Value) : Mp kv ok vv (w.setCell a u) b f := h.same (Below.heap_setCell _ _ _ _ ha)
theorem Mp.made (w : World) : Mp kv ok vv (w.alloc (.map #[] 0)) w.heap.size (fun _ => none) :=
  ⟨#[], 0, heap_alloc_new w _, by simp, by simp, by simp⟩
theorem Mp.congr {g : α → Option β} (h : Mp kv ok vv w b f) (e : ∀ a, f a = g a) : Mp kv ok vv w b g := by
  have : f = g := funext e
  exact this ▸ h

theorem Mp.look {t e : TypeId} (h : Mp kv ok vv w b f) (K : KeyBy P k kv ok) (ht : P.underlying t = some (.map k e)) {z : Value} (hz : (zeroValue e).run P w = .ok z w) (a : α) (ha : ok a) (c : Bool) :
    (Instr.lookup t (.map (some b)) (kv a) c).run P w = .ok (match f a with | some x => if c then .tuple #[vv x, .bool true] else vv x | none => if c then .tuple #[z, .bool false] else z) w := by
  obtain ⟨es, clock, hb, hd, hr, hc⟩ := h
  obtain ⟨kl, hkey⟩ := K.reads a ha
  have hkeys : ∀ e ∈ es.toList, ∃ l, keyOf P k e.key = some l := fun e he => by
    obtain ⟨a', x, h1, h2, _⟩ := hr e he
    rw [h1]; exact K.reads a' h2
  rcases K.law.find w hkey es.toList hkeys with ⟨h1, h2⟩ | ⟨j, e0, h1, h2, h3⟩
  · have hf : f a = none := by
      cases hfa : f a with
      | none => rfl
      | some x => obtain ⟨e, he, hk⟩ := hc a x hfa; exact absurd hk (h2 e he)
    rw [hf]
    simp [Instr.lookup, run_underlying ht, MapKept.run_getObj_map hb, K.law.check w _ hkey, h1, hz, Result.andThen]
  · obtain ⟨a', x, g1, g2, g3, g4⟩ := hr e0 (List.mem_of_getElem? h2)
    obtain rfl := K.inj a' a g2 ha (g1.symm.trans h3)
    rw [g4]
    simp [Instr.lookup, run_underlying ht, MapKept.run_getObj_map hb, K.law.check w _ hkey, h1, g3, Result.andThen]

/-- One key more, or another value at it. -/
def mset [DecidableEq α] (f : α → Option β) (a : α) (x : β) : α → Option β := fun a' => if a' = a then some x else f a'
theorem mset_at [DecidableEq α] (f : α → Option β) (a : α) (x : β) : mset f a x a = some x := by simp [mset]
theorem mset_ne [DecidableEq α] (f : α → Option β) (a a' : α) (x : β) (h : a' ≠ a) : mset f a x a' = f a' := by simp [mset, h]

theorem Mp.store [DecidableEq α] {t e : TypeId} (h : Mp kv ok vv w b f) (K : KeyBy P k kv ok) (ht : P.underlying t = some (.map k e)) (a : α) (ha : ok a) (x : β) :
    ∃ w', (Instr.mapUpdate t (.map (some b)) (kv a) (vv x)).run P w = .ok () w' ∧ Mp kv ok vv w' b (mset f a x) ∧ w.mapTurned w' b := by
  obtain ⟨es, clock, hb, hd, hr, hc⟩ := h
  obtain ⟨kl, hkey⟩ := K.reads a ha
  have hkeys : ∀ e ∈ es.toList, ∃ l, keyOf P k e.key = some l := fun e he => by
    obtain ⟨a', x, h1, h2, _⟩ := hr e he
    rw [h1]; exact K.reads a' h2
  rcases K.law.find w hkey es.toList hkeys with ⟨h1, h2⟩ | ⟨j, e0, h1, h2, h3⟩
  · refine ⟨_, ?_, ⟨es.push ⟨kv a, vv x, clock⟩, clock + 1, heap_setBlock_same hb _, ?_, ?_, ?_⟩, ⟨es, clock, _, _, hb, rfl⟩⟩
    · simp [Instr.mapUpdate, run_underlying ht, MapKept.run_getObj_map hb, K.law.check w false hkey, h1, MapKept.run_setObj_map _ hb, Result.andThen, setBlock]
    · rw [Array.toList_push, List.pairwise_append]
      refine ⟨hd, by simp, fun y hy z hz => ?_⟩
      simp only [List.mem_singleton] at hz; subst hz
      exact h2 y hy
    · intro y hy
      rw [Array.toList_push, List.mem_append, List.mem_singleton] at hy
      rcases hy with hy | rfl
      · obtain ⟨a', x', g1, g2, g3, g4⟩ := hr y hy
        refine ⟨a', x', g1, g2, g3, ?_⟩
        rw [mset_ne _ _ _ _ (fun e => h2 y hy (by rw [g1, e]))]; exact g4
      · exact ⟨a, x, rfl, ha, rfl, mset_at _ _ _⟩
    · intro a' x' hfa
      by_cases e : a' = a
      · subst e; exact ⟨⟨kv a', vv x, clock⟩, by simp, rfl⟩
      · rw [mset_ne _ _ _ _ e] at hfa
        obtain ⟨y, hy, hk⟩ := hc a' x' hfa
        exact ⟨y, by simp [Array.toList_push]; exact .inl (by simpa using hy), hk⟩
  · have hj : es[j]? = some e0 := by simpa using h2
    have hjl : j < es.toList.length := (List.getElem?_eq_some_iff.1 h2).1
    have hlist : (es.modify j (fun e' => { e' with key := kv a, val := vv x })).toList = es.toList.set j { e0 with key := kv a, val := vv x } := by rw [Array.toList_modify, modify_eq_set _ _ _ _ h2]
    have hkm : (es.toList.set j { e0 with key := kv a, val := vv x }).map MapEntry.key = es.toList.map MapEntry.key := by
      rw [List.map_set]
      apply List.ext_getElem?
      intro i
      rw [List.getElem?_set]
      split
      · rename_i hi; subst hi
        rw [if_pos (by simpa using hjl), List.getElem?_map, h2]
        simp [h3]
      · rfl
    have hd' : (es.toList.set j { e0 with key := kv a, val := vv x }).Pairwise (fun x y => x.key ≠ y.key) := by
      have hn : (es.toList.map MapEntry.key).Pairwise (· ≠ ·) := List.pairwise_map.2 hd
      rw [← hkm] at hn
      exact List.pairwise_map.1 hn
    refine ⟨_, ?_, ⟨es.modify j (fun e' => { e' with key := kv a, val := vv x }), clock, heap_setBlock_same hb _, ?_, ?_, ?_⟩, ⟨es, clock, _, _, hb, rfl⟩⟩
    · have hst := K.law.stays w hkey
      simp [Instr.mapUpdate, run_underlying ht, MapKept.run_getObj_map hb, K.law.check w false hkey, h1, hj, h3, hst, MapKept.run_setObj_map _ hb, Result.andThen, setBlock]
    · rw [hlist]; exact hd'
    · intro y hy
      rw [hlist] at hy
      obtain ⟨i, hi, hyi⟩ := List.mem_iff_getElem.1 hy
      rw [List.getElem_set] at hyi
      split at hyi
      · subst hyi; exact ⟨a, x, rfl, ha, rfl, mset_at _ _ _⟩
      · rename_i hne
        have hi' : i < es.toList.length := by simpa using hi
        have hym : y ∈ es.toList := by rw [← hyi]; exact List.getElem_mem _
        obtain ⟨a', x', g1, g2, g3, g4⟩ := hr y hym
        refine ⟨a', x', g1, g2, g3, ?_⟩
        rw [mset_ne]
        · exact g4
        · rintro rfl
          have e1 : es.toList[i].key = es.toList[j].key := by
            rw [hyi, g1]
            have : es.toList[j] = e0 := by have := List.getElem?_eq_getElem hjl; rw [h2] at this; exact (Option.some.inj this).symm
            rw [this, h3]
          rcases Nat.lt_or_gt_of_ne (fun e => hne e) with hlt | hlt
          · exact (List.pairwise_iff_getElem.1 hd j i hjl hi' hlt) e1.symm
          · exact (List.pairwise_iff_getElem.1 hd i j hi' hjl hlt) e1
    · intro a' x' hfa
      rw [hlist]
      by_cases e : a' = a
      · subst e
        exact ⟨_, List.mem_of_getElem? (by rw [List.getElem?_set_self hjl]), rfl⟩
      · rw [mset_ne _ _ _ _ e] at hfa
        obtain ⟨y, hy, hk⟩ := hc a' x' hfa
        have : y.key ∈ (es.toList.set j { e0 with key := kv a, val := vv x }).map MapEntry.key := by rw [hkm]; exact List.mem_map_of_mem hy
        obtain ⟨y', hy', e'⟩ := List.mem_map.1 this
        exact ⟨y', hy', e'.trans hk⟩

/-! ### at the operation, for the walk -/
theorem wpList_lookup_mp {ops : Array Oper} {rest : List Oper} {o : Oper} {a : Act} {Q : Exit → Act → World → Prop}
    (hg : o.guard = none) (m x : Operand) (t : TypeId) (c : Bool) (hop : o.op = Op.lookup t m x c) (e : TypeId) (K : KeyBy P k kv ok) (ht : P.underlying t = some (.map k e)) (z : Value) (hz : (zeroValue e).run P w = .ok z w)
    (b : Nat) (f : α → Option β) (hm : a.eval m = .map (some b)) (hown : Mp kv ok vv w b f) (key : α) (hx : a.eval x = kv key) (hkey : ok key) (r : Value)
    (hr : (match f key with | some x => if c then .tuple #[vv x, .bool true] else vv x | none => if c then .tuple #[z, .bool false] else z) = r)
    (hK : wpList P ops Q rest (a.put o.dst r) w) : wpList P ops Q (o :: rest) a w := by
  refine wpList_plain hg fun K' hK' => ?_
  have hrun := hown.look K ht hz key hkey c
  rw [hr] at hrun
  unfold Oper.wp
  simp [execOp, hop, hm, hx, hrun, Result.andThen]
  exact hK' _ _ hK
theorem wpList_update_mp [DecidableEq α] {ops : Array Oper} {rest : List Oper} {o : Oper} {a : Act} {Q : Exit → Act → World → Prop}
    (hg : o.guard = none) (m x v : Operand) (t : TypeId) (hop : o.op = Op.mapUpdate t m x v) (e : TypeId) (K : KeyBy P k kv ok) (ht : P.underlying t = some (.map k e))
    (b : Nat) (f : α → Option β) (hm : a.eval m = .map (some b)) (hown : Mp kv ok vv w b f) (key : α) (hx : a.eval x = kv key) (hkey : ok key) (val : β) (hv : a.eval v = vv val)
    (hK : ∀ w', Mp kv ok vv w' b (mset f key val) → w.mapTurned w' b → wpList P ops Q rest (a.put o.dst undef) w') : wpList P ops Q (o :: rest) a w := by
  refine wpList_plain hg fun K' hK' => ?_
  obtain ⟨w', hrun, r1, r2⟩ := hown.store K ht key hkey val
  unfold Oper.wp
  simp [execOp, hop, hm, hx, hv, hrun, Result.andThen]
  exact hK' _ _ (hK w' r1 r2)
variable {F : Fence} {nF : Nat}
theorem wpListIn_lookup_mp {ops : Array Oper} {rest : List Oper} {o : Oper} {a : Act} {Q : Exit → Act → World → Prop}
    (hg : o.guard = none) (m x : Operand) (t : TypeId) (c : Bool) (hop : o.op = Op.lookup t m x c) (e : TypeId) (K : KeyBy P k kv ok) (ht : P.underlying t = some (.map k e)) (z : Value) (hz : (zeroValue e).run P w = .ok z w)
    (b : Nat) (f : α → Option β) (hm : a.eval m = .map (some b)) (hown : Mp kv ok vv w b f) (key : α) (hx : a.eval x = kv key) (hkey : ok key) (r : Value)
    (hr : (match f key with | some x => if c then .tuple #[vv x, .bool true] else vv x | none => if c then .tuple #[z, .bool false] else z) = r)
    (hK : wpListIn F nF P ops Q rest (a.put o.dst r) w) : wpListIn F nF P ops Q (o :: rest) a w := by
  refine wpListIn_plain hg fun K' hK' => ?_
  have hrun := hown.look K ht hz key hkey c
  rw [hr] at hrun
  unfold Oper.wpIn
  refine ⟨by simp [Oper.about, hop], ?_⟩
  rw [Oper.semAt_plain F _ _ (by rw [hop]; intro c hc'; cases hc')]
  simp [execOp, hop, hm, hx, hrun, Result.andThen]
  exact hK' _ _ hK
theorem wpListIn_update_mp [DecidableEq α] {ops : Array Oper} {rest : List Oper} {o : Oper} {a : Act} {Q : Exit → Act → World → Prop}
    (hg : o.guard = none) (m x v : Operand) (t : TypeId) (hop : o.op = Op.mapUpdate t m x v) (e : TypeId) (K : KeyBy P k kv ok) (ht : P.underlying t = some (.map k e))
    (b : Nat) (f : α → Option β) (hm : a.eval m = .map (some b)) (hown : Mp kv ok vv w b f) (key : α) (hx : a.eval x = kv key) (hkey : ok key) (val : β) (hv : a.eval v = vv val)
    (hK : ∀ w', Mp kv ok vv w' b (mset f key val) → w.mapTurned w' b → wpListIn F nF P ops Q rest (a.put o.dst undef) w') : wpListIn F nF P ops Q (o :: rest) a w := by
  refine wpListIn_plain hg fun K' hK' => ?_
  obtain ⟨w', hrun, r1, r2⟩ := hown.store K ht key hkey val
  unfold Oper.wpIn
  refine ⟨by simp [Oper.about, hop], ?_⟩
  rw [Oper.semAt_plain F _ _ (by rw [hop]; intro c hc'; cases hc')]
  simp [execOp, hop, hm, hx, hv, hrun, Result.andThen]
  exact hK' _ _ (hK w' r1 r2)
end
end Go.Proofs.YtjpilmedlecdhaaGreat
namespace Go.Proofs.YtjpilmedlecdhaaGreat
open Go.RowKit

/-- A table, as it comes in. -/
def tbV (T : Tb) (p1 p2 : Option Addr) (c1 c2 : Nat) : Value := .agg #[.int .i64 T.q, .int .i64 T.n, .slice p1 T.base.length c1, .slice p2 T.swaps.length c2]
def greatT (T : Tb) : Bool := decide (5 < T.base.length) || (decide (8 < T.swaps.length) || ((decide (3 < T.n) && decide (T.n ≤ 8)) || (decide (3 < T.q) && decide (T.q ≤ 16))))

set_option maxHeartbeats 400000 in
theorem great_any (T : Tb) (p1 p2 : Option Addr) (c1 c2 : Nat) (w : World) (h1 : T.base.length ≤ 9223372036854775807) (h2 : T.swaps.length ≤ 9223372036854775807) :
    Calls Tryz.prog 4 #[.agg #[.int .i64 T.q, .int .i64 T.n, .slice p1 T.base.length c1, .slice p2 T.swaps.length c2]] w fun e w' => e = .returned (.bool (greatT T)) ∧ Below w.heap.size w w' := by
  go_enter Tryz.func4, Tryz.ntmps4
  go_wp2
  all_goals go_ret
  all_goals exact ⟨ret_bool (by unfold greatT; rw [Bool.eq_iff_iff]; simp; omega), (Below.refl _ _).alloc (Nat.le_refl _) _⟩

set_option maxHeartbeats 400000 in
theorem cmpI_any (x y : Int) (w : World) : Calls Tryz.prog 74 #[.int .i64 x, .int .i64 y] w fun e w' => e = .returned (.int .i64 (cmpI x y)) ∧ w' = w := by
  refine (Tryz.cmp_Compare_int x y w).mono ?_
  rintro e w' ⟨rfl, rfl⟩
  exact ⟨ret_int (by unfold Lib.compareInt cmpI; rfl), rfl⟩

def orI (x y : Int) : Int := if x ≠ 0 then x else y
set_option maxHeartbeats 400000 in
theorem cmpOr2_any (x y : Int) (B : Nat) (w : World) (h0 : w.cell? ⟨B, 0, none⟩ = some (.int .i64 x)) (h1 : w.cell? ⟨B, 1, none⟩ = some (.int .i64 y)) :
    Calls Tryz.prog 73 #[.slice (some ⟨B, 0, none⟩) 2 2] w fun e w' => e = .returned (.int .i64 (orI x y)) ∧ w' = w := by
  by_cases hx : x = 0
  · have hxb : (x == 0) = true := by simpa using hx
    by_cases hy : y = 0
    · have hyb : (y == 0) = true := by simpa using hy
      have HR : Hid (orI x y = 0) := by simp [Hid, orI, hx, hy]
      clear hx hy
      go_enter Tryz.func73, Tryz.ntmps73
      go_wp2
      refine wp_loop_rounds 3 ?_
      rw [rounds_succ]
      go_wp2
      rw [rounds_succ]
      go_wp2
      rw [rounds_succ]
      go_wp2
      go_ret
      exact ⟨ret_int HR.out.symm, rfl⟩
    · have hyb : (y == 0) = false := by simpa using hy
      have HR : Hid (orI x y = y) := by simp [Hid, orI, hx]
      clear hx hy
      go_enter Tryz.func73, Tryz.ntmps73
      go_wp2
      refine wp_loop_rounds 3 ?_
      rw [rounds_succ]
      go_wp2
      rw [rounds_succ]
      go_wp2
      go_ret
      exact ⟨ret_int HR.out.symm, rfl⟩
  · have hxb : (x == 0) = false := by simpa using hx
    have HR : Hid (orI x y = x) := by simp [Hid, orI, hx]
    clear hx
    go_enter Tryz.func73, Tryz.ntmps73
    go_wp2
    refine wp_loop_rounds 3 ?_
    rw [rounds_succ]
    go_wp2
    go_ret
    exact ⟨ret_int HR.out.symm, rfl⟩

set_option maxRecDepth 100000 in
set_option maxHeartbeats 400000 in
theorem lkCompare_any (a b : Sw) (w : World) :
    Calls Tryz.prog 52 #[.agg #[.int .i64 a.i, .int .i64 a.j, .string a.wd], .agg #[.int .i64 b.i, .int .i64 b.j, .string b.wd]] w fun e w' => e = .returned (.int .i64 (cmpS a b)) ∧ Below w.heap.size w w' := by
  go_enter Tryz.func52, Tryz.ntmps52
  go_wp2
  have r0 := (VRow.new w 53 [.int .i64 a.i, .int .i64 a.j, .string a.wd]).alloc (.cells #[.int .i64 b.i, .int .i64 b.j, .string b.wd] 53)
  have r1 := VRow.new1 w (.cells #[.int .i64 a.i, .int .i64 a.j, .string a.wd] 53) 53 [.int .i64 b.i, .int .i64 b.j, .string b.wd]
  have hB0 : Below w.heap.size w ((w.alloc (.cells #[.int .i64 a.i, .int .i64 a.j, .string a.wd] 53)).alloc (.cells #[.int .i64 b.i, .int .i64 b.j, .string b.wd] 53)) := ((Below.refl _ _).alloc (Nat.le_refl _) _).alloc (by simp) _
  refine region_tail 10 (by kernel_rfl) (by kernel_rfl) fun W hD => ?_
  have c0 := (r0.dr hD).at 0 rfl; have c1 := (r0.dr hD).at 1 rfl
  have d0 := (r1.dr hD).at 0 rfl; have d1 := (r1.dr hD).at 1 rfl
  have hB1 := hB0.trans (hD.below _)
  clear r0 r1 hB0
  simp only [List.take_succ_cons, List.take_zero, List.drop_succ_cons, List.drop_zero]
  still_step
  still_step
  still_step
  still_step
  still_call (cmpI_any _ _ _)
  still_step
  still_step
  still_step
  still_step
  still_call (cmpI_any _ _ _)
  refine wpStill_nil ?_
  have r2 := VRow.new W 3 [.int .i64 (cmpI a.i b.i), .int .i64 (cmpI a.j b.j)]
  go_wp2_with (go_at_call 73; refine (cmpOr2_any _ _ _ _ (r2.at 0 rfl) (r2.at 1 rfl)).mono ?_; rintro e w' ⟨rfl, rfl⟩)
  go_ret
  exact ⟨rfl, hB1.alloc hB1.size _⟩

/-! ### Lists of strings -/
set_option maxHeartbeats 400000 in
theorem indexStr_any (l : List ByteArray) (n : Nat) (hn : l.length = n) (p : Option Addr) (c : Nat) (s : ByteArray) (w : World) (hp : Sl w Value.string p l) (hl : n ≤ 9223372036854775807) :
    Calls Tryz.prog 96 #[.slice p n c, .string s] w fun e w' => e = .returned (.int .i64 (idxP (eqb s) l)) ∧ w' = w := by
  subst hn
  go_enter Tryz.func96, Tryz.ntmps96
  go_wp2
  go_loop [8] (fun i => ∃ k : Nat, k ≤ l.length ∧ i = .int .i64 k ∧ Hid (∀ j (hj : j < l.length), j < k → eqb s l[j] = false)) (fun i => l.length - (intOf i).toNat)
  case atStart => exact ⟨0, by omega, rfl, fun _ _ h => by omega⟩
  case round =>
    obtain ⟨k, hk, rfl, hj⟩ := hrel
    by_cases hlt : k < l.length
    · obtain ⟨b1, o1, rfl, hb1, hc1⟩ := hp.get k hlt
      have e1 := hc1 k hlt
      clear hc1
      by_cases he : s = l[k]
      · have hb := bts_t he
        have HI := hidI (idxP_hit (eqb s) l k hlt hj.out (eqb_t he))
        clear he
        go_wp2
        go_ret
        exact ⟨ret_int HI.out.symm, rfl⟩
      · have hb := bts_f he
        have HE := hidI he
        clear he
        go_wp2
        go_round
        case rel => exact ⟨k + 1, by omega, by go_num, fun j h1 h2 => by
          rcases Nat.lt_succ_iff_lt_or_eq.1 h2 with h3 | h3
          · exact hj.out j h1 h3
          · subst h3; exact eqb_f HE.out⟩
        case measure => simp [intOf]; omega
    · have HM := hidI (idxP_miss (eqb s) l (fun j h => hj.out j h (by omega)))
      go_wp2
      go_ret
      exact ⟨ret_int HM.out.symm, rfl⟩

set_option maxHeartbeats 400000 in
theorem containsStr_any (l : List ByteArray) (n : Nat) (hn : l.length = n) (p : Option Addr) (c : Nat) (s : ByteArray) (w : World) (hp : Sl w Value.string p l) (hl : n ≤ 9223372036854775807) :
    Calls Tryz.prog 77 #[.slice p n c, .string s] w fun e w' => e = .returned (.bool (l.any (eqb s))) ∧ w' = w := by
  have HA : Hid (decide (0 ≤ idxP (eqb s) l) = l.any (eqb s)) := by
    unfold Hid
    rw [idxP_any]
  go_enter Tryz.func77, Tryz.ntmps77
  go_wp2_with (go_at_call 96; refine (indexStr_any l n hn p c s _ hp hl).mono ?_; rintro e w' ⟨rfl, rfl⟩)
  go_ret
  exact ⟨ret_bool HA.out, rfl⟩

set_option maxHeartbeats 400000 in
theorem lkWords_any (q n : Int) (l : List ByteArray) (N : Nat) (hN : l.length = N) (p : Option Addr) (c : Nat) (w : World) (hp : Sl w Value.string p l) (hc : l.length ≤ c) (hl : N ≤ 9223372036854775807) (hz : ∀ j (hj : j < l.length), l[j].size ≤ maxLen) :
    Calls Tryz.prog 54 #[.int .i64 q, .int .i64 n, .slice p N c] w fun e w' => e = .returned (.bool (wsOk q n l)) ∧ Dr w w' := by
  subst hN
  go_enter Tryz.func54, Tryz.ntmps54
  go_wp2
  go_loopw [11] (fun i wr => ∃ k : Nat, k ≤ l.length ∧ i = .int .i64 k ∧ Hid (∀ j, j < k → wOk q n l j = true) ∧ Dr w wr) (fun i _ => l.length - (intOf i).toNat)
  case atStart => exact ⟨0, by omega, rfl, fun _ h => by omega, Dr.refl _⟩
  case round =>
    obtain ⟨k, hk, rfl, hj, hD⟩ := hrel
    by_cases hlt : k < l.length
    · have hp' := hp.dr hD
      obtain ⟨b1, o1, rfl, hb1, hc1⟩ := hp'.get k hlt
      have e1 := hc1 k hlt
      clear hc1
      have hzk := hz k hlt
      have hg := hidI (bget_eq l k hlt)
      by_cases hs : (l[k].size : Int) = n
      · have hsb : ((l[k].size : Int) == n) = true := by simpa using hs
        have HS := hidI hs
        clear hs
        by_cases hck : wchk q l[k].data.toList = 0
        · have HC := hidI hck
          clear hck
          cases hh : (l.take k).any (eqb l[k])
          · have HH := hidI hh
            clear hh
            go_wp2_with fail
            refine (wcheck_any q l[k] _ hzk).mono ?_
            rintro e w1 ⟨rfl, hD1⟩
            rw [HC.out]
            have hkc : k ≤ c := by omega
            go_wp2_with fail
            refine (containsStr_any (l.take k) k (by simp; omega) _ _ l[k] _ ((hp'.dr hD1).take k) (by omega)).mono ?_
            rintro e w' ⟨rfl, rfl⟩
            rw [HH.out]
            go_wp2
            go_roundw
            case rel => exact ⟨k + 1, by omega, by go_num, fun j h1 => by
              rcases Nat.lt_succ_iff_lt_or_eq.1 h1 with h3 | h3
              · exact hj.out j h3
              · subst h3; exact wOk_t (by rw [hg.out]; exact HS.out) (by rw [hg.out]; exact HC.out) (by rw [hg.out]; exact HH.out), hD.trans hD1⟩
            case measure => simp [intOf]; omega
          · have HF : Hid (wsOk q n l = false) := allB_f k hlt (wOk_has (by rw [hg.out]; exact hh))
            have HH := hidI hh
            clear hh
            go_wp2_with fail
            refine (wcheck_any q l[k] _ hzk).mono ?_
            rintro e w1 ⟨rfl, hD1⟩
            rw [HC.out]
            have hkc : k ≤ c := by omega
            go_wp2_with fail
            refine (containsStr_any (l.take k) k (by simp; omega) _ _ l[k] _ ((hp'.dr hD1).take k) (by omega)).mono ?_
            rintro e w' ⟨rfl, rfl⟩
            rw [HH.out]
            go_wp2
            go_ret
            exact ⟨ret_bool HF.out.symm, hD.trans hD1⟩
        · have HF : Hid (wsOk q n l = false) := allB_f k hlt (wOk_chk (by rw [hg.out]; exact hck))
          go_wp2_with fail
          refine (wcheck_any q l[k] _ hzk).mono ?_
          rintro e w1 ⟨rfl, hD1⟩
          go_wp2
          go_ret
          exact ⟨ret_bool HF.out.symm, hD.trans hD1⟩
      · have HF : Hid (wsOk q n l = false) := allB_f k hlt (wOk_len (by rw [hg.out]; exact hs))
        go_wp2
        go_ret
        exact ⟨ret_bool HF.out.symm, hD⟩
    · have HF : Hid (wsOk q n l = true) := allB_t (fun j h => hj.out j (by omega))
      go_wp2
      go_ret
      exact ⟨ret_bool HF.out.symm, hD⟩
end Go.Proofs.YtjpilmedlecdhaaGreat
namespace Go.Proofs.YtjpilmedlecdhaaGreat
open Go.RowKit

/-! ### Keys -/
def k2 (x : Int × Int) : Value := .agg #[.int .i64 x.1, .int .i64 x.2]
def ok2 (x : Int × Int) : Prop := (Lit.int .i64 x.1).wf = true ∧ (Lit.int .i64 x.2).wf = true
theorem arr2 : WideMaps.ArrKey Tryz.prog 74 3 2 := ⟨Tryz.underlying74, by kernel_rfl, by kernel_rfl, by kernel_rfl⟩
theorem key2 : KeyBy Tryz.prog 74 k2 ok2 where
  law := Maps.Keyed.of_law arr2.law
  reads := fun a ha => ⟨_, WideMaps.keyOf_pair arr2 Tryz.underlying3 ⟨Tryz.prog.types.size - 1, by kernel_rfl⟩ ha.1 ha.2⟩
  inj := fun a b _ _ h => by
    obtain ⟨a1, a2⟩ := a; obtain ⟨b1, b2⟩ := b
    simp [k2] at h
    exact Prod.ext h.1 h.2
theorem zeroStr (w : World) : (zeroValue 9).run Tryz.prog w = .ok (.string ⟨#[]⟩) w := by kernel_rfl
/-- A map of the swaps, in block b. -/
def SwM (l : List Sw) (w : World) (b : Nat) : Prop := Mp k2 ok2 Value.string w b (swapF l)
theorem SwM.nil (w : World) : SwM [] (w.alloc (.map #[] 0)) w.heap.size := Mp.made w

set_option maxHeartbeats 1000000 in
theorem lkPairs_any (T : Tb) (p1 p2 : Option Addr) (c1 c2 : Nat) (w : World) (hp : Sg 3 w swE p2 T.swaps) (h2 : T.swaps.length ≤ 9223372036854775807) (hok : ∀ j (h : j < T.swaps.length), ok2 (T.swaps[j].i, T.swaps[j].j)) :
    Calls Tryz.prog 41 #[.agg #[.int .i64 T.q, .int .i64 T.n, .slice p1 T.base.length c1, .slice p2 T.swaps.length c2]] w fun e w' => e = .returned (.map (some (w.heap.size + 1))) ∧ SwM T.swaps w' (w.heap.size + 1) ∧ Below w.heap.size w w' := by
  have HO := hidI hok
  clear hok
  have hmm := @run_makeMap Tryz.prog
  go_enter Tryz.func41, Tryz.ntmps41
  go_wp2
  go_loopw [10] (fun iv wr => ∃ k : Nat, k ≤ T.swaps.length ∧ iv = .int .i64 k ∧ SwM (T.swaps.take k) wr (w.heap.size + 1) ∧ Below w.heap.size w wr) (fun iv _ => T.swaps.length - (intOf iv).toNat)
  case atStart =>
    refine ⟨0, by omega, rfl, ?_, ((Below.refl _ _).alloc (Nat.le_refl _) _).alloc (by simp) _⟩
    have h := SwM.nil (w.alloc (.cells #[.int .i64 T.q, .int .i64 T.n, .slice p1 T.base.length c1, .slice p2 T.swaps.length c2] 25))
    rwa [World.size_alloc] at h
  case round =>
    obtain ⟨k, hk, rfl, hM, hB⟩ := hrel
    by_cases hlt : k < T.swaps.length
    · obtain ⟨b1, o1, rfl, hb1, e0, e1, e2⟩ := (hp.below hB).get3 k hlt rfl
      have HT := hidI (swapF_take T.swaps k hlt)
      have hok := HO.out k hlt
      go_wp2_with (at_mapUpdate; refine wpList_update_mp rfl _ _ _ 67 rfl 9 key2 Tryz.underlying67 (w.heap.size + 1) (swapF (T.swaps.take k)) rfl ((hM.alloc _)) (T.swaps[k].i, T.swaps[k].j) rfl hok T.swaps[k].wd rfl ?_; intro w1 hM1 hturn)
      go_roundw
      case rel => exact ⟨k + 1, by omega, by go_num, hM1.congr (fun x => (HT.out x).symm), (hB.alloc hB.size _).grown hturn.grown (Nat.le_trans hB.size (by simp)) (fun j e => by cases e; omega)⟩
      case measure => simp [intOf]; omega
    · obtain rfl : k = T.swaps.length := by omega
      rw [List.take_length] at hM
      go_wp2
      go_ret
      exact ⟨rfl, hM, hB⟩
end Go.Proofs.YtjpilmedlecdhaaGreat
namespace Go.Proofs.YtjpilmedlecdhaaGreat
open Go.RowKit

/-- A table's lists, as they lie in memory. -/
structure TbIn (w : World) (T : Tb) (p1 p2 : Option Addr) (c1 c2 : Nat) : Prop where
  base : Sl w Value.string p1 T.base
  swaps : Sg 3 w swE p2 T.swaps
  cap1 : T.base.length ≤ c1
  l1 : T.base.length ≤ 9223372036854775807
  l2 : T.swaps.length ≤ 9223372036854775807
  z1 : ∀ j (h : j < T.base.length), T.base[j].size ≤ maxLen
  z2 : ∀ j (h : j < T.swaps.length), T.swaps[j].wd.size ≤ maxLen
theorem TbIn.below {w w' : World} {T : Tb} {p1 p2 : Option Addr} {c1 c2 : Nat} (h : TbIn w T p1 p2 c1 c2) (hB : Below w.heap.size w w') : TbIn w' T p1 p2 c1 c2 :=
  ⟨h.base.below hB, h.swaps.below hB, h.cap1, h.l1, h.l2, h.z1, h.z2⟩
theorem infoStr : (Tryz.prog.info? 9).map (fun i => (i.zero, i.size, i.bytes)) = some (some (.string ⟨#[]⟩), 1, 16) := by kernel_rfl
theorem pre_all {T : Tb} (h : preB T = true) : 2 ≤ T.q ∧ T.q ≤ 16 ∧ 1 ≤ T.n ∧ T.n ≤ 8 ∧ 2 ≤ T.base.length ∧ T.base.length ≤ 16 ∧ T.swaps.length ≤ 64 := of_decide_eq_true h
theorem pre_mk {T : Tb} (h : 2 ≤ T.q ∧ T.q ≤ 16 ∧ 1 ≤ T.n ∧ T.n ≤ 8 ∧ 2 ≤ T.base.length ∧ T.base.length ≤ 16 ∧ T.swaps.length ≤ 64) : preB T = true := decide_eq_true h

set_option maxRecDepth 100000 in
set_option maxHeartbeats 2000000 in
theorem lkFormed_pre (T : Tb) (p1 p2 : Option Addr) (c1 c2 : Nat) (w : World) (h1 : T.base.length ≤ 9223372036854775807) (h2 : T.swaps.length ≤ 9223372036854775807) (hpre : preB T = false) :
    Calls Tryz.prog 29 #[.agg #[.int .i64 T.q, .int .i64 T.n, .slice p1 T.base.length c1, .slice p2 T.swaps.length c2]] w fun e w' => e = .returned (.bool (fmd T)) ∧ Below w.heap.size w w' := by
  have HF := hidI (fmd_pre hpre)
  have HP : Hid (¬ (2 ≤ T.q ∧ T.q ≤ 16 ∧ 1 ≤ T.n ∧ T.n ≤ 8 ∧ 2 ≤ T.base.length ∧ T.base.length ≤ 16 ∧ T.swaps.length ≤ 64)) := fun h => by rw [pre_mk h] at hpre; cases hpre
  clear hpre
  go_enter Tryz.func29, Tryz.ntmps29
  go_wp2
  all_goals first
    | (exfalso; have := HP.out; omega)
    | (go_ret; exact ⟨ret_bool HF.out.symm, (Below.refl _ _).alloc (Nat.le_refl _) _⟩)

set_option maxRecDepth 100000 in
set_option maxHeartbeats 4000000 in
theorem lkFormed_ok (T : Tb) (p1 p2 : Option Addr) (c1 c2 : Nat) (w : World) (hin : TbIn w T p1 p2 c1 c2) (hpre : preB T = true) :
    Calls Tryz.prog 29 #[.agg #[.int .i64 T.q, .int .i64 T.n, .slice p1 T.base.length c1, .slice p2 T.swaps.length c2]] w fun e w' => e = .returned (.bool (fmd T)) ∧ Below w.heap.size w w' := by
  obtain ⟨i0, hi0, hz0, hz1, hz2⟩ := info_parts infoStr
  have HPRE := hidI hpre
  obtain ⟨g1, g2, g3, g4, g5, g6, g7⟩ := pre_all hpre
  clear hpre
  have d1 : decide (T.q < 2) = false := decide_eq_false (by omega)
  have d2 : decide (16 < T.q) = false := decide_eq_false (by omega)
  have d3 : decide (T.n < 1) = false := decide_eq_false (by omega)
  have d4 : decide (8 < T.n) = false := decide_eq_false (by omega)
  have d5 : decide ((T.base.length : Int) < 2) = false := decide_eq_false (by omega)
  have d6 : decide ((16 : Int) < (T.base.length : Int)) = false := decide_eq_false (by omega)
  have d7 : decide ((64 : Int) < (T.swaps.length : Int)) = false := decide_eq_false (by omega)
  have b0 : VRow (w.alloc (.cells #[.int .i64 T.q, .int .i64 T.n, .slice p1 T.base.length c1, .slice p2 T.swaps.length c2] 25)) w.heap.size 25 [.int .i64 T.q, .int .i64 T.n, .slice p1 T.base.length c1, .slice p2 T.swaps.length c2] := VRow.new w _ _
  have hB0 : Below w.heap.size w (w.alloc (.cells #[.int .i64 T.q, .int .i64 T.n, .slice p1 T.base.length c1, .slice p2 T.swaps.length c2] 25)) := (Below.refl _ _).alloc (Nat.le_refl _) _
  go_enter Tryz.func29, Tryz.ntmps29
  go_wp2
  clear d1 d2 d3 d4 d5 d6 d7
  go_loopw [3, 45] (fun rv iv wr => ∃ k : Nat, k ≤ T.swaps.length ∧ iv = .int .i64 k ∧ Hid (∀ j, j < k → sOk T.base.length T.swaps j = true) ∧ VRow wr w.heap.size 25 [.int .i64 T.q, .int .i64 T.n, .slice p1 T.base.length c1, .slice p2 T.swaps.length c2] ∧
      wr.ownsRow (w.heap.size + 1) 9 1 rv k ((((T.swaps.take k).map Sw.wd)).map Value.string) ∧ Below w.heap.size w wr) (fun _ iv _ => T.swaps.length - (intOf iv).toNat)
  case atStart => exact ⟨0, by omega, rfl, fun _ h => by omega, b0, World.ownsRow_nil _ _ _ _, hB0⟩
  case round =>
    obtain ⟨k, hk, rfl, hj, hb, hown, hB⟩ := hrel
    clear b0 hB0
    by_cases hlt : k < T.swaps.length
    · obtain ⟨b1, o1, rfl, hb1, e0, e1, e2⟩ := (hin.swaps.below hB).get3 k hlt rfl
      have f0 := hb.at 0 rfl; have f1 := hb.at 1 rfl; have f2 := hb.at 2 rfl; have f3 := hb.at 3 rfl
      have hsz := hb.lt
      cases hib : inB T.base.length T.swaps[k]
      · have HF : Hid (fmd T = false) := fmd_ss (allB_f k hlt (sOk_in hlt hib))
        by_cases hmin : min T.swaps[k].i T.swaps[k].j < 0
        · clear hib
          go_wp2_with fail
          go_quiet (fail)
          go_wp2
          go_ret
          exact ⟨ret_bool HF.out.symm, below_drewN (hB.alloc hB.size _) _⟩
        · have hmax : (T.base.length : Int) ≤ max T.swaps[k].i T.swaps[k].j := by simp [inB] at hib; omega
          have hm0 := decide_eq_false hmin
          clear hib
          go_wp2_with fail
          go_quiet (fail)
          go_wp2
          go_ret
          exact ⟨ret_bool HF.out.symm, below_drewN (hB.alloc hB.size _) _⟩
      · have hib' : 0 ≤ T.swaps[k].i ∧ T.swaps[k].i < T.base.length ∧ 0 ≤ T.swaps[k].j ∧ T.swaps[k].j < T.base.length := by simpa [inB] using hib
        have hm0 : decide (min T.swaps[k].i T.swaps[k].j < 0) = false := decide_eq_false (by omega)
        have hm1 : decide ((T.base.length : Int) ≤ max T.swaps[k].i T.swaps[k].j) = false := decide_eq_false (by omega)
        have HIB := hidI hib
        clear hib hib'
        rcases Nat.eq_zero_or_pos k with hk0 | hk0
        · have hkd : decide ((0 : Int) < (k : Int)) = false := decide_eq_false (by omega)
          have hkd2 : decide (0 < k) = false := decide_eq_false (by omega)
          have HK : Hid (sOk T.base.length T.swaps k = true) := sOk_zero hlt HIB.out hk0
          have HT := hidI (words_take T.swaps k hlt)
          clear hk0
          go_wp2_with fail
          go_quiet (fail)
          have hownq : ((wr.alloc (.cells #[.int .i64 T.swaps[k].i, .int .i64 T.swaps[k].j, .string T.swaps[k].wd] 53)).drewN nq).ownsRow (w.heap.size + 1) 9 1 u3 k (((T.swaps.take k).map Sw.wd).map Value.string) := hown.alloc _
          have hBq : Below w.heap.size w ((wr.alloc (.cells #[.int .i64 T.swaps[k].i, .int .i64 T.swaps[k].j, .string T.swaps[k].wd] 53)).drewN nq) := below_drewN (hB.alloc hB.size _) nq
          have hbq : VRow ((wr.alloc (.cells #[.int .i64 T.swaps[k].i, .int .i64 T.swaps[k].j, .string T.swaps[k].wd] 53)).drewN nq) w.heap.size 25 [.int .i64 T.q, .int .i64 T.n, .slice p1 T.base.length c1, .slice (some ⟨b1, o1, none⟩) T.swaps.length c2] := hb.alloc _
          have hnew := cell_one_at ((wr.alloc (.cells #[.int .i64 T.swaps[k].i, .int .i64 T.swaps[k].j, .string T.swaps[k].wd] 53)).drewN nq) (.string T.swaps[k].wd) 9 (wr.heap.size + 1) (World.size_alloc _ _)
          have hsz1 : ((wr.alloc (.cells #[.int .i64 T.swaps[k].i, .int .i64 T.swaps[k].j, .string T.swaps[k].wd] 53)).drewN nq).heap.size = wr.heap.size + 1 := World.size_alloc _ _
          have HSZ := hidI hsz1
          clear hsz1
          go_wp2_with (at_builtin; refine wpList_append_own _ rfl _ _ 22 rfl (w.heap.size + 1) 9 i0 (.string ⟨#[]⟩) 1 16 Tryz.underlying22 hi0 hz0 hz1 hz2 rfl (by decide) _ _ _ rfl (hownq.alloc _) ⟨wr.heap.size + 1, 0, none⟩ 1 1 [.string T.swaps[k].wd] rfl rfl hnew (by simp [Value.oneCell']) (by simp [maxLen]; omega) (by omega) (by rw [World.size_alloc, HSZ.out]; omega) ?_; intro v' w1 hown' hgrow _)
          go_roundw
          case rel =>
            refine ⟨k + 1, by omega, by go_num, fun j h1 => ?_, (hbq.alloc _).grown hgrow (fun e => by have := (hownq.lt _ e.symm).1; omega), by rw [HT.out]; exact hown', (hBq.alloc hBq.size _).grown hgrow (Nat.le_trans hBq.size (by simp)) (fun j e => Nat.le_of_succ_le (hownq.lt j e).1)⟩
            rcases Nat.lt_succ_iff_lt_or_eq.1 h1 with h3 | h3
            · exact hj.out j h3
            · subst h3; exact HK.out
          case measure => simp [intOf]; omega
        · obtain ⟨m, rfl⟩ : ∃ m, k = m + 1 := ⟨k - 1, by omega⟩
          have HS := hidI (sOk_succ hlt HIB.out)
          go_wp2_with fail
          refine region_tail 28 (by kernel_rfl) (by kernel_rfl) fun W hD => ?_
          have hBW : Below w.heap.size w W := (hB.alloc hB.size _).trans (hD.below _)
          have hbW : VRow W w.heap.size 25 [.int .i64 T.q, .int .i64 T.n, .slice p1 T.base.length c1, .slice (some ⟨b1, o1, none⟩) T.swaps.length c2] := (hb.alloc _).dr hD
          have hcW : VRow W wr.heap.size 53 [.int .i64 T.swaps[m + 1].i, .int .i64 T.swaps[m + 1].j, .string T.swaps[m + 1].wd] := (VRow.new wr 53 _).dr hD
          have hownW := (hown.alloc (.cells #[.int .i64 T.swaps[m + 1].i, .int .i64 T.swaps[m + 1].j, .string T.swaps[m + 1].wd] 53)).dr hD
          have hszW : W.heap.size = wr.heap.size + 1 := by rw [hD.size, World.size_alloc]
          obtain ⟨b1', o1', he, _, e3, e4, e5⟩ := (hin.swaps.below hBW).get3 m (by omega) rfl
          cases he
          clear e0 e1 e2 f0 f1 f2 f3
          have f2 := hbW.at 2 rfl; have f3 := hbW.at 3 rfl
          have e0 := hcW.at 0 rfl; have e1 := hcW.at 1 rfl; have e2 := hcW.at 2 rfl
          simp only [List.take_succ_cons, List.take_zero, List.drop_succ_cons, List.drop_zero]
          have m0 : (0 : Int) ≤ (m : Int) := by omega
          have m1 : (m : Int) < (T.swaps.length : Int) := by omega
          have q1 : IntKind.i64.wrap (m : Int) = (m : Int) := IntWalk.i64_in _ (by omega)
          iterate 28 still_step
          refine wpStill_nil ?_
          clear q1
          go_wp2_with fail
          refine (lkCompare_any T.swaps[m] T.swaps[m + 1] _).mono ?_
          rintro e w1 ⟨rfl, hB1⟩
          have hB2 := hBW.trans (hB1.mono hBW.size)
          by_cases hcs : 0 ≤ cmpS T.swaps[m] T.swaps[m + 1]
          · have HF : Hid (fmd T = false) := fmd_ss (allB_f (m + 1) hlt (by rw [HS.out]; have := cmpS_lex T.swaps[m] T.swaps[m + 1]; rw [decide_eq_true hcs] at this; simpa using this.symm))
            go_wp2
            go_ret
            exact ⟨ret_bool HF.out.symm, hB2⟩
          · have HK : Hid (sOk T.base.length T.swaps (m + 1) = true) := by unfold Hid; rw [HS.out]; have := cmpS_lex T.swaps[m] T.swaps[m + 1]; rw [decide_eq_false hcs] at this; simpa using this.symm
            have hcd := decide_eq_false hcs
            have HT := hidI (words_take T.swaps (m + 1) hlt)
            have hwl : wr.heap.size < W.heap.size := by omega
            have hown1 := hownW.below hB1
            have hb1' := hbW.below hB1 (by omega)
            have hc1' := hcW.below hB1 hwl
            have g2 := hc1'.at 2 rfl
            have hnew := cell_one_new w1 (.string T.swaps[m + 1].wd) 9
            have hsz1 : wr.heap.size < w1.heap.size := Nat.lt_of_lt_of_le hwl hB1.size
            clear e0 e1 e2 e3 e4 e5 f2 f3 m0 m1 hcs
            go_wp2_with (at_builtin; refine wpList_append_own _ rfl _ _ 22 rfl (w.heap.size + 1) 9 i0 (.string ⟨#[]⟩) 1 16 Tryz.underlying22 hi0 hz0 hz1 hz2 rfl (by decide) _ _ _ rfl (hown1.alloc _) ⟨w1.heap.size, 0, none⟩ 1 1 [.string T.swaps[m + 1].wd] rfl rfl hnew (by simp [Value.oneCell']) (by simp [maxLen]; omega) (by omega) (by rw [World.size_alloc]; omega) ?_; intro v' w2 hown' hgrow _)
            go_roundw
            case rel =>
              refine ⟨m + 1 + 1, by omega, by go_num, fun j h1 => ?_, (hb1'.alloc _).grown hgrow (fun e => by have := (hown1.lt _ e.symm).1; omega), by rw [HT.out]; exact hown', (hB2.alloc hB2.size _).grown hgrow (Nat.le_trans hB2.size (by simp)) (fun j e => Nat.le_of_succ_le (hown1.lt j e).1)⟩
              rcases Nat.lt_succ_iff_lt_or_eq.1 h1 with h3 | h3
              · exact hj.out j h3
              · subst h3; exact HK.out
            case measure => simp [intOf]; omega
    · obtain rfl : k = T.swaps.length := by omega
      have hss : ssOk T = true := allB_t hj.out
      rw [List.take_length] at hown
      have hcap := own_cap hown
      obtain ⟨q, d, hv, hsl⟩ := own_sl hown
      rw [List.length_map] at hv
      subst hv
      have hqd := hcap _ _ _ rfl
      have f0 := hb.at 0 rfl; have f1 := hb.at 1 rfl; have f2 := hb.at 2 rfl; have f3 := hb.at 3 rfl
      clear hcap hown
      cases hbs : wsOk T.q T.n T.base
      · have HF := hidI (fmd_base hbs)
        have HX := hidI hbs
        clear hbs hss
        go_wp2_with fail
        refine (lkWords_any T.q T.n T.base _ rfl p1 c1 _ (hin.base.below hB) hin.cap1 hin.l1 hin.z1).mono ?_
        rintro e w1 ⟨rfl, hD⟩
        rw [HX.out]
        go_wp2
        go_ret
        exact ⟨ret_bool HF.out.symm, hB.trans (hD.below _)⟩
      · have HF := hidI (fmd_all HPRE.out hss hbs)
        have HX := hidI hbs
        clear hbs hss
        go_wp2_with fail
        refine (lkWords_any T.q T.n T.base _ rfl p1 c1 _ (hin.base.below hB) hin.cap1 hin.l1 hin.z1).mono ?_
        rintro e w1 ⟨rfl, hD⟩
        rw [HX.out]
        have f0' := (hD.cell _).trans f0
        have f1' := (hD.cell _).trans f1
        go_wp2_with fail
        refine (lkWords_any T.q (2 * T.n) (T.swaps.map Sw.wd) T.swaps.length (List.length_map _) q d _ (hsl.dr hD) (by rw [List.length_map]; exact hqd) (by omega) (fun j h => by rw [List.getElem_map]; exact hin.z2 j (by simpa using h))).mono ?_
        rintro e w2 ⟨rfl, hD2⟩
        rw [← HF.out]
        go_wp2
        go_ret
        exact ⟨rfl, (hB.trans (hD.below _)).trans (hD2.below _)⟩

theorem lkFormed_any (T : Tb) (p1 p2 : Option Addr) (c1 c2 : Nat) (w : World) (hin : TbIn w T p1 p2 c1 c2) :
    Calls Tryz.prog 29 #[.agg #[.int .i64 T.q, .int .i64 T.n, .slice p1 T.base.length c1, .slice p2 T.swaps.length c2]] w fun e w' => e = .returned (.bool (fmd T)) ∧ Below w.heap.size w w' := by
  cases h : preB T
  · exact lkFormed_pre T p1 p2 c1 c2 w hin.l1 hin.l2 h
  · exact lkFormed_ok T p1 p2 c1 c2 w hin h
end Go.Proofs.YtjpilmedlecdhaaGreat
namespace Go.Proofs.YtjpilmedlecdhaaGreat
open Go.RowKit Go.Sort Go.Shelf Go.Lib

def fitA (T : Tb) (G : Gr) : Int := if fmd T = false ∨ chkG G ≠ 0 then 1 else if G.q ≠ T.q then 11 else 0

set_option maxRecDepth 100000 in
set_option maxHeartbeats 1000000 in
theorem lkCheck0_any (T : Tb) (p1 p2 : Option Addr) (c1 c2 : Nat) (G : Gr) (p : Option Addr) (c : Nat) (w : World) (hT : TbIn w T p1 p2 c1 c2) (hG : Sg 3 w edE p G.es) (hl : G.es.length ≤ 9223372036854775807) :
    Calls Tryz.prog 14 #[.agg #[.int .i64 T.q, .int .i64 T.n, .slice p1 T.base.length c1, .slice p2 T.swaps.length c2], (.agg #[.int .i64 G.q, .int .i64 G.n, .slice p G.es.length c])] w fun e w' => e = .returned (.int .i64 (fitA T G)) ∧ RowKit.Below w.heap.size w w' := by
  obtain ⟨w0, hw0⟩ : ∃ w0, w0 = (w.alloc (.cells #[.int .i64 T.q, .int .i64 T.n, .slice p1 T.base.length c1, .slice p2 T.swaps.length c2] 25)).alloc (.cells #[.int .i64 G.q, .int .i64 G.n, .slice p G.es.length c] 28) := ⟨_, rfl⟩
  have b0 : VRow w0 w.heap.size 25 [.int .i64 T.q, .int .i64 T.n, .slice p1 T.base.length c1, .slice p2 T.swaps.length c2] := by subst hw0; exact (VRow.new w _ _).alloc _
  have b1 : VRow w0 (w.heap.size + 1) 28 [.int .i64 G.q, .int .i64 G.n, .slice p G.es.length c] := by subst hw0; exact VRow.new1 w _ _ _
  have hB0 : RowKit.Below w.heap.size w w0 := by subst hw0; exact ((RowKit.Below.refl _ _).alloc (Nat.le_refl _) _).alloc (by simp) _
  have HF := hidI (lkFormed_any T p1 p2 c1 c2 w0 (hT.below hB0))
  have HG := hidI (fun W (hW : RowKit.Below w.heap.size w W) => gCheck_any G p c W (hG.below hW) hl)
  have HX : Hid (fitA T G = if fmd T = false ∨ chkG G ≠ 0 then 1 else if G.q ≠ T.q then 11 else 0) := rfl
  have a0 := b0.at 0 rfl; have a1 := b0.at 1 rfl; have a2 := b0.at 2 rfl; have a3 := b0.at 3 rfl
  clear hT hG
  generalize fmd T = f at *
  generalize chkG G = k at *
  go_enter Tryz.func14, Tryz.ntmps14
  go_upto_region 1 with fail
  rw [← hw0]
  clear hw0
  go_wp2_with fail
  refine HF.out.mono ?_
  rintro e w1 ⟨rfl, hB1⟩
  have x1 := hB0.trans (hB1.mono hB0.size)
  have c1' := b1.below hB1 b1.lt
  have c0' := b0.below hB1 b0.lt
  have d0 := c1'.at 0 rfl; have d1 := c1'.at 1 rfl; have d2 := c1'.at 2 rfl
  clear a0 a1 a2 a3 b0 b1 hB0
  cases f
  · have HY : Hid (fitA T G = 1) := by rw [Hid, HX.out]; simp
    go_wp2
    go_ret
    exact ⟨ret_int HY.out.symm, x1⟩
  · go_wp2_with fail
    refine (HG.out w1 x1).mono ?_
    rintro e w2 ⟨rfl, hB2⟩
    have x2 := x1.trans (hB2.mono x1.size)
    have e1 := c1'.below hB2 c1'.lt
    have e0 := c0'.below hB2 c0'.lt
    have f0 := e1.at 0 rfl; have f1 := e0.at 0 rfl
    clear d0 d1 d2 c0' c1' e0 e1
    by_cases hk : k = 0
    · subst hk
      by_cases hq : G.q = T.q
      · have HY : Hid (fitA T G = 0) := by rw [Hid, HX.out]; simp [hq]
        have hqb : (G.q != T.q) = false := by simpa using hq
        clear hq
        go_wp2
        go_ret
        exact ⟨ret_int HY.out.symm, x2⟩
      · have HY : Hid (fitA T G = 11) := by rw [Hid, HX.out]; simp [hq]
        have hqb : (G.q != T.q) = true := by simpa using hq
        clear hq
        go_wp2
        go_ret
        exact ⟨ret_int HY.out.symm, x2⟩
    · have HY : Hid (fitA T G = 1) := by rw [Hid, HX.out]; simp [hk]
      have hkb : (k != 0) = true := by simpa using hk
      clear hk
      go_wp2
      go_ret
      exact ⟨ret_int HY.out.symm, x2⟩

end Go.Proofs.YtjpilmedlecdhaaGreat
namespace Go.Proofs.YtjpilmedlecdhaaGreat
open Go.RowKit

def keyL : List Int → List UInt8
  | [] => []
  | s :: l => Lib.decDigits s.toNat ++ 32 :: keyL l
theorem dg_no : ∀ i, i < 100 → (32 : UInt8) ∉ Lib.decDigits i := by decide +kernel
theorem dg_inj : ∀ i, i < 100 → ∀ j, j < 100 → Lib.decDigits i = Lib.decDigits j → i = j := by decide +kernel
theorem sep_inj {c : UInt8} : ∀ {a b r r' : List UInt8}, c ∉ a → c ∉ b → a ++ c :: r = b ++ c :: r' → a = b ∧ r = r'
  | [], [], r, r', _, _, h => by simp at h; exact ⟨rfl, h⟩
  | [], y :: b, r, r', _, hb, h => by simp at h; exact absurd (by simp [h.1]) hb
  | x :: a, [], r, r', ha, _, h => by simp at h; exact absurd (by simp [h.1]) ha
  | x :: a, y :: b, r, r', ha, hb, h => by
    simp only [List.cons_append, List.cons.injEq] at h
    obtain ⟨h1, h2⟩ := sep_inj (fun hm => ha (List.mem_cons_of_mem _ hm)) (fun hm => hb (List.mem_cons_of_mem _ hm)) h.2
    exact ⟨by rw [h.1, h1], h2⟩
/-- The key tells sets apart. -/
theorem keyL_inj : ∀ {l m : List Int}, (∀ x ∈ l, 0 ≤ x ∧ x < 100) → (∀ x ∈ m, 0 ≤ x ∧ x < 100) → keyL l = keyL m → l = m
  | [], [], _, _, _ => rfl
  | [], y :: m, _, _, h => by simp [keyL] at h
  | x :: l, [], _, _, h => by simp [keyL] at h
  | x :: l, y :: m, hl, hm, h => by
    have h1 := hl x (by simp)
    have h2 := hm y (by simp)
    obtain ⟨k1, k2⟩ := sep_inj (dg_no x.toNat (by omega)) (dg_no y.toNat (by omega)) h
    have e := dg_inj x.toNat (by omega) y.toNat (by omega) k1
    have e2 : x = y := by omega
    rw [e2, keyL_inj (fun z hz => hl z (by simp [hz])) (fun z hz => hm z (by simp [hz])) k2]
theorem keyL_snoc : ∀ (l : List Int) (s : Int), keyL (l ++ [s]) = keyL l ++ (Lib.decDigits s.toNat ++ [32])
  | [], s => by simp [keyL]
  | x :: l, s => by simp [keyL, keyL_snoc l s]
theorem dit_small : ∀ i, i < 100 → (Lib.decDigits i).length ≤ 2 := by decide +kernel
theorem keyL_len : ∀ {l : List Int}, (∀ x ∈ l, 0 ≤ x ∧ x < 100) → (keyL l).length ≤ 3 * l.length
  | [], _ => Nat.le_refl _
  | x :: l, h => by
    have h1 := dit_small x.toNat (by have := h x (by simp); omega)
    have h2 := keyL_len (l := l) (fun y hy => h y (by simp [hy]))
    simp only [keyL, List.length_append, List.length_cons]
    omega
end Go.Proofs.YtjpilmedlecdhaaGreat
namespace Go.Proofs.YtjpilmedlecdhaaGreat
open Go.RowKit Go.Sort Go.Shelf Go.Lib

/-- The table of powers of ten reads as the program lays it. -/
def T10 (w : World) : Prop := Lib.TabIs Tryz.prog w "internal/strconv.uint64pow10" .u64 Lib.pow10Tab
theorem T10.below {w w' : World} (h : T10 w) (hB : RowKit.Below w.heap.size w w') : T10 w' := Lib.tabBelow_of_tabIs h w' hB

def tailK (st : List Int) : List UInt8 := st.flatMap (fun s => 32 :: Lib.decDigits s.toNat)
/-- The key of a place. -/
def keyB (l : Int) (st : List Int) : List UInt8 := Lib.itoa l ++ tailK st
theorem tailK_snoc (st : List Int) (s : Int) : tailK (st ++ [s]) = tailK st ++ (32 :: Lib.decDigits s.toNat) := by simp [tailK]
theorem tailK_end : ∀ st : List Int, tailK st ++ [32] = 32 :: keyL st
  | [] => rfl
  | s :: st => by
    have ih := tailK_end st
    show (32 :: Lib.decDigits s.toNat) ++ tailK st ++ [32] = 32 :: (Lib.decDigits s.toNat ++ 32 :: keyL st)
    rw [List.append_assoc, ih]; rfl
theorem itoa_no : ∀ n : Nat, n < 17 → (32 : UInt8) ∉ Lib.itoa ((n : Int) - 1) := by decide +kernel
theorem itoa_inj : ∀ n : Nat, n < 17 → ∀ m : Nat, m < 17 → Lib.itoa ((n : Int) - 1) = Lib.itoa ((m : Int) - 1) → n = m := by decide +kernel
theorem itoa_len : ∀ n : Nat, n < 17 → (Lib.itoa ((n : Int) - 1)).length ≤ 2 := by decide +kernel
theorem keyB_inj {l l' : Int} {st st' : List Int} (h1 : -1 ≤ l ∧ l < 16) (h2 : -1 ≤ l' ∧ l' < 16) (h3 : ∀ x ∈ st, 0 ≤ x ∧ x < 100) (h4 : ∀ x ∈ st', 0 ≤ x ∧ x < 100) (e : keyB l st = keyB l' st') : l = l' ∧ st = st' := by
  obtain ⟨n, hn⟩ : ∃ n : Nat, (n : Int) - 1 = l := ⟨(l + 1).toNat, by omega⟩
  obtain ⟨m, hm⟩ : ∃ m : Nat, (m : Int) - 1 = l' := ⟨(l' + 1).toNat, by omega⟩
  have e2 : Lib.itoa l ++ 32 :: keyL st = Lib.itoa l' ++ 32 :: keyL st' := by
    have := congrArg (· ++ [(32 : UInt8)]) e
    simpa only [keyB, List.append_assoc, tailK_end] using this
  rw [← hn, ← hm] at e2
  obtain ⟨k1, k2⟩ := sep_inj (itoa_no n (by omega)) (itoa_no m (by omega)) e2
  exact ⟨by rw [← hn, ← hm, itoa_inj n (by omega) m (by omega) k1], keyL_inj h3 h4 k2⟩
theorem tailK_len : ∀ {st : List Int}, (∀ x ∈ st, 0 ≤ x ∧ x < 100) → (tailK st).length ≤ 3 * st.length
  | [], _ => Nat.le_refl _
  | s :: st, h => by
    have h1 := dit_small s.toNat (by have := h s (by simp); omega)
    have h2 := tailK_len (st := st) (fun y hy => h y (by simp [hy]))
    show ((32 :: Lib.decDigits s.toNat) ++ tailK st).length ≤ 3 * (st.length + 1)
    rw [List.length_append, List.length_cons]; omega
theorem keyB_len {l : Int} {st : List Int} (h1 : -1 ≤ l ∧ l < 16) (h3 : ∀ x ∈ st, 0 ≤ x ∧ x < 100) : (keyB l st).length ≤ 2 + 3 * st.length := by
  have h := itoa_len (l + 1).toNat (by omega)
  rw [show (((l + 1).toNat : Nat) : Int) - 1 = l by omega] at h
  have := tailK_len h3
  unfold keyB; rw [List.length_append]; omega
end Go.Proofs.YtjpilmedlecdhaaGreat
