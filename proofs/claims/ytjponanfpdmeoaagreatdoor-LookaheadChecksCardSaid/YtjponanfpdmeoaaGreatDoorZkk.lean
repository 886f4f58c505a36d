/-
  Words, plain lemmas and walks, merged: Sv, Va, Vb, Vc, Qd.
-/
import Derived.Test.YtjponanfpdmeoaaGreatDoorZkf
import Derived.Test.YtjponanfpdmeoaaGreatDoorZkg
import Derived.Test.YtjponanfpdmeoaaGreatDoorZkd
import Derived.Test.YtjponanfpdmeoaaGreatDoorZki
import Derived.Test.YtjponanfpdmeoaaGreatDoorZke
import Derived.Test.YtjponanfpdmeoaaGreatDoorZkj
import Derived.Test.YtjponanfpdmeoaaGreatDoorZkh
set_option linter.unusedVariables false
set_option linter.unusedSimpArgs false
namespace Go.Proofs.YtjponanfpdmeoaaGreatDoor
open Go.RowKit

/-! ### Readable tables, as the reference asks -/
def rdRs (T : Tb) (i j : Nat) (k : Nat) : Bool := (T.swaps.take k).all (fun s => !(decide (s.i = (j : Int)) && tkn T (bget T.base i ++ s.wd.extract 0 T.n.toNat)))
def rdRj (T : Tb) (i j : Nat) : Bool := !frW T (i : Int) (j : Int) || (!tkn T (bget T.base i ++ bget T.base j) && rdRs T i j T.swaps.length)
def rdRi (T : Tb) (i k : Nat) : Bool := (List.range k).all (rdRj T i)
def rdR (T : Tb) (k : Nat) : Bool := (List.range k).all (fun i => rdRi T i T.base.length)
theorem rdRs_zero (T : Tb) (i j : Nat) : rdRs T i j 0 = true := rfl
theorem rdRs_succ (T : Tb) (i j k : Nat) (h : k < T.swaps.length) : rdRs T i j (k + 1) = (rdRs T i j k && !(decide (T.swaps[k].i = (j : Int)) && tkn T (bget T.base i ++ T.swaps[k].wd.extract 0 T.n.toNat))) := by
  unfold rdRs; rw [List.take_succ_eq_append_getElem h, List.all_append]; simp
theorem rdRi_succ (T : Tb) (i k : Nat) : rdRi T i (k + 1) = (rdRi T i k && rdRj T i k) := by
  unfold rdRi; rw [List.range_succ, List.all_append]; simp
theorem rdR_succ (T : Tb) (k : Nat) : rdR T (k + 1) = (rdR T k && rdRi T k T.base.length) := by
  unfold rdR; rw [List.range_succ, List.all_append]; simp
theorem all_false {α : Type} {l : List α} {f : α → Bool} {k : Nat} (h : k < l.length) (hf : f l[k] = false) : l.all f = false := by
  cases hx : l.all f
  · rfl
  · have := List.all_eq_true.1 hx _ (List.getElem_mem h); rw [hf] at this; cases this
theorem range_all_false {n : Nat} {f : Nat → Bool} {k : Nat} (h : k < n) (hf : f k = false) : (List.range n).all f = false := by
  cases hx : (List.range n).all f
  · rfl
  · have := List.all_eq_true.1 hx k (List.mem_range.2 h); rw [hf] at this; cases this
theorem rdR_eq {T : Tb} (hf : fmd T = true) : rdR T T.base.length = rdbl T := by
  unfold rdR rdbl
  apply Bool.eq_iff_iff.2
  simp only [List.all_eq_true, List.mem_range]
  constructor
  · intro h i hi b hb
    have h1 := h i hi
    unfold rdRi at h1
    rw [List.all_eq_true] at h1
    unfold flw at hb
    rcases List.mem_append.1 hb with hb | hb
    · obtain ⟨j, hj, rfl⟩ := List.mem_map.1 hb
      rw [List.mem_filter, List.mem_range] at hj
      have h2 := h1 j (List.mem_range.2 hj.1)
      unfold rdRj at h2
      rw [hj.2] at h2
      simp only [Bool.not_true, Bool.false_or, Bool.and_eq_true] at h2
      exact h2.1
    · obtain ⟨s, hs, rfl⟩ := List.mem_map.1 hb
      rw [List.mem_filter] at hs
      have hin := swaps_in hf hs.1
      have h2 := h1 s.i.toNat (List.mem_range.2 (by omega))
      have e : ((s.i.toNat : Nat) : Int) = s.i := by omega
      unfold rdRj at h2
      rw [e, hs.2] at h2
      simp only [Bool.not_true, Bool.false_or, Bool.and_eq_true] at h2
      have h3 := h2.2
      unfold rdRs at h3
      rw [List.take_length, List.all_eq_true] at h3
      have h4 := h3 s hs.1
      rw [e] at h4
      simpa using h4
  · intro h i hi
    unfold rdRi
    rw [List.all_eq_true]
    intro j hj
    rw [List.mem_range] at hj
    unfold rdRj
    cases hfr : frW T (i : Int) (j : Int)
    · rfl
    · simp only [Bool.not_true, Bool.false_or, Bool.and_eq_true]
      refine ⟨h i hi _ ?_, ?_⟩
      · unfold flw
        exact List.mem_append_left _ (List.mem_map.2 ⟨j, List.mem_filter.2 ⟨List.mem_range.2 hj, hfr⟩, rfl⟩)
      · unfold rdRs
        rw [List.take_length, List.all_eq_true]
        intro s hs
        by_cases e : s.i = (j : Int)
        · have := h i hi (s.wd.extract 0 T.n.toNat) (by
            unfold flw
            exact List.mem_append_right _ (List.mem_map.2 ⟨s, List.mem_filter.2 ⟨hs, by rw [e]; exact hfr⟩, rfl⟩))
          rw [decide_eq_true e, Bool.true_and]; exact this
        · rw [decide_eq_false e, Bool.false_and]; rfl

/-! ### The pairs that follow one -/
def folB (T : Tb) (G : Gr) (p : Pl) (k : Nat) : List Pl := (List.range k).flatMap (fun (j : Nat) => if frW T p.1 (j : Int) = true then [((j : Int), endA G p.2 (ltr (bget T.base j)))] else [])
def folS (T : Tb) (G : Gr) (p : Pl) (k : Nat) : List Pl := (T.swaps.take k).flatMap (fun s => if frW T p.1 s.i = true then [((-1 : Int), endA G p.2 (ltr s.wd))] else [])
def folP (T : Tb) (G : Gr) (p : Pl) : List Pl := folB T G p T.base.length ++ folS T G p T.swaps.length
/-- One pair is noted. -/
def ntP (x : List Pl × Int) (y : Pl) : List Pl × Int :=
  if x.2 ≠ 0 then x else if y.2 = [] then (x.1, 13) else if y ∈ x.1 then (x.1, 0) else if x.1.length = 1024 then (x.1, 4) else (x.1 ++ [y], 0)
theorem wr_nt {G : Gr} {x : List Pl × Int} (h : ¬ x.2 ≠ 0) (p : Pl) (w : ByteArray) (last : Int) : wrP G x.1 p w last = ntP x (last, endA G p.2 (ltr w)) := by
  unfold wrP ntP; rw [if_neg h]
theorem folB_succ (T : Tb) (G : Gr) (p : Pl) (k : Nat) : folB T G p (k + 1) = folB T G p k ++ (if frW T p.1 (k : Int) = true then [((k : Int), endA G p.2 (ltr (bget T.base k)))] else []) := by
  unfold folB; rw [List.range_succ, List.flatMap_append]; simp
theorem folS_succ (T : Tb) (G : Gr) (p : Pl) (k : Nat) (h : k < T.swaps.length) : folS T G p (k + 1) = folS T G p k ++ (if frW T p.1 T.swaps[k].i = true then [((-1 : Int), endA G p.2 (ltr T.swaps[k].wd))] else []) := by
  unfold folS; rw [List.take_succ_eq_append_getElem h, List.flatMap_append]; simp
theorem nt_err {x : List Pl × Int} (h : x.2 ≠ 0) (y : Pl) : ntP x y = x := by unfold ntP; rw [if_pos h]
theorem rB_fol (T : Tb) (G : Gr) (p : Pl) (q : List Pl) : ∀ k, rB T G p q k = (folB T G p k).foldl ntP (q, 0)
  | 0 => rfl
  | k + 1 => by
    rw [rB_succ, folB_succ, List.foldl_append, rB_fol T G p q k]
    unfold bsP
    by_cases hx : ((folB T G p k).foldl ntP (q, 0)).2 ≠ 0
    · rw [if_pos hx]
      cases hfr : frW T p.1 (k : Int)
      · rfl
      · simp only [if_true, List.foldl_cons, List.foldl_nil]; rw [nt_err hx]
    · rw [if_neg hx]
      cases hfr : frW T p.1 (k : Int)
      · rfl
      · simp only [if_true, List.foldl_cons, List.foldl_nil]; rw [wr_nt hx]
theorem rS_fol (T : Tb) (G : Gr) (p : Pl) (x : List Pl × Int) : ∀ k, k ≤ T.swaps.length → rS T G p x k = (folS T G p k).foldl ntP x
  | 0, _ => by unfold rS folS; rw [List.take_zero]; rfl
  | k + 1, h => by
    rw [rS_succ T G p x k (by omega), folS_succ T G p k (by omega), List.foldl_append, rS_fol T G p x k (by omega)]
    unfold ssP
    by_cases hx : ((folS T G p k).foldl ntP x).2 ≠ 0
    · rw [if_pos hx]
      cases hfr : frW T p.1 T.swaps[k].i
      · rfl
      · simp only [if_true, List.foldl_cons, List.foldl_nil]; rw [nt_err hx]
    · rw [if_neg hx]
      cases hfr : frW T p.1 T.swaps[k].i
      · rfl
      · simp only [if_true, List.foldl_cons, List.foldl_nil]; rw [wr_nt hx]
theorem rnd_fol (T : Tb) (G : Gr) (p : Pl) (q : List Pl) : rndP T G p q = (folP T G p).foldl ntP (q, 0) := by
  unfold rndP folP
  rw [List.foldl_append, rS_fol _ _ _ _ _ (Nat.le_refl _), rB_fol]
theorem fold_err {x : List Pl × Int} (h : x.2 ≠ 0) : ∀ l : List Pl, l.foldl ntP x = x
  | [] => rfl
  | y :: l => by rw [List.foldl_cons, nt_err h]; exact fold_err h l
/-- A first part of the round ends with an error: so does the round. -/
theorem fold_stop {l : List Pl} {x : List Pl × Int} {k : Nat} (h : ((l.take k).foldl ntP x).2 ≠ 0) : l.foldl ntP x = (l.take k).foldl ntP x := by
  conv => lhs; rw [← List.take_append_drop k l, List.foldl_append]
  exact fold_err h _
theorem fold_take {l : List Pl} {x : List Pl × Int} {k : Nat} (h : k < l.length) : (l.take (k + 1)).foldl ntP x = ntP ((l.take k).foldl ntP x) l[k] := by
  rw [List.take_succ_eq_append_getElem h, List.foldl_append]; rfl
theorem folB_len (T : Tb) (G : Gr) (p : Pl) : ∀ k, (folB T G p k).length ≤ k
  | 0 => Nat.le_refl 0
  | k + 1 => by
    have := folB_len T G p k
    rw [folB_succ, List.length_append]; split <;> simp <;> omega
theorem folS_len (T : Tb) (G : Gr) (p : Pl) : ∀ k, k ≤ T.swaps.length → (folS T G p k).length ≤ k
  | 0, _ => by simp [folS]
  | k + 1, h => by
    have := folS_len T G p k (by omega)
    rw [folS_succ _ _ _ _ (by omega), List.length_append]; split <;> simp <;> omega
/-- Without states the first word ends it. -/
theorem kpA_none {T : Tb} {G : Gr} (hf : fmd T = true) (h : G.n = 0) : kpA T G = 13 := by
  have hb := pre_base hf
  have hs : stP G = (-1, []) := by unfold stP; rw [h]; rfl
  have he : ∀ w, endA G [] w = [] := by
    intro w
    unfold endA
    induction w with
    | nil => rfl
    | cons a w ih =>
      rw [List.foldl_cons]
      have e : nextA G [] a = [] := by
        unfold nextA nxP
        rw [List.filter_eq_nil_iff]
        intro x _
        simp [nxE]
      rw [e]; exact ih
  have h1 : (folB T G (stP G) 1).foldl ntP ([stP G], 0) = ([stP G], 13) := by
    rw [folB_succ, hs]
    simp only [frW_start hf, if_true, List.foldl_append]
    show ntP ([(-1, [])], 0) ((0 : Int), endA G [] _) = _
    rw [he]
    rfl
  have h2 : rB T G (stP G) [stP G] T.base.length = ([stP G], 13) := by
    rw [rB_fol]
    have h3 : ∀ k, 1 ≤ k → (folB T G (stP G) k).foldl ntP ([stP G], 0) = ([stP G], 13) := by
      intro k hk
      induction k with
      | zero => omega
      | succ k ih =>
        rcases Nat.eq_zero_or_pos k with rfl | hp
        · exact h1
        · rw [folB_succ, List.foldl_append, ih hp, fold_err (by simp)]
    exact h3 _ (by omega)
  have h4 : rndP T G (stP G) [stP G] = ([stP G], 13) := by
    unfold rndP; rw [h2, rS_fol _ _ _ _ _ (Nat.le_refl _), fold_err (by simp)]
  unfold kpA
  show kpN T G (1024 + 1) 0 [stP G] = 13
  unfold kpN
  rw [dif_pos (by simp)]
  simp only [List.getElem_cons_zero]
  rw [h4]
  rfl
end Go.Proofs.YtjponanfpdmeoaaGreatDoor
namespace Go.Proofs.YtjponanfpdmeoaaGreatDoor
open Go.RowKit Go.Sort Go.Shelf Go.Lib

theorem any_hit {α : Type} {l : List α} {f : α → Bool} {k : Nat} (h : k < l.length) (hf : f l[k] = true) : l.any f = true := List.any_eq_true.2 ⟨_, List.getElem_mem h, hf⟩
theorem any_miss {α : Type} {l : List α} {f : α → Bool} (h : ∀ j (hj : j < l.length), f l[j] = false) : l.any f = false := by
  rw [List.any_eq_false]
  intro x hx
  obtain ⟨j, hj, rfl⟩ := List.getElem_of_mem hx
  rw [h j hj]; simp
set_option maxRecDepth 100000 in
set_option maxHeartbeats 1000000 in
theorem rlkWord_any (T : Tb) (s : ByteArray) (p1 p2 : Option Addr) (c1 c2 : Nat) (w : World) (hp : Sg 3 w swE p2 T.swaps) (h2 : T.swaps.length ≤ 9223372036854775807) :
    Calls Tryz.prog 47 #[(.agg #[.int .i64 T.q, .int .i64 T.n, .slice p1 T.base.length c1, .slice p2 T.swaps.length c2]), .string s] w fun e w' => e = .returned (.bool (tkn T s)) ∧ RowKit.Below w.heap.size w w' := by
  have hB0 : RowKit.Below w.heap.size w (w.alloc (.cells #[.int .i64 T.q, .int .i64 T.n, .slice p1 T.base.length c1, .slice p2 T.swaps.length c2] 25)) := (RowKit.Below.refl _ _).alloc (Nat.le_refl _) _
  have b0 : VRow (w.alloc (.cells #[.int .i64 T.q, .int .i64 T.n, .slice p1 T.base.length c1, .slice p2 T.swaps.length c2] 25)) w.heap.size 25 [.int .i64 T.q, .int .i64 T.n, .slice p1 T.base.length c1, .slice p2 T.swaps.length c2] := VRow.new w _ _
  go_enter Tryz.func47, Tryz.ntmps47
  go_wp2
  generalize (w.alloc (.cells #[.int .i64 T.q, .int .i64 T.n, .slice p1 T.base.length c1, .slice p2 T.swaps.length c2] 25)) = w0 at b0 hB0 ⊢
  have f3 := b0.at 3 rfl
  go_loop [5] (fun iv => ∃ k : Nat, k ≤ T.swaps.length ∧ iv = .int .i64 k ∧ Hid (∀ m (hm : m < T.swaps.length), m < k → eqb T.swaps[m].wd s = false)) (fun iv => T.swaps.length - (intOf iv).toNat)
  case atStart => exact ⟨0, by omega, rfl, fun _ _ h => by omega⟩
  case round =>
    obtain ⟨k, hk, rfl, hj⟩ := hrel
    by_cases hlt : k < T.swaps.length
    · obtain ⟨b1, o1, rfl, hb1, e0, e1, e2⟩ := (hp.below hB0).get3 k hlt rfl
      by_cases h1 : T.swaps[k].wd = s
      · have HH : Hid (tkn T s = true) := any_hit hlt (eqb_t h1)
        have h1b := bts_t h1
        clear h1
        go_wp2
        go_ret
        exact ⟨ret_bool HH.out.symm, hB0⟩
      · have HN : Hid (∀ m (hm : m < T.swaps.length), m < k + 1 → eqb T.swaps[m].wd s = false) := fun m hm h => by
          rcases Nat.lt_succ_iff_lt_or_eq.1 h with h3 | h3
          · exact hj.out m hm h3
          · subst h3; exact eqb_f h1
        have h1b := bts_f h1
        clear h1
        go_wp2
        go_round
        case rel => exact ⟨k + 1, by omega, by go_num, HN⟩
        case measure => simp [intOf]; omega
    · have HH : Hid (tkn T s = false) := any_miss (fun j hj' => hj.out j hj' (by omega))
      go_wp2
      go_ret
      exact ⟨ret_bool HH.out.symm, hB0⟩

theorem swS_none {T : Tb} {i j : Int} (h : frW T i j = true) : swS T.swaps i j = ⟨#[]⟩ := by
  unfold swS; unfold frW at h; rw [Option.isNone_iff_eq_none.1 h]; rfl
theorem swS_some {T : Tb} (hf : fmd T = true) {i j : Int} (h : frW T i j = false) : 0 < (swS T.swaps i j).size := by
  unfold swS
  unfold frW at h
  cases hs : swapW T.swaps i j with
  | none => rw [hs] at h; cases h
  | some w =>
    have := swapW_size hf hs
    have h2 := (fmd_bd hf).1
    simp only [Option.getD_some]
    omega

set_option maxRecDepth 100000 in
set_option maxHeartbeats 4000000 in
theorem rlkReadable_any (T : Tb) (p1 p2 : Option Addr) (c1 c2 : Nat) (w : World) (hin : TbIn w T p1 p2 c1 c2) (hf : fmd T = true) :
    Calls Tryz.prog 28 #[(.agg #[.int .i64 T.q, .int .i64 T.n, .slice p1 T.base.length c1, .slice p2 T.swaps.length c2])] w fun e w' => e = .returned (.bool (rdbl T)) ∧ RowKit.Below w.heap.size w w' := by
  rw [← rdR_eq hf]
  obtain ⟨w0, hw0⟩ : ∃ w0, w0 = w.alloc (.cells #[.int .i64 T.q, .int .i64 T.n, .slice p1 T.base.length c1, .slice p2 T.swaps.length c2] 25) := ⟨_, rfl⟩
  have hB0 : RowKit.Below w.heap.size w w0 := by subst hw0; exact (RowKit.Below.refl _ _).alloc (Nat.le_refl _) _
  have b0 : VRow w0 w.heap.size 25 [.int .i64 T.q, .int .i64 T.n, .slice p1 T.base.length c1, .slice p2 T.swaps.length c2] := by subst hw0; exact VRow.new w _ _
  have HT := hidI hin; have HB0 := hidI hB0; have HB := hidI b0
  have hN := pre_all (fmd_split hf).1
  have hN16 : T.base.length ≤ 16 := by omega
  have hM64 : T.swaps.length ≤ 64 := by omega
  have hn1 : 1 ≤ T.n ∧ T.n ≤ 8 := by omega
  have HSS := hidI (fun (i j : Int) (h : frW T i j = false) => swS_some hf h)
  have HSN := hidI (fun (i j : Int) (h : frW T i j = true) => swS_none h)
  have HBG := hidI (fun (k : Nat) (hk : k < T.base.length) => bget_eq T.base k hk)
  have HBZ := hidI (fun (k : Nat) (hk : k < T.base.length) => base_sz hf k hk)
  have HWZ := hidI (fun (k : Nat) (hk : k < T.swaps.length) => swap_size hf k hk)
  have HDR : ∀ a, Hid (rdR T a = false → a ≤ T.base.length → rdR T T.base.length = false) := fun a h hle => by
    unfold rdR at h ⊢
    cases hx : (List.range T.base.length).all (fun i => rdRi T i T.base.length)
    · rfl
    · rw [List.all_eq_true] at hx
      rw [← h]; symm
      rw [List.all_eq_true]
      intro i hi
      exact hx i (List.mem_range.2 (by have := List.mem_range.1 hi; omega))
  have HDI : ∀ i a, Hid (rdRi T i a = false → i < T.base.length → a ≤ T.base.length → rdR T T.base.length = false) := fun i a h hi hle => by
    refine (HDR (i + 1)) ?_ (by omega)
    rw [rdR_succ]
    have : rdRi T i T.base.length = false := by
      unfold rdRi at h ⊢
      cases hx : (List.range T.base.length).all (rdRj T i)
      · rfl
      · rw [List.all_eq_true] at hx
        rw [← h]; symm
        rw [List.all_eq_true]
        intro j hj
        exact hx j (List.mem_range.2 (by have := List.mem_range.1 hj; omega))
    rw [this, Bool.and_false]
  have HDJ := hidI (fun (i j : Nat) (h : rdRj T i j = false) (hi : i < T.base.length) (hj : j < T.base.length) => (HDI i (j + 1)).out (by rw [rdRi_succ, h, Bool.and_false]) hi (by omega))
  clear hin hf hN hB0 b0 HDR HDI
  go_enter Tryz.func28, Tryz.ntmps28
  go_upto_region 1 with fail
  rw [← hw0]
  clear hw0
  go_wp2_with fail
  go_loopw [3] (fun iv W => ∃ k : Nat, k ≤ T.base.length ∧ iv = .int .i64 k ∧ Hid (rdR T k = true) ∧ RowKit.Below w0.heap.size w0 W) (fun iv _ => T.base.length - (intOf iv).toNat)
  case atStart => exact ⟨0, by omega, rfl, rfl, RowKit.Below.refl _ _⟩
  case round =>
    obtain ⟨k, hk, rfl, hr, hB⟩ := hrel
    have f2 := (HB.out.below hB HB.out.lt).at 2 rfl
    by_cases hlt : k < T.base.length
    · have hltI : (k : Int) < (T.base.length : Int) := by omega
      have HS := hidI (rdR_succ T k)
      obtain ⟨wo, hwo⟩ : ∃ wo : World, wo = wr := ⟨_, rfl⟩
      go_wp2_with fail
      go_loopw [4] (fun iv W => ∃ j : Nat, j ≤ T.base.length ∧ iv = .int .i64 j ∧ Hid (rdRi T k j = true) ∧ RowKit.Below w0.heap.size w0 W) (fun iv _ => T.base.length - (intOf iv).toNat)
      case atStart => exact ⟨0, by omega, rfl, rfl, hB⟩
      case round =>
        clear hB f2 hwo
        obtain ⟨j, hj, rfl, hri, hB⟩ := hrel
        have hb := HB.out.below hB HB.out.lt
        have f2 := hb.at 2 rfl
        by_cases hlt2 : j < T.base.length
        · have hltJ : (j : Int) < (T.base.length : Int) := by omega
          have f0 := hb.at 0 rfl; have f1 := hb.at 1 rfl; have f3 := hb.at 3 rfl
          have hBW := HB0.out.trans (hB.mono HB0.out.size)
          have HSI := hidI (rdRi_succ T k j)
          have HJ := hidI (HDJ.out k j)
          have HR := hidI (rlkSwap_any T k j p1 p2 c1 c2 wr (HT.out.swaps.below hBW) HT.out.l2)
          cases hfr : frW T (k : Int) (j : Int)
          · have hsn := ne_empty (HSS.out _ _ hfr)
            have HX : Hid (rdRi T k (j + 1) = true) := by rw [Hid, HSI.out, hri.out]; unfold rdRj; rw [hfr]; rfl
            clear hfr HJ HSI
            generalize swS T.swaps k j = sw at *
            go_wp2_with fail
            refine HR.out.mono ?_
            rintro e w1 ⟨rfl, hB1⟩
            go_wp2_with fail
            go_roundw
            case rel => exact ⟨j + 1, by omega, by go_num, HX, hB.trans (hB1.mono hB.size)⟩
            case measure => simp [intOf]; omega
          · have hsn := HSN.out _ _ hfr
            rw [hsn] at HR
            have HX1 : Hid (rdRj T k j = (!tkn T (bget T.base k ++ bget T.base j) && rdRs T k j T.swaps.length)) := by rw [Hid]; unfold rdRj; rw [hfr]; rfl
            clear hfr hsn
            go_wp2_with fail
            refine HR.out.mono ?_
            rintro e w1 ⟨rfl, hB1⟩
            have hBw1 := hB.trans (hB1.mono hB.size)
            have hb1 := HB.out.below hBw1 HB.out.lt
            have hBW1 := HB0.out.trans (hBw1.mono HB0.out.size)
            obtain ⟨bb, oo, rfl, hbb, hc⟩ := (HT.out.base.below hBW1).get k hlt
            have e0 := hc k hlt
            have e1 := hc j hlt2
            rw [← HBG.out k hlt] at e0
            rw [← HBG.out j hlt2] at e1
            have hs1 := HBZ.out k hlt
            have hs2 := HBZ.out j hlt2
            have hml : (bget T.base k).size + (bget T.base j).size ≤ maxLen := by unfold maxLen; omega
            have hml2 : ¬ 9223372036854775807 < (bget T.base k).size + (bget T.base j).size := by omega
            clear f0 f1 f2 f3 hb hB hB1 hBW HR
            have f0 := hb1.at 0 rfl; have f1 := hb1.at 1 rfl; have f2 := hb1.at 2 rfl; have f3 := hb1.at 3 rfl
            have HRW := hidI (fun (s : ByteArray) (W : World) (h : RowKit.Below w0.heap.size w0 W) => rlkWord_any T s (some ⟨bb, oo, none⟩) p2 c1 c2 W (HT.out.swaps.below (HB0.out.trans (h.mono HB0.out.size))) HT.out.l2)
            generalize hba : bget T.base k = ba at *
            have HBA := hidI hba
            generalize bget T.base j = bj at *
            clear hba hc
            go_wp2_with fail
            refine region_tail 12 (by kernel_rfl) (by kernel_rfl) fun W hD => ?_
            have d0 := (hD.cell _).trans f0; have d1 := (hD.cell _).trans f1; have d2 := (hD.cell _).trans f2; have d3 := (hD.cell _).trans f3
            have q0 := (hD.cell _).trans e0; have q1 := (hD.cell _).trans e1
            have hBW := hBw1.trans (hD.below _)
            clear f0 f1 f2 f3 e0 e1 hb1 hBw1 hBW1
            simp only [List.take_succ_cons, List.take_zero, List.drop_succ_cons, List.drop_zero]
            iterate 12 still_step
            refine wpStill_nil ?_
            go_wp2_with fail
            refine (HRW.out (ba ++ bj) W hBW).mono ?_
            rintro e w2 ⟨rfl, hB2⟩
            have hBw2 := hBW.trans (hB2.mono hBW.size)
            clear hBW hB2 d0 d1 d2 d3 q0 q1 hD hbb hml
            cases ht : tkn T (ba ++ bj)
            · have HX2 : Hid (rdRj T k j = rdRs T k j T.swaps.length) := by rw [Hid, HX1.out, ht]; rfl
              clear ht HX1
              go_wp2_with fail
              go_loopw [5] (fun iv W => ∃ m : Nat, m ≤ T.swaps.length ∧ iv = .int .i64 m ∧ Hid (rdRs T k j m = true) ∧ RowKit.Below w0.heap.size w0 W) (fun iv _ => T.swaps.length - (intOf iv).toNat)
              case atStart => exact ⟨0, by omega, rfl, rfl, hBw2⟩
              case round =>
                clear hBw2
                obtain ⟨m, hm, rfl, hrs, hB⟩ := hrel
                have hb := HB.out.below hB HB.out.lt
                have f0 := hb.at 0 rfl; have f1 := hb.at 1 rfl; have f2 := hb.at 2 rfl; have f3 := hb.at 3 rfl
                have hBW := HB0.out.trans (hB.mono HB0.out.size)
                by_cases hlt3 : m < T.swaps.length
                · have hltM : (m : Int) < (T.swaps.length : Int) := by omega
                  have HRS := hidI (rdRs_succ T k j m hlt3)
                  obtain ⟨b3, o3, rfl, hb3, g0, g1, g2⟩ := (HT.out.swaps.below hBW).get3 m hlt3 rfl
                  obtain ⟨bb', oo', hp', hbb', hc'⟩ := (HT.out.base.below hBW).get k hlt
                  cases hp'
                  have e0 := hc' k hlt
                  rw [← HBG.out k hlt, HBA.out] at e0
                  rw [HBA.out] at HRS
                  have hz := HWZ.out m hlt3
                  clear hc'
                  generalize T.swaps[m] = sw at *
                  by_cases hij : sw.i = (j : Int)
                  · have hijb : (sw.i == (j : Int)) = true := by simpa using hij
                    have hT0 : 0 ≤ T.n := by omega
                    have hTs : T.n ≤ (sw.wd.size : Int) := by omega
                    have hTn : T.n.toNat ≤ sw.wd.size := by omega
                    have hes : (sw.wd.extract 0 T.n.toNat).size ≤ 8 := by simp; omega
                    have hm2 : ¬ 9223372036854775807 < ba.size + (sw.wd.extract 0 T.n.toNat).size := by omega
                    have hm3 : ¬ 9223372036854775807 < ba.size + T.n.toNat := by omega
                    clear hz
                    go_wp2_with fail
                    refine region_tail 25 (by kernel_rfl) (by kernel_rfl) fun W hD => ?_
                    have d0 := (hD.cell _).trans f0; have d1 := (hD.cell _).trans f1; have d2 := (hD.cell _).trans f2; have d3 := (hD.cell _).trans f3
                    have q0 := (hD.cell _).trans e0; have q1 := (hD.cell _).trans g0; have q2 := (hD.cell _).trans g1; have q3 := (hD.cell _).trans g2
                    have hBWx := hB.trans (hD.below _)
                    have HRW2 := hidI (rlkWord_any T (ba ++ sw.wd.extract 0 T.n.toNat) (some ⟨bb, oo, none⟩) (some ⟨b3, o3, none⟩) c1 c2 W (HT.out.swaps.below (HB0.out.trans (hBWx.mono HB0.out.size))) HT.out.l2)
                    clear f0 f1 f2 f3 e0 g0 g1 g2 hb hBW hB
                    simp only [List.take_succ_cons, List.take_zero, List.drop_succ_cons, List.drop_zero]
                    iterate 25 still_step
                    refine wpStill_nil ?_
                    go_wp2_with fail
                    refine HRW2.out.mono ?_
                    rintro e w3 ⟨rfl, hB3⟩
                    have hBw3 := hBWx.trans (hB3.mono hBWx.size)
                    have hXr : Hid (rdRs T k j (m + 1) = !tkn T (ba ++ sw.wd.extract 0 T.n.toNat)) := by rw [Hid, HRS.out, hrs.out, decide_eq_true hij]; simp
                    have hXm : Hid (rdRs T k j (m + 1) = false → rdRs T k j T.swaps.length = false) := fun h => by
                      unfold rdRs at h ⊢
                      rw [List.take_length]
                      cases hx : T.swaps.all (fun s => !(decide (s.i = (j : Int)) && tkn T (bget T.base k ++ s.wd.extract 0 T.n.toNat)))
                      · rfl
                      · rw [List.all_eq_true] at hx
                        rw [← h]; symm
                        rw [List.all_eq_true]
                        intro x hx2
                        exact hx x (List.mem_of_mem_take hx2)
                    clear HRS HRW2 hBWx hB3 hm2 hes hTn hij d0 d1 d2 d3 q0 q1 q2 q3 hD
                    generalize tkn T (ba ++ sw.wd.extract 0 T.n.toNat) = r at *
                    cases r
                    · have HX : Hid (rdRs T k j (m + 1) = true) := hXr.out
                      clear hXr hXm
                      go_wp2_with fail
                      go_roundw
                      case rel => exact ⟨m + 1, by omega, by go_num, HX, hBw3⟩
                      case measure => simp [intOf]; omega
                    · have HX : Hid (rdR T T.base.length = false) := HJ.out (by rw [HX2.out]; exact hXm.out hXr.out) hlt hlt2
                      clear hXr hXm
                      go_wp2_with fail
                      go_ret
                      exact ⟨ret_bool HX.out.symm, HB0.out.trans (hBw3.mono HB0.out.size)⟩
                  · have hijb : (sw.i == (j : Int)) = false := by simpa using hij
                    have HX : Hid (rdRs T k j (m + 1) = true) := by rw [Hid, HRS.out, hrs.out, decide_eq_false hij]; rfl
                    clear hij HRS
                    go_wp2_with fail
                    (refine wp_region_quiet_lit (by kernel_rfl) (by kernel_rfl) ?_; (repeat (first | go_big_quiet_step (fail) | quiet_step (fail))); refine wpQuiet_nil ?_; intro _ hwq; obtain ⟨nq, hwq2⟩ := hwq; subst hwq2)
                    go_wp2
                    go_roundw
                    case rel => exact ⟨m + 1, by omega, by go_num, HX, below_drewN hB nq⟩
                    case measure => simp [intOf]; omega
                · obtain rfl : m = T.swaps.length := by omega
                  have hltM : ¬ (T.swaps.length : Int) < (T.swaps.length : Int) := by omega
                  have HX : Hid (rdRi T k (j + 1) = true) := by rw [Hid, HSI.out, hri.out, HX2.out, hrs.out]; rfl
                  go_wp2_with fail
                  go_roundw
                  case rel => exact ⟨j + 1, by omega, by go_num, HX, hB⟩
                  case measure => simp [intOf]; omega
            · have HX : Hid (rdR T T.base.length = false) := HJ.out (by rw [HX1.out, ht]; rfl) hlt hlt2
              clear ht HX1
              go_wp2_with fail
              go_ret
              exact ⟨ret_bool HX.out.symm, HB0.out.trans (hBw2.mono HB0.out.size)⟩
        · obtain rfl : j = T.base.length := by omega
          have hltJ : ¬ (T.base.length : Int) < (T.base.length : Int) := by omega
          have HX : Hid (rdR T (k + 1) = true) := by rw [Hid, HS.out, hr.out, hri.out]; rfl
          go_wp2_with fail
          go_roundw
          case rel => exact ⟨k + 1, by omega, by go_num, HX, hB⟩
          case measure => simp [intOf]; omega
    · obtain rfl : k = T.base.length := by omega
      have hltI : ¬ (T.base.length : Int) < (T.base.length : Int) := by omega
      go_wp2_with fail
      go_ret
      exact ⟨ret_bool hr.out.symm, HB0.out.trans (hB.mono HB0.out.size)⟩
end Go.Proofs.YtjponanfpdmeoaaGreatDoor
namespace Go.Proofs.YtjponanfpdmeoaaGreatDoor
open Go.RowKit Go.Sort Go.Shelf Go.Lib

theorem r11has_q (l : List Int) (p : Option Addr) (c : Nat) (n : Int) (w : World) (hp : Sl w (Value.int .i64) p l) (hl : l.length ≤ 9223372036854775807) :
    Calls Tryz.prog 95 #[.slice p l.length c, .int .i64 n] w fun e w' => e = .returned (.bool (decide (n ∈ l))) ∧ w' = w := by
  go_enter Tryz.func95, Tryz.ntmps95
  go_wp2
  go_loop [5] (fun i => ∃ k : Nat, k ≤ l.length ∧ i = .int .i64 k ∧ Hid (∀ j (hj : j < l.length), j < k → l[j] ≠ n)) (fun i => l.length - (intOf i).toNat)
  case atStart => exact ⟨0, by omega, rfl, fun j _ h => absurd h (by omega)⟩
  case round =>
    obtain ⟨k, hk, rfl, hj⟩ := hrel
    by_cases hlt : k < l.length
    · obtain ⟨b1, o1, rfl, hb1, hc1⟩ := hp.get k hlt
      have e1 := hc1 k hlt
      clear hc1
      by_cases he : l[k] = n
      · have HX : Hid (decide (n ∈ l) = true) := decide_eq_true (he ▸ List.getElem_mem hlt)
        have d1 : (l[k] == n) = true := by simpa using he
        generalize l[k] = x at *
        clear he
        go_wp2
        go_ret
        exact ⟨ret_bool HX.out.symm, rfl⟩
      · have d1 : (l[k] == n) = false := by simpa using he
        have HJ : Hid (∀ j (hj : j < l.length), j < k + 1 → l[j] ≠ n) := fun j h1 h2 => by
          rcases Nat.lt_succ_iff_lt_or_eq.1 h2 with h3 | h3
          · exact hj.out j h1 h3
          · subst h3; exact he
        generalize l[k] = x at *
        clear he hj
        go_wp2
        go_round
        case rel => exact ⟨k + 1, by omega, by go_num, HJ⟩
        case measure => simp [intOf]; omega
    · have HX : Hid (decide (n ∈ l) = false) := decide_eq_false (fun hm => by
        obtain ⟨j, hj', rfl⟩ := List.getElem_of_mem hm
        exact hj.out j hj' (by omega) rfl)
      go_wp2
      go_ret
      exact ⟨ret_bool HX.out.symm, rfl⟩

set_option maxRecDepth 100000 in
set_option maxHeartbeats 4000000 in
theorem r11Step_any (G : Gr) (p : Option Addr) (c : Nat) (st : List Int) (q : Option Addr) (d : Nat) (b : Int) (w : World) (hin : Sg 3 w edE p G.es) (hst : Sl w (Value.int .i64) q st) (hl : G.es.length ≤ 10000) (hs : st.length ≤ 100000) (hn0 : 0 ≤ G.n) (hn1 : G.n ≤ 100000) :
    Calls Tryz.prog 83 #[(.agg #[.int .i64 G.q, .int .i64 G.n, .slice p G.es.length c]), .slice q st.length d, .int .i64 b] w (LsT (nextA G st b) w) := by
  have HIN := hidI hin; have HST := hidI hst
  clear hin hst
  obtain ⟨i0, hi0, hz0, hz1, hz3⟩ := info_parts infoIn
  obtain ⟨w1, hw1⟩ : ∃ w1, w1 = (w.alloc (.cells #[.int .i64 G.q, .int .i64 G.n, .slice p G.es.length c] 28)).alloc (.cells #[] 3) := ⟨_, rfl⟩
  have c0 : VRow w1 w.heap.size 28 [.int .i64 G.q, .int .i64 G.n, .slice p G.es.length c] := by subst hw1; exact (VRow.new w _ _).alloc _
  have x1 : RowKit.Below w.heap.size w w1 := by subst hw1; exact ((RowKit.Below.refl _ _).alloc (Nat.le_refl _) _).alloc (by simp) _
  have o1 : w1.ownsRow (w.heap.size + 1) 3 1 (.slice (some ⟨w.heap.size + 1, 0, none⟩) 0 0) 0 [] := by
    subst hw1
    have := own_new (w.alloc (.cells #[.int .i64 G.q, .int .i64 G.n, .slice p G.es.length c] 28)) (w.heap.size + 1) [] 3 (by simp) (by simp [maxLen])
    rw [World.size_alloc] at this; exact this
  have hsz := x1.size
  have hsz1 : w.heap.size + 1 < w1.heap.size := by subst hw1; simp
  go_enter Tryz.func83, Tryz.ntmps83
  go_upto_region 2 with fail
  rw [← hw1]
  clear hw1
  go_wp2_with fail
  go_loopw [7, 8] (fun ov iv wr => ∃ k : Nat, k ≤ G.n.toNat ∧ iv = .int .i64 k ∧ wr.ownsRow (w.heap.size + 1) 3 1 ov ((upto k).filter (nxP G.es st b)).length (((upto k).filter (nxP G.es st b)).map (Value.int .i64)) ∧ RowKit.Below (w.heap.size + 1) w1 wr ∧ w1.heap.size ≤ wr.heap.size) (fun _ iv _ => G.n.toNat - (intOf iv).toNat)
  case atStart => exact ⟨0, by omega, rfl, o1, RowKit.Below.refl _ _, Nat.le_refl _⟩
  case round =>
    obtain ⟨k, hk, rfl, hown, hB, hszr⟩ := hrel
    have xr := x1.trans (hB.mono (by omega))
    have cr := c0.below hB (by omega)
    have f1 := cr.at 1 rfl; have f2 := cr.at 2 rfl
    by_cases hlt : k < G.n.toNat
    · have hlt' : (k : Int) < G.n := by omega
      have HN := hidI (uptof_succ (nxP G.es st b) k)
      have hML := uptof_len (nxP G.es st b) k
      generalize (upto k).filter (nxP G.es st b) = M at *
      go_wp2_with fail
      go_loop [9, 10] (fun fv jv => ∃ j : Nat, j ≤ G.es.length ∧ jv = .int .i64 j ∧ fv = .bool ((G.es.take j).any (nxE st b k))) (fun _ jv => G.es.length - (intOf jv).toNat)
      case atStart => exact ⟨0, by omega, rfl, by simp⟩
      case round =>
        obtain ⟨j, hj, rfl, rfl⟩ := hrel
        by_cases hjl : j < G.es.length
        · obtain ⟨b3, o3, rfl, hb3, e0, e1, e2⟩ := (HIN.out.below xr).get3 j hjl rfl
          have HA := hidI (any_snoc (nxE st b k) G.es j hjl)
          generalize (G.es.take j).any (nxE st b k) = fd at *
          generalize hx : G.es[j] = x at *
          have HS1 := HST.out.below xr
          by_cases h1 : x.t = (k : Int)
          · have d1 : (x.t == (k : Int)) = true := by simpa using h1
            by_cases h2 : x.l = b
            · have d2 : (x.l == b) = true := by simpa using h2
              have HV : Hid ((G.es.take (j + 1)).any (nxE st b k) = (fd || decide (x.f ∈ st))) := by rw [Hid, HA.out]; simp [nxE, h1, h2]
              have HC := hidI (r11has_q st q d x.f wr HS1 (by omega))
              clear h1 h2 HA HS1
              generalize decide (x.f ∈ st) = r at *
              cases r
              · go_wp2_with (go_at_call 95; refine HC.out.mono ?_; rintro e w' ⟨rfl, rfl⟩)
                go_round
                case rel => exact ⟨j + 1, by omega, by go_num, by rw [HV.out]; simp⟩
                case measure => simp [intOf]; omega
              · go_wp2_with (go_at_call 95; refine HC.out.mono ?_; rintro e w' ⟨rfl, rfl⟩)
                go_round
                case rel => exact ⟨j + 1, by omega, by go_num, by rw [HV.out]; simp⟩
                case measure => simp [intOf]; omega
            · have d2 : (x.l == b) = false := by simpa using h2
              have HV : Hid ((G.es.take (j + 1)).any (nxE st b k) = fd) := by rw [Hid, HA.out]; simp [nxE, h2]
              clear h1 h2
              go_wp2_with fail
              go_round
              case rel => exact ⟨j + 1, by omega, by go_num, by rw [HV.out]⟩
              case measure => simp [intOf]; omega
          · have d1 : (x.t == (k : Int)) = false := by simpa using h1
            have HV : Hid ((G.es.take (j + 1)).any (nxE st b k) = fd) := by rw [Hid, HA.out]; simp [nxE, h1]
            clear h1
            go_wp2_with fail
            go_round
            case rel => exact ⟨j + 1, by omega, by go_num, by rw [HV.out]⟩
            case measure => simp [intOf]; omega
        · obtain rfl : j = G.es.length := by omega
          rw [List.take_length]
          have HV : Hid (G.es.any (nxE st b k) = nxP G.es st b k) := rfl
          generalize G.es.any (nxE st b k) = fd at *
          cases fd
          · have HN : Hid (List.filter (nxP G.es st b) (upto (k + 1)) = M) := by rw [Hid, HN.out, ← HV.out]; simp
            go_wp2_with fail
            go_roundw
            case rel => exact ⟨k + 1, by omega, by go_num, by rw [HN.out]; exact hown, hB, hszr⟩
            case measure => simp [intOf]; omega
          · have HN : Hid (List.filter (nxP G.es st b) (upto (k + 1)) = M ++ [(k : Int)]) := by rw [Hid, HN.out, ← HV.out]; simp
            have hnew := cell_one_at wr (.int .i64 (k : Int)) 3 wr.heap.size rfl
            go_wp2_with (at_builtin; refine wpList_append_own _ rfl _ _ 43 rfl (w.heap.size + 1) 3 i0 (.int .i64 0) 1 8 Tryz.underlying43 hi0 hz0 hz1 hz3 rfl (by decide) _ _ _ rfl (hown.alloc _) ⟨wr.heap.size, 0, none⟩ 1 1 [.int .i64 (k : Int)] rfl rfl hnew (by simp [Value.oneCell']) (by simp [maxLen]; omega) (by omega) (by rw [World.size_alloc]; omega) ?_; intro v' w2 hown' hgrow _)
            have hg2 := hgrow.size
            go_roundw
            case rel => exact ⟨k + 1, by omega, by go_num, by rw [HN.out, List.length_append, List.map_append]; exact hown', (hB.alloc (by omega) _).grown hgrow (by simp; omega) (fun j e => (hown.lt j e).1), by rw [World.size_alloc] at hg2; omega⟩
            case measure => simp [intOf]; omega
    · obtain rfl : k = G.n.toNat := by omega
      have hlt' : ¬ ((G.n.toNat : Int) < G.n) := by omega
      go_wp2
      go_ret
      obtain ⟨p', c', rfl, hs'⟩ := own_slT hown
      exact ⟨_, _, rfl, hs', xr⟩

set_option maxRecDepth 100000 in
set_option maxHeartbeats 4000000 in
theorem r11ends_any (G : Gr) (p : Option Addr) (c : Nat) (st : List Int) (q : Option Addr) (d : Nat) (s : ByteArray) (w : World) (hin : Sg 3 w edE p G.es) (hst : SlT w q st) (hl : G.es.length ≤ 10000) (hs : st.length ≤ 100000) (hn0 : 0 ≤ G.n) (hn1 : G.n ≤ 100000) (hss : s.size ≤ 1000000) :
    Calls Tryz.prog 62 #[(.agg #[.int .i64 G.q, .int .i64 G.n, .slice p G.es.length c]), .slice q st.length d, .string s] w (LsT (endA G st (ltr s)) w) := by
  obtain ⟨w1, hw1⟩ : ∃ w1, w1 = w.alloc (.cells #[.int .i64 G.q, .int .i64 G.n, .slice p G.es.length c] 28) := ⟨_, rfl⟩
  have c0 : VRow w1 w.heap.size 28 [.int .i64 G.q, .int .i64 G.n, .slice p G.es.length c] := by subst hw1; exact VRow.new w _ _
  have x1 : RowKit.Below w.heap.size w w1 := by subst hw1; exact (RowKit.Below.refl _ _).alloc (Nat.le_refl _) _
  have HIN := hidI hin; have HST := hidI (hst.below x1); have C0 := hidI c0; have X1 := hidI x1
  have HLE : ∀ k, Hid ((endA G st ((ltr s).take k)).length ≤ 100000) := fun k => by
    cases h : (ltr s).take k with
    | nil => exact hs
    | cons a r =>
      have : endA G st (a :: r) = endA G (nextA G st a) r := rfl
      unfold Hid
      rw [this]
      have h2 : ∀ (l : List Int) (S : List Int), S.length ≤ 100000 → (endA G S l).length ≤ 100000 := by
        intro l
        induction l with
        | nil => intro S h; exact h
        | cons b l ih =>
          intro S h
          have e : endA G S (b :: l) = endA G (nextA G S b) l := rfl
          rw [e]
          exact ih _ (Nat.le_trans (uptof_len _ _) (by omega))
      exact h2 r _ (Nat.le_trans (uptof_len _ _) (by omega))
  clear hin hst x1 c0 hs
  go_enter Tryz.func62, Tryz.ntmps62
  go_upto_region 1 with fail
  rw [← hw1]
  clear hw1
  go_wp2_with fail
  go_loopw [1, 7] (fun sv iv W => ∃ (k : Nat) (q' : Option Addr) (d' : Nat), k ≤ s.size ∧ iv = .int .i64 k ∧ sv = .slice q' (endA G st ((ltr s).take k)).length d' ∧ SlT W q' (endA G st ((ltr s).take k)) ∧ RowKit.Below w1.heap.size w1 W) (fun _ iv _ => s.size - (intOf iv).toNat)
  case atStart => exact ⟨0, q, d, by omega, rfl, rfl, HST.out, RowKit.Below.refl _ _⟩
  case round =>
    obtain ⟨k, q', d', hk, rfl, rfl, hsl, hB⟩ := hrel
    have xr := X1.out.trans (hB.mono X1.out.size)
    have cr := C0.out.below hB C0.out.lt
    have hle := (HLE k).out
    by_cases hlt : k < s.size
    · have HN : Hid (endA G st ((ltr s).take (k + 1)) = nextA G (endA G st ((ltr s).take k)) (Chg.dig (s[k].toNat : Int))) := by rw [Hid, ltr_take s k hlt, endA_snoc]
      have hltI : (k : Int) < (s.size : Int) := by omega
      have f0 := cr.at 0 rfl; have f1 := cr.at 1 rfl; have f2 := cr.at 2 rfl
      have HC := hidI (fun W (hW : RowKit.Below wr.heap.size wr W) => r11Step_any G p c (endA G st ((ltr s).take k)) q' d' (Chg.dig (s[k].toNat : Int)) W (HIN.out.below (xr.trans (hW.mono xr.size))) (hsl.1.below hW) hl (by omega) hn0 hn1)
      generalize endA G st ((ltr s).take k) = L at *
      have cr2 := cr.lt
      clear cr
      go_wp2_with fail
      have hz : w.heap.size < wr.heap.size := cr2
      go_region_held3 (fun w' => w'.cell? ⟨w.heap.size, 0, none⟩ = some (.int .i64 G.q) ∧ w'.cell? ⟨w.heap.size, 1, none⟩ = some (.int .i64 G.n) ∧ w'.cell? ⟨w.heap.size, 2, none⟩ = some (.slice p G.es.length c) ∧ RowKit.Below wr.heap.size wr w')
        (first | (go_split_ands; refine ⟨?_, ?_, ?_, ?_⟩ <;> first | assumption | exact below_drewN (RowKit.Below.refl _ _) 1 | exact (hBa.cell (Nat.lt_of_lt_of_le hz (RowKit.Below.size (by assumption)))).trans (by assumption) | exact RowKit.Below.trans (by assumption) (hBa.mono (RowKit.Below.size (by assumption))) | (go_keep; done)))
        (first
          | (go_at_call 81; refine (Chg.digit_any _ _).mono ?_; rintro e w' ⟨rfl, rfl⟩)
          | (go_at_call 83; go_split_ands; (with_reducible refine (HC.out _ (by assumption)).mono ?_); rintro e wA ⟨qa, da, rfl, hsa, hBa⟩))
      go_wp2_with fail
      have hBx : RowKit.Below wr.heap.size wr wA := RowKit.Below.trans (by assumption) (hBa.mono (RowKit.Below.size (by assumption)))
      go_roundw
      case rel => exact ⟨k + 1, qa, da, by omega, by go_num, by rw [HN.out], by rw [HN.out]; exact hsa, hB.trans (hBx.mono hB.size)⟩
      case measure => simp [intOf]; omega
    · obtain rfl : k = s.size := by omega
      have hltI : ¬ (s.size : Int) < (s.size : Int) := by omega
      have HE : Hid (endA G st (ltr s) = endA G st ((ltr s).take s.size)) := by rw [Hid, ltr_all]
      generalize endA G st ((ltr s).take s.size) = L at *
      go_wp2
      go_ret
      exact ⟨q', d', by rw [HE.out]; rfl, by rw [HE.out]; exact hsl, xr⟩

set_option maxRecDepth 100000 in
set_option maxHeartbeats 4000000 in
theorem r11All_any (G : Gr) (p : Option Addr) (c : Nat) (w : World) (hn0 : 0 ≤ G.n) (hn1 : G.n ≤ 100000) :
    Calls Tryz.prog 63 #[(.agg #[.int .i64 G.q, .int .i64 G.n, .slice p G.es.length c])] w (LsT (upto G.n.toNat) w) := by
  obtain ⟨i0, hi0, hz0, hz1, hz3⟩ := info_parts infoIn
  obtain ⟨w1, hw1⟩ : ∃ w1, w1 = (w.alloc (.cells #[.int .i64 G.q, .int .i64 G.n, .slice p G.es.length c] 28)).alloc (.cells #[] 3) := ⟨_, rfl⟩
  have c0 : VRow w1 w.heap.size 28 [.int .i64 G.q, .int .i64 G.n, .slice p G.es.length c] := by subst hw1; exact (VRow.new w _ _).alloc _
  have x1 : RowKit.Below w.heap.size w w1 := by subst hw1; exact ((RowKit.Below.refl _ _).alloc (Nat.le_refl _) _).alloc (by simp) _
  have o1 : w1.ownsRow (w.heap.size + 1) 3 1 (.slice (some ⟨w.heap.size + 1, 0, none⟩) 0 0) 0 [] := by
    subst hw1
    have := own_new (w.alloc (.cells #[.int .i64 G.q, .int .i64 G.n, .slice p G.es.length c] 28)) (w.heap.size + 1) [] 3 (by simp) (by simp [maxLen])
    rw [World.size_alloc] at this; exact this
  have hsz := x1.size
  have hsz1 : w.heap.size + 1 < w1.heap.size := by subst hw1; simp
  obtain ⟨n, hn⟩ : ∃ n : Nat, G.n = n := ⟨G.n.toNat, by omega⟩
  have HN0 : Hid (upto G.n.toNat = upto n) := by rw [Hid, hn]; rfl
  have HNN := hidI hn
  rw [hn] at c0
  have hn100 : n ≤ 100000 := by omega
  clear hn
  go_enter Tryz.func63, Tryz.ntmps63
  go_upto_region 2 with fail
  rw [← hw1]
  clear hw1
  go_wp2_with fail
  go_loopw [3, 4] (fun ov iv wr => ∃ k : Nat, k ≤ n ∧ iv = .int .i64 k ∧ wr.ownsRow (w.heap.size + 1) 3 1 ov k ((upto k).map (Value.int .i64)) ∧ RowKit.Below (w.heap.size + 1) w1 wr ∧ w1.heap.size ≤ wr.heap.size) (fun _ iv _ => n - (intOf iv).toNat)
  case atStart => exact ⟨0, by omega, rfl, o1, RowKit.Below.refl _ _, Nat.le_refl _⟩
  case round =>
    obtain ⟨k, hk, rfl, hown, hB, hszr⟩ := hrel
    have xr := x1.trans (hB.mono (by omega))
    have cr := c0.below hB (by omega)
    have f1 := cr.at 1 rfl
    by_cases hlt : k < n
    · have hlt' : (k : Int) < (n : Int) := by omega
      have hnew := cell_one_at wr (.int .i64 (k : Int)) 3 wr.heap.size rfl
      have HU : Hid ((upto k).map (Value.int .i64) ++ [.int .i64 (k : Int)] = (upto (k + 1)).map (Value.int .i64)) := by rw [Hid, upto_succ, List.map_append]; rfl
      go_wp2_with (at_builtin; refine wpList_append_own _ rfl _ _ 43 rfl (w.heap.size + 1) 3 i0 (.int .i64 0) 1 8 Tryz.underlying43 hi0 hz0 hz1 hz3 rfl (by decide) _ _ _ rfl (hown.alloc _) ⟨wr.heap.size, 0, none⟩ 1 1 [.int .i64 (k : Int)] rfl rfl hnew (by simp [Value.oneCell']) (by simp [maxLen]; omega) (by omega) (by rw [World.size_alloc]; omega) ?_; intro v' w2 hown' hgrow _)
      have hg2 := hgrow.size
      go_roundw
      case rel => exact ⟨k + 1, by omega, by go_num, by rw [← HU.out]; exact hown', (hB.alloc (by omega) _).grown hgrow (by simp; omega) (fun j e => (hown.lt j e).1), by rw [World.size_alloc] at hg2; omega⟩
      case measure => simp [intOf]; omega
    · obtain rfl : k = n := by omega
      have hlt' : ¬ ((k : Int) < (k : Int)) := by omega
      go_wp2
      go_ret
      obtain ⟨p', c', rfl, hs'⟩ := own_slT hown
      exact ⟨p', c', by rw [HN0.out]; rfl, by rw [HN0.out]; exact hs', xr⟩

/-- Why a word cannot be read in a graph. -/
theorem r11check_ok (G : Gr) (p : Option Addr) (c : Nat) (w : World) (hin : Sg 3 w edE p G.es) (hl : G.es.length ≤ 9223372036854775807) (hv : Vg G) (hq : G.q ≤ 16) :
    Calls Tryz.prog 82 #[(.agg #[.int .i64 G.q, .int .i64 G.n, .slice p G.es.length c])] w fun e w' => e = .returned (.int .i64 0) ∧ RowKit.Below w.heap.size w w' := by
  obtain ⟨w1, hw1⟩ : ∃ w1, w1 = w.alloc (.cells #[.int .i64 G.q, .int .i64 G.n, .slice p G.es.length c] 28) := ⟨_, rfl⟩
  have c0 : VRow w1 w.heap.size 28 [.int .i64 G.q, .int .i64 G.n, .slice p G.es.length c] := by subst hw1; exact VRow.new w _ _
  have x1 : RowKit.Below w.heap.size w w1 := by subst hw1; exact (RowKit.Below.refl _ _).alloc (Nat.le_refl _) _
  have HC := hidI (rCheck_r G p c w1 0 (chkG_ok.2 hv) (hin.below x1) (by omega))
  have f0 := c0.at 0 rfl; have f1 := c0.at 1 rfl; have f2 := c0.at 2 rfl
  have hd : decide ((16 : Int) < G.q) = false := decide_eq_false (by omega)
  clear hin hv hq
  go_enter Tryz.func82, Tryz.ntmps82
  go_upto_region 1 with fail
  rw [← hw1]
  clear hw1
  go_wp2_with fail
  refine HC.out.mono ?_
  rintro e w2 ⟨rfl, hB2⟩
  have c2 := c0.below hB2 c0.lt
  clear f0 f1 f2
  have f0 := c2.at 0 rfl
  go_wp2
  go_ret
  exact ⟨rfl, x1.trans (hB2.mono x1.size)⟩
theorem r11checkWord_ok (G : Gr) (p : Option Addr) (c : Nat) (s : ByteArray) (w : World) (hin : Sg 3 w edE p G.es) (hl : G.es.length ≤ 9223372036854775807) (hv : Vg G) (hq : G.q ≤ 16) (hs : s.size ≤ maxLen) (hc : Chg.wchk G.q s.data.toList = 0) :
    Calls Tryz.prog 61 #[(.agg #[.int .i64 G.q, .int .i64 G.n, .slice p G.es.length c]), .string s] w fun e w' => e = .returned (.int .i64 0) ∧ RowKit.Below w.heap.size w w' := by
  obtain ⟨w1, hw1⟩ : ∃ w1, w1 = w.alloc (.cells #[.int .i64 G.q, .int .i64 G.n, .slice p G.es.length c] 28) := ⟨_, rfl⟩
  have c0 : VRow w1 w.heap.size 28 [.int .i64 G.q, .int .i64 G.n, .slice p G.es.length c] := by subst hw1; exact VRow.new w _ _
  have x1 : RowKit.Below w.heap.size w w1 := by subst hw1; exact (RowKit.Below.refl _ _).alloc (Nat.le_refl _) _
  have HC := hidI (r11check_ok G p c w1 (hin.below x1) hl hv hq)
  have HW := hidI (fun W => (Chg.check07_any G.q s W hs))
  rw [hc] at HW
  have f0 := c0.at 0 rfl; have f1 := c0.at 1 rfl; have f2 := c0.at 2 rfl
  clear hin hv hq hc
  go_enter Tryz.func61, Tryz.ntmps61
  go_upto_region 1 with fail
  rw [← hw1]
  clear hw1
  go_wp2_with fail
  refine HC.out.mono ?_
  rintro e w2 ⟨rfl, hB2⟩
  have c2 := c0.below hB2 c0.lt
  clear f0 f1 f2
  have f0 := c2.at 0 rfl
  go_wp2_with fail
  refine (HW.out _).mono ?_
  rintro e w3 ⟨rfl, rfl⟩
  go_wp2
  go_ret
  exact ⟨rfl, x1.trans (hB2.mono x1.size)⟩

set_option maxRecDepth 100000 in
set_option maxHeartbeats 2000000 in
theorem r11Accepts_any (G : Gr) (p : Option Addr) (c : Nat) (s : ByteArray) (w : World) (hin : Sg 3 w edE p G.es) (hv : Vg G) (hq : G.q ≤ 16) (hc : Chg.wchk G.q s.data.toList = 0) (hss : s.size ≤ 65536) :
    Calls Tryz.prog 41 #[(.agg #[.int .i64 G.q, .int .i64 G.n, .slice p G.es.length c]), .string s] w fun e w' => e = .returned (.tuple #[.bool (accA G s), .int .i64 0]) ∧ RowKit.Below w.heap.size w w' := by
  obtain ⟨w1, hw1⟩ : ∃ w1, w1 = w.alloc (.cells #[.int .i64 G.q, .int .i64 G.n, .slice p G.es.length c] 28) := ⟨_, rfl⟩
  have c0 : VRow w1 w.heap.size 28 [.int .i64 G.q, .int .i64 G.n, .slice p G.es.length c] := by subst hw1; exact VRow.new w _ _
  have x1 : RowKit.Below w.heap.size w w1 := by subst hw1; exact (RowKit.Below.refl _ _).alloc (Nat.le_refl _) _
  have hl := hv.len; have hn0 := hv.n1; have hn1 := hv.n2
  have HC := hidI (r11checkWord_ok G p c s w1 (hin.below x1) (by omega) hv hq (by unfold maxLen; omega) hc)
  have HA := hidI (fun W => r11All_any G p c W hn0 (by omega))
  have HE := hidI (fun (q' : Option Addr) (d' : Nat) (W : World) (hW : RowKit.Below w.heap.size w W) (hs : SlT W q' (upto G.n.toNat)) => r11ends_any G p c (upto G.n.toNat) q' d' s W (hin.below hW) hs (by omega) (by rw [upto_len]; omega) hn0 (by omega) (by omega))
  have HX : Hid (accA G s = decide (0 < (endA G (upto G.n.toNat) (ltr s)).length)) := rfl
  have f0 := c0.at 0 rfl; have f1 := c0.at 1 rfl; have f2 := c0.at 2 rfl
  clear hin hv hq hc hl hn0 hn1
  generalize accA G s = r at *
  generalize endA G (upto G.n.toNat) (ltr s) = E at *
  generalize upto G.n.toNat = U at *
  go_enter Tryz.func41, Tryz.ntmps41
  go_upto_region 1 with fail
  rw [← hw1]
  clear hw1
  go_wp2_with fail
  refine HC.out.mono ?_
  rintro e w2 ⟨rfl, hB2⟩
  have c2 := c0.below hB2 c0.lt
  have x2 := x1.trans (hB2.mono x1.size)
  clear f0 f1 f2 x1 c0 HC hB2
  have f0 := c2.at 0 rfl; have f1 := c2.at 1 rfl; have f2 := c2.at 2 rfl
  have hz := c2.lt
  clear c2
  go_wp2_with fail
  go_region_held3 (fun w' => w'.cell? ⟨w.heap.size, 0, none⟩ = some (.int .i64 G.q) ∧ w'.cell? ⟨w.heap.size, 1, none⟩ = some (.int .i64 G.n) ∧ w'.cell? ⟨w.heap.size, 2, none⟩ = some (.slice p G.es.length c) ∧ RowKit.Below w2.heap.size w2 w')
    (first | (go_split_ands; refine ⟨?_, ?_, ?_, ?_⟩ <;> first | assumption | exact below_drewN (RowKit.Below.refl _ _) 1 | exact (hBa.cell (Nat.lt_of_lt_of_le hz (RowKit.Below.size (by assumption)))).trans (by assumption) | exact (hBb.cell (Nat.lt_of_lt_of_le hz (RowKit.Below.size (by assumption)))).trans (by assumption) | exact RowKit.Below.trans (by assumption) (hBa.mono (RowKit.Below.size (by assumption))) | exact RowKit.Below.trans (by assumption) (hBb.mono (RowKit.Below.size (by assumption))) | (go_keep; done)))
    (first
      | (go_at_call 63; go_split_ands; (with_reducible refine (HA.out _).mono ?_); rintro e wA ⟨qa, da, rfl, hsa, hBa⟩)
      | (go_at_call 62; go_split_ands; (with_reducible refine (HE.out qa da _ (x2.trans (RowKit.Below.mono (by assumption) x2.size)) (hsa.keep ?_)).mono ?_); (exact fun _ _ _ h => h); rintro e wB ⟨qb, db, rfl, hsb, hBb⟩))
  have hBx : RowKit.Below w2.heap.size w2 wB := RowKit.Below.trans (by assumption) (hBb.mono (RowKit.Below.size (by assumption)))
  go_wp2
  go_ret2
  exact ⟨by rw [HX.out]; rfl, x2.trans (hBx.mono x2.size)⟩
#print axioms r11Accepts_any

/-! ### The label of one letter -/
set_option maxRecDepth 100000 in
set_option maxHeartbeats 1000000 in
theorem r16raise_one (q : Int) (w : World) (hq : 1 ≤ q) (hq2 : q ≤ 16) : Calls Tryz.prog 111 #[.int .i64 q, .int .i64 1, .int .i64 256] w fun e w' => e = .returned (.int .i64 q) ∧ w' = w := by
  have hw : IntKind.i64.wrap q = q := IntWalk.i64_in _ (by omega)
  have hd : decide ((256 : Int) < q) = false := decide_eq_false (by omega)
  go_enter Tryz.func111, Tryz.ntmps111
  go_wp2
  go_loop [7, 8] (fun ov iv => (ov = .int .i64 1 ∧ iv = .int .i64 0) ∨ (ov = .int .i64 q ∧ iv = .int .i64 1)) (fun _ iv => 1 - (intOf iv).toNat)
  case atStart => exact .inl ⟨rfl, rfl⟩
  case round =>
    rcases hrel with ⟨rfl, rfl⟩ | ⟨rfl, rfl⟩
    · go_wp2
      go_round
      case rel => exact .inr ⟨rfl, rfl⟩
      case measure => simp [intOf]
    · go_wp2
      go_ret
      exact ⟨rfl, rfl⟩
theorem letv_dig (c : Int) (k : Nat) (h : Chg.dig c = (k : Int)) : Chg.letv k = c := by
  unfold Chg.dig at h; unfold Chg.letv
  split at h
  · rw [if_pos (by omega)]; omega
  · split at h
    · rw [if_neg (by omega)]; omega
    · omega

set_option maxRecDepth 100000 in
set_option maxHeartbeats 4000000 in
theorem r16Label_one (q : Int) (s : ByteArray) (w : World) (hq : 2 ≤ q) (hq2 : q ≤ 16) (hs : s.size = 1) (hc : Chg.wchk q s.data.toList = 0) (d : Int) (hd0 : 0 ≤ d) (hd1 : d < q) (hd : Chg.dig ((s[0]'(by omega)).toNat : Int) = d) :
    Calls Tryz.prog 89 #[.int .i64 q, .string s] w fun e w' => e = .returned (.tuple #[.int .i64 d, .int .i64 0]) ∧ Dr w w' := by
  have HC := hidI (Chg.check07_any q s w (by unfold maxLen; omega))
  rw [hc] at HC
  have HR := hidI (r16raise_one q w (by omega) hq2)
  have hds : decide ((16 : Int) < (s.size : Int)) = false := decide_eq_false (by omega)
  have hdq : decide ((256 : Int) < q) = false := decide_eq_false (by omega)
  have hs1 : (s.size : Int) = 1 := by omega
  obtain ⟨c, hcc⟩ : ∃ c, s[0]'(by omega) = c := ⟨_, rfl⟩
  rw [hcc] at hd
  have HD := hidI hd
  clear hc hd
  go_enter Tryz.func89, Tryz.ntmps89
  go_wp2_with fail
  refine HC.out.mono ?_
  rintro e w1 ⟨rfl, h1⟩
  subst h1
  go_wp2_with fail
  refine HR.out.mono ?_
  rintro e w2 ⟨rfl, h2⟩
  replace h2 := h2.symm
  subst h2
  clear HC HR
  go_wp2_with fail
  clear hds
  go_loopw [7, 8] (fun ov iv wr => ((ov = .int .i64 0 ∧ iv = .int .i64 0) ∨ (ov = .int .i64 d ∧ iv = .int .i64 1)) ∧ Dr w wr) (fun _ iv _ => 1 - (intOf iv).toNat)
  case atStart => exact ⟨.inl ⟨rfl, rfl⟩, Dr.refl _⟩
  case round =>
    obtain ⟨⟨rfl, rfl⟩ | ⟨rfl, rfl⟩, hD⟩ := hrel
    · obtain ⟨wo, rfl⟩ : ∃ wo : World, wo = wr := ⟨_, rfl⟩
      go_wp2_with fail
      go_loopw [7, 9] (fun ov kv wr => ∃ (k : Nat), (k : Int) ≤ d ∧ kv = .int .i64 k ∧ ov = .int .i64 0 ∧ Dr w wr) (fun _ kv _ => q.toNat - (intOf kv).toNat)
      case atStart => exact ⟨0, by omega, rfl, rfl, hD⟩
      case round =>
        clear hD
        obtain ⟨k, hk, rfl, rfl, hD⟩ := hrel
        have hlt : (k : Int) < q := by omega
        have hk16 : k < 16 := by omega
        have hL := Chg.letb_get k hk16
        unfold Chg.letb at hL
        have hi0 : (0 : Int) < 1 := by decide
        have hk16I : (k : Int) < 16 := by omega
        have hs0 : 0 < s.size := by omega
        have hg0 : (s[0]'(by omega)).toNat = c.toNat := by rw [hcc]
        by_cases hkd : (k : Int) = d
        · have he : Chg.letv k = (c.toNat : Int) := letv_dig _ _ (by rw [HD.out, hkd])
          have HK : Hid ((k : Int) = d) := hkd
          have hq1 : (((⟨#[48, 49, 50, 51, 52, 53, 54, 55, 56, 57, 97, 98, 99, 100, 101, 102]⟩ : ByteArray)[k]'(show k < 16 from hk16)).toNat : Int) = (c.toNat : Int) := hL.trans he
          have hq2b : ((((⟨#[48, 49, 50, 51, 52, 53, 54, 55, 56, 57, 97, 98, 99, 100, 101, 102]⟩ : ByteArray)[k]'(show k < 16 from hk16)).toNat : Int) == (c.toNat : Int)) = true := by rw [hq1]; simp
          clear hL he hq1 hkd
          go_wp2_with fail
          (refine wp_region_quiet_lit (by kernel_rfl) (by kernel_rfl) ?_; (repeat (first | go_big_quiet_step (fail) | quiet_step (fail))); refine wpQuiet_nil ?_; intro _ hwq; obtain ⟨nq, hwq2⟩ := hwq; subst hwq2)
          go_wp2_with fail
          go_roundw
          case rel => exact ⟨.inr ⟨by rw [HK.out], rfl⟩, hD.one _⟩
          case measure => simp [intOf]
        · have he : Chg.letv k ≠ (c.toNat : Int) := fun e => hkd (by rw [← HD.out, ← e, Chg.dig_letv k hk16])
          have hq2b : ((((⟨#[48, 49, 50, 51, 52, 53, 54, 55, 56, 57, 97, 98, 99, 100, 101, 102]⟩ : ByteArray)[k]'(show k < 16 from hk16)).toNat : Int) == (c.toNat : Int)) = false := by rw [hL]; simpa using he
          clear hL he
          go_wp2_with fail
          (refine wp_region_quiet_lit (by kernel_rfl) (by kernel_rfl) ?_; (repeat (first | go_big_quiet_step (fail) | quiet_step (fail))); refine wpQuiet_nil ?_; intro _ hwq; obtain ⟨nq, hwq2⟩ := hwq; subst hwq2)
          go_wp2_with fail
          go_roundw
          case rel => exact ⟨k + 1, by omega, by go_num, rfl, hD.one _⟩
          case measure => simp [intOf]; omega
    · go_wp2
      go_ret2
      exact ⟨rfl, hD⟩
end Go.Proofs.YtjponanfpdmeoaaGreatDoor
namespace Go.Proofs.YtjponanfpdmeoaaGreatDoor
open Go.RowKit Go.Sort Go.Shelf Go.Lib

theorem one_size (s : ByteArray) (k : Nat) (h : k < s.size) : (s.extract k (k + 1)).size = 1 := by simp; omega
theorem one_get (s : ByteArray) (k : Nat) (h : k < s.size) : (s.extract k (k + 1))[0]'(by rw [one_size s k h]; omega) = s[k] := by
  rw [ByteArray.getElem_extract]; rfl
theorem one_chk {q : Int} (hq : 2 ≤ q) (hq2 : q ≤ 16) (s : ByteArray) (k : Nat) (h : k < s.size) (hw : Chg.okw q s.data.toList = true) : Chg.wchk q (s.extract k (k + 1)).data.toList = 0 := by
  refine Chg.wchk_ok _ _ (by omega) (by omega) (by rw [toL_len, one_size s k h]; omega) ?_
  unfold Chg.okw at hw ⊢
  rw [toL_ext, List.all_eq_true]
  intro c hc
  exact List.all_eq_true.1 hw c (List.mem_of_mem_take (List.mem_of_mem_drop hc))

set_option maxRecDepth 100000 in
set_option maxHeartbeats 4000000 in
theorem rlkStep_any (G : Gr) (p : Option Addr) (c : Nat) (st : List Int) (q : Option Addr) (d : Nat) (s : ByteArray) (w : World) (hin : Sg 3 w edE p G.es) (hst : SlT w q st) (hv : Vg G) (hS : St G.n st) (hq : 2 ≤ G.q) (hq2 : G.q ≤ 16) (hw : Chg.okw G.q s.data.toList = true) (hs : s.size ≤ 65536) :
    Calls Tryz.prog 71 #[(.agg #[.int .i64 G.q, .int .i64 G.n, .slice p G.es.length c]), .slice q st.length d, .string s] w (LsT (endA G st (ltr s)) w) := by
  obtain ⟨w0, hw0⟩ : ∃ w0, w0 = w.alloc (.cells #[.int .i64 G.q, .int .i64 G.n, .slice p G.es.length c] 28) := ⟨_, rfl⟩
  have b0 : VRow w0 w.heap.size 28 [.int .i64 G.q, .int .i64 G.n, .slice p G.es.length c] := by subst hw0; exact VRow.new w _ _
  have hB0 : RowKit.Below w.heap.size w w0 := by subst hw0; exact (RowKit.Below.refl _ _).alloc (Nat.le_refl _) _
  have hE0 : endA G st ((ltr s).take 0) = st := rfl
  have HIN := hidI hin; have HV := hidI hv; have HS := hidI hS; have HW := hidI hw; have HST := hidI (hst.below hB0)
  have HB0 := hidI hB0; have B0 := hidI b0
  have HST1 : Hid (∀ (st : List Int) (b : Int), St G.n st → 0 ≤ b → b < G.q → stepA G st b = (nextA G st b, 0)) := fun st b h1 h2 h3 => by
    unfold stepA; rw [if_pos (chkG_ok.2 HV.out), if_pos h1.chk, if_neg (by omega)]
  have hn1 := hv.n1; have hn2 := hv.n2; have hln := hv.len
  clear hin hst hv hS hw hB0 b0
  go_enter Tryz.func71, Tryz.ntmps71
  go_upto_region 1 with fail
  rw [← hw0]
  clear hw0
  go_wp2_with fail
  go_loopw [1, 7] (fun sv iv wr => ∃ (k : Nat) (qk : Option Addr) (dk : Nat), k ≤ s.size ∧ sv = .slice qk (endA G st ((ltr s).take k)).length dk ∧ iv = .int .i64 k ∧ SlT wr qk (endA G st ((ltr s).take k)) ∧ RowKit.Below w0.heap.size w0 wr) (fun _ iv _ => s.size - (intOf iv).toNat)
  case atStart => exact ⟨0, q, d, by omega, by rw [hE0], rfl, by rw [hE0]; exact HST.out, RowKit.Below.refl _ _⟩
  case round =>
    obtain ⟨k, qk, dk, hk, rfl, rfl, hsl, hB⟩ := hrel
    have HSK := hidI (endA_st G st HS.out ((ltr s).take k))
    have xr := HB0.out.trans (hB.mono HB0.out.size)
    by_cases hlt : k < s.size
    · have HN : Hid (endA G st ((ltr s).take (k + 1)) = nextA G (endA G st ((ltr s).take k)) (Chg.dig (s[k].toNat : Int))) := by rw [Hid, ltr_take s k hlt, endA_snoc]
      generalize endA G st ((ltr s).take k) = L at *
      have hltN : (k : Int) < (s.size : Int) := by omega
      have hltN2 : (k : Int) + 1 ≤ (s.size : Int) := by omega
      have hk1 : (k : Int) ≤ (k : Int) + 1 := by omega
      have hk2 : (0 : Int) ≤ (k : Int) + 1 := by omega
      have hk3 : ((k : Int) + 1).toNat = k + 1 := by omega
      have hk4 : IntKind.i64.wrap ((k : Int) + 1) = (k : Int) + 1 := IntWalk.i64_in _ (by omega)
      have hd := okw_at HW.out k hlt
      have hlen := HSK.out.len hn1
      have HL := hidI (fun n : Nat => quiet_Dr (n := n) (r16Label_one G.q (s.extract k (k + 1)) (wr.drewN n) hq hq2 (one_size s k hlt) (one_chk hq hq2 s k hlt HW.out) _ hd.1 hd.2 (by rw [one_get s k hlt])))
      have HC := hidI (fun W (hW : RowKit.Below wr.heap.size wr W) => rStep_any G p c L qk dk (Chg.dig (s[k].toNat : Int)) W (HIN.out.below (xr.trans (hW.mono xr.size))) (hsl.1.below hW) (by omega) (by omega))
      rw [HST1.out L _ HSK.out hd.1 hd.2] at HC
      generalize Chg.dig (s[k].toNat : Int) = b at *
      have r0 := B0.out.below hB B0.out.lt
      have f0 := r0.at 0 rfl; have f1 := r0.at 1 rfl; have f2 := r0.at 2 rfl
      have hz := r0.lt
      have HXR := hidI xr
      clear r0 xr hsl
      go_wp2_with fail
      (refine wp_region_quiet_lit (by kernel_rfl) (by kernel_rfl) ?_; (repeat (first | go_big_quiet_step ((go_at_call 89; with_reducible exact HL.out _)) | quiet_step ((go_at_call 89; with_reducible exact HL.out _)))); refine wpQuiet_nil ?_; intro _ hwq; obtain ⟨nq, hwq2⟩ := hwq; subst hwq2)
      have g0 : (wr.drewN nq).cell? ⟨w.heap.size, 0, none⟩ = some (.int .i64 G.q) := f0
      have g1 : (wr.drewN nq).cell? ⟨w.heap.size, 1, none⟩ = some (.int .i64 G.n) := f1
      have g2 : (wr.drewN nq).cell? ⟨w.heap.size, 2, none⟩ = some (.slice p G.es.length c) := f2
      have hBW2 : RowKit.Below wr.heap.size wr (wr.drewN nq) := below_drewN (RowKit.Below.refl _ _) nq
      clear f0 f1 f2 hk4 HL
      generalize wr.drewN nq = w2 at *
      go_wp2_with fail
      refine (HC.out w2 hBW2).mono ?_
      rintro e w3 ⟨p3, m3, c3, rfl, hown, hB3⟩
      obtain ⟨q9, c9, he9, hs9⟩ := own_slT hown
      simp only [Value.slice.injEq] at he9
      obtain ⟨rfl, rfl, rfl⟩ := he9
      have hBw3 := hB.trans ((hBW2.trans (hB3.mono hBW2.size)).mono hB.size)
      clear g0 g1 g2 HC hB3 hBW2
      go_wp2_with fail
      go_roundw
      case rel => exact ⟨k + 1, _, _, by omega, by rw [HN.out], by go_num, by rw [HN.out]; exact hs9, hBw3⟩
      case measure => simp [intOf]; omega
    · obtain rfl : k = s.size := by omega
      have hltI : ¬ (s.size : Int) < (s.size : Int) := by omega
      have HE : Hid (endA G st (ltr s) = endA G st ((ltr s).take s.size)) := by rw [Hid, ltr_all]
      generalize endA G st ((ltr s).take s.size) = L at *
      go_wp2
      go_ret
      exact ⟨qk, dk, by rw [HE.out]; rfl, by rw [HE.out]; exact hsl, xr⟩

/-! ### Rows of pairs -/
/-- A row of pairs of the call's own. -/
def PR (w : World) (B : Nat) (v : Value) (q : List Pl) : Prop := ∃ es : List QE, es.map (·.1) = q ∧ w.ownsRow B 88 2 v q.length (catQ es) ∧ ∀ e ∈ es, SlT w e.2.1 e.1.2
theorem PR.below {w w' : World} {B : Nat} {v : Value} {q : List Pl} (h : PR w B v q) (hB : RowKit.Below w.heap.size w w') : PR w' B v q := by
  obtain ⟨es, h1, h2, h3⟩ := h
  exact ⟨es, h1, h2.below hB, fun e he => (h3 e he).below hB⟩
theorem PR.lt {w : World} {B : Nat} {v : Value} {q : List Pl} (h : PR w B v q) : ∀ j, v.ownBlock = some j → B ≤ j ∧ j < w.heap.size := by
  obtain ⟨es, h1, h2, h3⟩ := h; exact h2.lt
theorem PR.val {w : World} {B : Nat} {v : Value} {q : List Pl} (h : PR w B v q) : ∃ p c, v = .slice p q.length c := by
  obtain ⟨es, h1, h2, h3⟩ := h
  rcases h2.2 with ⟨e0, h0⟩ | ⟨g', cap', cur, e0, hg, hh, hc, hm, hs, ht⟩
  · exact ⟨none, 0, by rw [e0, h0]⟩
  · exact ⟨_, _, e0⟩
theorem PR.get {w : World} {B : Nat} {v : Value} {q : List Pl} (h : PR w B v q) (i : Nat) (hi : i < q.length) :
    ∃ g cap pp d, v = .slice (some ⟨g, 0, none⟩) q.length cap ∧ w.cell? ⟨g, i * 2, none⟩ = some (.int .i64 q[i].1) ∧ w.cell? ⟨g, i * 2 + 1, none⟩ = some (.slice pp q[i].2.length d) ∧ SlT w pp q[i].2 := by
  obtain ⟨es, h1, h2, h3⟩ := h
  have hl : es.length = q.length := by rw [← h1, List.length_map]
  have hi' : i < es.length := by omega
  have he : es[i].1 = q[i] := by subst h1; rw [List.getElem_map]
  obtain ⟨g, cap, rfl⟩ := ownQ_shape h2 (by omega)
  have c0 := ownQ_cell h2 i hi' 0 (by omega)
  have c1 := ownQ_cell h2 i hi' 1 (by omega)
  have hs := h3 es[i] (List.getElem_mem hi')
  rw [he] at hs
  refine ⟨g, cap, es[i].2.1, es[i].2.2, rfl, ?_, ?_, hs⟩
  · rw [← he]; exact c0
  · rw [← he]; exact c1
theorem PR.one {w : World} {B : Nat} {v : Value} {q : List Pl} (h : PR w B v q) (hn : q.length = 0) : q = [] := List.length_eq_zero_iff.1 hn

set_option maxRecDepth 100000 in
set_option maxHeartbeats 2000000 in
theorem rlkFound_any (l : List Pl) (B : Nat) (v : Value) (x : Pl) (q : Option Addr) (d : Nat) (w : World) (h : PR w B v l) (hx : SlT w q x.2) (hl : l.length ≤ 100000) (hs : ∀ y ∈ l, y.2.length ≤ 100000) (hxl : x.2.length ≤ 100000) :
    Calls Tryz.prog 49 #[v, .agg #[.int .i64 x.1, .slice q x.2.length d]] w fun e w' => e = .returned (.bool (decide (x ∈ l))) ∧ RowKit.Below w.heap.size w w' := by
  obtain ⟨p0, c0, rfl⟩ := h.val
  obtain ⟨w0, hw0⟩ : ∃ w0, w0 = w.alloc (.cells #[.int .i64 x.1, .slice q x.2.length d] 88) := ⟨_, rfl⟩
  have b0 : VRow w0 w.heap.size 88 [.int .i64 x.1, .slice q x.2.length d] := by subst hw0; exact VRow.new w _ _
  have hB0 : RowKit.Below w.heap.size w w0 := by subst hw0; exact (RowKit.Below.refl _ _).alloc (Nat.le_refl _) _
  have HP := hidI (h.below hB0); have HX := hidI (hx.below hB0)
  have HS := hidI hs
  clear h hx hs
  go_enter Tryz.func49, Tryz.ntmps49
  go_upto_region 1 with fail
  rw [← hw0]
  clear hw0
  go_wp2_with fail
  go_loopw [5] (fun iv wr => ∃ k : Nat, k ≤ l.length ∧ iv = .int .i64 k ∧ Hid (∀ j (hj : j < l.length), j < k → l[j] ≠ x) ∧ Dr w0 wr) (fun iv _ => l.length - (intOf iv).toNat)
  case atStart => exact ⟨0, by omega, rfl, fun j _ h => absurd h (by omega), Dr.refl _⟩
  case round =>
    obtain ⟨k, hk, rfl, hj, hD⟩ := hrel
    by_cases hlt : k < l.length
    · have hltI : (k : Int) < (l.length : Int) := by omega
      obtain ⟨g, cap, pp, d', he, e0, e1, hs1⟩ := (HP.out.below (hD.below _)).get k hlt
      simp only [Value.slice.injEq] at he
      obtain ⟨rfl, _, rfl⟩ := he
      have hbx := b0.dr hD
      have g0 := hbx.at 0 rfl; have g1 := hbx.at 1 rfl
      have hyl := HS.out _ (List.getElem_mem hlt)
      have HJ : Hid (l[k] ≠ x → ∀ j (hj : j < l.length), j < k + 1 → l[j] ≠ x) := fun he j h1 h2 => by
        rcases Nat.lt_succ_iff_lt_or_eq.1 h2 with h3 | h3
        · exact hj.out j h1 h3
        · subst h3; exact he
      have HH : Hid (l[k] = x → decide (x ∈ l) = true) := fun he => decide_eq_true (he ▸ List.getElem_mem hlt)
      have HC := hidI (fun n : Nat => quiet_Dr (n := n) (r12Same_any l[k].2 x.2 pp q d' d (wr.drewN n) hs1.1 ((HX.out.below (hD.below _)).1) (by omega) (by omega)))
      clear hs1 hbx
      generalize l[k] = y at *
      obtain ⟨y1, y2⟩ := y
      obtain ⟨x1, x2⟩ := x
      by_cases h1 : y1 = x1
      · subst h1
        have d1 : (y1 == y1) = true := by simp
        by_cases h2 : y2 = x2
        · have HC : Hid (∀ n : Nat, Calls Tryz.prog 30 #[.slice pp y2.length d', .slice q x2.length d] (wr.drewN n) fun e w'' => e = .returned (.bool true) ∧ ∃ m, w'' = wr.drewN m) := by
            have := HC.out; simp only [decide_eq_true h2] at this; exact this
          have HXX := hidI (HH.out (by rw [h2]))
          clear HJ HH h2
          go_wp2_with fail
          (refine wp_region_quiet_lit (by kernel_rfl) (by kernel_rfl) ?_; (repeat (first | go_big_quiet_step ((go_at_call 30; with_reducible exact HC.out _)) | quiet_step ((go_at_call 30; with_reducible exact HC.out _)))); refine wpQuiet_nil ?_; intro _ hwq; obtain ⟨nq, hwq2⟩ := hwq; subst hwq2)
          go_wp2_with fail
          go_ret
          exact ⟨ret_bool HXX.out.symm, below_drewN (hB0.trans (hD.below _)) nq⟩
        · have HC : Hid (∀ n : Nat, Calls Tryz.prog 30 #[.slice pp y2.length d', .slice q x2.length d] (wr.drewN n) fun e w'' => e = .returned (.bool false) ∧ ∃ m, w'' = wr.drewN m) := by
            have := HC.out; simp only [decide_eq_false h2] at this; exact this
          have HJJ := hidI (HJ.out (fun e => h2 (by cases e; rfl)))
          clear HJ HH h2
          go_wp2_with fail
          (refine wp_region_quiet_lit (by kernel_rfl) (by kernel_rfl) ?_; (repeat (first | go_big_quiet_step ((go_at_call 30; with_reducible exact HC.out _)) | quiet_step ((go_at_call 30; with_reducible exact HC.out _)))); refine wpQuiet_nil ?_; intro _ hwq; obtain ⟨nq, hwq2⟩ := hwq; subst hwq2)
          go_wp2_with fail
          go_roundw
          case rel => exact ⟨k + 1, by omega, by go_num, HJJ, hD.one _⟩
          case measure => simp [intOf]; omega
      · have d1 : (y1 == x1) = false := by simpa using h1
        have HJJ := hidI (HJ.out (fun e => h1 (by cases e; rfl)))
        clear HJ HH HC h1
        go_wp2_with fail
        (refine wp_region_quiet_lit (by kernel_rfl) (by kernel_rfl) ?_; (repeat (first | go_big_quiet_step (fail) | quiet_step (fail))); refine wpQuiet_nil ?_; intro _ hwq; obtain ⟨nq, hwq2⟩ := hwq; subst hwq2)
        go_wp2_with fail
        go_roundw
        case rel => exact ⟨k + 1, by omega, by go_num, HJJ, hD.one _⟩
        case measure => simp [intOf]; omega
    · have HXX : Hid (decide (x ∈ l) = false) := decide_eq_false (fun hm => by
        obtain ⟨j, hj', e⟩ := List.getElem_of_mem hm
        exact hj.out j hj' (by omega) e)
      have hltI : ¬ (k : Int) < (l.length : Int) := by omega
      go_wp2_with fail
      go_ret
      exact ⟨ret_bool HXX.out.symm, hB0.trans (hD.below _)⟩

set_option maxRecDepth 100000 in
set_option maxHeartbeats 1000000 in
theorem rlkFits_any (T : Tb) (p1 p2 : Option Addr) (c1 c2 : Nat) (G : Gr) (p : Option Addr) (c : Nat) (w : World) (hT : TbIn w T p1 p2 c1 c2) (hG : Sg 3 w edE p G.es) (hl : G.es.length ≤ 9223372036854775807) :
    Calls Tryz.prog 20 #[.agg #[.int .i64 T.q, .int .i64 T.n, .slice p1 T.base.length c1, .slice p2 T.swaps.length c2], (.agg #[.int .i64 G.q, .int .i64 G.n, .slice p G.es.length c])] w fun e w' => e = .returned (.int .i64 (fitA T G)) ∧ RowKit.Below w.heap.size w w' := by
  obtain ⟨w0, hw0⟩ : ∃ w0, w0 = (w.alloc (.cells #[.int .i64 T.q, .int .i64 T.n, .slice p1 T.base.length c1, .slice p2 T.swaps.length c2] 25)).alloc (.cells #[.int .i64 G.q, .int .i64 G.n, .slice p G.es.length c] 28) := ⟨_, rfl⟩
  have b0 : VRow w0 w.heap.size 25 [.int .i64 T.q, .int .i64 T.n, .slice p1 T.base.length c1, .slice p2 T.swaps.length c2] := by subst hw0; exact (VRow.new w _ _).alloc _
  have d0 : VRow w0 (w.heap.size + 1) 28 [.int .i64 G.q, .int .i64 G.n, .slice p G.es.length c] := by subst hw0; exact VRow.new1 w _ _ _
  have hB0 : RowKit.Below w.heap.size w w0 := by subst hw0; exact ((RowKit.Below.refl _ _).alloc (Nat.le_refl _) _).alloc (by simp) _
  have HF := hidI (rlkFormed_any T p1 p2 c1 c2 w0 (hT.below hB0))
  have HC := hidI (fun (r : Int) (hr : chkG G = r) (W : World) (hW : RowKit.Below w.heap.size w W) => rCheck_r G p c W r hr (hG.below hW) hl)
  have a0 := b0.at 0 rfl; have a1 := b0.at 1 rfl; have a2 := b0.at 2 rfl; have a3 := b0.at 3 rfl
  have HX : Hid (∀ f k, fmd T = f → chkG G = k → fitA T G = if f = false ∨ k ≠ 0 then 1 else if G.q ≠ T.q then 11 else 0) := fun f k h1 h2 => by unfold fitA; rw [h1, h2]
  clear hT hG
  generalize fitA T G = r at *
  go_enter Tryz.func20, Tryz.ntmps20
  go_upto_region 1 with fail
  rw [← hw0]
  clear hw0
  go_wp2_with fail
  refine HF.out.mono ?_
  rintro e w1 ⟨rfl, hB1⟩
  have x1 := hB0.trans (hB1.mono hB0.size)
  have g1 := d0.below hB1 d0.lt
  have t1 := b0.below hB1 b0.lt
  clear a0 a1 a2 a3 hB1 HF hB0 b0 d0
  cases hf : fmd T
  · have HR : Hid (r = 1) := HX.out _ _ hf rfl
    clear hf
    go_wp2_with fail
    go_ret
    exact ⟨ret_int HR.out.symm, x1⟩
  · have e0 := g1.at 0 rfl; have e1 := g1.at 1 rfl; have e2 := g1.at 2 rfl
    obtain ⟨k, hk⟩ : ∃ k, chkG G = k := ⟨_, rfl⟩
    have HXX := hidI (HX.out _ _ hf hk)
    have HCC := hidI (HC.out k hk w1 x1)
    clear hf hk HX HC
    go_wp2_with fail
    refine HCC.out.mono ?_
    rintro e w2 ⟨rfl, hB2⟩
    have x2 := x1.trans (hB2.mono x1.size)
    have t2 := t1.below hB2 t1.lt
    have g2 := g1.below hB2 g1.lt
    clear e0 e1 e2 x1 hB2 HCC t1 g1
    by_cases hk : k = 0
    · have hkb : (k != 0) = false := by rw [hk]; rfl
      have a0 := t2.at 0 rfl; have e0 := g2.at 0 rfl
      by_cases hq : T.q = G.q
      · have HR : Hid (r = 0) := by rw [Hid, HXX.out, if_neg (by simp [hk]), if_neg (by rw [hq]; simp)]
        have hqb : (T.q != G.q) = false := by rw [hq]; simp
        clear hk hq HXX
        go_wp2_with fail
        go_ret
        exact ⟨ret_int HR.out.symm, x2⟩
      · have HR : Hid (r = 11) := by rw [Hid, HXX.out, if_neg (by simp [hk]), if_pos (fun e => hq e.symm)]
        have hqb : (T.q != G.q) = true := by simpa using hq
        clear hk hq HXX
        go_wp2_with fail
        go_ret
        exact ⟨ret_int HR.out.symm, x2⟩
    · have hkb : (k != 0) = true := by simpa using hk
      have HR : Hid (r = 1) := by rw [Hid, HXX.out, if_pos (.inr hk)]
      clear hk HXX
      go_wp2_with fail
      go_ret
      exact ⟨ret_int HR.out.symm, x2⟩
end Go.Proofs.YtjponanfpdmeoaaGreatDoor
namespace Go.Proofs.YtjponanfpdmeoaaGreatDoor
open Go.RowKit

theorem chk_split {T : Tb} {G : Gr} (h : chkL T G = 0) : fmd T = true ∧ Vg G ∧ G.q = T.q := by
  refine fit_zero ?_
  rw [chkL_fit] at h
  by_cases e : fitA T G = 0
  · exact e
  · rw [if_pos e] at h; exact h
theorem okw_app {q : Int} {a b : List UInt8} (h1 : Chg.okw q a = true) (h2 : Chg.okw q b = true) : Chg.okw q (a ++ b) = true := by
  unfold Chg.okw at *; rw [List.all_append, h1, h2]; rfl
theorem baseW_okw {T : Tb} (hf : fmd T = true) {x : Int} (h0 : 0 ≤ x) (h1 : x < T.base.length) : Chg.okw T.q (baseW T x).data.toList = true := (base_okw hf x.toNat (by omega)).1
theorem encW_okw {T : Tb} (hf : fmd T = true) : ∀ (m : Nat) (l : List Int), l.length ≤ m → l.any (outB T.base.length) = false → Chg.okw T.q (encW T l).data.toList = true
  | _, [], _, _ => by rw [encW_nil]; rfl
  | _, [x], _, ho => by
    have hx := outB_f (any_f ho 0 (by simp))
    simp only [List.getElem_cons_zero] at hx
    rw [encW_one]; exact baseW_okw hf hx.1 hx.2
  | 0, x :: y :: r, hn, _ => by simp at hn
  | m + 1, x :: y :: r, hn, ho => by
    have hx := outB_f (any_f ho 0 (by simp))
    simp only [List.getElem_cons_zero] at hx
    have ho1 : (y :: r).any (outB T.base.length) = false := by rw [List.any_cons] at ho; simp at ho ⊢; exact ho.2
    have ho2 : r.any (outB T.base.length) = false := by rw [List.any_cons] at ho1; simp at ho1 ⊢; exact ho1.2
    cases hs : swapW T.swaps x y with
    | none =>
      rw [encW_base hs, toL_app]
      exact okw_app (baseW_okw hf hx.1 hx.2) (encW_okw hf m (y :: r) (by simp at hn ⊢; omega) ho1)
    | some w =>
      obtain ⟨k, hk, _, _, h3⟩ := swapW_mem hs
      rw [encW_swap hs, toL_app]
      exact okw_app (by rw [← h3]; exact (swap_okw hf k hk).1) (encW_okw hf m r (by simp at hn ⊢; omega) ho2)
/-- All that the law asks of what is written for inputs. -/
structure InvL (T : Tb) (G : Gr) (l : List Int) (W : ByteArray) : Prop where
  enc : encA T l = (W, 0)
  dec : decA T W = (l, 0)
  acc : accA G W = true
  size : (W.size : Int) = l.length * T.n
  chk : Chg.wchk G.q W.data.toList = 0
  len : W.size ≤ 65536
theorem inv_all {T : Tb} {G : Gr} (h : chkL T G = 0) {l : List Int} (ho : l.any (outB T.base.length) = false) (hl : l.length ≤ 10) : InvL T G l (encW T l) := by
  obtain ⟨hf, hv, hq⟩ := chk_split h
  obtain ⟨h1, h2⟩ := inv_law h ho
  have hN := pre_all (fmd_split hf).1
  have hz := encW_size hf l ho
  have hb : l.length * T.n.toNat ≤ 10 * 8 := Nat.mul_le_mul hl (by omega)
  have hok := encW_okw hf l.length l (Nat.le_refl _) ho
  have hck : Chg.wchk T.q (encW T l).data.toList = 0 := Chg.wchk_ok _ _ (by omega) (by omega) (by rw [toL_len]; omega) hok
  refine ⟨encA_ok hf ho, decA_ok hf hck (by rw [hz]; exact Nat.mul_mod_left _ _) h1, h2, ?_, by rw [hq]; exact hck, by omega⟩
  rw [hz, Int.natCast_mul]
  congr 1
  omega
end Go.Proofs.YtjponanfpdmeoaaGreatDoor
