/-
  Words, plain lemmas and walks, merged: Ib, Ij, Ho, Hl, Hn, Ik, ShelfR, Hr, Il, Hk, Hs, Mk.
-/
import Derived.Test.YtocbhlohcikapaaGreatDoorZqj
import Derived.Test.YtocbhlohcikapaaGreatDoorZqf
import Derived.Test.YtocbhlohcikapaaGreatDoorZqk
import Derived.Test.YtocbhlohcikapaaGreatDoorZqc
import Derived.Test.YtocbhlohcikapaaGreatDoorZqb
import Derived.Ground.SlgqProg
import Derived.Ground.SlgfProg
import Derived.Shelf.SlicesQ.IndexFunc
import Derived.Shelf.SlicesQ.Contains
import Derived.Test.YtocbhlohcikapaaGreatDoorProg
import Derived.Test.YtocbhlohcikapaaGreatDoorZqa
import Derived.Test.YtocbhlohcikapaaGreatDoorZqe
import Derived.Sort.OwnSortedInts
import Derived.Lib.SlicesCompact
import Derived.RangeFuncLeaves
set_option linter.unusedVariables false
set_option linter.unusedSimpArgs false
namespace Go.Proofs.YtocbhlohcikapaaGreatDoor
open Go.RowKit

def fwB (G : Gr) (s t : Nat) : Bool := (rchA G s).getD t false
/-- The states that reach a state, and are reached from it. -/
def cmpA (G : Gr) (s : Nat) : List Int := (upto G.n.toNat).filter (fun t => fwB G s t.toNat && fwB G t.toNat s)
/-- A state is the least of its component. -/
def ledA (G : Gr) (s : Nat) : Bool := decide ((cmpA G s).head? = some (s : Int))
def compsA (G : Gr) : List (List Int) := ((List.range G.n.toNat).filter (ledA G)).map (cmpA G)
/-- No edge leaves a set. -/
def sinkB (G : Gr) (l : List Int) : Bool := !G.es.any (fun x => decide (x.f ∈ l) && !decide (x.t ∈ l))
def sinksA (G : Gr) : List (List Int) := (compsA G).filter (sinkB G)
/-- An edge is in a set. -/
def cycB (G : Gr) (l : List Int) : Bool := G.es.any (fun x => decide (x.f ∈ l) && decide (x.t ∈ l))
def irrA (G : Gr) : Bool := decide ((compsA G).length = 1) && decide (0 < G.es.length)
def irrR (G : Gr) : Bool := decide ((compsA G).length = 1) && decide (((compsA G).filter (cycB G)).length = 1)

section
variable {G : Gr}
theorem fw_iff (hv : Vg G) {s t : Nat} (hs : (s : Int) < G.n) : fwB G s t = true ↔ Rch G.es s t := rchA_iff hv hs
theorem mem_cmp (hv : Vg G) {s : Nat} (hs : (s : Int) < G.n) {x : Int} : x ∈ cmpA G s ↔ (0 ≤ x ∧ x < G.n) ∧ Rch G.es s x ∧ Rch G.es x s := by
  have hn := hv.n1
  unfold cmpA
  rw [List.mem_filter, mem_upto]
  constructor
  · rintro ⟨h1, h2⟩
    rw [Bool.and_eq_true] at h2
    have e : ((x.toNat : Nat) : Int) = x := by omega
    have k1 := (fw_iff hv hs).1 h2.1
    have k2 := (fw_iff hv (by omega)).1 h2.2
    rw [e] at k1 k2
    exact ⟨by omega, k1, k2⟩
  · rintro ⟨h1, h2, h3⟩
    have e : ((x.toNat : Nat) : Int) = x := by omega
    refine ⟨by omega, ?_⟩
    rw [Bool.and_eq_true]
    exact ⟨(fw_iff hv hs).2 (by rw [e]; exact h2), (fw_iff hv (by omega)).2 (by rw [e]; exact h3)⟩
theorem cmp_self (hv : Vg G) {s : Nat} (hs : (s : Int) < G.n) : (s : Int) ∈ cmpA G s := (mem_cmp hv hs).2 ⟨by omega, Rch.refl _, Rch.refl _⟩
theorem cmp_srt (s : Nat) : (cmpA G s).Pairwise (· < ·) := (upto_srt _).filter _
theorem cmp_st (hv : Vg G) {s : Nat} (hs : (s : Int) < G.n) : St G.n (cmpA G s) := ⟨cmp_srt s, fun _ hx => ((mem_cmp hv hs).1 hx).1⟩
theorem led_all (hv : Vg G) {s : Nat} (hs : (s : Int) < G.n) : ledA G s = (cmpA G s).all (fun t => decide ((s : Int) ≤ t)) := by
  have h1 := cmp_self hv hs
  have h2 := cmp_srt (G := G) s
  unfold ledA
  generalize cmpA G s = l at *
  cases l with
  | nil => cases h1
  | cons y l =>
    rw [List.pairwise_cons] at h2
    rw [Bool.eq_iff_iff, decide_eq_true_eq, List.all_eq_true, List.head?_cons]
    constructor
    · intro h x hx
      obtain rfl := Option.some.inj h
      rw [decide_eq_true_eq]
      rcases List.mem_cons.1 hx with rfl | hx
      · omega
      · have := h2.1 x hx; omega
    · intro h
      have hy := h y (by simp)
      rw [decide_eq_true_eq] at hy
      rcases List.mem_cons.1 h1 with e | e
      · rw [e]
      · have := h2.1 _ e; omega
/-- Two states that reach each other are of one component. -/
theorem cmp_eq (hv : Vg G) {s t : Nat} (hs : (s : Int) < G.n) (ht : (t : Int) < G.n) (h : (t : Int) ∈ cmpA G s) : cmpA G t = cmpA G s := by
  have h0 := (mem_cmp hv hs).1 h
  refine srt_unique (cmp_srt t) (cmp_srt (G := G) s) (fun x => ?_)
  rw [mem_cmp hv ht, mem_cmp hv hs]
  constructor
  · rintro ⟨a, b, c⟩; exact ⟨a, h0.2.1.trans b, c.trans h0.2.2⟩
  · rintro ⟨a, b, c⟩; exact ⟨a, h0.2.2.trans b, c.trans h0.2.1⟩
/-- Each state is of a component that is listed. -/
theorem cmp_listed (hv : Vg G) {s : Nat} (hs : (s : Int) < G.n) : cmpA G s ∈ compsA G := by
  have h1 := cmp_self hv hs
  obtain ⟨y, l, hl⟩ : ∃ y l, cmpA G s = y :: l := by
    cases h : cmpA G s with
    | nil => rw [h] at h1; cases h1
    | cons y l => exact ⟨y, l, rfl⟩
  have hy : y ∈ cmpA G s := by rw [hl]; simp
  have hb := ((mem_cmp hv hs).1 hy).1
  have e : ((y.toNat : Nat) : Int) = y := by omega
  have he := cmp_eq hv hs (t := y.toNat) (by omega) (by rw [e]; exact hy)
  unfold compsA
  refine List.mem_map.2 ⟨y.toNat, List.mem_filter.2 ⟨List.mem_range.2 (by omega), ?_⟩, he⟩
  unfold ledA
  rw [he, hl, e]; simp
theorem comps_mem (hv : Vg G) {l : List Int} (h : l ∈ compsA G) : ∃ s : Nat, (s : Int) < G.n ∧ cmpA G s = l ∧ ledA G s = true := by
  unfold compsA at h
  obtain ⟨s, hs, rfl⟩ := List.mem_map.1 h
  obtain ⟨h1, h2⟩ := List.mem_filter.1 hs
  exact ⟨s, by have := List.mem_range.1 h1; have := hv.n1; omega, rfl, h2⟩
/-- One component alone is all states. -/
theorem comps_one (hv : Vg G) (h : (compsA G).length = 1) : ∃ l, compsA G = [l] ∧ ∀ x : Int, 0 ≤ x → x < G.n → x ∈ l := by
  obtain ⟨l, hl⟩ := List.length_eq_one_iff.1 h
  refine ⟨l, hl, fun x h0 h1 => ?_⟩
  have e : ((x.toNat : Nat) : Int) = x := by omega
  have := cmp_listed hv (s := x.toNat) (by omega)
  rw [hl, List.mem_singleton] at this
  rw [← this]
  have := cmp_self hv (s := x.toNat) (by omega)
  rwa [e] at this
theorem irr_same (hv : Vg G) : irrR G = irrA G := by
  unfold irrR irrA
  by_cases h : (compsA G).length = 1
  · rw [decide_eq_true h, Bool.true_and, Bool.true_and]
    obtain ⟨l, hl, hall⟩ := comps_one hv h
    rw [decide_eq_decide, hl]
    by_cases he : 0 < G.es.length
    · have : cycB G l = true := by
        obtain ⟨x, hx⟩ := List.exists_mem_of_length_pos he
        have hb := hv.ins x hx
        unfold cycB
        rw [List.any_eq_true]
        exact ⟨x, hx, by rw [decide_eq_true (hall _ hb.1 hb.2.2.2.1), decide_eq_true (hall _ hb.2.2.1 hb.2.2.2.2.1)]; rfl⟩
      rw [List.filter_cons_of_pos this]
      simp [he]
    · have hn : G.es = [] := by cases h : G.es with
        | nil => rfl
        | cons a b => rw [h] at he; simp at he
      have : cycB G l = false := by unfold cycB; rw [hn]; rfl
      rw [List.filter_cons_of_neg (by simp [this])]
      simp [he]
  · rw [decide_eq_false h]; rfl
/-- A component that no edge leaves has all that is reached from it. -/
theorem sink_keep {l : List Int} (h : sinkB G l = true) {s t : Int} (hr : Rch G.es s t) (hs : s ∈ l) : t ∈ l :=
  hr.keep (P := fun u => u ∈ l) (fun x hx hf => by
    unfold sinkB at h
    rw [Bool.not_eq_true', List.any_eq_false] at h
    have := h x hx
    rw [decide_eq_true hf, Bool.true_and] at this
    simpa using this) hs
/-- There is a component that no edge leaves. -/
theorem sinks_ne (hv : Vg G) (hn : 0 < G.n) : ∃ l ls, sinksA G = l :: ls := by
  -- a state from which the fewest states are reached
  have hex : ∃ (m : Nat), ∃ s : Nat, (s : Int) < G.n ∧ ((upto G.n.toNat).filter (fun t => fwB G s t.toNat)).length ≤ m := ⟨_, 0, by omega, Nat.le_refl _⟩
  have least : ∀ m : Nat, (∃ s : Nat, (s : Int) < G.n ∧ ((upto G.n.toNat).filter (fun t => fwB G s t.toNat)).length ≤ m) →
      ∃ s : Nat, (s : Int) < G.n ∧ ∀ t : Nat, (t : Int) < G.n → ((upto G.n.toNat).filter (fun u => fwB G s u.toNat)).length ≤ ((upto G.n.toNat).filter (fun u => fwB G t u.toNat)).length := by
    intro m
    induction m with
    | zero => rintro ⟨s, hs, h⟩; exact ⟨s, hs, fun t _ => by omega⟩
    | succ m ih =>
      rintro ⟨s, hs, h⟩
      by_cases k : ∃ s : Nat, (s : Int) < G.n ∧ ((upto G.n.toNat).filter (fun t => fwB G s t.toNat)).length ≤ m
      · exact ih k
      · refine ⟨s, hs, fun t ht => ?_⟩
        have k2 : ¬ ((upto G.n.toNat).filter (fun u => fwB G t u.toNat)).length ≤ m := fun h2 => k ⟨t, ht, h2⟩
        omega
  obtain ⟨m, hm⟩ := hex
  obtain ⟨s, hs, hmin⟩ := least m hm
  have back : ∀ x : Int, 0 ≤ x → x < G.n → Rch G.es s x → Rch G.es x s := fun x h0 h1 hx => by
    have e : ((x.toNat : Nat) : Int) = x := by omega
    have hle := hmin x.toNat (by omega)
    have hsub : ∀ u ∈ (upto G.n.toNat).filter (fun u => fwB G x.toNat u.toNat), u ∈ (upto G.n.toNat).filter (fun u => fwB G s u.toNat) := fun u hu => by
      obtain ⟨k1, k2⟩ := List.mem_filter.1 hu
      have k3 := (fw_iff hv (by omega)).1 k2
      refine List.mem_filter.2 ⟨k1, (fw_iff hv hs).2 ?_⟩
      rw [e] at k3
      exact hx.trans k3
    have hsl : ((upto G.n.toNat).filter (fun u => fwB G x.toNat u.toNat)).Sublist ((upto G.n.toNat).filter (fun u => fwB G s u.toNat)) := by
      have he : (upto G.n.toNat).filter (fun u => fwB G x.toNat u.toNat) = ((upto G.n.toNat).filter (fun u => fwB G s u.toNat)).filter (fun u => fwB G x.toNat u.toNat) := by
        rw [List.filter_filter]
        refine List.filter_congr (fun u hu => ?_)
        cases hp : fwB G x.toNat u.toNat with
        | false => rfl
        | true => rw [(List.mem_filter.1 (hsub u (List.mem_filter.2 ⟨hu, hp⟩))).2]; rfl
      rw [he]
      exact List.filter_sublist
    have heq := hsl.eq_of_length_le hle
    have hself : (s : Int) ∈ (upto G.n.toNat).filter (fun u => fwB G s u.toNat) := List.mem_filter.2 ⟨mem_upto.2 (by omega), (fw_iff hv hs).2 (by rw [Int.toNat_natCast]; exact Rch.refl _)⟩
    rw [← heq] at hself
    have := (fw_iff hv (by omega)).1 (List.mem_filter.1 hself).2
    rw [e, Int.toNat_natCast] at this
    exact this
  have hsk : sinkB G (cmpA G s) = true := by
    unfold sinkB
    rw [Bool.not_eq_true', List.any_eq_false]
    intro x hx hc
    rw [Bool.and_eq_true, decide_eq_true_eq, Bool.not_eq_true', decide_eq_false_iff_not] at hc
    have hb := hv.ins x hx
    have k := ((mem_cmp hv hs).1 hc.1).2
    have hr := k.1.trans (Rch.edge hx)
    exact hc.2 ((mem_cmp hv hs).2 ⟨⟨hb.2.2.1, hb.2.2.2.2.1⟩, hr, back _ hb.2.2.1 hb.2.2.2.2.1 hr⟩)
  have hmem : cmpA G s ∈ sinksA G := List.mem_filter.2 ⟨cmp_listed hv hs, hsk⟩
  cases h : sinksA G with
  | nil => rw [h] at hmem; cases hmem
  | cons l ls => exact ⟨l, ls, rfl⟩
end
end Go.Proofs.YtocbhlohcikapaaGreatDoor
namespace Go.Proofs.YtocbhlohcikapaaGreatDoor
open Go.RowKit Go.Shelf
attribute [local go_sem] Oper.semAt_some

/-! ### What stands in memory -/
/-- What is reached from the first states: rows of truth values, in a row of the call's own. -/
structure FrM (G : Gr) (N : Nat) (W : World) (B k : Nat) (v : Value) (bs : List Nat) : Prop where
  own : W.ownsRow B 90 1 v k (bs.map (fun b => .slice (some ⟨b, 0, none⟩) N N))
  len : bs.length = k
  rows : ∀ i (h : i < bs.length), VRow W bs[i] 4 ((rchA G i).map Value.bool)
theorem FrM.nil (G : Gr) (N : Nat) (W : World) (B : Nat) : FrM G N W B 0 (.slice none 0 0) [] := ⟨World.ownsRow_nil _ _ _ _, rfl, fun i h => by simp at h⟩
theorem FrM.below {G : Gr} {N : Nat} {W W' : World} {B k : Nat} {v : Value} {bs : List Nat} (h : FrM G N W B k v bs) (hB : RowKit.Below W.heap.size W W') : FrM G N W' B k v bs :=
  ⟨h.own.below hB, h.len, fun i hi => (h.rows i hi).below hB (h.rows i hi).lt⟩
/-- What a round of the caller keeps. -/
def KpC (W W' : World) : Prop := ∀ (i : Nat) (cur : Array Value) (t : TypeId) (fz : Nat × Nat), (t = 24 ∨ t = 90 ∨ t = 4) → W.heap[i]? = some (.cells cur t fz) → W'.heap[i]? = some (.cells cur t fz)
theorem KpC.trans {X Y Z : World} (h : KpC X Y) (k : KpC Y Z) : KpC X Z := fun i c t f ht e => k i c t f ht (h i c t f ht e)
theorem KpC.below {X Y : World} (h : RowKit.Below X.heap.size X Y) : KpC X Y := fun i _ _ _ _ e => (h.block i (Array.getElem?_eq_some_iff.1 e).1).trans e
theorem KpC.put (W : World) (l : Nat) (o o' : Obj) (hl : W.heap[l]? = some o) (ho : o.isCells = false) : KpC W (W.putObj l o') := fun i c t f _ e => by
  have hne : i ≠ l := by rintro rfl; rw [hl] at e; cases e; cases ho
  exact (World.putObj_heap_other hne).trans e
theorem FrM.kp {G : Gr} {N : Nat} {W W' : World} {B k : Nat} {v : Value} {bs : List Nat} (h : FrM G N W B k v bs) (hk : KpC W W') : FrM G N W' B k v bs := by
  refine ⟨⟨h.own.1, h.own.2.imp id ?_⟩, h.len, fun i hi => hk _ _ _ _ (.inr (.inr rfl)) (h.rows i hi)⟩
  rintro ⟨g, cap, cur, e1, e2, e3, e4⟩
  exact ⟨g, cap, cur, e1, e2, hk _ _ _ _ (.inr (.inl rfl)) e3, e4⟩
abbrev LEc := List Int × (Option Addr × Nat)
def encC (x : LEc) : Array Value := #[.slice x.2.1 x.1.length x.2.2]
/-- An element that comes: numbers in memory. -/
def PxC (n : Nat) (x : LEc) (W : World) : Prop := SlJ W x.2.1 x.1 ∧ x.1.length ≤ n
theorem cmpA_len (G : Gr) (s : Nat) : (cmpA G s).length ≤ G.n.toNat := by
  unfold cmpA
  have := List.length_filter_le (fun t : Int => fwB G s t.toNat && fwB G t.toNat s) (upto G.n.toNat)
  rwa [upto_len] at this
/-- The component of a state, as far as it is found. -/
def cmpK (G : Gr) (s t : Nat) : List Int := (upto t).filter (fun t => fwB G s t.toNat && fwB G t.toNat s)
theorem cmpK_succ (G : Gr) (s t : Nat) : cmpK G s (t + 1) = cmpK G s t ++ (if (fwB G s t && fwB G t s) = true then [(t : Int)] else []) := by
  unfold cmpK
  rw [upto_succ, List.filter_append]
  congr 1
  by_cases h : (fwB G s t && fwB G t s) = true
  · rw [if_pos h, List.filter_cons_of_pos (by simpa using h)]; rfl
  · rw [if_neg h, List.filter_cons_of_neg (by simpa using h)]; rfl
theorem cmpK_len (G : Gr) (s t : Nat) : (cmpK G s t).length ≤ t := by
  unfold cmpK
  have := List.length_filter_le (fun t : Int => fwB G s t.toNat && fwB G t.toNat s) (upto t)
  rwa [upto_len] at this
/-- The components that the first states lead. -/
def cmpsK (G : Gr) (s : Nat) : List (List Int) := ((List.range s).filter (ledA G)).map (cmpA G)
theorem cmpsK_succ (G : Gr) (s : Nat) : cmpsK G (s + 1) = cmpsK G s ++ (if ledA G s = true then [cmpA G s] else []) := by
  unfold cmpsK
  rw [List.range_succ, List.filter_append, List.map_append]
  congr 1
  by_cases h : ledA G s = true
  · rw [if_pos h, List.filter_cons_of_pos h]; rfl
  · rw [if_neg h, List.filter_cons_of_neg h]; rfl
theorem cmpsK_len (G : Gr) (s : Nat) : (cmpsK G s).length ≤ s := by
  unfold cmpsK
  rw [List.length_map]
  exact Nat.le_trans (List.length_filter_le _ _) (by simp)
theorem fr_get {G : Gr} {s t : Nat} (h : t < (rchA G s).length) : (rchA G s)[t] = fwB G s t := by
  unfold fwB; simp [List.getD, h]

set_option maxRecDepth 100000 in
set_option maxHeartbeats 4000000 in
theorem comps1_in (n : Nat) (hn : 1 ≤ n) (l : Nat) (G : Gr) (p : Option Addr) (c Bg : Nat) (hv : Vg G) (J : List LEc → World → Prop) (hJ : ∀ xs V V', J xs V → RowKit.Below V.heap.size V V' → J xs V')
    (hY : ∀ pre x V, J pre V → PxC 64 x V → pre.length < 64 → YieldAt Fence.wide (n - 1) Tryz.prog l (encC x) V fun e V' => e = .returned (.bool true) ∧ J (pre ++ [x]) V' ∧ KpC V V')
    (W : World) (hg : VRow W Bg 24 [.int .i64 G.q, .int .i64 G.n, .slice p G.es.length c]) (hin : Sg 3 W edE p G.es) (h0 : J [] W) :
    CallsIn Fence.wide n Tryz.prog 204 #[.func (.yield l) #[] #[], .pointer (some ⟨Bg, 0, none⟩)] W fun e V => (∃ v, e = .returned v) ∧ ∃ xs : List LEc, xs.map (·.1) = compsA G ∧ J xs V := by
  obtain ⟨i0, hi0, hz0, hz1, hz3⟩ := info_parts infoIg
  have infoFr : (Tryz.prog.info? 90).map (fun i => (i.zero, i.size, i.bytes)) = some (some (.slice none 0 0), 1, 24) := by kernel_rfl
  obtain ⟨i1, hi1, hy0, hy1, hy3⟩ := info_parts infoFr
  clear infoFr
  obtain ⟨N, hN⟩ : ∃ N : Nat, G.n = N := ⟨G.n.toNat, by have := hv.n1; omega⟩
  have hN64 : N ≤ 64 := by have := hv.n2; omega
  have hNT : G.n.toNat = N := by omega
  have HN := hidI hN; have HV := hidI hv; have HIN := hidI hin
  have HRC := hidI (fun (s : Nat) V (hs : s < N) (hB : RowKit.Below W.heap.size W V) => reach_any G p c s V (hin.below hB) hv (by omega))
  have HJ := hidI hJ; have HY := hidI hY
  have HG := hidI hg
  have f1 := hg.at 1 rfl
  rw [hN] at f1
  rw [hNT] at HRC
  clear hv hin hN hJ hY
  refine callsIn_of_wp Tryz.func204 rfl trivial ?_ rfl
  simp only [Tryz.ntmps204, List.size_toArray, List.length_cons, List.length_nil, Nat.reduceAdd, Nat.reduceSub, Array.replicate_succ, Array.replicate_zero, List.push_toArray, List.append_toArray, List.nil_append, List.cons_append]
  gi_wp2
  clear f1
  gi_loopw [3, 4, 10] (fun fv _ iv wr => ∃ (k : Nat) (bs : List Nat), k ≤ N ∧ iv = .int .i64 k ∧ FrM G N wr W.heap.size k fv bs ∧ RowKit.Below W.heap.size W wr) (fun _ _ iv _ => N - (intOf iv).toNat)
  case atStart => exact ⟨0, [], by omega, rfl, FrM.nil _ _ _ _, RowKit.Below.refl _ _⟩
  case round =>
    obtain ⟨k, bs, hk, rfl, hF, hB⟩ := hrel
    by_cases hlt : k < N
    · have hltI : (k : Int) < (N : Int) := by omega
      have HR := hidI (HRC.out k wr hlt hB)
      have hg := HG.out.below hB HG.out.lt
      have f0 := hg.at 0 rfl; have f1 := hg.at 1 rfl; have f2 := hg.at 2 rfl
      clear hg
      gi_wp2_with (refine ⟨trivial, ?_⟩; gi_at_call 205)
      refine (callsIn_wide.2 HR.out).mono ?_
      rintro e w2 ⟨b, rfl, hbw, hr, hB2⟩
      have x2 := hB.trans (hB2.mono hB.size)
      have hF2 := hF.below hB2
      have hnew := cell_one_at w2 (.slice (some ⟨b, 0, none⟩) N N) 90 w2.heap.size rfl
      have hz2 := x2.size
      clear f0 f1 f2 hF HR
      gi_wp2_with (gi_at_builtin; refine wpListIn_append_own _ rfl _ _ 94 rfl W.heap.size 90 i1 (.slice none 0 0) 1 24 Tryz.underlying94 hi1 hy0 hy1 hy3 rfl (by decide) _ _ _ rfl (hF2.own.alloc _) ⟨w2.heap.size, 0, none⟩ 1 1 [.slice (some ⟨b, 0, none⟩) N N] rfl rfl hnew (by simp [Value.oneCell']) (by simp [maxLen]; omega) (by omega) (by simp; omega) ?_; intro v' w9 hown' hgrow _)
      have hF9 : FrM G N w9 W.heap.size (k + 1) v' (bs ++ [b]) := by
        have hty : ∀ {B : Nat} {l : List Value}, VRow w2 B 4 l → VRow w9 B 4 l := fun h =>
          VRow.grown (h.alloc (.cells #[.slice (some ⟨b, 0, none⟩) N N] 90)) hgrow (own_not (hF2.own.alloc (.cells #[.slice (some ⟨b, 0, none⟩) N N] 90)) (h.alloc (.cells #[.slice (some ⟨b, 0, none⟩) N N] 90)) (by decide))
        refine ⟨by rw [List.map_append]; exact hown', by simp [hF2.len], fun i hi => ?_⟩
        by_cases hik : i < bs.length
        · rw [List.getElem_append_left hik]; exact hty (hF2.rows i hik)
        · have : i = k := by have := hF2.len; simp at hi; omega
          subst this
          have hl := hF2.len
          subst hl
          simpa using hty hr
      have hB9 : RowKit.Below W.heap.size W w9 := (x2.alloc hz2 _).grown hgrow (by simp; omega) (fun j e => (hF2.own.lt j e).1)
      gi_wp2
      go_roundw
      case rel => exact ⟨k + 1, _, by omega, by go_num, hF9, hB9⟩
      case measure => simp [intOf]; omega
    · obtain rfl : k = N := by omega
      have hltI : ¬ (k : Int) < (k : Int) := by omega
      have hg := HG.out.below hB HG.out.lt
      have f1 := hg.at 1 rfl
      rw [HN.out] at f1
      have hJ0 := HJ.out _ _ _ h0 hB
      have HF := hidI hF
      have hblt := hF.len
      have HGr := hidI hg
      clear hF hB hg
      gi_wp2
      clear f1
      gi_loopw [5, 6, 7, 22] (fun _ _ _ iv wr => ∃ (s : Nat) (pre : List LEc), s ≤ k ∧ iv = .int .i64 s ∧ Hid (pre.map (·.1) = cmpsK G s) ∧ J pre wr ∧ FrM G k wr W.heap.size k u3 bs ∧ VRow wr Bg 24 [.int .i64 G.q, .int .i64 G.n, .slice p G.es.length c]) (fun _ _ _ iv _ => k - (intOf iv).toNat)
      case atStart => exact ⟨0, [], by omega, rfl, rfl, hJ0, HF.out, HGr.out⟩
      case round =>
        clear hJ0 HF HGr
        obtain ⟨s, pre, hs, rfl, hpre, hJp, hF, hg⟩ := hrel
        by_cases hlts : s < k
        · have hltI2 : (s : Int) < (k : Int) := by omega
          have HF := hidI hF; have HGs := hidI hg; have HJs := hidI hJp
          have f1 := hg.at 1 rfl
          rw [HN.out] at f1
          obtain ⟨g, cap, rfl⟩ : ∃ g cap, u3 = .slice (some ⟨g, 0, none⟩) k cap := (own_forms hF.own).resolve_left (fun h => by omega)
          clear hF hg hJp
          gi_wp2
          clear f1
          obtain ⟨wo, rfl⟩ : ∃ wo : World, wo = wr := ⟨_, rfl⟩
          gi_loopw [6, 7, 27] (fun lv _ iv wx => ∃ t : Nat, t ≤ k ∧ iv = .int .i64 t ∧ wx.ownsRow wo.heap.size 3 1 lv (cmpK G s t).length ((cmpK G s t).map (Value.int .i64)) ∧ RowKit.Below wo.heap.size wo wx) (fun _ _ iv _ => k - (intOf iv).toNat)
          case atStart => exact ⟨0, by omega, rfl, World.ownsRow_nil _ _ _ _, RowKit.Below.refl _ _⟩
          case round =>
            obtain ⟨t, ht, rfl, hl, hBx⟩ := hrel
            by_cases hltt : t < k
            · have hltI3 : (t : Int) < (k : Int) := by omega
              have hFx := HF.out.below hBx
              have hsl : s < bs.length := by omega
              have htl : t < bs.length := by omega
              have hrl1 := rchA_len G HV.out (s := s) (by have := HN.out; omega)
              have hrl2 := rchA_len G HV.out (s := t) (by have := HN.out; omega)
              have c1 : wr.cell? ⟨g, s, none⟩ = some (.slice (some ⟨bs[s], 0, none⟩) k k) := (hFx.own.cellAt s (by omega)).trans (by simp [hsl])
              have c2 : wr.cell? ⟨g, t, none⟩ = some (.slice (some ⟨bs[t], 0, none⟩) k k) := (hFx.own.cellAt t (by omega)).trans (by simp [htl])
              have c3 : wr.cell? ⟨bs[s], t, none⟩ = some (.bool (fwB G s t)) := (hFx.rows s hsl).at t (by rw [List.getElem?_map, List.getElem?_eq_getElem (by omega), Option.map_some, fr_get])
              have c4 : wr.cell? ⟨bs[t], s, none⟩ = some (.bool (fwB G t s)) := (hFx.rows t htl).at s (by rw [List.getElem?_map, List.getElem?_eq_getElem (by omega), Option.map_some, fr_get])
              have HCK := hidI (cmpK_succ G s t)
              have hcl := cmpK_len G s t
              have hzx := hBx.size
              generalize bs[s] = b1 at *
              generalize bs[t] = b2 at *
              generalize fwB G s t = x at *
              generalize fwB G t s = y at *
              clear hFx hrl1 hrl2 hsl htl
              by_cases hxy : (x && y) = true
              · obtain ⟨rfl, rfl⟩ : x = true ∧ y = true := by cases x <;> cases y <;> simp_all
                have HC2 : Hid (cmpK G s (t + 1) = cmpK G s t ++ [(t : Int)]) := HCK.out
                have hlen1 : (cmpK G s (t + 1)).length = (cmpK G s t).length + 1 := by rw [HC2.out]; simp
                clear HCK
                have hnew := cell_one_at wr (.int .i64 (t : Int)) 3 wr.heap.size rfl
                clear hxy
                gi_wp2_with (gi_at_builtin; refine wpListIn_append_own _ rfl _ _ 30 rfl wo.heap.size 3 i0 (.int .i64 0) 1 8 Tryz.underlying30 hi0 hz0 hz1 hz3 rfl (by decide) _ _ _ rfl (hl.alloc _) ⟨wr.heap.size, 0, none⟩ 1 1 [.int .i64 (t : Int)] rfl rfl hnew (by simp [Value.oneCell']) (by simp [maxLen]; omega) (by omega) (by simp; omega) ?_; intro v' w9 hown' hgrow _)
                have hB9 : RowKit.Below wo.heap.size wo w9 := (hBx.alloc hzx _).grown hgrow (by simp; omega) (fun j e => (hl.lt j e).1)
                gi_wp2
                go_roundw
                case rel => exact ⟨t + 1, by omega, by go_num, by rw [hlen1, HC2.out, List.map_append]; exact hown', hB9⟩
                case measure => simp [intOf]; omega
              · have HC2 : Hid (cmpK G s (t + 1) = cmpK G s t) := by unfold Hid; rw [HCK.out, if_neg hxy, List.append_nil]
                clear HCK
                have hlen1 : (cmpK G s (t + 1)).length = (cmpK G s t).length := by rw [HC2.out]
                cases x
                · gi_wp2
                  go_roundw
                  case rel => exact ⟨t + 1, by omega, by go_num, by rw [HC2.out]; exact hl, hBx⟩
                  case measure => simp [intOf]; omega
                · obtain rfl : y = false := by cases y <;> simp_all
                  gi_wp2
                  go_roundw
                  case rel => exact ⟨t + 1, by omega, by go_num, by rw [HC2.out]; exact hl, hBx⟩
                  case measure => simp [intOf]; omega
            · obtain rfl : t = k := by omega
              have hltI3 : ¬ (t : Int) < (t : Int) := by omega
              have hcm : cmpK G s t = cmpA G s := by unfold cmpK cmpA; rw [hNT]
              rw [hcm] at hl
              have hsn : (s : Int) < G.n := by have := HN.out; omega
              have hself := cmp_self HV.out hsn
              have hpos := List.length_pos_of_mem hself
              have hll := cmpA_len G s
              obtain ⟨g2, cap2, rfl⟩ : ∃ g cap, u6 = .slice (some ⟨g, 0, none⟩) (cmpA G s).length cap := (own_forms hl).resolve_left (fun h => by omega)
              have HLED : Hid (ledA G s = decide ((cmpA G s)[0]'hpos = (s : Int))) := by
                unfold Hid ledA
                rw [List.head?_eq_getElem?, List.getElem?_eq_getElem hpos, decide_eq_decide]
                exact ⟨Option.some.inj, fun e => by rw [e]⟩
              have HCS := hidI (cmpsK_succ G s)
              have HF9 := hidI (HF.out.below hBx)
              have HG9 := hidI (HGs.out.below hBx HGs.out.lt)
              have HJ9 := hidI (HJ.out _ _ _ HJs.out hBx)
              have hpl : pre.length < 64 := by
                have h1 := congrArg List.length hpre.out
                rw [List.length_map] at h1
                have := cmpsK_len G s; omega
              have hPx : PxC 64 (cmpA G s, (some ⟨g2, 0, none⟩, cap2)) wr := by
                refine ⟨?_, by show (cmpA G s).length ≤ 64; omega⟩
                obtain ⟨q, d, hq, hs'⟩ := own_sl hl
                cases hq
                exact ⟨hs', fun b o z hb => Lib.ownsRow_kind hl b (by cases hb; rfl)⟩
              have HYX := hidI (HY.out pre (cmpA G s, (some ⟨g2, 0, none⟩, cap2)) wr HJ9.out hPx hpl)
              have c0 : wr.cell? ⟨g2, 0, none⟩ = some (.int .i64 ((cmpA G s)[0]'hpos)) := (hl.cellAt 0 (by omega)).trans (by simp [hpos])
              have hlenN : 0 < (cmpA G s).length := hpos
              generalize (cmpA G s)[0]'hpos = y0 at *
              by_cases hy : y0 = (s : Int)
              · have hb : (y0 == (s : Int)) = true := by simpa using hy
                have HC2 : Hid (cmpsK G (s + 1) = cmpsK G s ++ [cmpA G s]) := by unfold Hid; rw [HCS.out, HLED.out, decide_eq_true hy, if_pos rfl]
                clear HCS HLED hy hcm
                obtain ⟨fn, tmps, assign, body, hyy, hR⟩ := HYX.out
                unfold encC at hyy
                simp only at hyy
                gi_wp2
                refine hR.mono ?_
                rintro e W3 ⟨rfl, hJ3, hk3⟩
                gi_wp2
                go_roundw
                case rel => exact ⟨s + 1, _, by omega, by go_num, by unfold Hid; rw [HC2.out, List.map_append, hpre.out]; rfl, hJ3, HF9.out.kp hk3, hk3 _ _ _ _ (.inl rfl) HG9.out⟩
                case measure => simp [intOf]; omega
              · have hb : (y0 == (s : Int)) = false := by simpa using hy
                have HC2 : Hid (cmpsK G (s + 1) = cmpsK G s) := by unfold Hid; rw [HCS.out, HLED.out, decide_eq_false hy, if_neg (by simp), List.append_nil]
                clear HCS HLED hy hcm
                gi_wp2
                rename_i K1 hK1 x1 h1 w1 e1
                refine ⟨fun f hf => (by cases hf), hK1 _ _ ?_⟩
                clear e1
                gi_wp2
                go_roundw
                case rel => exact ⟨s + 1, pre, by omega, by go_num, by unfold Hid; rw [HC2.out, hpre.out], HJ9.out, HF9.out, HG9.out⟩
                case measure => simp [intOf]; omega
        · obtain rfl : s = k := by omega
          have hltI2 : ¬ (s : Int) < (s : Int) := by omega
          gi_wp2
          go_end0
          exact ⟨⟨_, rfl⟩, pre, by rw [hpre.out]; unfold compsA cmpsK; rw [hNT], hJp⟩
end Go.Proofs.YtocbhlohcikapaaGreatDoor
namespace Go.Proofs.YtocbhlohcikapaaGreatDoor
open Go.RowKit Go.Shelf
attribute [local go_sem] Oper.semAt_some

/-- All blocks below m, and block B, are as they were. -/
def KS (m B : Nat) (W W' : World) : Prop := ∀ i, (i < m ∨ i = B) → W'.heap[i]? = W.heap[i]?
theorem KS.refl (m B : Nat) (W : World) : KS m B W W := fun _ _ => rfl
theorem KS.trans {m B : Nat} {X Y Z : World} (h : KS m B X Y) (k : KS m B Y Z) : KS m B X Z := fun i h1 => (k i h1).trans (h i h1)
theorem KS_b {m B n : Nat} (hm : m ≤ n) (hB : B < n) (W : World) (l : Nat) (o o' : Obj) (hl : n ≤ l) (_ : W.heap[l]? = some o) (_ : o.isCells = false) (_ : o.isWalk = false) : KS m B W (W.putObj l o') :=
  fun i h1 => World.putObj_heap_other (by omega)
theorem KS.boxed {m B : Nat} {t : TypeId} {v : Value} {W W' : World} (h : KS m B W W') (hb : Boxed W B t v) : Boxed W' B t v := (h B (.inr rfl)).trans hb
theorem KS.low {m B : Nat} {W W' : World} (h : KS m B W W') : ∀ i, i < m → W'.heap[i]? = W.heap[i]? := fun i hi => h i (.inl hi)

set_option maxRecDepth 100000 in
set_option maxHeartbeats 1000000 in
theorem leavingS_in (F : Fence) (n : Nat) (hf : F.fn 153) (hro : F.round = none) (hn : 1 ≤ n) (l m Bg Bs : Nat) (G : Gr) (s : Int) (p : Option Addr) (c : Nat) (hlen : G.es.length ≤ 1024) (J Jx : List (Nat × Ed) → World → Prop)
    (hA : ∀ pre W o, J pre W → J pre (W.alloc o))
    (hY : ∀ pre x W, J pre W → pre.length < G.es.length → YieldAt F (n - 1) Tryz.prog l (encL x) W fun e W' =>
      (e = .returned (.bool true) ∧ J (pre ++ [x]) W' ∧ KS m Bs W W') ∨ (e = .returned (.bool false) ∧ Jx (pre ++ [x]) W'))
    (W : World) (hmb : m ≤ Bs) (hg : VRow W Bg 24 [.int .i64 G.q, .int .i64 G.n, .slice p G.es.length c]) (hs : Boxed W Bs 3 (.int .i64 s)) (hin : SgB m W p G.es) (h0 : J [] W) :
    CallsIn F n Tryz.prog 153 #[.func (.yield l) #[] #[], .pointer (some ⟨Bg, 0, none⟩), .pointer (some ⟨Bs, 0, none⟩)] W fun e W' => (∃ v, e = .returned v) ∧
      ((∃ ys : List (Nat × Ed), ys = lvL G.es s G.es.length ∧ J ys W') ∨ (∃ pre : List (Nat × Ed), True ∧ Jx pre W')) := by
  refine callsIn_of_wp Tryz.func153 rfl hf ?_ hro
  simp only [Tryz.ntmps153, List.size_toArray, List.length_cons, List.length_nil, Nat.reduceAdd, Nat.reduceSub, Array.replicate_succ, Array.replicate_zero, List.push_toArray, List.append_toArray, List.nil_append, List.cons_append]
  have f2 := hg.at 2 rfl
  gi_wp2
  clear f2
  gi_loopw [9] (fun i wr => ∃ (k : Nat) (pre : List (Nat × Ed)), k ≤ G.es.length ∧ i = .int .i64 k ∧ Hid (pre = lvL G.es s k) ∧ J pre wr ∧ Boxed wr Bs 3 (.int .i64 s) ∧ SgB m wr p G.es) (fun i _ => G.es.length - (intOf i).toNat)
  case atStart => exact ⟨0, [], Nat.zero_le _, rfl, rfl, h0, hs, hin⟩
  case round =>
    obtain ⟨k, pre, hk, rfl, hp, hJs, hnx, hsg⟩ := hrel
    by_cases hlt : k < G.es.length
    · have hpl : pre.length < G.es.length := by rw [hp.out]; have := lvL_len G.es s k; omega
      obtain ⟨b3, o3, rfl, hb3, e0, e1, e2⟩ := hsg.sg.get3 k hlt rfl
      have HN := hidI (lvL_succ (s := s) hlt)
      have hnA := hnx.alloc (.cells #[.int .i64 G.es[k].f, .int .i64 G.es[k].l, .int .i64 G.es[k].t] 44)
      have hgA := hsg.alloc (by have := hnx.lt; omega) (.cells #[.int .i64 G.es[k].f, .int .i64 G.es[k].l, .int .i64 G.es[k].t] 44)
      have hJA := hA pre wr (.cells #[.int .i64 G.es[k].f, .int .i64 G.es[k].l, .int .i64 G.es[k].t] 44) hJs
      have HY := hidI (hY pre (k, G.es[k]) (wr.alloc (.cells #[.int .i64 G.es[k].f, .int .i64 G.es[k].l, .int .i64 G.es[k].t] 44)) hJA hpl)
      have hbs := hnA.cell
      generalize hx : G.es[k] = x at *
      by_cases he : x.f = s
      · have hb : (x.f == s) = true := by simpa using he
        have HN : Hid (lvL G.es s (k + 1) = lvL G.es s k ++ [(k, x)]) := by rw [Hid, HN.out, if_pos he]
        obtain ⟨fn, tmps, assign, body, hy, hR⟩ := HY.out
        unfold encL at hy
        simp only at hy
        clear he
        gi_wp2
        refine hR.mono ?_
        rintro e W3 (⟨rfl, hJ3, hk3⟩ | ⟨rfl, hJx3⟩)
        · gi_wp2
          go_roundw
          case rel => exact ⟨k + 1, _, by omega, by go_num, by unfold Hid; rw [HN.out, ← hp.out], hJ3, hk3.boxed hnA, hgA.kept hk3.low⟩
          case measure => simp [intOf]; omega
        · gi_wp2
          refine bodyPost_ret (results_none rfl _ _ _) rfl ?_
          exact ⟨⟨_, rfl⟩, .inr ⟨_, trivial, hJx3⟩⟩
      · have hb : (x.f == s) = false := by simpa using he
        have HN : Hid (lvL G.es s (k + 1) = lvL G.es s k) := by rw [Hid, HN.out, if_neg he, List.append_nil]
        clear he
        gi_wp2
        rename_i K1 hK1 x1 h1 w1 e1
        refine ⟨fun f hf => (by cases hf), hK1 _ _ ?_⟩
        clear e1
        gi_wp2
        go_roundw
        case rel => exact ⟨k + 1, _, by omega, by go_num, by unfold Hid; rw [HN.out, ← hp.out], hJA, hnA, hgA⟩
        case measure => simp [intOf]; omega
    · obtain rfl : k = G.es.length := by omega
      gi_wp2
      go_end0
      exact ⟨⟨_, rfl⟩, .inl ⟨_, hp.out, hJs⟩⟩

/-- The sequence, as the law of the loop takes it. -/
theorem leavingS_stops (F : Fence) (n : Nat) (hf : F.fn 153) (hro : F.round = none) (hn : 1 ≤ n) (m Bg Bs : Nat) (G : Gr) (s : Int) (p : Option Addr) (c : Nat) (hlen : G.es.length ≤ 1024) (w : World)
    (hmb : m ≤ Bs) (hg : VRow w Bg 24 [.int .i64 G.q, .int .i64 G.n, .slice p G.es.length c]) (hs : Boxed w Bs 3 (.int .i64 s)) (hin : SgB m w p G.es) :
    SeqStopsK F n Tryz.prog 153 #[.pointer (some ⟨Bg, 0, none⟩), .pointer (some ⟨Bs, 0, none⟩)] encL (KS m Bs) (fun ys => ys = lvL G.es s G.es.length) (fun _ => True) G.es.length w := fun l J Jx W hW hJ _ hY h0 =>
  leavingS_in F n hf hro hn l m Bg Bs G s p c hlen J Jx (fun pre W o h => hJ pre W _ none h (World.grownBy_alloc W o none) (fun r e => by cases e)) hY W hmb (hg.below hW hg.lt) ((KH.of_below hW hs.lt).boxed hs) (hin.kept (fun i hi => hW.block i (by have := hs.lt; omega))) h0
end Go.Proofs.YtocbhlohcikapaaGreatDoor
namespace Go.Proofs.YtocbhlohcikapaaGreatDoor
open Go.RowKit

set_option maxHeartbeats 1000000 in
theorem leaving_in (F : Fence) (n : Nat) (hf : F.fn 101) (hro : F.round = none) (g : Value) (s : Int) (q m : Int) (p : Option Addr) (k c : Nat) (hg : g = .agg #[.int .i64 q, .int .i64 m, .slice p k c]) (w : World) :
    CallsIn F n Tryz.prog 101 #[g, .int .i64 s] w fun e w' => e = .returned (.func (.func 153) #[] #[.pointer (some ⟨w.heap.size, 0, none⟩), .pointer (some ⟨w.heap.size + 1, 0, none⟩)]) ∧
      w' = (w.alloc (.cells #[.int .i64 q, .int .i64 m, .slice p k c] 24)).alloc (.cells #[.int .i64 s] 3) := by
  subst hg
  refine callsIn_of_wp Tryz.func101 rfl hf ?_ hro
  simp only [Tryz.ntmps101, List.size_toArray, List.length_cons, List.length_nil, Nat.reduceAdd, Nat.reduceSub, Array.replicate_succ, Array.replicate_zero, List.push_toArray, List.append_toArray, List.nil_append, List.cons_append]
  gi_wp2
  go_ret
  exact ⟨rfl, rfl⟩
end Go.Proofs.YtocbhlohcikapaaGreatDoor
namespace Go.Proofs.YtocbhlohcikapaaGreatDoor
open Go.RowKit Go.Shelf
attribute [local go_sem] Oper.semAt_some

theorem lvL_out (es : List Ed) (s : Int) : ∀ k, k ≤ es.length → (lvL es s k).map (fun x => ((x.1 : Nat) : Int)) = outI es s k
  | 0, _ => rfl
  | k + 1, h => by
    rw [lvL_succ (by omega), outI_succ (by omega), List.map_append, lvL_out es s k (by omega)]
    split <;> rfl
theorem own_shI {w : World} {B e size n : Nat} {v : Value} {xs : List Value} (h : w.ownsRow B e size v n xs) : ∃ p m c, v = .slice p m c := by
  rcases h.2 with ⟨rfl, _⟩ | ⟨g, cap, cur, rfl, _⟩
  · exact ⟨_, _, _, rfl⟩
  · exact ⟨_, _, _, rfl⟩
theorem own_cells {w : World} {B e size n : Nat} {v : Value} {xs : List Value} (h : w.ownsRow B e size v n xs) {j : Nat} {o : Obj} (hj : v.ownBlock = some j) (ho : w.heap[j]? = some o) : o.isCells = true := by
  rcases h.2 with ⟨rfl, _⟩ | ⟨g, cap, cur, rfl, _, hh, _⟩
  · simp [Value.ownBlock] at hj
  · obtain rfl : g = j := by simpa [Value.ownBlock] using hj
    rw [hh] at ho; cases ho; rfl
theorem own_put {W : World} {B e size n D : Nat} {v : Value} {xs : List Value} {o : Obj} {ds : Option (List Deferred)} (hK : W.heap[D]? = some (.deferred ds)) (h : W.ownsRow B e size v n xs) : (W.putObj D o).ownsRow B e size v n xs := by
  refine h.kept (grownBy_putObj' W D o) ?_
  rcases h.2 with ⟨rfl, _⟩ | ⟨g, cap, cur, rfl, _, hh, _⟩
  · exact .inl rfl
  · refine .inr (fun e => ?_)
    obtain rfl : g = D := by simpa [Value.ownBlock] using e
    rw [hh] at hK; cases hK
theorem own_baseI {W : World} {B B' e size n : Nat} {v : Value} {xs : List Value} (h : W.ownsRow B e size v n xs) (hB : B' ≤ B) : W.ownsRow B' e size v n xs :=
  ⟨h.1, h.2.imp id (fun ⟨g, cap, cur, a, b, z⟩ => ⟨g, cap, cur, a, Nat.le_trans hB b, z⟩)⟩
/-- A row of numbers of the call's own, behind a variable's cell. -/
def OutI (B b : Nat) (l : List Int) (W : World) : Prop := ∃ v, VRow W b 30 [v] ∧ W.ownsRow B 3 1 v l.length (l.map (Value.int .i64)) ∧ v.ownBlock ≠ some b
theorem OutI.own {β : Type} (B b : Nat) (f : β → List Int) : Own (fun s W => OutI B b (f s) W) := by
  rintro s X Y row ⟨v, h1, h2, h3⟩ hg hrow
  refine ⟨v, VRow.own b 30 (fun _ : Unit => [v]) () X Y row h1 hg hrow, ?_, h3⟩
  refine h2.kept hg ?_
  rcases h2.2 with ⟨rfl, _⟩ | ⟨g, cap, cur, rfl, _, hh, _⟩
  · exact .inl rfl
  · refine .inr (fun e => ?_)
    obtain ⟨o, ho, hc⟩ := hrow g (by rw [← e]; rfl)
    rw [hh] at ho; cases ho; cases hc

end Go.Proofs.YtocbhlohcikapaaGreatDoor
namespace Go.Proofs.YtocbhlohcikapaaGreatDoor
open Go.RowKit Go.Shelf
attribute [local go_sem] Oper.semAt_some

/-! ### All cells are as they were -/
def KCs (W W' : World) : Prop := ∀ (i : Nat) (cur : Array Value) (t : TypeId) (fz : Nat × Nat), W.heap[i]? = some (.cells cur t fz) → W'.heap[i]? = some (.cells cur t fz)
theorem KCs.below {X Y : World} (h : RowKit.Below X.heap.size X Y) : KCs X Y := fun i _ _ _ e => (h.block i (Array.getElem?_eq_some_iff.1 e).1).trans e
theorem KCs.grown {X Y : World} {row : Option Nat} (hg : X.grownBy Y row) (hr : ∀ r, row = some r → ∃ o : Obj, X.heap[r]? = some o ∧ o.isCells = false) : KCs X Y := fun i c t f e =>
  (hg.block i (Array.getElem?_eq_some_iff.1 e).1 (fun er => by
    obtain ⟨o, ho, hc⟩ := hr i er.symm
    rw [e] at ho; cases ho; cases hc)).trans e
theorem KCs.vrow {X Y : World} {B : Nat} {t : TypeId} {l : List Value} (h : KCs X Y) (r : VRow X B t l) : VRow Y B t l := h _ _ _ _ r
theorem KCs.own {X Y : World} {B e s n : Nat} {v : Value} {xs : List Value} (h : KCs X Y) (ho : X.ownsRow B e s v n xs) : Y.ownsRow B e s v n xs := by
  refine ⟨ho.1, ho.2.imp id ?_⟩
  rintro ⟨g, cap, cur, e1, e2, e3, e4⟩
  exact ⟨g, cap, cur, e1, e2, h _ _ _ _ e3, e4⟩
theorem slj_ty {X Y : World} {p : Option Addr} {l : List Int} (h : ∀ (i : Nat) (cur : Array Value) (fz : Nat × Nat), X.heap[i]? = some (.cells cur 3 fz) → Y.heap[i]? = some (.cells cur 3 fz)) (hs : SlJ X p l) : SlJ Y p l := by
  obtain ⟨h1, h2⟩ := hs
  refine ⟨h1.imp id ?_, fun b o z hp => by obtain ⟨c, f, hb⟩ := h2 b o z hp; exact ⟨c, f, h _ _ _ hb⟩⟩
  rintro ⟨b, o, rfl, hb, hc⟩
  obtain ⟨c, f, hb'⟩ := h2 b o none rfl
  have e' := (h _ _ _ hb').trans hb'.symm
  exact ⟨b, o, rfl, (Array.getElem?_eq_some_iff.1 (h _ _ _ hb')).1, fun i hi => (World.cell?_of_block (w := X) (a := ⟨b, o + i, none⟩) e').trans (hc i hi)⟩
theorem KCs.slj {X Y : World} {p : Option Addr} {l : List Int} (h : KCs X Y) (hs : SlJ X p l) : SlJ Y p l := slj_ty (fun i c f e => h i c _ f e) hs
/-! ### Lists of lists -/
def lcV (x : LEc) : Value := .slice x.2.1 x.1.length x.2.2
/-- A list of lists of numbers that is read. -/
def LLj (W : World) (p : Option Addr) (L : List (List Int)) : Prop := ∃ X : List LEc, X.map (·.1) = L ∧ Sl W lcV p X ∧ ∀ x ∈ X, SlJ W x.2.1 x.1
theorem LLj.below {W W' : World} {p : Option Addr} {L : List (List Int)} (h : LLj W p L) (hB : RowKit.Below W.heap.size W W') : LLj W' p L := by
  obtain ⟨X, h1, h2, h3⟩ := h
  exact ⟨X, h1, h2.below hB, fun x hx => (KCs.below hB).slj (h3 x hx)⟩
theorem LLj.get {W : World} {p : Option Addr} {L : List (List Int)} (h : LLj W p L) (k : Nat) (hk : k < L.length) : ∃ b o q d, p = some ⟨b, o, none⟩ ∧ b < W.heap.size ∧ W.cell? ⟨b, o + k, none⟩ = some (.slice q L[k].length d) ∧ SlJ W q L[k] := by
  obtain ⟨X, rfl, h2, h3⟩ := h
  have hX : k < X.length := by simpa using hk
  obtain ⟨b, o, rfl, hb, hc⟩ := h2.get k hX
  refine ⟨b, o, X[k].2.1, X[k].2.2, rfl, hb, ?_, ?_⟩
  · rw [hc k hX, List.getElem_map]; rfl
  · rw [List.getElem_map]; exact h3 _ (List.getElem_mem hX)
def RetLL (L : List (List Int)) (k : Int) (w : World) (e : Ending) (w' : World) : Prop := ∃ p c, e = .returned (.tuple #[.slice p L.length c, .int .i64 k]) ∧ LLj w' p L ∧ RowKit.Below w.heap.size w w'
theorem RetLL.nil {L : List (List Int)} {k : Int} {w w' : World} (h : L = []) (hB : RowKit.Below w.heap.size w w') : RetLL L k w (.returned (.tuple #[.slice none 0 0, .int .i64 k])) w' := by
  subst h; exact ⟨none, 0, rfl, ⟨[], rfl, Sl.nil _ _ _, fun x hx => by cases hx⟩, hB⟩

theorem comps_in (F : Fence) (n : Nat) (hf : F.fn 171) (hro : F.round = none) (g : Value) (q m : Int) (p : Option Addr) (k c : Nat) (hg : g = .agg #[.int .i64 q, .int .i64 m, .slice p k c]) (w : World) :
    CallsIn F n Tryz.prog 171 #[g] w fun e w' => e = .returned (.func (.func 204) #[] #[.pointer (some ⟨w.heap.size, 0, none⟩)]) ∧ w' = w.alloc (.cells #[.int .i64 q, .int .i64 m, .slice p k c] 24) := by
  subst hg
  refine callsIn_of_wp Tryz.func171 rfl hf ?_ hro
  simp only [Tryz.ntmps171, List.size_toArray, List.length_cons, List.length_nil, Nat.reduceAdd, Nat.reduceSub, Array.replicate_succ, Array.replicate_zero, List.push_toArray, List.append_toArray, List.nil_append, List.cons_append]
  gi_wp2
  go_ret
  exact ⟨rfl, rfl⟩
theorem comps_seq (n : Nat) (hn : 1 ≤ n) (G : Gr) (p : Option Addr) (c Bg : Nat) (hv : Vg G) (w : World) (hg : VRow w Bg 24 [.int .i64 G.q, .int .i64 G.n, .slice p G.es.length c]) (hin : Sg 3 w edE p G.es) :
    SeqRows Fence.wide n Tryz.prog 204 #[.pointer (some ⟨Bg, 0, none⟩)] encC (PxC 64) KpC (fun xs => xs.map (·.1) = compsA G) 64 w := fun l J W hW hJ hY h0 =>
  comps1_in n hn l G p c Bg hv J hJ hY W (hg.below hW hg.lt) (hin.below hW) h0
/-- What has been taken of what came. -/
def fltC (hp : List Int → Bool) (pre : List LEc) : List LEc := pre.filter (fun x => hp x.1)
structure SomI (w w1 : World) (hp : List Int → Bool) (hv : Value) (pre : List LEc) (W : World) : Prop where
  b3 : VRow W (w.heap.size + 1) 51 [hv]
  bo : ∃ v, VRow W w1.heap.size 47 [v] ∧ W.ownsRow (w1.heap.size + 1) 30 1 v (fltC hp pre).length ((fltC hp pre).map lcV)
  el : ∀ x ∈ pre, SlJ W x.2.1 x.1
  b : RowKit.Below w.heap.size w W
theorem SomI.kc {w w1 : World} {hp : List Int → Bool} {hv : Value} {pre : List LEc} {W W' : World} (h : SomI w w1 hp hv pre W) (k : KCs W W') (hb : RowKit.Below w.heap.size w W') : SomI w w1 hp hv pre W' := by
  obtain ⟨v, h1, h2⟩ := h.bo
  exact ⟨k.vrow h.b3, ⟨v, k.vrow h1, k.own h2⟩, fun x hx => k.slj (h.el x hx), hb⟩

set_option maxRecDepth 100000 in
set_option maxHeartbeats 4000000 in
theorem some_in (G : Gr) (p : Option Addr) (c hi : Nat) (hb : Array Value) (hp : List Int → Bool) (w : World) (hin : Sg 3 w edE p G.es) (hv : Vg G) (eg : ∀ args w, (callFunc hi args).run Tryz.prog w = .ok (.enter hi args) w)
    (hH : ∀ (x : LEc) W, RowKit.Below w.heap.size w W → PxC 64 x W → Calls Tryz.prog hi (#[lcV x] ++ hb) W fun e W' => e = .returned (.bool (hp x.1)) ∧ RowKit.Below W.heap.size W W') :
    CallsIn Fence.wide 9 Tryz.prog 115 #[(.agg #[.int .i64 G.q, .int .i64 G.n, .slice p G.es.length c]), .func (.func hi) #[] hb] w (RetLL ((compsA G).filter hp) 0 w) := by
  have HIN := hidI hin; have HV := hidI hv; have HH := hidI hH
  have hl := hv.len
  have infoLs : (Tryz.prog.info? 30).map (fun i => (i.zero, i.size, i.bytes)) = some (some (.slice none 0 0), 1, 24) := by kernel_rfl
  obtain ⟨i0, hi0, hz0, hz1, hz3⟩ := info_parts infoLs
  clear infoLs hin hv hH
  obtain ⟨w0, hw0⟩ : ∃ w0, w0 = (w.alloc (.cells #[.int .i64 G.q, .int .i64 G.n, .slice p G.es.length c] 24)).alloc (.cells #[(.func (.func hi) #[] hb)] 51) := ⟨_, rfl⟩
  have b0 : VRow w0 w.heap.size 24 [.int .i64 G.q, .int .i64 G.n, .slice p G.es.length c] := by subst hw0; exact (VRow.new w _ _).alloc _
  have b3 : VRow w0 (w.heap.size + 1) 51 [(.func (.func hi) #[] hb)] := by subst hw0; exact VRow.new1 w _ _ _
  have hB0 : RowKit.Below w.heap.size w w0 := by subst hw0; exact ((RowKit.Below.refl _ _).alloc (Nat.le_refl _) _).alloc (by simp) _
  refine callsIn_of_wp_marks Tryz.func115 rfl trivial ?_ rfl
  simp only [Tryz.ntmps115, List.size_toArray, List.length_cons, List.length_nil, Nat.reduceAdd, Nat.reduceSub, Array.replicate_succ, Array.replicate_zero, List.push_toArray, List.append_toArray, List.nil_append, List.cons_append]
  have HW0 := hidI hw0.symm
  clear hw0
  have c0 : VRow ((w.alloc (.cells #[.int .i64 G.q, .int .i64 G.n, .slice p G.es.length c] 24)).alloc (.cells #[(.func (.func hi) #[] hb)] 51)) w.heap.size 24 [.int .i64 G.q, .int .i64 G.n, .slice p G.es.length c] := (VRow.new w _ _).alloc _
  have f0 := c0.at 0 rfl; have f1 := c0.at 1 rfl; have f2 := c0.at 2 rfl
  gi_wp2_with (refine ⟨trivial, ?_⟩; gi_at_call 73)
  rw [HW0.out]
  refine (callsIn_wide.2 (gCheck_r G p c _ 0 (chkG_ok.2 HV.out) (HIN.out.below hB0) (by omega))).mono ?_
  rintro e w1 ⟨rfl, hB1⟩
  have x1 := hB0.trans (hB1.mono hB0.size)
  have d0 := b0.below hB1 b0.lt
  have d3 := b3.below hB1 b3.lt
  clear f0 f1 f2 c0 b0 b3 hB1 HW0
  have da := d0.alloc (.cells #[.slice none 0 0] 47)
  have f0 := da.at 0 rfl; have f1 := da.at 1 rfl; have f2 := da.at 2 rfl
  gi_wp2_with (refine ⟨trivial, ?_⟩; gi_at_call 171)
  refine (comps_in Fence.wide 8 trivial rfl _ G.q G.n p G.es.length c rfl _).mono ?_
  rintro e w' ⟨rfl, rfl⟩
  clear f0 f1 f2
  gi_wp2
  obtain ⟨W0, hW0⟩ : ∃ W0, W0 = (w1.alloc (.cells #[.slice none 0 0] 47)).alloc (.cells #[.int .i64 G.q, .int .i64 G.n, .slice p G.es.length c] 24) := ⟨_, rfl⟩
  have a0 : VRow W0 w1.heap.size 47 [.slice none 0 0] := by subst hW0; exact (VRow.new w1 _ _).alloc _
  have a1 : VRow W0 (w1.heap.size + 1) 24 [.int .i64 G.q, .int .i64 G.n, .slice p G.es.length c] := by subst hW0; exact VRow.new1 w1 _ _ _
  have a3 : VRow W0 (w.heap.size + 1) 51 [(.func (.func hi) #[] hb)] := by subst hW0; exact (d3.alloc _).alloc _
  have hxw := x1.size
  have x2 : RowKit.Below w.heap.size w W0 := by subst hW0; exact (x1.alloc x1.size _).alloc (by simp; omega) _
  have hsz : W0.heap.size = w1.heap.size + 2 := by subst hW0; simp
  have hsg := HIN.out.below x2
  rw [← hW0]
  clear hW0
  refine' wpIn_rows rfl (by omega) (gf := 204) (lb := #[.pointer (some ⟨w1.heap.size + 1, 0, none⟩)]) rfl trivial (enters_of Tryz.func204 (by kernel_rfl) rfl)
    (comps_seq 8 (by omega) G p c (w1.heap.size + 1) HV.out W0 a1 hsg) (fun _ => rfl) KpC.trans (fun W l o o' _ hl ho => KpC.put W l o o' hl ho)
    (SomI w w1 hp (.func (.func hi) #[] hb)) (fun s X Y row h hg hr => ?_) (fun s X Y row h hg hr => ?_) (fun xs V V' h hB => ?_) ?_ _ ?assign ?body ?done
  · refine h.kc (KCs.grown hg (fun r e => (hr r e).2)) ?_
    exact ownFrom_below (β := Unit) (Nat.le_refl w.heap.size) (Nat.le_refl _) () X Y row h.b hg (fun r e => ⟨by have := (hr r e).1; omega, (hr r e).2⟩)
  · exact ⟨(KCs.grown hg (fun r e => (hr r e).2)).slj h.1, h.2⟩
  · exact h.kc (KCs.below hB) (h.b.trans (hB.mono h.b.size))
  · exact ⟨a3, ⟨_, a0, World.ownsRow_nil _ _ _ _⟩, (fun x hx => by cases hx), x2⟩
  case assign =>
    intro l x W K hK
    unfold encC
    gi_wp2
    exact hK
  case body =>
    rintro l pre x W hll ⟨k3, ⟨v, ko, hown⟩, hel, hB⟩ hPx hlen
    have c3 := k3.at 0 rfl
    have HC := hidI (HH.out x W hB hPx)
    unfold lcV at HC
    gi_wp2_with fail
    refine ⟨trivial, ?_⟩
    refine ((callsIn_wide.2 HC.out).inRound l).mono ?_
    rintro e W2 ⟨rfl, hB2⟩
    have e3 := k3.below hB2 k3.lt
    have eo := ko.below hB2 ko.lt
    have hx2 := hB.trans (hB2.mono hB.size)
    have hown2 := hown.below hB2
    have hel2 : ∀ y ∈ pre ++ [x], SlJ W2 y.2.1 y.1 := fun y hy => by
      rcases List.mem_append.1 hy with hy | hy
      · exact (KCs.below hB2).slj (hel y hy)
      · rw [List.mem_singleton.1 hy]; exact (KCs.below hB2).slj hPx.1
    have hk2 : KeepsFrom W0.heap.size W W2 := ⟨hB2.size, fun k o _ hk _ => (hB2.block k (Array.getElem?_eq_some_iff.1 hk).1).trans hk⟩
    have hkp2 : KpC W W2 := KpC.below hB2
    have hfl : (fltC hp pre).length ≤ 64 := Nat.le_trans (List.length_filter_le _ _) (by omega)
    cases hpx : hp x.1
    · have HF : Hid (fltC hp (pre ++ [x]) = fltC hp pre) := by unfold Hid fltC; rw [List.filter_append, List.filter_cons_of_neg (by simp [hpx])]; simp
      have HI : Hid (SomI w w1 hp (.func (.func hi) #[] hb) (pre ++ [x]) W2) := ⟨e3, ⟨v, eo, by rw [HF.out]; exact hown2⟩, hel2, hx2⟩
      clear c3 k3 ko hown hel hB HC
      gi_wp2
      exact ⟨hk2, hkp2, HI.out⟩
    · have HF : Hid (fltC hp (pre ++ [x]) = fltC hp pre ++ [x]) := by unfold Hid fltC; rw [List.filter_append, List.filter_cons_of_pos (by simp [hpx])]; simp
      have hq2 : ∀ j, v.ownBlock = some j → w1.heap.size + 1 ≤ j := fun j e => (hown2.lt j e).1
      have hcl : ∀ (j : Nat) (o : Obj), v.ownBlock = some j → (W2.alloc (.cells #[.slice x.2.1 x.1.length x.2.2] 30)).heap[j]? = some o → o.isCells = true := fun j o e h => own_cells (hown2.alloc _) e h
      have hnew := cell_one_at W2 (.slice x.2.1 x.1.length x.2.2) 30 W2.heap.size rfl
      have hW2 : w1.heap.size + 1 ≤ W2.heap.size := eo.lt
      have d6 := eo.at 0 rfl; have z6 := eo.frozen 0
      have hL1 : (fltC hp pre ++ [x]).length = (fltC hp pre).length + 1 := by simp
      have hown3 := hown2.alloc (.cells #[.slice x.2.1 x.1.length x.2.2] 30)
      clear c3 k3 ko hown hel hB HC
      gi_wp2_with (gi_at_builtin; refine wpListIn_append_own _ rfl _ _ 47 rfl (w1.heap.size + 1) 30 i0 (.slice none 0 0) 1 24 Tryz.underlying47 hi0 hz0 hz1 hz3 rfl (by decide) _ _ _ rfl hown3 ⟨W2.heap.size, 0, none⟩ 1 1 [.slice x.2.1 x.1.length x.2.2] rfl rfl hnew (by simp [Value.oneCell']) (by simp [maxLen]; omega) (by omega) (by simp; omega) ?_; intro v' w3 hown' hgrow _; obtain ⟨pv, mv, cv, rfl⟩ := own_shI hown'; have r6 := (eo.alloc (.cells #[.slice x.2.1 x.1.length x.2.2] 30)).grown hgrow (fun e => by have := hq2 _ e.symm; omega); have s6 := r6.at 0 rfl; have t6 := r6.frozen 0)
      gi_wp2
      have hkc : ∀ (B : Nat) (t : TypeId) (c : Array Value) (f : Nat × Nat), t ≠ 30 → t ≠ 47 → W2.heap[B]? = some (.cells c t f) → (w3.setCell ⟨w1.heap.size, 0, none⟩ (.slice pv mv cv)).heap[B]? = some (.cells c t f) := fun B t c f h1 h2 h => by
        have e1 : (W2.alloc (.cells #[.slice x.2.1 x.1.length x.2.2] 30)).heap[B]? = some (.cells c t f) := (Below.heap_alloc W2 _ B (Array.getElem?_eq_some_iff.1 h).1).trans h
        have e2 : w3.heap[B]? = some (.cells c t f) := (hgrow.block B (Array.getElem?_eq_some_iff.1 e1).1 (own_not hown3 e1 h1)).trans e1
        have hne' : B ≠ w1.heap.size := typed_ne e2 (show w3.heap[w1.heap.size]? = _ from r6) h2
        exact (Below.heap_setCell _ _ _ _ hne').trans e2
      refine ⟨hk2.trans ((((KeepsOthers.alloc W2 _).trans (KeepsOthers.of_grownBy hgrow hcl)).trans (KeepsOthers.setCell _ _ _)).from _), ?_, ⟨hkc _ _ _ _ (by decide) (by decide) e3, ⟨_, VRow.set (i := 0) _ r6, ?_⟩, fun y hy => ?_, ?_⟩⟩
      · exact fun i c t f ht h => hkc i t c f (by rcases ht with rfl | rfl | rfl <;> decide) (by rcases ht with rfl | rfl | rfl <;> decide) (hkp2 i c t f ht h)
      · rw [HF.out, hL1, List.map_append]
        exact ownsRow_setCell_below (a := ⟨w1.heap.size, 0, none⟩) hown' (show w1.heap.size < w1.heap.size + 1 by omega) _
      · exact slj_ty (fun i c f h => hkc i _ c f (by decide) (by decide) h) (hel2 y hy)
      · exact ((hx2.alloc hx2.size _).grown hgrow (Nat.le_trans hx2.size (by simp)) (fun j e => by have := hq2 _ e; omega)).setCell (show w.heap.size ≤ w1.heap.size from hxw) _
  case done =>
    rintro D xs W hD hxs ⟨k3, ⟨v, ko, hown⟩, hel, hB⟩ hK
    have HL : Hid ((fltC hp xs).map (·.1) = (compsA G).filter hp) := by
      unfold Hid fltC
      rw [← hxs, List.filter_map]; rfl
    obtain ⟨pv, cv, rfl, hsl⟩ := own_sl hown
    have hlen : (fltC hp xs).length = ((compsA G).filter hp).length := by rw [← HL.out, List.length_map]
    have d6 := ko.at 0 rfl
    gi_wp2
    refine ⟨by simp, .inl ⟨_, _, rfl, run_takeDeferred hK, ?_⟩⟩
    refine ⟨_, results_tmp2 (t := 4) (u := 5) rfl _ _ _, ?_⟩
    have hkc : KCs W (W.putObj D (.deferred none)) := fun i c t f e => by
      have hne : i ≠ D := by rintro rfl; rw [hK] at e; cases e
      exact (World.putObj_heap_other hne).trans e
    refine ⟨pv, cv, rfl, ⟨fltC hp xs, HL.out, ?_, fun x hx => hkc.slj (hel x (List.mem_filter.1 hx).1)⟩, below_put hB (by omega) hK _⟩
    obtain ⟨pv', cv', e', hs'⟩ := own_sl (hkc.own hown)
    cases e'; exact hs'
end Go.Proofs.YtocbhlohcikapaaGreatDoor
namespace Go.Proofs
open Go.Shelf
def Tryz.layContainsFE_ren : Go.Shelf.Ren := ⟨fun | 8 => 117 | 6 => 172 | n => n, fun | 22 => 22 | 23 => 44 | 25 => 136 | 4 => 4 | 3 => 3 | 0 => 0 | n => n, fun | n => n⟩
theorem Tryz.layContainsFE : Go.Proofs.SlLaysH0.n8 Tryz.prog Tryz.layContainsFE_ren := {
  mixed := by kernel_rfl
  f6 := ⟨Tryz.f172.name, by decide, Tryz.func172.trans (congrArg some (by kernel_rfl))⟩
  f8 := ⟨Tryz.f117.name, by decide, Tryz.func117.trans (congrArg some (by kernel_rfl))⟩
  t0 := Tryz.underlying0
  a0 := Tryz.isAgg0
  z0 := Tryz.sizeOf0
  v0 := Tryz.zeroValue0
  t3 := Tryz.underlying3
  a3 := Tryz.isAgg3
  z3 := Tryz.sizeOf3
  v3 := Tryz.zeroValue3
  t4 := Tryz.underlying4
  a4 := Tryz.isAgg4
  z4 := Tryz.sizeOf4
  v4 := Tryz.zeroValue4
  t22 := Tryz.underlying22
  a22 := Tryz.isAgg22
  z22 := Tryz.sizeOf22
  v22 := Tryz.zeroValue22
  t25 := Tryz.underlying136
  a25 := Tryz.isAgg136
  z25 := Tryz.sizeOf136
  v25 := Tryz.zeroValue136 }
end Go.Proofs
namespace Go.Proofs.YtocbhlohcikapaaGreatDoor
open Go.RowKit Go.Sort Go.Shelf Go.Lib

theorem sg_bang {w : World} {b off : Nat} {l : List Ed} (hc : ∀ i (h : i < l.length) j, j < 3 → w.cell? ⟨b, off + i * 3 + j, none⟩ = (edE l[i])[j]?) :
    ∀ j, j < l.length → ∀ i v, (edE l[j]!)[i]? = some v → w.cell? ⟨b, off + j * 3 + i, none⟩ = some v := fun j hj i v hv => by
  rw [getElem!_pos l j hj] at hv
  have hi : i < 3 := by
    have := (List.getElem?_eq_some_iff.1 hv).1
    simpa [edE] using this
  rw [hc j hj i hi, hv]
theorem containsFE_any (f : Ed → Bool) (g : Nat) (lb : Array Value) (eg : ∀ args w, (callFunc g args).run Tryz.prog w = .ok (.enter g args) w) (l : List Ed) (p : Option Addr) (c : Nat) (w : World)
    (hp : ∀ (W : World) (x : Ed), RowKit.Below w.heap.size w W → Calls Tryz.prog g (#[.agg #[.int .i64 x.f, .int .i64 x.l, .int .i64 x.t]] ++ lb) W fun e w' => e = .returned (.bool (f x)) ∧ RowKit.Below w.heap.size w w')
    (hl : Sg 3 w edE p l) (h0 : 0 < l.length) (hb : l.length ≤ 100000) :
    Calls Tryz.prog 117 #[.slice p l.length c, .func (.func g) #[] lb] w fun e w' => e = .returned (.bool (l.any f)) ∧ RowKit.Below w.heap.size w w' := by
  obtain ⟨b, off, rfl, hlt, hc⟩ := hl.get 0 h0
  have h := AnyQ.slices_ContainsFunc Tryz.layContainsFE 3 isAggE sizeOfE edE (fun _ => rfl) f g lb eg b off l.length c l w hp (Nat.le_refl _) (by omega) hlt (sg_bang hc)
  rw [List.take_length] at h
  exact h
end Go.Proofs.YtocbhlohcikapaaGreatDoor
namespace Go.Proofs.YtocbhlohcikapaaGreatDoor
open Go.RowKit Go.Shelf

theorem indexFE_empty (a : Option Addr) (c : Nat) (fv : Value) (w : World) : Calls Tryz.prog 172 #[.slice a 0 c, fv] w fun e w' => e = .returned (.int .i64 (-1)) ∧ w' = w := by
  go_enter Tryz.func172, Tryz.ntmps172
  go_wp2
  go_loop [8] (fun i => i = .int .i64 0) (fun _ => 0)
  case atStart => rfl
  case round =>
    obtain rfl := hrel
    go_wp2
    go_ret
    exact ⟨rfl, rfl⟩
theorem containsFE_empty (a : Option Addr) (c : Nat) (fv : Value) (w : World) : Calls Tryz.prog 117 #[.slice a 0 c, fv] w fun e w' => e = .returned (.bool false) ∧ w' = w := by
  have HI := hidI (indexFE_empty a c fv w)
  go_enter Tryz.func117, Tryz.ntmps117
  go_wp2_with fail
  refine HI.out.mono ?_
  rintro e w1 ⟨rfl, rfl⟩
  go_wp2
  go_ret
  exact ⟨rfl, rfl⟩
/-- Whether a number is in a list. -/
theorem containsI_any (l : List Int) (p : Option Addr) (c : Nat) (x : Int) (w : World) (hs : Sl w (Value.int .i64) p l) (hl : l.length ≤ 9223372036854775807) :
    Calls Tryz.prog 56 #[.slice p l.length c, .int .i64 x] w fun e w' => e = .returned (.bool (decide (x ∈ l))) ∧ w' = w := by
  by_cases h0 : l.length = 0
  · obtain rfl : l = [] := List.eq_nil_of_length_eq_zero h0
    refine (Tryz.slices_Contains_int_empty p c x w).mono ?_
    rintro e w' ⟨rfl, rfl⟩
    exact ⟨by simp, rfl⟩
  · obtain ⟨b, off, rfl, _, hc⟩ := hs.get 0 (by omega)
    refine (Tryz.slices_Contains_int b off l.length c l x w (Nat.le_refl _) hl (fun j hj => by rw [hc j hj]; simp [List.getD, hj])).mono ?_
    rintro e w' ⟨rfl, rfl⟩
    refine ⟨?_, rfl⟩
    rw [List.take_length]
    congr 2
    rw [Bool.eq_iff_iff, List.contains_iff_mem, decide_eq_true_eq]
/-! ### The components of which something holds -/
def somA (G : Gr) (hp : List Int → Bool) : List (List Int) × Int := if chkG G = 0 then ((compsA G).filter hp, 0) else ([], 1)
set_option maxRecDepth 100000 in
theorem some_any (G : Gr) (p : Option Addr) (c hi : Nat) (hb : Array Value) (hp : List Int → Bool) (w : World) (hin : Sg 3 w edE p G.es) (hl : G.es.length ≤ 9223372036854775807) (eg : ∀ args w, (callFunc hi args).run Tryz.prog w = .ok (.enter hi args) w)
    (hH : chkG G = 0 → ∀ (x : LEc) W, RowKit.Below w.heap.size w W → PxC 64 x W → Calls Tryz.prog hi (#[lcV x] ++ hb) W fun e W' => e = .returned (.bool (hp x.1)) ∧ RowKit.Below W.heap.size W W') :
    Calls Tryz.prog 115 #[(.agg #[.int .i64 G.q, .int .i64 G.n, .slice p G.es.length c]), .func (.func hi) #[] hb] w (RetLL (somA G hp).1 (somA G hp).2 w) := by
  obtain ⟨r, hr⟩ : ∃ r, chkG G = r := ⟨_, rfl⟩
  by_cases hr0 : r = 0
  · subst hr0
    have : somA G hp = ((compsA G).filter hp, 0) := if_pos hr
    rw [this]
    exact callsIn_wide.1 (some_in G p c hi hb hp w hin (chkG_ok.1 hr) eg (hH hr))
  · have HK : Hid (somA G hp = ([], 1)) := if_neg (by rw [hr]; exact hr0)
    rw [HK.out]
    obtain ⟨w0, hw0⟩ : ∃ w0, w0 = (w.alloc (.cells #[.int .i64 G.q, .int .i64 G.n, .slice p G.es.length c] 24)).alloc (.cells #[.func (.func hi) #[] hb] 51) := ⟨_, rfl⟩
    have b0 : VRow w0 w.heap.size 24 [.int .i64 G.q, .int .i64 G.n, .slice p G.es.length c] := by subst hw0; exact (VRow.new w _ _).alloc _
    have hB0 : RowKit.Below w.heap.size w w0 := by subst hw0; exact ((RowKit.Below.refl _ _).alloc (Nat.le_refl _) _).alloc (by simp) _
    have HCK := hidI (gCheck_r G p c w0 r hr (hin.below hB0) hl)
    have hrb : (r != 0) = true := by simpa using hr0
    have f0 := b0.at 0 rfl; have f1 := b0.at 1 rfl; have f2 := b0.at 2 rfl
    clear hr hin b0
    go_enter Tryz.func115, Tryz.ntmps115
    go_upto_region 1 with fail
    rw [← hw0]
    clear hw0
    go_wp2_with fail
    refine HCK.out.mono ?_
    rintro e w1 ⟨rfl, hB1⟩
    have x1 := hB0.trans (hB1.mono hB0.size)
    clear f0 f1 f2
    go_wp2
    go_ret2
    exact RetLL.nil rfl x1
theorem of1_any (x : LEc) (W : World) : Calls Tryz.prog 159 #[lcV x] W fun e W' => e = .returned (.bool true) ∧ RowKit.Below W.heap.size W W' := by
  unfold lcV
  go_enter Tryz.func159, Tryz.ntmps159
  go_wp2
  go_ret
  exact ⟨rfl, RowKit.Below.refl _ _⟩
def ofA (G : Gr) : List (List Int) × Int := if chkG G = 0 then (compsA G, 0) else ([], 1)
theorem som_of (G : Gr) : somA G (fun _ => true) = ofA G := by unfold somA ofA; rw [List.filter_eq_self.2 (fun _ _ => rfl)]
set_option maxRecDepth 100000 in
theorem of_any (G : Gr) (p : Option Addr) (c : Nat) (w : World) (hin : Sg 3 w edE p G.es) (hl : G.es.length ≤ 9223372036854775807) :
    Calls Tryz.prog 107 #[(.agg #[.int .i64 G.q, .int .i64 G.n, .slice p G.es.length c])] w (RetLL (ofA G).1 (ofA G).2 w) := by
  obtain ⟨w0, hw0⟩ : ∃ w0, w0 = w.alloc (.cells #[.int .i64 G.q, .int .i64 G.n, .slice p G.es.length c] 24) := ⟨_, rfl⟩
  have b0 : VRow w0 w.heap.size 24 [.int .i64 G.q, .int .i64 G.n, .slice p G.es.length c] := by subst hw0; exact VRow.new w _ _
  have hB0 : RowKit.Below w.heap.size w w0 := by subst hw0; exact (RowKit.Below.refl _ _).alloc (Nat.le_refl _) _
  have HS := hidI (some_any G p c 159 #[] (fun _ => true) w0 (hin.below hB0) hl (enters_of Tryz.func159 (by kernel_rfl) rfl) (fun _ x W _ _ => of1_any x W))
  rw [som_of] at HS
  have f0 := b0.at 0 rfl; have f1 := b0.at 1 rfl; have f2 := b0.at 2 rfl
  generalize ofA G = r at *
  clear hin b0
  go_enter Tryz.func107, Tryz.ntmps107
  go_upto_region 1 with fail
  rw [← hw0]
  clear hw0
  go_wp2_with fail
  refine HS.out.mono ?_
  rintro e w1 ⟨q, d, rfl, hs, hB1⟩
  clear f0 f1 f2
  go_wp2
  go_ret2
  exact ⟨q, d, rfl, hs, hB0.trans (hB1.mono hB0.size)⟩
/-! ### The components that no edge leaves -/
set_option maxRecDepth 100000 in
theorem sinks11_any (x : Ed) (l : List Int) (q : Option Addr) (d B : Nat) (W : World) (hB : VRow W B 30 [.slice q l.length d]) (hs : Sl W (Value.int .i64) q l) (hl : l.length ≤ 64) :
    Calls Tryz.prog 118 #[.agg #[.int .i64 x.f, .int .i64 x.l, .int .i64 x.t], .pointer (some ⟨B, 0, none⟩)] W fun e W' => e = .returned (.bool (decide (x.f ∈ l) && !decide (x.t ∈ l))) ∧ RowKit.Below W.heap.size W W' := by
  obtain ⟨w0, hw0⟩ : ∃ w0, w0 = W.alloc (.cells #[.int .i64 x.f, .int .i64 x.l, .int .i64 x.t] 44) := ⟨_, rfl⟩
  have b0 : VRow w0 W.heap.size 44 [.int .i64 x.f, .int .i64 x.l, .int .i64 x.t] := by subst hw0; exact VRow.new W _ _
  have hB0 : RowKit.Below W.heap.size W w0 := by subst hw0; exact (RowKit.Below.refl _ _).alloc (Nat.le_refl _) _
  have hc := (hB.below hB0 hB.lt).at 0 rfl
  have H1 := hidI (containsI_any l q d x.f w0 (hs.below hB0) (by omega))
  have H2 := hidI (containsI_any l q d x.t w0 (hs.below hB0) (by omega))
  have f0 := b0.at 0 rfl; have f2 := b0.at 2 rfl
  generalize decide (x.f ∈ l) = a at *
  generalize decide (x.t ∈ l) = b at *
  clear hs hB b0
  cases a
  · go_enter Tryz.func118, Tryz.ntmps118
    go_upto_region 1 with fail
    rw [← hw0]
    clear hw0
    go_wp2_with fail
    refine H1.out.mono ?_
    rintro e w1 ⟨rfl, hw1⟩
    have hB1 : RowKit.Below W.heap.size W w1 := by rw [hw1]; exact hB0
    clear f0 f2 hc hw1
    go_wp2
    go_ret
    exact ⟨rfl, hB1⟩
  · go_enter Tryz.func118, Tryz.ntmps118
    go_upto_region 1 with fail
    rw [← hw0]
    clear hw0
    go_wp2_with fail
    refine H1.out.mono ?_
    rintro e w1 ⟨rfl, hw1⟩
    replace hw1 := hw1.symm
    subst hw1
    go_wp2_with fail
    refine H2.out.mono ?_
    rintro e w2 ⟨rfl, hw2⟩
    have hB1 : RowKit.Below W.heap.size W w2 := by rw [hw2]; exact hB0
    clear f0 f2 hc hw2
    go_wp2
    go_ret
    exact ⟨by cases b <;> rfl, hB1⟩
set_option maxRecDepth 100000 in
theorem sinks1_any (G : Gr) (p : Option Addr) (c Bg : Nat) (x : LEc) (W : World) (hg : VRow W Bg 24 [.int .i64 G.q, .int .i64 G.n, .slice p G.es.length c]) (hin : Sg 3 W edE p G.es) (hl : G.es.length ≤ 1024) (hx : PxC 64 x W) :
    Calls Tryz.prog 116 #[lcV x, .pointer (some ⟨Bg, 0, none⟩)] W fun e W' => e = .returned (.bool (sinkB G x.1)) ∧ RowKit.Below W.heap.size W W' := by
  obtain ⟨⟨hsl, _⟩, hx64⟩ := hx
  obtain ⟨l, q, d⟩ := x
  change Sl W (Value.int .i64) q l at hsl
  change l.length ≤ 64 at hx64
  obtain ⟨w0, hw0⟩ : ∃ w0, w0 = W.alloc (.cells #[.slice q l.length d] 30) := ⟨_, rfl⟩
  have b0 : VRow w0 W.heap.size 30 [.slice q l.length d] := by subst hw0; exact VRow.new W _ _
  have hB0 : RowKit.Below W.heap.size W w0 := by subst hw0; exact (RowKit.Below.refl _ _).alloc (Nat.le_refl _) _
  have f2 := (hg.below hB0 hg.lt).at 2 rfl
  have HS : Hid (sinkB G l = !G.es.any (fun x => decide (x.f ∈ l) && !decide (x.t ∈ l))) := rfl
  have HP : ∀ (V : World) (y : Ed), RowKit.Below w0.heap.size w0 V → Calls Tryz.prog 118 (#[.agg #[.int .i64 y.f, .int .i64 y.l, .int .i64 y.t]] ++ #[.pointer (some ⟨W.heap.size, 0, none⟩)]) V fun e w' => e = .returned (.bool (decide (y.f ∈ l) && !decide (y.t ∈ l))) ∧ RowKit.Below w0.heap.size w0 w' := fun V y hV =>
    (sinks11_any y l q d W.heap.size V (b0.below hV b0.lt) ((hsl.below hB0).below hV) hx64).mono fun _ _ ⟨h1, h2⟩ => ⟨h1, hV.trans (h2.mono hV.size)⟩
  have HC : Hid (Calls Tryz.prog 117 #[.slice p G.es.length c, .func (.func 118) #[] #[.pointer (some ⟨W.heap.size, 0, none⟩)]] w0 fun e w' => e = .returned (.bool (G.es.any (fun x => decide (x.f ∈ l) && !decide (x.t ∈ l)))) ∧ RowKit.Below w0.heap.size w0 w') := by
    by_cases h0 : G.es.length = 0
    · have he : G.es = [] := List.eq_nil_of_length_eq_zero h0
      rw [he]
      refine (containsFE_empty p c _ w0).mono ?_
      rintro e w' ⟨rfl, rfl⟩
      exact ⟨rfl, RowKit.Below.refl _ _⟩
    · exact containsFE_any (fun x => decide (x.f ∈ l) && !decide (x.t ∈ l)) 118 #[.pointer (some ⟨W.heap.size, 0, none⟩)] (enters_of Tryz.func118 (by kernel_rfl) rfl) G.es p c w0 HP (hin.below hB0) (by omega) (by omega)
  show Calls Tryz.prog 116 #[.slice q l.length d, .pointer (some ⟨Bg, 0, none⟩)] W fun e W' => e = .returned (.bool (sinkB G l)) ∧ RowKit.Below W.heap.size W W'
  generalize G.es.any (fun x => decide (x.f ∈ l) && !decide (x.t ∈ l)) = r at *
  clear HP hsl hin hg b0
  go_enter Tryz.func116, Tryz.ntmps116
  go_upto_region 1 with fail
  rw [← hw0]
  clear hw0
  go_wp2_with fail
  refine HC.out.mono ?_
  rintro e w1 ⟨rfl, hB1⟩
  have x1 := hB0.trans (hB1.mono hB0.size)
  clear f2
  go_wp2
  go_ret
  exact ⟨ret_bool HS.out.symm, x1⟩
def snkA (G : Gr) : List (List Int) × Int := if chkG G = 0 then (sinksA G, 0) else ([], 1)
set_option maxRecDepth 100000 in
theorem sinks_any (G : Gr) (p : Option Addr) (c : Nat) (w : World) (hin : Sg 3 w edE p G.es) (hl : G.es.length ≤ 9223372036854775807) :
    Calls Tryz.prog 53 #[(.agg #[.int .i64 G.q, .int .i64 G.n, .slice p G.es.length c])] w (RetLL (snkA G).1 (snkA G).2 w) := by
  obtain ⟨w0, hw0⟩ : ∃ w0, w0 = w.alloc (.cells #[.int .i64 G.q, .int .i64 G.n, .slice p G.es.length c] 24) := ⟨_, rfl⟩
  have b0 : VRow w0 w.heap.size 24 [.int .i64 G.q, .int .i64 G.n, .slice p G.es.length c] := by subst hw0; exact VRow.new w _ _
  have hB0 : RowKit.Below w.heap.size w w0 := by subst hw0; exact (RowKit.Below.refl _ _).alloc (Nat.le_refl _) _
  have HS := hidI (some_any G p c 116 #[.pointer (some ⟨w.heap.size, 0, none⟩)] (sinkB G) w0 (hin.below hB0) hl (enters_of Tryz.func116 (by kernel_rfl) rfl)
    (fun hc x W hW hx => sinks1_any G p c w.heap.size x W (b0.below hW b0.lt) ((hin.below hB0).below hW) (chkG_ok.1 hc).len hx))
  have e : somA G (sinkB G) = snkA G := rfl
  rw [e] at HS
  have f0 := b0.at 0 rfl; have f1 := b0.at 1 rfl; have f2 := b0.at 2 rfl
  generalize snkA G = r at *
  clear hin b0 e
  go_enter Tryz.func53, Tryz.ntmps53
  go_upto_region 1 with fail
  rw [← hw0]
  clear hw0
  go_wp2_with fail
  refine HS.out.mono ?_
  rintro e w1 ⟨q, d, rfl, hs, hB1⟩
  clear f0 f1 f2
  go_wp2
  go_ret2
  exact ⟨q, d, rfl, hs, hB0.trans (hB1.mono hB0.size)⟩
/-! ### One component alone -/
set_option maxRecDepth 100000 in
theorem irr_any (G : Gr) (p : Option Addr) (c : Nat) (w : World) (hin : Sg 3 w edE p G.es) (hl : G.es.length ≤ 9223372036854775807) :
    Calls Tryz.prog 45 #[(.agg #[.int .i64 G.q, .int .i64 G.n, .slice p G.es.length c])] w fun e w' => e = .returned (.tuple #[.bool (decide (chkG G = 0) && irrA G), .int .i64 (ofA G).2]) ∧ RowKit.Below w.heap.size w w' := by
  obtain ⟨w0, hw0⟩ : ∃ w0, w0 = w.alloc (.cells #[.int .i64 G.q, .int .i64 G.n, .slice p G.es.length c] 24) := ⟨_, rfl⟩
  have b0 : VRow w0 w.heap.size 24 [.int .i64 G.q, .int .i64 G.n, .slice p G.es.length c] := by subst hw0; exact VRow.new w _ _
  have hB0 : RowKit.Below w.heap.size w w0 := by subst hw0; exact (RowKit.Below.refl _ _).alloc (Nat.le_refl _) _
  have HO := hidI (of_any G p c w0 (hin.below hB0) hl)
  have f0 := b0.at 0 rfl; have f1 := b0.at 1 rfl; have f2 := b0.at 2 rfl
  have HB0 := hidI b0
  by_cases hc : chkG G = 0
  · have e1 : ofA G = (compsA G, 0) := if_pos hc
    rw [e1] at HO ⊢
    have HI : Hid ((decide (chkG G = 0) && irrA G) = (decide ((compsA G).length = 1) && decide (0 < G.es.length))) := by unfold Hid irrA; rw [decide_eq_true hc, Bool.true_and]
    rw [HI.out]
    generalize compsA G = L at *
    by_cases h1 : L.length = 1
    · have d1 : ((L.length : Int) == 1) = true := by simp [h1]
      have d2 : decide (L.length = 1) = true := decide_eq_true h1
      rw [d2, Bool.true_and]
      clear hc h1 hin b0 e1 d2
      go_enter Tryz.func45, Tryz.ntmps45
      go_upto_region 1 with fail
      rw [← hw0]
      clear hw0
      go_wp2_with fail
      refine HO.out.mono ?_
      rintro e w1 ⟨q, d, rfl, hs, hB1⟩
      have g2 := (HB0.out.below hB1 HB0.out.lt).at 2 rfl
      have x1 := hB0.trans (hB1.mono hB0.size)
      clear f0 f1 f2 hs
      go_wp2
      go_ret2
      exact ⟨rfl, x1⟩
    · have d1 : ((L.length : Int) == 1) = false := by simp; omega
      have d2 : decide (L.length = 1) = false := decide_eq_false h1
      rw [d2, Bool.false_and]
      clear hc h1 hin b0 e1 d2
      go_enter Tryz.func45, Tryz.ntmps45
      go_upto_region 1 with fail
      rw [← hw0]
      clear hw0
      go_wp2_with fail
      refine HO.out.mono ?_
      rintro e w1 ⟨q, d, rfl, hs, hB1⟩
      have x1 := hB0.trans (hB1.mono hB0.size)
      clear f0 f1 f2 hs
      go_wp2
      go_ret2
      exact ⟨rfl, x1⟩
  · have e1 : ofA G = ([], 1) := if_neg hc
    rw [e1] at HO ⊢
    rw [decide_eq_false hc, Bool.false_and]
    clear hc hin b0 e1
    go_enter Tryz.func45, Tryz.ntmps45
    go_upto_region 1 with fail
    rw [← hw0]
    clear hw0
    go_wp2_with fail
    refine HO.out.mono ?_
    rintro e w1 ⟨q, d, rfl, hs, hB1⟩
    have x1 := hB0.trans (hB1.mono hB0.size)
    clear f0 f1 f2 hs
    go_wp2
    go_ret2
    exact ⟨rfl, x1⟩
end Go.Proofs.YtocbhlohcikapaaGreatDoor
namespace Go.Proofs.YtocbhlohcikapaaGreatDoor
open Go.RowKit Go.Sort Go.Shelf Go.Lib

theorem sortI_any (l : List Int) (B n : Nat) (v : Value) (w : World) (h : w.ownsRow B 3 1 v n (l.map (Value.int .i64))) (hn : n ≤ 100000) :
    Calls Tryz.prog 102 #[v] w fun e w' => e = .returned (.tuple #[]) ∧ w'.ownsRow B 3 1 v n ((l.mergeSort fun x y => decide (x ≤ y)).map (Value.int .i64)) ∧ w.grownBy w' v.ownBlock := by
  have hl : l.length = n := by have := h.1; simpa using this
  subst hl
  rcases h.2 with ⟨rfl, h0⟩ | ⟨g, cap, cur, rfl, hg, hh, hc, hm, hs, ht⟩
  · have : l = [] := List.length_eq_zero_iff.1 h0
    subst this
    refine (Tryz.slices_Sort_int_none none 0 w).mono ?_
    rintro e w' ⟨rfl, rfl⟩
    exact ⟨rfl, by simpa using h, rfl, rfl, rfl, Nat.le_refl _, fun _ _ _ => rfl⟩
  · refine (Tryz.slices_Sort_int g 0 cap l w (holds_of_blockI hh (by simpa using ht)) (Array.getElem?_eq_some_iff.1 hh).1 (by omega)).mono ?_
    rintro e w' ⟨rfl, q, os, rfl⟩
    exact ⟨rfl, ownsRow_sortedI (List.length_mergeSort _) hg hh hc hm hs, grownBy_sortedI _⟩
theorem compactI_any (l : List Int) (B n : Nat) (v : Value) (w : World) (h : w.ownsRow B 3 1 v n (l.map (Value.int .i64))) (hn : n ≤ 100000) (hk : (Lib.compact l).length ≤ l.length) :
    Calls Tryz.prog 103 #[v] w fun e w' => ∃ v', e = .returned v' ∧ w'.ownsRow B 3 1 v' (Lib.compact l).length ((Lib.compact l).map (Value.int .i64)) ∧ w.grownBy w' v.ownBlock := by
  have hl : l.length = n := by have := h.1; simpa using this
  subst hl
  rcases h.2 with ⟨rfl, h0⟩ | ⟨g, cap, cur, rfl, hg, hh, hc, hm, hs, ht⟩
  · have : l = [] := List.length_eq_zero_iff.1 h0
    subst this
    refine (Tryz.slices_Compact_int_empty none 0 w).mono ?_
    rintro e w' ⟨rfl, rfl⟩
    have e : Lib.compact ([] : List Int) = [] := rfl
    rw [e]
    exact ⟨_, rfl, by simpa using h, rfl, rfl, rfl, Nat.le_refl _, fun _ _ _ => rfl⟩
  · refine (Tryz.slices_Compact_int g 0 cap l w (holds_of_blockI hh (by simpa using ht)) (by omega) hc).mono ?_
    rintro e w' ⟨rfl, q, rfl⟩
    have hb := grownBy_sortedI (w := w) (g := g) (n := q) (os := #[]) (Lib.compact l ++ List.replicate (l.length - (Lib.compact l).length) 0).toArray
    have hp := heap_sortedI (g := g) (n := q) (os := #[]) (Lib.compact l ++ List.replicate (l.length - (Lib.compact l).length) 0).toArray hh
    rw [grow_empty] at hb hp
    refine ⟨_, rfl, ⟨by simp, .inr ⟨g, cap, _, rfl, hg, hp, by omega, hm, by simp [putCells, hs], ?_⟩⟩, hb⟩
    have h1 := take_putCellsI cur (Lib.compact l ++ List.replicate (l.length - (Lib.compact l).length) 0) (by simp; omega)
    have h2 := congrArg (List.take (Lib.compact l).length) h1
    rw [List.take_take, List.map_append, List.take_append_of_le_length (by simp), Nat.min_eq_left (by simp)] at h2
    rw [Nat.mul_one, h2, ← List.length_map (Value.int .i64), List.take_length]
end Go.Proofs.YtocbhlohcikapaaGreatDoor
namespace Go.Proofs.YtocbhlohcikapaaGreatDoor
open Go.RowKit

theorem cmpt_inv (d : Array Int) (hs : ∀ i j, i ≤ j → j < d.size → d[i]! ≤ d[j]!) : ∀ m, m ≤ d.size → (Lib.compactUpTo d m).Pairwise (· < ·) ∧ ∀ x, x ∈ Lib.compactUpTo d m ↔ ∃ i, i < m ∧ d[i]! = x
  | 0, _ => ⟨by simp [Lib.compactUpTo], by simp [Lib.compactUpTo]⟩
  | m + 1, hm => by
    obtain ⟨h1, h2⟩ := cmpt_inv d hs m (by omega)
    rw [Lib.compactUpTo_succ]
    by_cases hk : Lib.keeps d m = true
    · rw [if_pos hk]
      refine ⟨List.pairwise_append.2 ⟨h1, by simp, fun a ha b hb => ?_⟩, fun x => ?_⟩
      · rw [List.mem_singleton] at hb
        subst hb
        obtain ⟨i, hi, rfl⟩ := (h2 a).1 ha
        have hne : m = 0 ∨ d[m]! ≠ d[m - 1]! := by simpa [Lib.keeps] using hk
        have hne : d[m]! ≠ d[m - 1]! := hne.resolve_left (by omega)
        have a1 := hs i (m - 1) (by omega) (by omega)
        have a2 := hs (m - 1) m (by omega) (by omega)
        omega
      · rw [List.mem_append, h2, List.mem_singleton]
        constructor
        · rintro (⟨i, hi, e⟩ | e)
          · exact ⟨i, by omega, e⟩
          · exact ⟨m, by omega, e.symm⟩
        · rintro ⟨i, hi, e⟩
          by_cases him : i = m
          · subst him; exact .inr e.symm
          · exact .inl ⟨i, by omega, e⟩
    · rw [if_neg hk, List.append_nil]
      have hne : ¬ (m = 0 ∨ d[m]! ≠ d[m - 1]!) := by simpa [Lib.keeps] using hk
      have h0 : m ≠ 0 := fun e => hne (.inl e)
      have he : d[m]! = d[m - 1]! := Classical.byContradiction (fun e => hne (.inr e))
      refine ⟨h1, fun x => ?_⟩
      rw [h2]
      constructor
      · rintro ⟨i, hi, e⟩; exact ⟨i, by omega, e⟩
      · rintro ⟨i, hi, e⟩
        by_cases him : i = m
        · subst him; exact ⟨i - 1, by omega, by rw [← he]; exact e⟩
        · exact ⟨i, by omega, e⟩
theorem sort_compact (l : List Int) : (Lib.compact (l.mergeSort fun x y => decide (x ≤ y))).Pairwise (· < ·) ∧ ∀ x, x ∈ Lib.compact (l.mergeSort fun x y => decide (x ≤ y)) ↔ x ∈ l := by
  have hsrt : (l.mergeSort fun x y => decide (x ≤ y)).Pairwise (fun x y => x ≤ y) := by
    have := List.pairwise_mergeSort (le := fun (x y : Int) => decide (x ≤ y)) (fun a b c h1 h2 => by simp at *; omega) (fun a b => by simp; omega) l
    exact this.imp (fun h => by simpa using h)
  have hmem : ∀ x, x ∈ (l.mergeSort fun x y => decide (x ≤ y)) ↔ x ∈ l := fun x => List.mem_mergeSort
  generalize (l.mergeSort fun x y => decide (x ≤ y)) = z at *
  have hs : ∀ i j, i ≤ j → j < z.toArray.size → z.toArray[i]! ≤ z.toArray[j]! := by
    intro i j hij hj
    have hj' : j < z.length := by simpa using hj
    rw [getElem!_pos z.toArray i (by simp; omega), getElem!_pos z.toArray j hj]
    by_cases e : i = j
    · subst e; exact Int.le_refl _
    · have := List.pairwise_iff_getElem.1 hsrt i j (by omega) hj' (by omega)
      simpa using this
  obtain ⟨h1, h2⟩ := cmpt_inv z.toArray hs z.length (by simp)
  refine ⟨h1, fun x => ?_⟩
  rw [← hmem x]
  show x ∈ Lib.compactUpTo z.toArray z.length ↔ _
  rw [h2]
  constructor
  · rintro ⟨i, hi, rfl⟩
    rw [getElem!_pos z.toArray i (by simpa using hi)]
    simp
  · intro hx
    obtain ⟨i, hi, e⟩ := List.mem_iff_getElem.1 hx
    exact ⟨i, hi, by rw [getElem!_pos z.toArray i (by simpa using hi)]; simpa using e⟩
/-- What the program's step returns is what the reference finds. -/
theorem step_sorted {G : Gr} {st : List Int} {b : Int} (hv : Vg G) : Lib.compact ((stepL G.es st b).mergeSort fun x y => decide (x ≤ y)) = nextA G st b :=
  step_law hv (sort_compact _).1 (sort_compact _).2
end Go.Proofs.YtocbhlohcikapaaGreatDoor
namespace Go.Proofs.YtocbhlohcikapaaGreatDoor
open Go.RowKit

/-! ### Marks among the deferred calls -/
/-- Cells are as they were; nothing below B has turned. -/
structure KC (B : Nat) (W W' : World) : Prop where
  below : Below B W W'
  cells : ∀ (k : Nat) (o : Obj), W.heap[k]? = some o → o.isCells = true → W'.heap[k]? = some o
theorem KC.refl (B : Nat) (W : World) : KC B W W := ⟨Below.refl _ _, fun _ _ h _ => h⟩
theorem KC.trans {B : Nat} {X Y Z : World} (h : KC B X Y) (k : KC B Y Z) : KC B X Z := ⟨h.below.trans k.below, fun i o hi ho => k.cells i o (h.cells i o hi ho) ho⟩
theorem KC.sl {α : Type} {B : Nat} {W W' : World} {enc : α → Value} {p : Option Addr} {l : List α} (h : KC B W W') (hs : Sl W enc p l) : Sl W' enc p l := by
  rcases hs with hs | ⟨b, off, hp, hb, hc⟩
  · exact .inl hs
  · by_cases hl : l = []
    · exact .inl hl
    · refine .inr ⟨b, off, hp, Nat.lt_of_lt_of_le hb h.below.size, fun i hi => ?_⟩
      obtain ⟨o, ho, hk⟩ := cells_of_cell (hc i hi)
      exact (World.cell?_of_block (w := W) (a := ⟨b, off + i, none⟩) ((h.cells b o ho hk).trans ho.symm)).trans (hc i hi)
def Marks (B : Nat) (W : World) : List Deferred → Prop
  | [] => True
  | d :: ds => (∃ D, d = { target := .collected D, args := #[] } ∧ B ≤ D ∧ W.heap[D]? = some (.deferred (some [])) ∧ ∀ d' ∈ ds, d'.target ≠ .collected D) ∧ Marks B W ds
theorem Marks.lt {B : Nat} {W : World} : ∀ {ds : List Deferred}, Marks B W ds → ∀ d ∈ ds, ∃ D, d.target = .collected D ∧ D < W.heap.size
  | [], _, _, h => by cases h
  | _ :: _, ⟨⟨D, hd, _, hk, _⟩, hr⟩, d', h => by
    rcases List.mem_cons.1 h with h | h
    · subst h; subst hd; exact ⟨D, rfl, (Array.getElem?_eq_some_iff.1 hk).1⟩
    · exact Marks.lt hr d' h
theorem Marks.keep {B : Nat} {W W' : World} : ∀ {ds : List Deferred}, Marks B W ds → (∀ D, B ≤ D → W.heap[D]? = some (.deferred (some [])) → (∃ d ∈ ds, d.target = .collected D) → W'.heap[D]? = some (.deferred (some []))) → Marks B W' ds
  | [], _, _ => trivial
  | _ :: _, ⟨⟨D, hd, hB, hk, hn⟩, hr⟩, h =>
    ⟨⟨D, hd, hB, h D hB hk ⟨_, List.mem_cons_self, by rw [hd]⟩, hn⟩, hr.keep (fun D' h1 h2 ⟨d, hd', ht⟩ => h D' h1 h2 ⟨d, List.mem_cons_of_mem _ hd', ht⟩)⟩
theorem Marks.others {B : Nat} {W W' : World} {ds : List Deferred} (h : Marks B W ds) (k : KeepsOthers W W') : Marks B W' ds := h.keep (fun D _ hk _ => k.same D _ hk rfl)
theorem Marks.cons {B D : Nat} {W : World} {ds : List Deferred} (h : Marks B W ds) (hB : B ≤ D) (hk : W.heap[D]? = some (.deferred (some []))) (hn : ∀ d ∈ ds, ∃ D', d.target = .collected D' ∧ D' < D) :
    Marks B W ({ target := .collected D, args := #[] } :: ds) :=
  ⟨⟨D, rfl, hB, hk, fun d hd e => by
    obtain ⟨D', h1, h2⟩ := hn d hd
    rw [h1] at e; cases e; omega⟩, h⟩
theorem leaves_marks {F : Fence} {n : Nat} {P : Program} {fn : Func} {tmps : Array Value} {R : Ending → World → Prop} {B : Nat} :
    ∀ (ds : List Deferred) (W : World), Marks B W ds → (∀ W', KC B W W' → LeavesInM F n P fn tmps R [] .returning W') → LeavesInM F n P fn tmps R ds .returning W
  | [], W, _, h => h W (KC.refl _ _)
  | d :: ds, W, ⟨⟨D, hd, hB, hk, hn⟩, hr⟩, h => by
    subst hd
    have hp : KC B W (W.putObj D (.deferred none)) := by
      refine ⟨⟨rfl, rfl, rfl, by simp, fun i hi => World.putObj_heap_other (by omega)⟩, fun i o hi ho => ?_⟩
      rw [World.putObj_heap_other (by rintro rfl; rw [hk] at hi; cases hi; cases ho)]
      exact hi
    refine ⟨by simp, .inl ⟨D, _, rfl, run_takeDeferred hk, ?_⟩⟩
    refine leaves_marks ds _ (hr.keep (fun D' _ hk' hm => ?_)) (fun W' hW' => h W' (hp.trans hW'))
    obtain ⟨d', hd', ht⟩ := hm
    rw [World.putObj_heap_other (by rintro rfl; exact hn d' hd' ht)]
    exact hk'
theorem grownBy_trans {A B C : World} {r : Option Nat} (h : A.grownBy B r) (k : B.grownBy C r) : A.grownBy C r :=
  ⟨k.os.trans h.os, k.tape.trans h.tape, k.output.trans h.output, Nat.le_trans h.size k.size, fun i hi hr => (k.block i (Nat.lt_of_lt_of_le hi h.size) hr).trans (h.block i hi hr)⟩
theorem grownBy_own {β : Type} (W0 : World) (c : Nat) : OwnFrom W0.heap.size (fun (_ : β) W => W0.grownBy W (some c)) := fun _ X Y row hs hg hr =>
  ⟨hg.os.trans hs.os, hg.tape.trans hs.tape, hg.output.trans hs.output, Nat.le_trans hs.size hg.size, fun i hi hc =>
    (hg.block i (Nat.lt_of_lt_of_le hi hs.size) (fun e => by have := (hr i e.symm).1; omega)).trans (hs.block i hi hc)⟩
theorem grownBy_refl (W : World) (r : Option Nat) : W.grownBy W r := ⟨rfl, rfl, rfl, Nat.le_refl _, fun _ _ _ => rfl⟩
theorem Marks.grown {B c : Nat} {W W' : World} {ds : List Deferred} {o : Obj} (h : Marks B W ds) (hg : W.grownBy W' (some c)) (hc : W.heap[c]? = some o) (ho : o.isCells = true) : Marks B W' ds :=
  h.keep (fun D _ hk _ => by
    rw [hg.block D (Array.getElem?_eq_some_iff.1 hk).1 (by rintro ⟨rfl⟩; rw [hk] at hc; cases hc; cases ho)]; exact hk)

theorem Marks.appended {B base e n size : Nat} {V w1 : World} {ds : List Deferred} {ov : Value} {xs : List Value} {o : Obj} (h : Marks B V ds) (hown : V.ownsRow base e size ov n xs) (hg : (V.alloc o).grownBy w1 ov.ownBlock) : Marks B w1 ds :=
  h.keep (fun D _ hk _ => by
    have hD := (Array.getElem?_eq_some_iff.1 hk).1
    rw [hg.block D (by simp; omega) ?_, Below.heap_alloc V o D hD]; exact hk
    intro e
    rcases hown.2 with ⟨rfl, _⟩ | ⟨g, cap, cur, rfl, _, hgb, _⟩
    · simp [Value.ownBlock] at e
    · obtain rfl : D = g := by simpa [Value.ownBlock] using e
      rw [hk] at hgb; cases hgb)
end Go.Proofs.YtocbhlohcikapaaGreatDoor
