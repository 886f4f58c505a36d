/-
  Words, plain lemmas and walks, merged: Sa, Sd, Se, Nj, Nk, Nt, Hj, Ny, Sf, Sg, Fv, Kc, Ba, Td.
-/
import Derived.Test.YtaclgmhinljkbaaGreatDoorZpm
import Derived.Test.YtaclgmhinljkbaaGreatDoorZpe
import Derived.Test.YtaclgmhinljkbaaGreatDoorZpn
import Derived.Test.YtaclgmhinljkbaaGreatDoorZpd
import Derived.Test.YtaclgmhinljkbaaGreatDoorZpf
import Derived.Test.YtaclgmhinljkbaaGreatDoorZpi
import Derived.Test.YtaclgmhinljkbaaGreatDoorZpj
set_option linter.unusedVariables false
set_option linter.unusedSimpArgs false
namespace Go.Proofs.YtaclgmhinljkbaaGreatDoor
open Go.RowKit

/-- The sets that were found, and the edges. -/
abbrev Sst := List (List Int) × List Ed
def sbAdd (G : Gr) (set : List Int) (i : Nat) (st : Sst) (a : Nat) : Sst :=
  if nextA G set a = [] then st
  else if nextA G set a ∈ st.1 then (st.1, st.2 ++ [⟨(i : Int), (a : Int), ((st.1.idxOf (nextA G set a) : Nat) : Int)⟩])
  else (st.1 ++ [nextA G set a], st.2 ++ [⟨(i : Int), (a : Int), (st.1.length : Int)⟩])
def sbTo (G : Gr) (set : List Int) (i : Nat) (st : Sst) (L : Nat) : Sst := (List.range L).foldl (sbAdd G set i) st
theorem sbTo_succ (G : Gr) (set : List Int) (i : Nat) (st : Sst) (L : Nat) : sbTo G set i st (L + 1) = sbAdd G set i (sbTo G set i st L) L := by
  unfold sbTo; rw [List.range_succ, List.foldl_append]; rfl
theorem sbAdd_none {G : Gr} {set : List Int} {i : Nat} {st : Sst} {a : Nat} (h : nextA G set a = []) : sbAdd G set i st a = st := if_pos h
theorem sbAdd_old {G : Gr} {set : List Int} {i : Nat} {st : Sst} {a : Nat} (h : nextA G set a ≠ []) (h2 : nextA G set a ∈ st.1) : sbAdd G set i st a = (st.1, st.2 ++ [⟨(i : Int), (a : Int), ((st.1.idxOf (nextA G set a) : Nat) : Int)⟩]) := by
  unfold sbAdd; rw [if_neg h, if_pos h2]
theorem sbAdd_new {G : Gr} {set : List Int} {i : Nat} {st : Sst} {a : Nat} (h : nextA G set a ≠ []) (h2 : nextA G set a ∉ st.1) : sbAdd G set i st a = (st.1 ++ [nextA G set a], st.2 ++ [⟨(i : Int), (a : Int), (st.1.length : Int)⟩]) := by
  unfold sbAdd; rw [if_neg h, if_neg h2]
/-- From number i on; none where there are too many sets or edges. -/
def sbGo (G : Gr) : Nat → Nat → Sst → Option Sst
  | 0, _, _ => none
  | m + 1, i, st => match st.1[i]? with
    | none => some st
    | some set => if 64 < (sbTo G set i st G.q.toNat).1.length ∨ 1024 < (sbTo G set i st G.q.toNat).2.length then none else sbGo G m (i + 1) (sbTo G set i st G.q.toNat)

/-! ### What is found is a valid graph, deterministic -/
def ltFL (x y : Ed) : Prop := x.f < y.f ∨ (x.f = y.f ∧ x.l < y.l)
structure Sb (G : Gr) (i a : Nat) (st : Sst) : Prop where
  ins : ∀ x ∈ st.2, 0 ≤ x.f ∧ (x.f < i ∨ (x.f = i ∧ x.l < a)) ∧ 0 ≤ x.l ∧ x.l < G.q ∧ 0 ≤ x.t ∧ x.t < st.1.length
  srt : st.2.Pairwise ltFL
  nd : st.1.Nodup
  ne : ∀ s ∈ st.1, s ≠ []
theorem Sb.snoc {G : Gr} {i a : Nat} {st : Sst} (h : Sb G i a st) (ha : (a : Int) < G.q) (l : List (List Int)) (t : Nat) (ht : t < l.length) (hl : st.1.length ≤ l.length) (hn : l.Nodup) (hne : ∀ s ∈ l, s ≠ []) :
    Sb G i (a + 1) (l, st.2 ++ [⟨(i : Int), (a : Int), (t : Int)⟩]) where
  ins := fun x hx => by
    rcases List.mem_append.1 hx with hx | hx
    · obtain ⟨h1, h2, h3, h4, h5, h6⟩ := h.ins x hx
      refine ⟨h1, ?_, h3, h4, h5, ?_⟩
      · rcases h2 with h2 | h2
        · exact .inl h2
        · exact .inr ⟨h2.1, by omega⟩
      · show x.t < (l.length : Int)
        omega
    · obtain rfl := List.mem_singleton.1 hx
      refine ⟨by simp, .inr ⟨rfl, by simp; omega⟩, by simp, ha, by simp, ?_⟩
      show (t : Int) < (l.length : Int)
      omega
  srt := by
    rw [List.pairwise_append]
    refine ⟨h.srt, by simp, fun x hx y hy => ?_⟩
    obtain rfl := List.mem_singleton.1 hy
    rcases (h.ins x hx).2.1 with h2 | h2
    · exact .inl h2
    · exact .inr h2
  nd := hn
  ne := hne
theorem Sb.add {G : Gr} {i a : Nat} {st : Sst} (h : Sb G i a st) (set : List Int) (ha : (a : Int) < G.q) : Sb G i (a + 1) (sbAdd G set i st a) := by
  by_cases h1 : nextA G set a = []
  · rw [sbAdd_none h1]
    refine ⟨fun x hx => ?_, h.srt, h.nd, h.ne⟩
    obtain ⟨h1, h2, h3⟩ := h.ins x hx
    refine ⟨h1, ?_, h3⟩
    rcases h2 with h2 | h2
    · exact .inl h2
    · exact .inr ⟨h2.1, by omega⟩
  · by_cases h2 : nextA G set a ∈ st.1
    · rw [sbAdd_old h1 h2]
      exact h.snoc ha st.1 _ (List.idxOf_lt_length_iff.2 h2) (Nat.le_refl _) h.nd h.ne
    · rw [sbAdd_new h1 h2]
      refine h.snoc ha _ st.1.length (by simp) (by simp) ?_ ?_
      · rw [List.nodup_append]
        refine ⟨h.nd, by simp, fun x hx y hy => ?_⟩
        obtain rfl := List.mem_singleton.1 hy
        intro e; subst e; exact h2 hx
      · intro s hs
        rcases List.mem_append.1 hs with hs | hs
        · exact h.ne s hs
        · obtain rfl := List.mem_singleton.1 hs; exact h1
theorem Sb.row {G : Gr} {i : Nat} {st : Sst} (h : Sb G i 0 st) (set : List Int) : ∀ L : Nat, (L : Int) ≤ G.q → Sb G i L (sbTo G set i st L)
  | 0, _ => h
  | L + 1, hL => by rw [sbTo_succ]; exact (h.row set L (by omega)).add set (by omega)
theorem Sb.next {G : Gr} {i a : Nat} {st : Sst} (h : Sb G i a st) : Sb G (i + 1) 0 st where
  ins := fun x hx => by
    obtain ⟨h1, h2, h3⟩ := h.ins x hx
    refine ⟨h1, .inl ?_, h3⟩
    rcases h2 with h2 | h2 <;> omega
  srt := h.srt
  nd := h.nd
  ne := h.ne
theorem sbTo_len {G : Gr} {set : List Int} {i : Nat} {st : Sst} : ∀ L : Nat, st.1.length ≤ (sbTo G set i st L).1.length
  | 0 => Nat.le_refl _
  | L + 1 => by
    rw [sbTo_succ]
    refine Nat.le_trans (sbTo_len (G := G) (set := set) (i := i) (st := st) L) ?_
    unfold sbAdd
    split
    · exact Nat.le_refl _
    · split
      · exact Nat.le_refl _
      · simp
theorem sbGo_ok {G : Gr} (hq : 0 ≤ G.q) : ∀ (m i : Nat) (st r : Sst), Sb G i 0 st → i ≤ st.1.length → st.1.length ≤ 64 → st.2.length ≤ 1024 → sbGo G m i st = some r → Sb G r.1.length 0 r ∧ r.1.length ≤ 64 ∧ r.2.length ≤ 1024 ∧ st.1.length ≤ r.1.length
  | 0, i, st, r, _, _, _, _, h => by cases h
  | m + 1, i, st, r, hS, hi, h64, h1k, h => by
    unfold sbGo at h
    cases hx : st.1[i]? with
    | none =>
      rw [hx] at h
      cases h
      have : i = st.1.length := by have := List.getElem?_eq_none_iff.1 hx; omega
      subst this
      exact ⟨hS, h64, h1k, Nat.le_refl _⟩
    | some set =>
      rw [hx] at h
      simp only at h
      split at h
      · cases h
      · rename_i hlim
        have hr := (hS.row set G.q.toNat (by omega)).next
        have hle := sbTo_len (G := G) (set := set) (i := i) (st := st) G.q.toNat
        have hi2 : i < st.1.length := (List.getElem?_eq_some_iff.1 hx).1
        obtain ⟨a, b, c, d⟩ := sbGo_ok hq m (i + 1) _ r hr (by omega) (by omega) (by omega) h
        exact ⟨a, b, c, Nat.le_trans hle d⟩
/-- The graph of sets, the sets, and an error. -/
def sbA (G : Gr) : Gr × List (List Int) × Int :=
  if chkG G = 0 then (if G.n = 0 then (⟨G.q, 0, []⟩, [], 0) else match sbGo G 66 0 ([upto G.n.toNat], []) with
    | none => (⟨0, 0, []⟩, [], 4)
    | some r => (⟨G.q, (r.1.length : Int), r.2⟩, r.1, 0)) else (⟨0, 0, []⟩, [], 1)
theorem Sb.graph {G : Gr} (hv : Vg G) {r : Sst} (h : Sb G r.1.length 0 r) (h64 : r.1.length ≤ 64) (h1k : r.2.length ≤ 1024) : Vg ⟨G.q, (r.1.length : Int), r.2⟩ ∧ Uq r.2 := by
  refine ⟨⟨hv.q1, hv.q2, by simp, by simp; omega, h1k, fun x hx => ?_, ?_⟩, ?_⟩
  · obtain ⟨h1, h2, h3, h4, h5, h6⟩ := h.ins x hx
    refine ⟨h1, h3, h5, ?_, h6, h4⟩
    show x.f < (r.1.length : Int)
    rcases h2 with h2 | h2 <;> omega
  · refine h.srt.imp (fun {x y} hxy => ?_)
    rw [ltE_iff]
    rcases hxy with h | h
    · exact .inl h
    · exact .inr ⟨h.1, .inl h.2⟩
  · refine h.srt.imp (fun {x y} hxy hh => ?_)
    rcases hxy with h | h <;> omega
theorem sbA_ok {G : Gr} (h : (sbA G).2.2 = 0) : Vg (sbA G).1 ∧ Uq (sbA G).1.es := by
  unfold sbA at h ⊢
  by_cases hc : chkG G = 0
  · rw [if_pos hc] at h ⊢
    have hv := chkG_ok.1 hc
    by_cases hn : G.n = 0
    · rw [if_pos hn]
      exact ⟨⟨hv.q1, hv.q2, by simp, by simp, by simp, (fun x hx => by cases hx), List.Pairwise.nil⟩, List.Pairwise.nil⟩
    · rw [if_neg hn] at h ⊢
      cases hg : sbGo G 66 0 ([upto G.n.toNat], []) with
      | none => rw [hg] at h; cases h
      | some r =>
        have hs : Sb G 0 0 ([upto G.n.toNat], []) := ⟨(fun x hx => by cases hx), List.Pairwise.nil, by simp, fun s hs => by
          obtain rfl := List.mem_singleton.1 hs
          intro e
          have e2 := congrArg List.length e
          rw [upto_len, List.length_nil] at e2
          have := hv.n1
          omega⟩
        have hq := hv.q1
        obtain ⟨a, b, c, _⟩ := sbGo_ok (by omega) _ _ _ r hs (by simp) (by simp) (by simp) hg
        exact a.graph hv b c
  · rw [if_neg hc] at h; cases h
end Go.Proofs.YtaclgmhinljkbaaGreatDoor
namespace Go.Proofs.YtaclgmhinljkbaaGreatDoor
open Go.RowKit

structure Sw (G : Gr) (i a : Nat) (st : Sst) : Prop where
  go : ∀ (j b : Nat) (set : List Int), st.1[j]? = some set → (j < i ∨ (j = i ∧ b < a)) → b < G.q.toNat → nextA G set b ≠ [] → ∃ t : Nat, (⟨(j : Int), (b : Int), (t : Int)⟩ : Ed) ∈ st.2 ∧ st.1[t]? = some (nextA G set b)
  no : ∀ x ∈ st.2, ∃ (j b : Nat) (set : List Int), x.f = j ∧ x.l = b ∧ st.1[j]? = some set ∧ nextA G set b ≠ []
theorem get_app {α : Type} {l m : List α} {j : Nat} {x : α} (h : l[j]? = some x) : (l ++ m)[j]? = some x := by
  rw [List.getElem?_append_left (List.getElem?_eq_some_iff.1 h).1]; exact h
theorem Sw.snoc {G : Gr} {i a : Nat} {st : Sst} (h : Sw G i a st) {set : List Int} (hi : st.1[i]? = some set) (hn : nextA G set a ≠ []) (m : List (List Int)) (t : Nat) (ht : (st.1 ++ m)[t]? = some (nextA G set a)) (hb : ∀ j, st.1.length ≤ j → j < (st.1 ++ m).length → i < j) :
    Sw G i (a + 1) (st.1 ++ m, st.2 ++ [⟨(i : Int), (a : Int), (t : Int)⟩]) where
  go := fun j b s hs hjb hbq hne => by
    have hj : j < st.1.length := by
      by_cases hj : j < st.1.length
      · exact hj
      · have := hb j (by omega) (List.getElem?_eq_some_iff.1 hs).1
        rcases hjb with h | h <;> omega
    have hs' : st.1[j]? = some s := by
      have hs2 : (st.1 ++ m)[j]? = some s := hs
      rwa [List.getElem?_append_left hj] at hs2
    by_cases e : j = i ∧ b = a
    · obtain ⟨rfl, rfl⟩ := e
      rw [hi] at hs'; cases hs'
      exact ⟨t, by simp, ht⟩
    · obtain ⟨t', h1, h2⟩ := h.go j b s hs' (by rcases hjb with h | h <;> omega) hbq hne
      exact ⟨t', List.mem_append_left _ h1, get_app h2⟩
  no := fun x hx => by
    rcases List.mem_append.1 hx with hx | hx
    · obtain ⟨j, b, s, h1, h2, h3, h4⟩ := h.no x hx
      exact ⟨j, b, s, h1, h2, get_app h3, h4⟩
    · obtain rfl := List.mem_singleton.1 hx
      exact ⟨i, a, set, rfl, rfl, get_app hi, hn⟩
theorem Sw.add {G : Gr} {i a : Nat} {st : Sst} (h : Sw G i a st) {set : List Int} (hi : st.1[i]? = some set) : Sw G i (a + 1) (sbAdd G set i st a) ∧ (sbAdd G set i st a).1[i]? = some set := by
  have hlt := (List.getElem?_eq_some_iff.1 hi).1
  by_cases h1 : nextA G set a = []
  · rw [sbAdd_none h1]
    refine ⟨⟨fun j b s hs hjb hbq hne => h.go j b s hs ?_ hbq hne, h.no⟩, hi⟩
    rcases hjb with hj | ⟨rfl, hb⟩
    · exact .inl hj
    · refine .inr ⟨rfl, ?_⟩
      rw [hi] at hs; cases hs
      by_cases e : b = a
      · subst e; exact absurd h1 hne
      · omega
  · by_cases h2 : nextA G set a ∈ st.1
    · rw [sbAdd_old h1 h2]
      have hx := List.idxOf_lt_length_iff.2 h2
      have k := h.snoc hi h1 [] (st.1.idxOf (nextA G set a)) (by rw [List.append_nil, List.getElem?_eq_getElem hx, List.getElem_idxOf hx]) (fun j h3 h4 => by rw [List.append_nil] at h4; omega)
      rw [List.append_nil] at k
      exact ⟨k, hi⟩
    · rw [sbAdd_new h1 h2]
      exact ⟨h.snoc hi h1 [nextA G set a] st.1.length (by simp) (fun j h3 h4 => by omega), get_app hi⟩
theorem Sw.row {G : Gr} {i : Nat} {st : Sst} (h : Sw G i 0 st) {set : List Int} (hi : st.1[i]? = some set) : ∀ L : Nat, Sw G i L (sbTo G set i st L) ∧ (sbTo G set i st L).1[i]? = some set
  | 0 => ⟨h, hi⟩
  | L + 1 => by
    rw [sbTo_succ]
    obtain ⟨h1, h2⟩ := h.row hi L
    exact h1.add h2
theorem Sw.next {G : Gr} {i : Nat} {st : Sst} (h : Sw G i G.q.toNat st) : Sw G (i + 1) 0 st where
  go := fun j b s hs hjb hbq hne => h.go j b s hs (by rcases hjb with h | h <;> omega) hbq hne
  no := h.no
theorem sbAdd_head {G : Gr} {set : List Int} {i a : Nat} {st : Sst} {x : List Int} (h : st.1[0]? = some x) : (sbAdd G set i st a).1[0]? = some x := by
  unfold sbAdd
  split
  · exact h
  · split
    · exact h
    · exact get_app h
theorem sbTo_head {G : Gr} {set : List Int} {i : Nat} {st : Sst} {x : List Int} (h : st.1[0]? = some x) : ∀ L : Nat, (sbTo G set i st L).1[0]? = some x
  | 0 => h
  | L + 1 => by rw [sbTo_succ]; exact sbAdd_head (sbTo_head h L)
theorem sbGo_sw {G : Gr} {x : List Int} : ∀ (m i : Nat) (st r : Sst), Sw G i 0 st → st.1[0]? = some x → sbGo G m i st = some r → (∃ k, Sw G k 0 r ∧ r.1.length ≤ k) ∧ r.1[0]? = some x
  | 0, i, st, r, _, _, h => by cases h
  | m + 1, i, st, r, hS, h0, h => by
    unfold sbGo at h
    cases hx : st.1[i]? with
    | none =>
      rw [hx] at h
      cases h
      exact ⟨⟨i, hS, List.getElem?_eq_none_iff.1 hx⟩, h0⟩
    | some set =>
      rw [hx] at h
      simp only at h
      split at h
      · cases h
      · exact sbGo_sw m (i + 1) _ r (hS.row hx _).1.next (sbTo_head h0 _) h
/-- Where a word leads in the graph of sets. -/
theorem sets_run {G : Gr} {r : Sst} {k : Nat} (hw : Sw G k 0 r) (hk : r.1.length ≤ k) (hu : Uq r.2) : ∀ (w : List Int) (j : Nat) (set : List Int), r.1[j]? = some set → set ≠ [] → Lab G.q.toNat w →
    (0 ≤ run1 r.2 j w ↔ w.foldl (nextA G) set ≠ [])
  | [], j, set, _, hne, _ => by
    show (0 ≤ (j : Int) ↔ set ≠ [])
    exact ⟨fun _ => hne, fun _ => by omega⟩
  | a :: w, j, set, hs, hne, hl => by
    have ha := hl a (by simp)
    obtain ⟨A, rfl⟩ : ∃ A : Nat, a = A := ⟨a.toNat, by omega⟩
    have hj := (List.getElem?_eq_some_iff.1 hs).1
    have hl2 : Lab G.q.toNat w := fun x hx => hl x (by simp [hx])
    rw [run1_cons, nxt_pos (by omega), List.foldl_cons]
    by_cases h0 : nextA G set (A : Int) = []
    · have ht : tgt r.2 (j : Int) (A : Int) = -1 := by
        by_cases h1 : tgt r.2 (j : Int) (A : Int) = -1
        · exact h1
        · obtain ⟨y, hy, hf, hy2, _⟩ := tgt_mem h1
          obtain ⟨j', b, s, k1, k2, k3, k4⟩ := hw.no y hy
          have e1 : j' = j := by omega
          have e2 : b = A := by omega
          subst e1; subst e2
          rw [hs] at k3; cases k3
          exact absurd h0 k4
      rw [ht, h0]
      have e1 := run1_neg (es := r.2) w (s := -1) (by omega)
      have e2 : ∀ w : List Int, w.foldl (nextA G) [] = [] := by
        intro w
        induction w with
        | nil => rfl
        | cons b w ih =>
          rw [List.foldl_cons]
          have : nextA G [] b = [] := by
            unfold nextA
            rw [List.filter_eq_nil_iff]
            intro z _ hz
            obtain ⟨y, _, hy⟩ := List.any_eq_true.1 hz
            simp [nxE] at hy
          rw [this]; exact ih
      rw [e2]
      exact ⟨fun h => by omega, fun h => absurd rfl h⟩
    · obtain ⟨t, h1, h2⟩ := hw.go j A set hs (.inl (by omega)) (by omega) h0
      have ht := tgt_at hu h1
      rw [ht]
      exact sets_run hw hk hu w t _ h2 h0 hl2
end Go.Proofs.YtaclgmhinljkbaaGreatDoor
namespace Go.Proofs.YtaclgmhinljkbaaGreatDoor
open Go.RowKit

/-- Where a search begins in a graph of sets. -/
def st0 (G : Gr) : Int := if 0 < (sbA G).1.n then 0 else -1
def srO (G H : Gr) (is : Int × Int → Bool) : Option (List Int) := bfsA (sbA G).1.n.toNat (sbA H).1.n.toNat (sbA G).1.es (sbA H).1.es kpP is (max G.q H.q).toNat (st0 G) (st0 H)
/-- The word, whether there is none, and the error. -/
def srA (G H : Gr) (is : Int × Int → Bool) : List Int × Bool × Int :=
  if chkG G ≠ 0 ∨ chkG H ≠ 0 then ([], false, 1)
  else if (sbA G).2.2 ≠ 0 then ([], false, (sbA G).2.2)
  else if (sbA H).2.2 ≠ 0 then ([], false, (sbA H).2.2)
  else if st0 G = -1 ∧ st0 H = -1 then ([], true, 0)
  else ((fwA (srO G H is)).1, !(fwA (srO G H is)).2, 0)
theorem sbA_err (G : Gr) (h : chkG G = 0) : (sbA G).2.2 = 0 ∨ (sbA G).2.2 = 4 := by
  unfold sbA
  rw [if_pos h]
  split
  · exact .inl rfl
  · cases sbGo G 66 0 ([upto G.n.toNat], []) with
    | none => exact .inr rfl
    | some r => exact .inl rfl
theorem sb_bd {G : Gr} (h : (sbA G).2.2 = 0) : (∀ s a, -1 ≤ nxt (sbA G).1.es s a ∧ nxt (sbA G).1.es s a < ((sbA G).1.n.toNat : Int)) ∨ ((sbA G).1.n = 0 ∧ st0 G = -1) := by
  obtain ⟨hv, _⟩ := sbA_ok h
  by_cases h0 : (sbA G).1.n = 0
  · exact .inr ⟨h0, by unfold st0; rw [if_neg (by omega)]⟩
  · exact .inl (fun s a => by have := nxt_bd hv s a; have := hv.n1; omega)
theorem sb_bd0 {G : Gr} (h : (sbA G).2.2 = 0) : (∀ s a, -1 ≤ nxt (sbA G).1.es s a ∧ nxt (sbA G).1.es s a < ((sbA G).1.n.toNat : Int)) ∧ -1 ≤ st0 G ∧ st0 G < ((sbA G).1.n.toNat : Int) := by
  obtain ⟨hv, _⟩ := sbA_ok h
  have hn := hv.n1
  refine ⟨fun s a => ?_, ?_, ?_⟩
  · have := nxt_bd hv s a; omega
  · unfold st0; split <;> omega
  · unfold st0; split <;> omega
/-- All that MinimalEquals says of the four answers. -/
theorem equals_plain (G H : Gr) : (srA G H oneB).2.2 = (srA G H incB).2.2 ∧ (srA G H oneB).2.2 = (srA H G incB).2.2 ∧ srA H G oneB = srA G H oneB ∧
    ((srA G H oneB).2.2 = 0 → (srA G H oneB).2.1 = ((srA G H incB).2.1 && (srA H G incB).2.1) ∧
      ((srA G H incB).2.1 = true ∨ ((srA H G incB).2.1 = false ∧ slt (srA H G incB).1 (srA G H incB).1) → (srA G H oneB).1 = (srA H G incB).1) ∧
      (¬ ((srA G H incB).2.1 = true ∨ ((srA H G incB).2.1 = false ∧ slt (srA H G incB).1 (srA G H incB).1)) → (srA G H oneB).1 = (srA G H incB).1)) := by
  by_cases hc : chkG G ≠ 0 ∨ chkG H ≠ 0
  · have hc2 : chkG H ≠ 0 ∨ chkG G ≠ 0 := hc.symm
    have e1 : ∀ is, srA G H is = ([], false, 1) := fun is => by unfold srA; rw [if_pos hc]
    have e2 : ∀ is, srA H G is = ([], false, 1) := fun is => by unfold srA; rw [if_pos hc2]
    rw [e1 oneB, e1 incB, e2 incB, e2 oneB]
    exact ⟨rfl, rfl, rfl, fun h => by cases h⟩
  · have hG : chkG G = 0 := Decidable.byContradiction fun h => hc (.inl h)
    have hH : chkG H = 0 := Decidable.byContradiction fun h => hc (.inr h)
    have hc2 : ¬ (chkG H ≠ 0 ∨ chkG G ≠ 0) := fun h => hc h.symm
    by_cases kG : (sbA G).2.2 = 0
    · by_cases kH : (sbA H).2.2 = 0
      · by_cases h0 : st0 G = -1 ∧ st0 H = -1
        · have h02 : st0 H = -1 ∧ st0 G = -1 := ⟨h0.2, h0.1⟩
          have e1 : ∀ is, srA G H is = ([], true, 0) := fun is => by unfold srA; rw [if_neg hc, if_neg (by simp [kG]), if_neg (by simp [kH]), if_pos h0]
          have e2 : ∀ is, srA H G is = ([], true, 0) := fun is => by unfold srA; rw [if_neg hc2, if_neg (by simp [kH]), if_neg (by simp [kG]), if_pos h02]
          rw [e1 oneB, e1 incB, e2 incB, e2 oneB]
          exact ⟨rfl, rfl, rfl, fun _ => ⟨rfl, fun _ => rfl, fun _ => rfl⟩⟩
        · have h02 : ¬ (st0 H = -1 ∧ st0 G = -1) := fun h => h0 ⟨h.2, h.1⟩
          have e1 : ∀ is, srA G H is = ((fwA (srO G H is)).1, !(fwA (srO G H is)).2, 0) := fun is => by unfold srA; rw [if_neg hc, if_neg (by simp [kG]), if_neg (by simp [kH]), if_neg h0]
          have e2 : ∀ is, srA H G is = ((fwA (srO H G is)).1, !(fwA (srO H G is)).2, 0) := fun is => by unfold srA; rw [if_neg hc2, if_neg (by simp [kH]), if_neg (by simp [kG]), if_neg h02]
          obtain ⟨b1, b2, b3⟩ := sb_bd0 kG
          obtain ⟨c1, c2, c3⟩ := sb_bd0 kH
          have hL : (max H.q G.q).toNat = (max G.q H.q).toNat := by omega
          obtain ⟨L1, L2, L3, L4, L5⟩ := equal_laws (L := (max G.q H.q).toNat) b1 c1 b2 b3 c2 c3
          have f1 : srO H G oneB = srO G H oneB := by unfold srO; rw [hL]; exact L1.symm
          have f2 : srO H G incB = bfsA (sbA H).1.n.toNat (sbA G).1.n.toNat (sbA H).1.es (sbA G).1.es kpP incB (max G.q H.q).toNat (st0 H) (st0 G) := by unfold srO; rw [hL]
          rw [← f2] at L2 L3 L4 L5
          change srO G H oneB = none ↔ srO G H incB = none ∧ srO H G incB = none at L2
          change srO G H incB = none → srO G H oneB = srO H G incB at L3
          change srO H G incB = none → srO G H oneB = srO G H incB at L4
          change ∀ u v, srO G H incB = some u → srO H G incB = some v → (slt v u → srO G H oneB = srO H G incB) ∧ (¬ slt v u → srO G H oneB = srO G H incB) at L5
          rw [e1 oneB, e1 incB, e2 incB, e2 oneB, f1]
          refine ⟨rfl, rfl, rfl, fun _ => ?_⟩
          cases ha : srO G H incB with
          | none =>
            rw [L3 ha]
            cases hb : srO H G incB with
            | none => exact ⟨rfl, fun _ => rfl, fun _ => rfl⟩
            | some v => exact ⟨rfl, fun _ => rfl, fun h => absurd (.inl rfl) h⟩
          | some u =>
            cases hb : srO H G incB with
            | none =>
              rw [L4 hb, ha]
              refine ⟨rfl, fun h => ?_, fun _ => rfl⟩
              rcases h with h | ⟨h, _⟩ <;> cases h
            | some v =>
              obtain ⟨k1, k2⟩ := L5 u v ha hb
              by_cases hlt : slt v u
              · rw [k1 hlt, hb]
                exact ⟨rfl, fun _ => rfl, fun h => absurd (.inr ⟨rfl, hlt⟩) h⟩
              · rw [k2 hlt, ha]
                refine ⟨rfl, fun h => ?_, fun _ => rfl⟩
                rcases h with h | ⟨_, h⟩
                · cases h
                · exact absurd h hlt
      · have kH4 : (sbA H).2.2 = 4 := (sbA_err H hH).resolve_left kH
        have e1 : ∀ is, srA G H is = ([], false, 4) := fun is => by unfold srA; rw [if_neg hc, if_neg (by simp [kG]), if_pos kH, kH4]
        have e2 : ∀ is, srA H G is = ([], false, 4) := fun is => by unfold srA; rw [if_neg hc2, if_pos kH, kH4]
        rw [e1 oneB, e1 incB, e2 incB, e2 oneB]
        exact ⟨rfl, rfl, rfl, fun h => by cases h⟩
    · have kG4 : (sbA G).2.2 = 4 := (sbA_err G hG).resolve_left kG
      have e1 : ∀ is, srA G H is = ([], false, 4) := fun is => by unfold srA; rw [if_neg hc, if_pos kG, kG4]
      have e2 : ∀ is, srA H G is = ([], false, 4) := fun is => by
        unfold srA
        rw [if_neg hc2]
        by_cases kH : (sbA H).2.2 = 0
        · rw [if_neg (by simp [kH]), if_pos kG, kG4]
        · rw [if_pos kH, (sbA_err H hH).resolve_left kH]
      rw [e1 oneB, e1 incB, e2 incB, e2 oneB]
      exact ⟨rfl, rfl, rfl, fun h => by cases h⟩
end Go.Proofs.YtaclgmhinljkbaaGreatDoor
namespace Go.Proofs.YtaclgmhinljkbaaGreatDoor
open Go.RowKit Go.Sort Go.Shelf Go.Lib

/-! ### What the functions answer -/
def mxC (l : List Int) : Int := l.foldl (fun n x => max n (x + 1)) 0
theorem mxC_snoc (l : List Int) (x : Int) : mxC (l ++ [x]) = max (mxC l) (x + 1) := by simp [mxC]
theorem mxC_gen : ∀ (l : List Int) (a : Int), (∀ x ∈ l, -1 ≤ x ∧ x ≤ 1000) → 0 ≤ a → a ≤ 1001 → 0 ≤ l.foldl (fun n x => max n (x + 1)) a ∧ l.foldl (fun n x => max n (x + 1)) a ≤ 1001
  | [], a, _, h0, h1 => ⟨h0, h1⟩
  | x :: l, a, h, h0, h1 => by
    have hx := h x (by simp)
    exact mxC_gen l (max a (x + 1)) (fun y hy => h y (by simp [hy])) (by omega) (by omega)
def mgE (C : List Int) (x : Ed) : Ed := ⟨cg C x.f, x.l, cg C x.t⟩
def mgA (G : Gr) : Gr × Int := makeA G.q (mxC (clA G)) (G.es.map (mgE (clA G)))
def merA (G : Gr) : Gr × List Int × Int := if chkD G = 0 then ((mgA G).1, clA G, (mgA G).2) else (⟨0, 0, []⟩, [], chkD G)
theorem merA_ok {G : Gr} (h : chkD G = 0) : merA G = ((mgA G).1, clA G, (mgA G).2) := if_pos h
theorem merA_bad {G : Gr} (h : chkD G ≠ 0) : merA G = (⟨0, 0, []⟩, [], chkD G) := if_neg h
theorem cl_bd {G : Gr} (x : Int) (h : x ∈ clA G) : 0 ≤ x ∧ x < (G.n.toNat : Int) := by
  unfold clA at h
  cases hn : G.n.toNat with
  | zero => rw [hn] at h; simp [clsN] at h
  | succ n =>
    rw [hn] at h
    have h' : x ∈ (List.range (n + 1)).map (numR (relA G.q.toNat G.es (clsN G.q.toNat (n + 1) G.es n))) := h
    obtain ⟨s, hs, rfl⟩ := List.mem_map.1 h'
    have h1 := numR_bd (relA_eqv G.q.toNat G.es (clsN G.q.toNat (n + 1) G.es n)) s (n + 1) (by simpa using hs)
    have h2 := frsR_len (relA G.q.toNat G.es (clsN G.q.toNat (n + 1) G.es n)) (n + 1)
    omega
theorem cl_len (G : Gr) : (clA G).length = G.n.toNat := clsN_len _
theorem mg_snoc (C : List Int) (l : List Ed) (k : Nat) (h : k < l.length) : (l.take (k + 1)).map (mgE C) = (l.take k).map (mgE C) ++ [mgE C l[k]] := by
  rw [List.take_succ_eq_append_getElem h, List.map_append]; rfl
theorem cell_grown {w w' : World} {o : Obj} {row : Option Nat} {n b i : Nat} {v : Value} (hg : ((w.drewN n).alloc o).grownBy w' row) (hc : w.cell? ⟨b, i, none⟩ = some v) (hne : some b ≠ row) : w'.cell? ⟨b, i, none⟩ = some v :=
  hg.cell (cell_al o (show (w.drewN n).cell? ⟨b, i, none⟩ = some v from hc)) hne
/-- Numbers in a block of the call's own. -/
def OwnL (n : Nat) (w' : World) (q : Option Addr) (l : List Int) : Prop := l = [] ∨ ∃ b, q = some ⟨b, 0, none⟩ ∧ n ≤ b ∧ VRow w' b 3 (l.map (Value.int .i64))
theorem OwnL.sl {n : Nat} {w' : World} {q : Option Addr} {l : List Int} (h : OwnL n w' q l) : Sl w' (Value.int .i64) q l := by
  rcases h with h | ⟨b, rfl, _, h⟩
  · exact .inl h
  · exact Sl.of_vrow h
theorem OwnL.mono {n m : Nat} {w' : World} {q : Option Addr} {l : List Int} (h : OwnL n w' q l) (hm : m ≤ n) : OwnL m w' q l := h.imp id (fun ⟨b, a, c, d⟩ => ⟨b, a, Nat.le_trans hm c, d⟩)
theorem OwnL.set {n B i : Nat} {w' : World} {q : Option Addr} {l : List Int} (h : OwnL n w' q l) (hB : B < n) (v : Value) : OwnL n (w'.setCell ⟨B, i, none⟩ v) q l := h.imp id (fun ⟨b, a, c, d⟩ => ⟨b, a, c, d.other _ (by omega)⟩)
theorem OwnL.below {n : Nat} {w w' : World} {q : Option Addr} {l : List Int} (h : OwnL n w q l) (hB : RowKit.Below w.heap.size w w') : OwnL n w' q l := h.imp id (fun ⟨b, a, c, d⟩ => ⟨b, a, c, d.below hB d.lt⟩)
theorem sg_boxN {w : World} {B : Nat} {x y : Int} {q : Option Addr} {n c : Nat} {p : Option Addr} {l : List Ed} (hb : VRow w B 29 [.int .i64 x, .int .i64 y, .slice q n c]) (h : Sg 3 w edE p l) (i : Nat) (v : Value) : Sg 3 (w.setCell ⟨B, i, none⟩ v) edE p l := by
  rcases h with h | ⟨b, off, hp, hlt, hc⟩
  · exact .inl h
  · rcases l with _ | ⟨e, l⟩
    · exact .inl rfl
    · have hne : B ≠ b := by
        intro he
        subst he
        have h2 := hc 0 (by simp) 2 (by omega)
        rw [hb.cell] at h2
        rcases off with _ | off
        · simp [edE] at h2
        · simp [edE] at h2
      exact .inr ⟨b, off, hp, by rw [World.size_setCell]; exact hlt, fun i hi j hj => (World.cell?_setCell_far _ _ _ _ hne).trans (hc i hi j hj)⟩
def set3N (w : World) (B : Nat) (u v x : Value) : World := ((w.setCell ⟨B, 0, none⟩ u).setCell ⟨B, 1, none⟩ v).setCell ⟨B, 2, none⟩ x
theorem box3N {w w4 : World} {B n : Nat} {G : Gr} {p q : Option Addr} {c : Nat} {l : List Int} (e : VRow w4 B 29 [.int .i64 0, .int .i64 0, .slice none 0 0]) (hs : Sg 3 w4 edE p G.es) (hl : OwnL n w4 q l) (hn : B < n) (hB : RowKit.Below w.heap.size w w4) (hw : w.heap.size ≤ B) :
    VRow (set3N w4 B (.int .i64 G.q) (.int .i64 G.n) (.slice p G.es.length c)) B 29 [.int .i64 G.q, .int .i64 G.n, .slice p G.es.length c] ∧ Sg 3 (set3N w4 B (.int .i64 G.q) (.int .i64 G.n) (.slice p G.es.length c)) edE p G.es ∧
      OwnL n (set3N w4 B (.int .i64 G.q) (.int .i64 G.n) (.slice p G.es.length c)) q l ∧ RowKit.Below w.heap.size w (set3N w4 B (.int .i64 G.q) (.int .i64 G.n) (.slice p G.es.length c)) := by
  unfold set3N
  have r1 := VRow.set (i := 0) (.int .i64 G.q) e
  have r2 := VRow.set (i := 1) (.int .i64 G.n) r1
  have r3 := VRow.set (i := 2) (.slice p G.es.length c) r2
  exact ⟨r3, sg_boxN r2 (sg_boxN r1 (sg_boxN e hs _ _) _ _) _ _, ((hl.set hn _).set hn _).set hn _, ((hB.setCell (show w.heap.size ≤ B from hw) _).setCell (show w.heap.size ≤ B from hw) _).setCell (show w.heap.size ≤ B from hw) _⟩
/-- A graph, numbers and an error. -/
def RetMe (H : Gr) (l : List Int) (k : Int) (w : World) (e : Ending) (w' : World) : Prop :=
  ∃ p c q d, e = .returned (.tuple #[(.agg #[.int .i64 H.q, .int .i64 H.n, .slice p H.es.length c]), .slice q l.length d, .int .i64 k]) ∧ Sg 3 w' edE p H.es ∧ H.es.length ≤ c ∧ OwnL w.heap.size w' q l ∧ RowKit.Below w.heap.size w w'
theorem RetMe.of {x : Gr × List Int × Int} {H : Gr} {l : List Int} {k : Int} {w w' : World} {p q : Option Addr} {c d : Nat} (hx : x = (H, l, k)) (h1 : Sg 3 w' edE p H.es) (h2 : H.es.length ≤ c) (h3 : OwnL w.heap.size w' q l) (hB : RowKit.Below w.heap.size w w') :
    RetMe x.1 x.2.1 x.2.2 w (.returned (.tuple #[(.agg #[.int .i64 H.q, .int .i64 H.n, .slice p H.es.length c]), .slice q l.length d, .int .i64 k])) w' := by
  subst hx; exact ⟨p, c, q, d, rfl, h1, h2, h3, hB⟩

end Go.Proofs.YtaclgmhinljkbaaGreatDoor
namespace Go.Proofs.YtaclgmhinljkbaaGreatDoor
open Go.RowKit Go.Sort Go.Shelf Go.Lib

end Go.Proofs.YtaclgmhinljkbaaGreatDoor
namespace Go.Proofs.YtaclgmhinljkbaaGreatDoor
open Go.RowKit Go.Sort Go.Shelf Go.Lib

def gr13 (G : Gr) : Bool := greatG G || (decide (20 < G.es.length) || ((decide (6 < G.n) && decide (G.n ≤ 64)) || (decide (8 < G.q) && decide (G.q ≤ 256))))
/-! ### A list of graphs -/
abbrev GA := {x : Gr × Option Addr × Nat // x.1.es.length ≤ 9223372036854775807}
instance : Inhabited GA := ⟨⟨(⟨0, 0, []⟩, none, 0), by simp⟩⟩
def gE (x : GA) : List Value := [.int .i64 x.1.1.q, .int .i64 x.1.1.n, .slice x.1.2.1 x.1.1.es.length x.1.2.2]
/-! ### The example of the chapter -/
def aw0 : Gr := ⟨2, 3, [⟨0, 0, 0⟩, ⟨0, 1, 1⟩, ⟨1, 0, 2⟩, ⟨2, 0, 2⟩, ⟨2, 1, 1⟩]⟩
def aw1 : Gr := ⟨2, 2, [⟨0, 0, 0⟩, ⟨0, 1, 1⟩, ⟨1, 0, 0⟩]⟩
theorem aw_mer : merA aw0 = (aw1, [0, 1, 0], 0) := by kernel_rfl
theorem aw_sep : sepA aw0 0 1 = ([1], true, 0) := by kernel_rfl
end Go.Proofs.YtaclgmhinljkbaaGreatDoor
namespace Go.Proofs.YtaclgmhinljkbaaGreatDoor
open Go.RowKit Go.Sort Go.Shelf Go.Lib

set_option maxRecDepth 100000 in
set_option maxHeartbeats 2000000 in
theorem gStep_any (G : Gr) (p : Option Addr) (c : Nat) (st : List Int) (q : Option Addr) (d : Nat) (b : Int) (w : World) (hin : Sg 3 w edE p G.es) (hst : Sl w (Value.int .i64) q st) (hl : G.es.length ≤ 10000) (hs : st.length ≤ 100000) :
    Calls Tryz.prog 111 #[(.agg #[.int .i64 G.q, .int .i64 G.n, .slice p G.es.length c]), .slice q st.length d, .int .i64 b] w (RetLi (stepA G st b).1 (stepA G st b).2 w) := by
  have HIN := hidI hin; have HST := hidI hst
  clear hin hst
  obtain ⟨w0, hw0⟩ : ∃ w0, w0 = (w.alloc (.cells #[.int .i64 G.q, .int .i64 G.n, .slice p G.es.length c] 29)).alloc (.cells #[.int .i64 b] 3) := ⟨_, rfl⟩
  have b0 : VRow w0 w.heap.size 29 [.int .i64 G.q, .int .i64 G.n, .slice p G.es.length c] := by subst hw0; exact (VRow.new w _ _).alloc _
  have b1 : VRow w0 (w.heap.size + 1) 3 [.int .i64 b] := by subst hw0; exact VRow.new1 w _ _ _
  have hB0 : RowKit.Below w.heap.size w w0 := by subst hw0; exact ((RowKit.Below.refl _ _).alloc (Nat.le_refl _) _).alloc (by simp) _
  obtain ⟨r, hr⟩ : ∃ r, chkG G = r := ⟨_, rfl⟩
  by_cases hr0 : r = 0
  · subst hr0
    obtain ⟨r2, hr2⟩ : ∃ r2, chkS G.n none st = r2 := ⟨_, rfl⟩
    by_cases hok : r2 = 0 ∧ 0 ≤ b ∧ b < G.q
    · obtain ⟨rfl, h0, h1⟩ := hok
      have hv := chkG_ok.1 hr
      have : stepA G st b = (nextA G st b, 0) := by unfold stepA; rw [if_pos hr, if_pos hr2, if_neg (by omega)]
      rw [this]
      have hso := chkS_ok hr2
      have hlen := (St.mk hso.1 hso.2.1 : St G.n st).len hv.n1
      exact callsIn_wide.1 (gStep_in G p c st q d b w HIN.out HST.out hv (by have := hv.n2; omega) hr2 h0 h1)
    · have HR := hidI hr; have HR2 := hidI hr2
      clear hr
      go_enter Tryz.func111, Tryz.ntmps111
      go_wp2_with fail
      rw [← hw0]
      clear hw0
      refine (gCheck_r G p c _ 0 HR.out (HIN.out.below hB0) (by omega)).mono ?_
      rintro e w1 ⟨rfl, hB1⟩
      have x1 := hB0.trans (hB1.mono hB0.size)
      have c0 := b0.below hB1 b0.lt
      have c1 := b1.below hB1 b1.lt
      clear hB1 hB0 b0 b1
      have f0 := c0.at 0 rfl; have f1 := c0.at 1 rfl; have f2 := c0.at 2 rfl
      go_wp2_with fail
      refine (gCheckSet_any G p c st q d _ (HST.out.below x1) (by omega)).mono ?_
      rw [hr2]
      rintro e w2 ⟨rfl, hB2⟩
      have x2 := x1.trans (hB2.mono x1.size)
      have d0 := c0.below hB2 c0.lt
      have d1 := c1.below hB2 c1.lt
      clear f0 f1 f2 hB2 c0 c1
      have f0 := d0.at 0 rfl; have g0 := d1.at 0 rfl
      by_cases h2 : r2 = 0
      · subst h2
        clear hr2
        by_cases h0 : b < 0
        · have HK : Hid (stepA G st b = ([], 2)) := by unfold Hid stepA; rw [if_pos HR.out, if_pos HR2.out, if_pos (.inl h0)]
          go_wp2
          go_ret2
          exact RetLi.nil HK.out x2
        · have h1 : G.q ≤ b := by omega
          have HK : Hid (stepA G st b = ([], 2)) := by unfold Hid stepA; rw [if_pos HR.out, if_pos HR2.out, if_pos (.inr h1)]
          go_wp2
          go_ret2
          exact RetLi.nil HK.out x2
      · have HK : Hid (stepA G st b = ([], r2)) := by unfold Hid stepA; rw [if_pos HR.out, HR2.out, if_neg h2]
        have hrb : (r2 == 0) = false := by simpa using h2
        clear hr2 hok
        go_wp2
        go_ret2
        exact RetLi.nil HK.out x2
  · have HK : Hid (stepA G st b = ([], 1)) := by unfold Hid stepA; rw [if_neg (by rw [hr]; exact hr0)]
    have hrb : (r == 0) = false := by simpa using hr0
    have HR := hidI hr
    clear hr
    go_enter Tryz.func111, Tryz.ntmps111
    go_wp2_with fail
    rw [← hw0]
    clear hw0
    refine (gCheck_r G p c _ r HR.out (HIN.out.below hB0) (by omega)).mono ?_
    rintro e w1 ⟨rfl, hB1⟩
    have x1 := hB0.trans (hB1.mono hB0.size)
    go_wp2
    go_ret2
    exact RetLi.nil HK.out x1
end Go.Proofs.YtaclgmhinljkbaaGreatDoor
namespace Go.Proofs.YtaclgmhinljkbaaGreatDoor
open Go.RowKit Go.Sort Go.Shelf Go.Lib

def leadsA (G : Gr) : List Int → List Int → List Int
  | st, [] => st
  | st, b :: l => if (stepA G st b).2 = 0 then leadsA G (stepA G st b).1 l else []
theorem stepA_len (G : Gr) (st : List Int) (b : Int) : (stepA G st b).1.length ≤ 64 := by
  unfold stepA
  split
  · rename_i h
    have hv := chkG_ok.1 h
    split
    · split
      · exact Nat.zero_le _
      · have := uptof_len (nxP G.es st b) G.n.toNat
        have := hv.n2
        show (nextA G st b).length ≤ 64
        unfold nextA
        omega
    · exact Nat.zero_le _
  · exact Nat.zero_le _
theorem leadsA_go {G : Gr} {st ws : List Int} {k : Nat} (h : k < ws.length) (h2 : (stepA G st ws[k]).2 = 0) : leadsA G st (ws.drop k) = leadsA G (stepA G st ws[k]).1 (ws.drop (k + 1)) := by
  rw [List.drop_eq_getElem_cons h, leadsA, if_pos h2]
theorem leadsA_halt {G : Gr} {st ws : List Int} {k : Nat} (h : k < ws.length) (h2 : (stepA G st ws[k]).2 ≠ 0) : leadsA G st (ws.drop k) = [] := by
  rw [List.drop_eq_getElem_cons h, leadsA, if_neg h2]
theorem leadsA_end {G : Gr} {st ws : List Int} {k : Nat} (h : ws.length ≤ k) : leadsA G st (ws.drop k) = st := by
  rw [List.drop_eq_nil_of_le h]; rfl
/-- Numbers. -/
def RetLd (l : List Int) (w : World) (e : Ending) (w' : World) : Prop := ∃ q d, e = .returned (.slice q l.length d) ∧ Sl w' (Value.int .i64) q l ∧ RowKit.Below w.heap.size w w'

/-! ### Deterministic -/
def det13A (G : Gr) : Bool := !gr13 G && (decide ((detA G).2 = 0) && (detA G).1)
end Go.Proofs.YtaclgmhinljkbaaGreatDoor
namespace Go.Proofs.YtaclgmhinljkbaaGreatDoor
open Go.RowKit

theorem upto_st {G : Gr} (hv : Vg G) : St G.n (upto G.n.toNat) := ⟨upto_srt _, fun x hx => by have := mem_upto.1 hx; have := hv.n1; omega⟩
theorem next_st {G : Gr} (hv : Vg G) (st : List Int) (b : Int) : St G.n (nextA G st b) :=
  ⟨(upto_srt _).filter _, fun x hx => (upto_st hv).ins x (List.mem_filter.1 hx).1⟩
theorem leads_fold {G : Gr} (hv : Vg G) : ∀ (w st : List Int), St G.n st → Lab G.q.toNat w → leadsA G st w = w.foldl (nextA G) st
  | [], _, _, _ => rfl
  | b :: w, st, hs, hl => by
    have hb := hl b (by simp)
    have hq := hv.q1
    have e : stepA G st b = (nextA G st b, 0) := by
      unfold stepA
      rw [if_pos (chkG_ok.2 hv), if_pos hs.chk, if_neg (by omega)]
    rw [leadsA, e]
    simp only [if_true]
    rw [leads_fold hv w _ (next_st hv st b) (fun y hy => hl y (by simp [hy])), List.foldl_cons]
theorem leads_bad {G : Gr} (hv : Vg G) : ∀ (w st : List Int), St G.n st → ¬ Lab G.q.toNat w → leadsA G st w = []
  | [], _, _, h => absurd (fun x hx => by cases hx) h
  | b :: w, st, hs, h => by
    have hq := hv.q1
    rw [leadsA]
    by_cases hb : 0 ≤ b ∧ b < (G.q.toNat : Int)
    · have e : stepA G st b = (nextA G st b, 0) := by
        unfold stepA
        rw [if_pos (chkG_ok.2 hv), if_pos hs.chk, if_neg (by omega)]
      rw [e]
      simp only [if_true]
      refine leads_bad hv w _ (next_st hv st b) (fun hl => h (fun x hx => ?_))
      rcases List.mem_cons.1 hx with rfl | hx
      · exact hb
      · exact hl x hx
    · have e : stepA G st b = ([], 2) := by
        unfold stepA
        rw [if_pos (chkG_ok.2 hv), if_pos hs.chk, if_pos (by omega)]
      rw [e, if_neg (by decide)]
theorem run_bad {G : Gr} (hv : Vg G) : ∀ (w : List Int) (s : Int), ¬ Lab G.q.toNat w → run1 G.es s w < 0
  | [], _, h => absurd (fun x hx => by cases hx) h
  | b :: w, s, h => by
    have hq := hv.q1
    rw [run1_cons]
    by_cases hb : 0 ≤ b ∧ b < (G.q.toNat : Int)
    · exact run_bad hv w _ (fun hl => h (fun x hx => by
        rcases List.mem_cons.1 hx with rfl | hx
        · exact hb
        · exact hl x hx))
    · refine run1_neg w ?_
      by_cases hs : s < 0
      · rw [nxt_neg hs]; omega
      · rw [nxt_pos hs]
        by_cases ht : tgt G.es s b = -1
        · omega
        · obtain ⟨y, hy, _, hl, _⟩ := tgt_mem ht
          have := hv.ins y hy
          omega
/-- A word of a graph. -/
theorem word_iff {G : Gr} (hc : chkG G = 0) (he : (sbA G).2.2 = 0) (w : List Int) : leadsA G (upto G.n.toNat) w ≠ [] ↔ 0 ≤ run1 (sbA G).1.es (st0 G) w := by
  have hv := chkG_ok.1 hc
  obtain ⟨hsv, hsu⟩ := sbA_ok he
  have hn := hv.n1
  have hq : (sbA G).1.q = G.q := by
    unfold sbA at he ⊢
    rw [if_pos hc] at he ⊢
    by_cases h0 : G.n = 0
    · rw [if_pos h0]
    · rw [if_neg h0] at he ⊢
      cases hg : sbGo G 66 0 ([upto G.n.toNat], []) with
      | none => rw [hg] at he; cases he
      | some r => rfl
  by_cases hl : Lab G.q.toNat w
  · rw [leads_fold hv w _ (upto_st hv) hl]
    by_cases h0 : G.n = 0
    · have hs0 : st0 G = -1 := by
        unfold st0 sbA
        rw [if_pos hc, if_pos h0]; rfl
      have hu0 : upto G.n.toNat = [] := by rw [h0]; rfl
      rw [hs0, hu0]
      have e1 := run1_neg (es := (sbA G).1.es) w (s := -1) (by omega)
      have e2 : ∀ w : List Int, w.foldl (nextA G) [] = [] := by
        intro w
        induction w with
        | nil => rfl
        | cons b w ih =>
          rw [List.foldl_cons]
          have : nextA G [] b = [] := by
            unfold nextA
            rw [List.filter_eq_nil_iff]
            intro z _ hz
            obtain ⟨y, _, hy⟩ := List.any_eq_true.1 hz
            simp [nxE] at hy
          rw [this]; exact ih
      rw [e2]
      exact ⟨fun h => absurd rfl h, fun h => by omega⟩
    · unfold st0
      unfold sbA at he hsu ⊢
      rw [if_pos hc, if_neg h0] at he hsu ⊢
      cases hg : sbGo G 66 0 ([upto G.n.toNat], []) with
      | none => rw [hg] at he; cases he
      | some r =>
        rw [hg] at hsu
        simp only at hsu ⊢
        have hs : Sw G 0 0 ([upto G.n.toNat], []) := ⟨fun j b set _ h _ _ => by omega, fun x hx => by cases hx⟩
        obtain ⟨⟨k, k1, k2⟩, k3⟩ := sbGo_sw (x := upto G.n.toNat) _ _ _ r hs rfl hg
        have hlen := (List.getElem?_eq_some_iff.1 k3).1
        rw [if_pos (by omega)]
        have hne : upto G.n.toNat ≠ [] := fun e => by
          have e2 := congrArg List.length e
          rw [upto_len, List.length_nil] at e2
          omega
        exact (sets_run k1 k2 hsu w 0 _ k3 hne hl).symm
  · rw [leads_bad hv w _ (upto_st hv) hl]
    have := run_bad hsv w (st0 G) (by rw [hq]; exact hl)
    exact ⟨fun h => absurd rfl h, fun h => by omega⟩
end Go.Proofs.YtaclgmhinljkbaaGreatDoor
namespace Go.Proofs.YtaclgmhinljkbaaGreatDoor
open Go.RowKit

def wordA (G : Gr) (w : List Int) : Bool := decide (leadsA G (upto G.n.toNat) w ≠ [])
theorem includes_plain (G H : Gr) : ((srA G H incB).2.2 ≠ 0 → (srA G H incB).1 = [] ∧ (srA G H incB).2.1 = false) ∧
    ((srA G H incB).2.2 = 0 → (srA G H incB).2.1 = false → wordA G (srA G H incB).1 = true ∧ wordA H (srA G H incB).1 = false) ∧
    ((srA G H incB).2.2 = 0 → (srA G H incB).2.1 = true → (srA G H incB).1 = [] ∧ ∀ w, Lab G.q.toNat w → wordA G w = true → wordA H w = true) := by
  by_cases hc : chkG G ≠ 0 ∨ chkG H ≠ 0
  · have e1 : srA G H incB = ([], false, 1) := by unfold srA; rw [if_pos hc]
    rw [e1]
    exact ⟨fun _ => ⟨rfl, rfl⟩, (fun h => by cases h), (fun h => by cases h)⟩
  · have hG : chkG G = 0 := Decidable.byContradiction fun h => hc (.inl h)
    have hH : chkG H = 0 := Decidable.byContradiction fun h => hc (.inr h)
    by_cases kG : (sbA G).2.2 = 0
    · by_cases kH : (sbA H).2.2 = 0
      · have wG := word_iff hG kG
        have wH := word_iff hH kH
        by_cases h0 : st0 G = -1 ∧ st0 H = -1
        · have e1 : srA G H incB = ([], true, 0) := by unfold srA; rw [if_neg hc, if_neg (by simp [kG]), if_neg (by simp [kH]), if_pos h0]
          rw [e1]
          refine ⟨fun h => absurd rfl h, (fun _ h => by cases h), fun _ _ => ⟨rfl, fun w _ h => ?_⟩⟩
          have h2 := (wG w).1 (of_decide_eq_true h)
          rw [h0.1] at h2
          have := run1_neg (es := (sbA G).1.es) w (s := -1) (by omega)
          omega
        · have e1 : srA G H incB = ((fwA (srO G H incB)).1, !(fwA (srO G H incB)).2, 0) := by unfold srA; rw [if_neg hc, if_neg (by simp [kG]), if_neg (by simp [kH]), if_neg h0]
          rw [e1]
          obtain ⟨b1, b2, b3⟩ := sb_bd0 kG
          obtain ⟨c1, c2, c3⟩ := sb_bd0 kH
          have L1 := include_laws (L := (max G.q H.q).toNat) b1 c1 b2 b3 c2 c3
          change (match srO G H incB with | some w => Lab (max G.q H.q).toNat w ∧ 0 ≤ run1 (sbA G).1.es (st0 G) w ∧ run1 (sbA H).1.es (st0 H) w < 0 | none => ∀ v, Lab (max G.q H.q).toNat v → 0 ≤ run1 (sbA G).1.es (st0 G) v → 0 ≤ run1 (sbA H).1.es (st0 H) v) at L1
          cases ho : srO G H incB with
          | none =>
            rw [ho] at L1
            refine ⟨fun h => absurd rfl h, (fun _ h => by cases h), fun _ _ => ⟨rfl, fun w hl h => ?_⟩⟩
            have h2 := (wG w).1 (of_decide_eq_true h)
            have h3 := L1 w (fun x hx => by have := hl x hx; omega) h2
            exact decide_eq_true ((wH w).2 h3)
          | some v =>
            rw [ho] at L1
            obtain ⟨k1, k2, k3⟩ := L1
            refine ⟨fun h => absurd rfl h, fun _ _ => ⟨decide_eq_true ((wG v).2 k2), decide_eq_false (fun h => ?_)⟩, (fun _ h => by cases h)⟩
            have := (wH v).1 h
            omega
      · have e1 : srA G H incB = ([], false, (sbA H).2.2) := by unfold srA; rw [if_neg hc, if_neg (by simp [kG]), if_pos kH]
        rw [e1]
        exact ⟨fun _ => ⟨rfl, rfl⟩, fun h => absurd h kH, fun h => absurd h kH⟩
    · have e1 : srA G H incB = ([], false, (sbA G).2.2) := by unfold srA; rw [if_neg hc, if_pos kG]
      rw [e1]
      exact ⟨fun _ => ⟨rfl, rfl⟩, fun h => absurd h kG, fun h => absurd h kG⟩
end Go.Proofs.YtaclgmhinljkbaaGreatDoor
namespace Go.Proofs.YtaclgmhinljkbaaGreatDoor
open Go.RowKit Go.Sort Go.Shelf Go.Lib

/-- Does a word of a list lie in a word that a closure holds? -/
theorem cf_any (g : Nat) (eg : ∀ args w, (callFunc g args).run Tryz.prog w = .ok (.enter g args) w) (l : List ByteArray) (p : Option Addr) (c : Nat) (s : ByteArray) (b : Nat) (w : World)
    (hg : ∀ (u : ByteArray) (W : World), Mx W → W.cell? ⟨b, 0, none⟩ = some (.string s) → Calls Tryz.prog g #[.string u, .pointer (some ⟨b, 0, none⟩)] W fun e w' => e = .returned (.bool (Lib.contains s.data.toList u.data.toList)) ∧ w' = W)
    (hin : Sl w Value.string p l) (hl : l.length ≤ 9223372036854775807) (hm : Mx w) (hb : VRow w b 9 [.string s]) :
    Calls Tryz.prog 19 #[.slice p l.length c, .func (.func g) #[] #[.pointer (some ⟨b, 0, none⟩)]] w fun e w' => e = .returned (.bool (l.any (fun u => Lib.contains s.data.toList u.data.toList))) ∧ Dr w w' := by
  rcases Nat.eq_zero_or_pos l.length with h0 | h0
  · have : l = [] := List.length_eq_zero_iff.1 h0
    subst this
    refine (Tryz.slices_ContainsFunc_empty (α := ByteArray) p c _ w).mono ?_
    rintro e w' ⟨rfl, rfl⟩
    exact ⟨rfl, Dr.refl _⟩
  · obtain ⟨b1, off, rfl, hb1, hc⟩ := hin.get 0 h0
    refine (Tryz.slices_ContainsFunc Value.string (fun u => Lib.contains s.data.toList u.data.toList) g #[.pointer (some ⟨b, 0, none⟩)] eg b1 off l.length c l w ?_ (Nat.le_refl _) hl ?_).mono ?_
    · intro W x hW
      exact (hg x W (hm.below hW) ((hb.below hW hb.lt).at 0 rfl)).mono (fun e w' h => ⟨h.1, 0, h.2⟩)
    · intro j hj
      rw [hc j hj, getElem!_pos _ j hj]
    · rintro e w' ⟨rfl, q, rfl⟩
      rw [List.take_length]
      exact ⟨rfl, ⟨q, rfl⟩⟩

end Go.Proofs.YtaclgmhinljkbaaGreatDoor
namespace Go.Proofs.YtaclgmhinljkbaaGreatDoor
open Go.RowKit Go.Sort

/-! ### Extending a word letter by letter -/
section
variable {α : Type}
def cutL (left : Bool) (n : Nat) (v : List α) : List α := if left = true then v.take n else v.drop (v.length - n)
def xL (left : Bool) (s : List α) (c : α) : List α := if left = true then c :: s else s ++ [c]
/-- There are m more letters. -/
def Lv (S : List α) (L : List (List α)) (left : Bool) (n : Nat) : Nat → List α → Prop
  | 0, _ => True
  | m + 1, s => ∃ c ∈ S, Av L (xL left s c) ∧ Lv S L left n m (cutL left n (xL left s c))
theorem Lv.anti {S : List α} {L : List (List α)} {left : Bool} {n : Nat} : ∀ {m : Nat} {s : List α}, Lv S L left n (m + 1) s → Lv S L left n m s
  | 0, _, _ => trivial
  | _ + 1, _, h => by
    obtain ⟨c, hc, h1, h2⟩ := h
    exact ⟨c, hc, h1, h2.anti⟩
theorem Lv.le {S : List α} {L : List (List α)} {left : Bool} {n : Nat} {s : List α} {m k : Nat} (h : m ≤ k) (hk : Lv S L left n k s) : Lv S L left n m s := by
  induction h with
  | refl => exact hk
  | step _ ih => exact ih hk.anti
open Classical in
theorem Lv.all {S : List α} {L : List (List α)} {left : Bool} {n : Nat} {A : List (List α)} (hA : ∀ s ∈ A, ∀ c ∈ S, cutL left n (xL left s c) ∈ A) {N : Nat} (hN : A.length ≤ N) {s : List α} (hs : s ∈ A) (h : Lv S L left n N s) : ∀ j, Lv S L left n j s := by
  have hstab : ∃ m, m ≤ A.length ∧ ∀ s ∈ A, Lv S L left n m s → Lv S L left n (m + 1) s := by
    refine Classical.byContradiction fun hno => ?_
    have hlt : ∀ m, m ≤ A.length → (A.filter (fun s => decide (Lv S L left n (m + 1) s))).length < (A.filter (fun s => decide (Lv S L left n m s))).length := by
      intro m hm
      have hle : ∀ B : List (List α), (B.filter (fun s => decide (Lv S L left n (m + 1) s))).length ≤ (B.filter (fun s => decide (Lv S L left n m s))).length ∧ ((B.filter (fun s => decide (Lv S L left n (m + 1) s))).length = (B.filter (fun s => decide (Lv S L left n m s))).length → ∀ s ∈ B, Lv S L left n m s → Lv S L left n (m + 1) s) := by
        intro B
        induction B with
        | nil => exact ⟨by simp, fun _ s hs => by simp at hs⟩
        | cons b B ih =>
          by_cases h1 : Lv S L left n (m + 1) b
          · have h2 := h1.anti
            rw [List.filter_cons_of_pos (by simpa using h1), List.filter_cons_of_pos (by simpa using h2), List.length_cons, List.length_cons]
            refine ⟨by have := ih.1; omega, fun e s hs hl => ?_⟩
            rcases List.mem_cons.1 hs with e1 | e1
            · subst e1; exact h1
            · exact ih.2 (by omega) s e1 hl
          · rw [List.filter_cons_of_neg (by simpa using h1)]
            by_cases h2 : Lv S L left n m b
            · rw [List.filter_cons_of_pos (by simpa using h2), List.length_cons]
              exact ⟨by have := ih.1; omega, fun e => by have := ih.1; omega⟩
            · rw [List.filter_cons_of_neg (by simpa using h2)]
              refine ⟨ih.1, fun e s hs hl => ?_⟩
              rcases List.mem_cons.1 hs with e1 | e1
              · subst e1; exact absurd hl h2
              · exact ih.2 e s e1 hl
      have h3 := hle A
      rcases Nat.lt_or_eq_of_le h3.1 with h4 | h4
      · exact h4
      · exact absurd ⟨m, hm, h3.2 h4⟩ hno
    have hdec : ∀ m, m ≤ A.length + 1 → (A.filter (fun s => decide (Lv S L left n m s))).length + m ≤ A.length := by
      intro m
      induction m with
      | zero => intro _; exact List.length_filter_le _ _
      | succ m ih => intro hm; have := ih (by omega); have := hlt m (by omega); omega
    have := hdec (A.length + 1) (Nat.le_refl _)
    omega
  obtain ⟨m, hm, hst⟩ := hstab
  have hup : ∀ k, ∀ s ∈ A, Lv S L left n m s → Lv S L left n (m + k) s := by
    intro k
    have hst2 : ∀ i, ∀ s ∈ A, Lv S L left n (m + i) s → Lv S L left n (m + i + 1) s := by
      intro i
      induction i with
      | zero => exact hst
      | succ i ih =>
        rintro s hs ⟨c, hc, h1, h2⟩
        exact ⟨c, hc, h1, ih _ (hA s hs c hc) h2⟩
    induction k with
    | zero => intro s _ h; exact h
    | succ k ih => intro s hs h; exact hst2 k s hs (ih s hs h)
  intro j
  have h1 := hup j s hs (h.le (by omega))
  exact h1.le (by omega)
/-- A letter more on the left: nothing longer than a window is forbidden. -/
theorem av_left {L : List (List α)} {n : Nat} (hL : ∀ u ∈ L, u.length ≤ n + 1) {v : List α} {c : α} (hv : Av L v) (hc : Av L (c :: v.take n)) : Av L (c :: v) := fun u hu hi => by
  rcases List.infix_cons_iff.1 hi with h | h
  · refine hc u hu (List.IsPrefix.isInfix ?_)
    have : u <+: (c :: v).take (n + 1) := List.prefix_take_iff.2 ⟨h, hL u hu⟩
    simpa using this
  · exact hv u hu h
theorem av_right {L : List (List α)} {n : Nat} (hL : ∀ u ∈ L, u.length ≤ n + 1) {v : List α} {c : α} (hv : Av L v) (hc : Av L (v.drop (v.length - n) ++ [c])) : Av L (v ++ [c]) := fun u hu hi => by
  rcases List.infix_concat_iff.1 hi with h | h
  · refine hc u hu (List.IsSuffix.isInfix ?_)
    rcases suf_snoc h with e | ⟨z, rfl, hz⟩
    · subst e; exact List.nil_suffix
    · refine suf_snoc' c ?_
      have hzl := hL _ hu
      simp at hzl
      refine List.suffix_of_suffix_length_le hz (List.drop_suffix _ _) ?_
      have := hz.length_le
      rw [List.length_drop]; omega
  · exact hv u hu h
theorem lv_left {S : List α} {L : List (List α)} {n : Nat} (hL : ∀ u ∈ L, u.length ≤ n + 1) : ∀ {j : Nat} {v : List α}, Av L v → Lv S L true n j (v.take n) → ∃ x : List α, x.length = j ∧ (∀ c ∈ x, c ∈ S) ∧ Av L (x ++ v)
  | 0, v, hv, _ => ⟨[], rfl, by simp, by simpa using hv⟩
  | j + 1, v, hv, h => by
    obtain ⟨c, hc, h1, h2⟩ := h
    have h1 : Av L (c :: v.take n) := by simpa [xL] using h1
    have h3 := av_left hL hv h1
    have e : cutL true n (xL true (v.take n) c) = (c :: v).take n := by
      unfold cutL xL
      rw [if_pos rfl, if_pos rfl]
      cases n with
      | zero => rfl
      | succ n => rw [List.take_succ_cons, List.take_succ_cons, List.take_take]; congr 2; omega
    rw [e] at h2
    obtain ⟨x, hx1, hx2, hx3⟩ := lv_left hL h3 h2
    refine ⟨x ++ [c], by simp [hx1], fun d hd => ?_, by simpa using hx3⟩
    rcases List.mem_append.1 hd with e1 | e1
    · exact hx2 d e1
    · rw [List.mem_singleton.1 e1]; exact hc
theorem lv_right {S : List α} {L : List (List α)} {n : Nat} (hL : ∀ u ∈ L, u.length ≤ n + 1) : ∀ {j : Nat} {v : List α}, n ≤ v.length → Av L v → Lv S L false n j (v.drop (v.length - n)) → ∃ y : List α, y.length = j ∧ (∀ c ∈ y, c ∈ S) ∧ Av L (v ++ y)
  | 0, v, _, hv, _ => ⟨[], rfl, by simp, by simpa using hv⟩
  | j + 1, v, hn, hv, h => by
    obtain ⟨c, hc, h1, h2⟩ := h
    have h1 : Av L (v.drop (v.length - n) ++ [c]) := by simpa [xL] using h1
    have h3 := av_right hL hv h1
    have e : cutL false n (xL false (v.drop (v.length - n)) c) = (v ++ [c]).drop ((v ++ [c]).length - n) := by
      unfold cutL xL
      rw [if_neg (by simp), if_neg (by simp)]
      rw [List.length_append, List.length_append, List.length_drop, List.length_singleton]
      rw [show v.length - (v.length - n) + 1 - n = 1 by omega]
      cases n with
      | zero =>
        rw [List.drop_eq_nil_of_le (by simp), List.drop_eq_nil_of_le (by simp)]
      | succ n =>
        rw [List.drop_append_of_le_length (by rw [List.length_drop]; omega), List.drop_append_of_le_length (by omega), List.drop_drop]
        congr 2; omega
    rw [e] at h2
    obtain ⟨y, hy1, hy2, hy3⟩ := lv_right hL (by simp; omega) h3 h2
    refine ⟨c :: y, by simp [hy1], fun d hd => ?_, by simpa using hy3⟩
    rcases List.mem_cons.1 hd with e1 | e1
    · rw [e1]; exact hc
    · exact hy2 d e1
theorem gd_left {S : List α} {L : List (List α)} {n : Nat} : ∀ {j : Nat} {w : List α}, Gd S L w → Lv S L true n j (w.take n)
  | 0, _, _ => trivial
  | j + 1, w, h => by
    obtain ⟨c, hc, h1⟩ := h.left
    refine ⟨c, hc, ?_, ?_⟩
    · have : Av L ((c :: w).take (n + 1)) := h1.av.sub (List.take_prefix _ _).isInfix
      simpa [xL] using this
    · have e : cutL true n (xL true (w.take n) c) = (c :: w).take n := by
        unfold cutL xL
        rw [if_pos rfl, if_pos rfl]
        cases n with
        | zero => rfl
        | succ n => rw [List.take_succ_cons, List.take_succ_cons, List.take_take]; congr 2; omega
      rw [e]; exact gd_left h1
theorem gd_right {S : List α} {L : List (List α)} {n : Nat} : ∀ {j : Nat} {w : List α}, n ≤ w.length → Gd S L w → Lv S L false n j (w.drop (w.length - n))
  | 0, _, _, _ => trivial
  | j + 1, w, hn, h => by
    obtain ⟨c, hc, h1⟩ := h.right
    refine ⟨c, hc, ?_, ?_⟩
    · have : Av L (w.drop (w.length - n) ++ [c]) := h1.av.sub (suf_snoc' c (List.drop_suffix _ _)).isInfix
      simpa [xL] using this
    · have e : cutL false n (xL false (w.drop (w.length - n)) c) = (w ++ [c]).drop ((w ++ [c]).length - n) := by
        unfold cutL xL
        rw [if_neg (by simp), if_neg (by simp)]
        rw [List.length_append, List.length_append, List.length_drop, List.length_singleton]
        rw [show w.length - (w.length - n) + 1 - n = 1 by omega]
        cases n with
        | zero =>
          rw [List.drop_eq_nil_of_le (by simp), List.drop_eq_nil_of_le (by simp)]
        | succ n =>
          rw [List.drop_append_of_le_length (by rw [List.length_drop]; omega), List.drop_append_of_le_length (by omega), List.drop_drop]
          congr 2; omega
      rw [e]; exact gd_right (by simp; omega) h1
/-- All words of n letters. -/
def allW (S : List α) : Nat → List (List α)
  | 0 => [[]]
  | n + 1 => (allW S n).flatMap (fun p => S.map (fun c => c :: p))
theorem allW_len (S : List α) {k : Nat} (hk : S.length ≤ k) : ∀ n, (allW S n).length ≤ k ^ n
  | 0 => by simp [allW]
  | n + 1 => by
    have ih := allW_len S hk n
    have h : ∀ B : List (List α), (B.flatMap (fun p => S.map (fun c => c :: p))).length ≤ B.length * k := by
      intro B
      induction B with
      | nil => simp
      | cons b B ih => rw [List.flatMap_cons, List.length_append, List.length_map, List.length_cons, Nat.succ_mul]; omega
    exact Nat.le_trans (h _) (by rw [Nat.pow_succ]; exact Nat.mul_le_mul_right _ ih)
theorem mem_allW {S : List α} : ∀ {n : Nat} {p : List α}, p ∈ allW S n ↔ p.length = n ∧ ∀ c ∈ p, c ∈ S
  | 0, p => by
    unfold allW
    rw [List.mem_singleton]
    constructor
    · rintro rfl; simp
    · rintro ⟨h, _⟩; exact List.length_eq_zero_iff.1 h
  | n + 1, p => by
    unfold allW
    rw [List.mem_flatMap]
    constructor
    · rintro ⟨p', h1, h2⟩
      obtain ⟨c, hc, rfl⟩ := List.mem_map.1 h2
      obtain ⟨h3, h4⟩ := mem_allW.1 h1
      refine ⟨by simp [h3], fun d hd => ?_⟩
      rcases List.mem_cons.1 hd with e | e
      · rw [e]; exact hc
      · exact h4 d e
    · rintro ⟨h1, h2⟩
      cases p with
      | nil => simp at h1
      | cons c p => exact ⟨p, mem_allW.2 ⟨by simpa using h1, fun d hd => h2 d (by simp [hd])⟩, List.mem_map.2 ⟨c, h2 c (by simp), rfl⟩⟩
theorem cut_mem {S : List α} {left : Bool} {n : Nat} {s : List α} (hs : s ∈ allW S n) {c : α} (hc : c ∈ S) : cutL left n (xL left s c) ∈ allW S n := by
  obtain ⟨h1, h2⟩ := mem_allW.1 hs
  have h3 : ∀ d ∈ xL left s c, d ∈ S := by
    intro d hd
    unfold xL at hd
    split at hd
    · rcases List.mem_cons.1 hd with e | e
      · rw [e]; exact hc
      · exact h2 d e
    · rcases List.mem_append.1 hd with e | e
      · exact h2 d e
      · rw [List.mem_singleton.1 e]; exact hc
  have h4 : (xL left s c).length = n + 1 := by unfold xL; split <;> simp [h1]
  refine mem_allW.2 ⟨?_, fun d hd => h3 d ?_⟩
  · unfold cutL; split
    · rw [List.length_take, h4]; omega
    · rw [List.length_drop, h4]; omega
  · unfold cutL at hd; split at hd
    · exact List.mem_of_mem_take hd
    · exact List.mem_of_mem_drop hd
end
theorem nd_le {α : Type} [DecidableEq α] : ∀ {l m : List α}, l.Nodup → (∀ x ∈ l, x ∈ m) → l.length ≤ m.length
  | [], _, _, _ => by simp
  | a :: l, m, hn, hs => by
    obtain ⟨h1, h2⟩ := List.nodup_cons.1 hn
    have ih := nd_le (l := l) (m := m.erase a) h2 (fun x hx => (List.mem_erase_of_ne (fun e => h1 (by rw [← e]; exact hx))).2 (hs x (by simp [hx])))
    have hm := hs a (by simp)
    have := List.length_erase_of_mem hm
    have h0 : 0 < m.length := List.length_pos_of_mem hm
    rw [List.length_cons]; omega
/-- Allowed, and extendable by any number of single steps on both sides. -/
theorem gd_iff {α : Type} {S : List α} {L : List (List α)} {n N : Nat} (hL : ∀ u ∈ L, u.length ≤ n + 1) (hS : (allW S n).length ≤ N) {w : List α} (hn : n ≤ w.length) (hw : ∀ c ∈ w, c ∈ S) :
    Gd S L w ↔ Av L w ∧ Lv S L true n N (w.take n) ∧ Lv S L false n N (w.drop (w.length - n)) := by
  constructor
  · intro h; exact ⟨h.av, gd_left h, gd_right hn h⟩
  · rintro ⟨h1, h2, h3⟩ m
    have hA : ∀ left, ∀ s ∈ allW S n, ∀ c ∈ S, cutL left n (xL left s c) ∈ allW S n := fun left s hs c hc => cut_mem hs hc
    have m1 : w.take n ∈ allW S n := mem_allW.2 ⟨by rw [List.length_take]; omega, fun c hc => hw c (List.mem_of_mem_take hc)⟩
    have m2 : w.drop (w.length - n) ∈ allW S n := mem_allW.2 ⟨by rw [List.length_drop]; omega, fun c hc => hw c (List.mem_of_mem_drop hc)⟩
    obtain ⟨x, hx1, hx2, hx3⟩ := lv_left hL h1 (Lv.all (hA true) hS m1 h2 m)
    have e : (x ++ w).drop ((x ++ w).length - n) = w.drop (w.length - n) := by
      rw [List.length_append, show x.length + w.length - n = x.length + (w.length - n) by omega, List.drop_append, List.drop_eq_nil_of_le (by omega), List.nil_append]
      congr 1; omega
    obtain ⟨y, hy1, hy2, hy3⟩ := lv_right (v := x ++ w) hL (by simp; omega) hx3 (by rw [e]; exact Lv.all (hA false) hS m2 h3 m)
    exact ⟨x, y, by omega, by omega, hx2, hy2, hy3⟩

/-! ### As the law does it -/
def cutB (left : Bool) (n : Nat) (s : ByteArray) : ByteArray := if left = true then s.extract 0 (min n s.size) else s.extract (s.size - n) s.size
def xB (left : Bool) (s : ByteArray) (a : Nat) : ByteArray := if left = true then ltB.extract a (a + 1) ++ s else wdA s a
def inB (x : ByteArray) (l : List ByteArray) : Bool := l.any (fun u => decide (u = x))
theorem inB_iff {x : ByteArray} {l : List ByteArray} : inB x l = true ↔ x ∈ l := by
  unfold inB
  rw [List.any_eq_true]
  exact ⟨fun ⟨u, hu, he⟩ => by rw [← of_decide_eq_true he]; exact hu, fun h => ⟨x, h, decide_eq_true rfl⟩⟩
def exOne (l : List ByteArray) (left : Bool) (n : Nat) (acc : List ByteArray) (s : ByteArray) (a : Nat) : List ByteArray :=
  if alwA l (xB left s a) = true ∧ inB (cutB left n (xB left s a)) acc = false then acc ++ [cutB left n (xB left s a)] else acc
def exRow (l : List ByteArray) (left : Bool) (n : Nat) (acc : List ByteArray) (s : ByteArray) : Nat → List ByteArray
  | 0 => acc
  | a + 1 => exOne l left n (exRow l left n acc s a) s a
def exAll (q : Nat) (l : List ByteArray) (left : Bool) (n : Nat) (now : List ByteArray) : Nat → List ByteArray
  | 0 => []
  | k + 1 => exRow l left n (exAll q l left n now k) (now.getD k (⟨#[]⟩ : ByteArray)) q
def exStep (q : Nat) (l : List ByteArray) (left : Bool) (n : Nat) (now : List ByteArray) : List ByteArray := exAll q l left n now now.length
def exN (q : Nat) (l : List ByteArray) (left : Bool) (n : Nat) (now : List ByteArray) : Nat → List ByteArray
  | 0 => now
  | i + 1 => exStep q l left n (exN q l left n now i)
def extA (q : Nat) (l : List ByteArray) (left : Bool) (n : Nat) (w : ByteArray) : Bool := decide (0 < (exN q l left n [cutB left n w] 30).length)
theorem bl_cut (left : Bool) (n : Nat) (s : ByteArray) : bl (cutB left n s) = cutL left n (bl s) := by
  unfold cutB cutL
  split
  · rw [bl_ext, List.drop_zero, ← bl_len]
    rcases Nat.le_total n (bl s).length with h | h
    · rw [Nat.min_eq_left h]
    · rw [Nat.min_eq_right h, List.take_length, List.take_of_length_le h]
  · rw [bl_ext, ← bl_len, List.take_length]
theorem bl_x (left : Bool) (s : ByteArray) (a : Nat) (h : a < 16) : bl (xB left s a) = xL left (bl s) (lt (a : Int)) := by
  unfold xB xL
  split
  · have := bl_wd (⟨#[]⟩ : ByteArray) a h
    unfold wdA at this
    rw [bl_app] at this ⊢
    rw [show bl (⟨#[]⟩ : ByteArray) = [] from rfl, List.nil_append, List.nil_append] at this
    rw [this]; rfl
  · exact bl_wd s a h
theorem mem_exOne {l : List ByteArray} {left : Bool} {n : Nat} {acc : List ByteArray} {s : ByteArray} {a : Nat} {z : ByteArray} : z ∈ exOne l left n acc s a ↔ z ∈ acc ∨ (alwA l (xB left s a) = true ∧ z = cutB left n (xB left s a)) := by
  unfold exOne
  split
  · rename_i h
    rw [List.mem_append, List.mem_singleton]
    exact ⟨fun h' => h'.imp id (fun e => ⟨h.1, e⟩), fun h' => h'.imp id (fun e => e.2)⟩
  · rename_i h
    refine ⟨.inl, fun h' => h'.elim id (fun e => ?_)⟩
    exact Classical.byContradiction fun hn => h ⟨e.1, by rw [← e.2, Bool.eq_false_iff]; exact fun hi => hn (inB_iff.1 hi)⟩
theorem mem_exRow {l : List ByteArray} {left : Bool} {n : Nat} {acc : List ByteArray} {s : ByteArray} {z : ByteArray} : ∀ {a : Nat}, z ∈ exRow l left n acc s a ↔ z ∈ acc ∨ ∃ b, b < a ∧ alwA l (xB left s b) = true ∧ z = cutB left n (xB left s b)
  | 0 => by simp [exRow]
  | a + 1 => by
    rw [exRow, mem_exOne, mem_exRow]
    constructor
    · rintro ((h | ⟨b, h1, h2⟩) | h)
      · exact .inl h
      · exact .inr ⟨b, by omega, h2⟩
      · exact .inr ⟨a, by omega, h⟩
    · rintro (h | ⟨b, h1, h2⟩)
      · exact .inl (.inl h)
      · by_cases e : b = a
        · subst e; exact .inr h2
        · exact .inl (.inr ⟨b, by omega, h2⟩)
theorem mem_exAll {q : Nat} {l : List ByteArray} {left : Bool} {n : Nat} {now : List ByteArray} {z : ByteArray} : ∀ {k : Nat}, k ≤ now.length → (z ∈ exAll q l left n now k ↔ ∃ s ∈ now.take k, ∃ b, b < q ∧ alwA l (xB left s b) = true ∧ z = cutB left n (xB left s b))
  | 0, _ => by simp [exAll]
  | k + 1, hk => by
    rw [exAll, mem_exRow, mem_exAll (by omega), List.take_succ_eq_append_getElem (by omega : k < now.length)]
    rw [show now.getD k (⟨#[]⟩ : ByteArray) = now[k] by simp [List.getD, List.getElem?_eq_getElem (by omega : k < now.length)]]
    constructor
    · rintro (⟨s, h1, h2⟩ | h)
      · exact ⟨s, List.mem_append_left _ h1, h2⟩
      · exact ⟨_, List.mem_append_right _ (List.mem_singleton.2 rfl), h⟩
    · rintro ⟨s, h1, h2⟩
      rcases List.mem_append.1 h1 with e | e
      · exact .inl ⟨s, e, h2⟩
      · rw [List.mem_singleton.1 e] at h2; exact .inr h2
theorem mem_exStep {q : Nat} {l : List ByteArray} {left : Bool} {n : Nat} {now : List ByteArray} {z : ByteArray} : z ∈ exStep q l left n now ↔ ∃ s ∈ now, ∃ b, b < q ∧ alwA l (xB left s b) = true ∧ z = cutB left n (xB left s b) := by
  unfold exStep
  rw [mem_exAll (Nat.le_refl _), List.take_length]
theorem exN_front (q : Nat) (l : List ByteArray) (left : Bool) (n : Nat) : ∀ (i : Nat) (now : List ByteArray), exN q l left n now (i + 1) = exN q l left n (exStep q l left n now) i
  | 0, _ => rfl
  | i + 1, now => by rw [exN, exN_front q l left n i now]; rfl
theorem exN_pos {q : Nat} (hq : q ≤ 16) {l : List ByteArray} {left : Bool} {n : Nat} : ∀ {i : Nat} {now : List ByteArray}, 0 < (exN q l left n now i).length ↔ ∃ s ∈ now, Lv (sigL (q : Int)) (Ls l) left n i (bl s)
  | 0, now => by
    rw [exN, List.length_pos_iff_exists_mem]
    exact ⟨fun ⟨s, h⟩ => ⟨s, h, trivial⟩, fun ⟨s, h, _⟩ => ⟨s, h⟩⟩
  | i + 1, now => by
    rw [exN_front, exN_pos hq]
    constructor
    · rintro ⟨z, hz, hl⟩
      obtain ⟨s, hs, b, hb, h1, rfl⟩ := mem_exStep.1 hz
      rw [bl_cut, bl_x left s b (by omega)] at hl
      have h1 := av_iff.1 h1
      rw [bl_x left s b (by omega)] at h1
      exact ⟨s, hs, lt (b : Int), (mem_sig (by omega)).2 ⟨b, by omega, rfl⟩, h1, hl⟩
    · rintro ⟨s, hs, c, hc, h1, h2⟩
      obtain ⟨b, hb, rfl⟩ := (mem_sig (by omega)).1 hc
      have hb' : b < q := by omega
      refine ⟨_, mem_exStep.2 ⟨s, hs, b, hb', av_iff.2 ?_, rfl⟩, ?_⟩
      · rw [bl_x left s b (by omega)]; exact h1
      · rw [bl_cut, bl_x left s b (by omega)]; exact h2
theorem ext_iff {q : Nat} (hq : q ≤ 16) {l : List ByteArray} {left : Bool} {n : Nat} {w : ByteArray} : extA q l left n w = true ↔ Lv (sigL (q : Int)) (Ls l) left n 30 (cutL left n (bl w)) := by
  unfold extA
  rw [decide_eq_true_eq, exN_pos hq]
  constructor
  · rintro ⟨s, hs, h⟩; rw [List.mem_singleton.1 hs, bl_cut] at h; exact h
  · intro h; exact ⟨_, List.mem_singleton.2 rfl, by rw [bl_cut]; exact h⟩
/-- The lists stay short. -/
def ExI (q : Nat) (n : Nat) (acc : List ByteArray) : Prop := acc.Nodup ∧ ∀ z ∈ acc, bl z ∈ allW (sigL (q : Int)) n
theorem ExI.len {q n : Nat} (hq : q ≤ 3) (hn : n ≤ 3) {acc : List ByteArray} (h : ExI q n acc) : acc.length ≤ 27 := by
  have h1 : (acc.map bl).Nodup := by
    unfold List.Nodup
    rw [List.pairwise_map]
    exact h.1.imp (fun hne e => hne (bl_inj e))
  have h2 := nd_le h1 (m := allW (sigL (q : Int)) n) (fun x hx => by obtain ⟨z, hz, rfl⟩ := List.mem_map.1 hx; exact h.2 z hz)
  have h3 := allW_len (sigL (q : Int)) (k := 3) (by unfold sigL; rw [List.length_take]; omega) n
  have h4 : 3 ^ n ≤ 3 ^ 3 := Nat.pow_le_pow_right (by omega) hn
  rw [List.length_map] at h2
  omega
theorem ExI.one {q n : Nat} (hq : q ≤ 16) {l : List ByteArray} {left : Bool} {acc : List ByteArray} {s : ByteArray} {a : Nat} (h : ExI q n acc) (hs : bl s ∈ allW (sigL (q : Int)) n) (ha : a < q) : ExI q n (exOne l left n acc s a) := by
  have hz : bl (cutB left n (xB left s a)) ∈ allW (sigL (q : Int)) n := by
    rw [bl_cut, bl_x left s a (by omega)]
    exact cut_mem hs ((mem_sig (by omega)).2 ⟨a, by omega, rfl⟩)
  refine ⟨?_, fun z hm => ?_⟩
  · unfold exOne
    split
    · rename_i hc
      exact List.nodup_append.2 ⟨h.1, by simp, fun x hx y hy e => by have h2 := hc.2; rw [inB_iff.2 (by rw [← List.mem_singleton.1 hy, ← e]; exact hx)] at h2; cases h2⟩
    · exact h.1
  · rcases mem_exOne.1 hm with e | e
    · exact h.2 z e
    · rw [e.2]; exact hz
theorem ExI.row {q n : Nat} (hq : q ≤ 16) {l : List ByteArray} {left : Bool} {acc : List ByteArray} {s : ByteArray} (h : ExI q n acc) (hs : bl s ∈ allW (sigL (q : Int)) n) : ∀ {a : Nat}, a ≤ q → ExI q n (exRow l left n acc s a)
  | 0, _ => h
  | a + 1, ha => (ExI.row hq h hs (by omega)).one hq hs (by omega)
theorem ExI.all {q n : Nat} (hq : q ≤ 16) {l : List ByteArray} {left : Bool} {now : List ByteArray} (h : ExI q n now) : ∀ {k : Nat}, k ≤ now.length → ExI q n (exAll q l left n now k)
  | 0, _ => ⟨List.nodup_nil, by simp [exAll]⟩
  | k + 1, hk => by
    rw [exAll]
    refine (ExI.all hq h (by omega)).row hq ?_ (Nat.le_refl _)
    rw [show now.getD k (⟨#[]⟩ : ByteArray) = now[k] by simp [List.getD, List.getElem?_eq_getElem (by omega : k < now.length)]]
    exact h.2 _ (List.getElem_mem _)
theorem ExI.n {q n : Nat} (hq : q ≤ 16) {l : List ByteArray} {left : Bool} {now : List ByteArray} (h : ExI q n now) : ∀ i, ExI q n (exN q l left n now i)
  | 0 => h
  | i + 1 => (ExI.n hq h i).all hq (Nat.le_refl _)
theorem okw_sig {q : Int} (hq : q ≤ 16) {w : ByteArray} (hw : Chg.okw q (bl w) = true) : ∀ c ∈ bl w, c ∈ sigL q := fun c hc => by
  have h := List.all_eq_true.1 hw c hc
  unfold Chg.okc at h
  rw [Bool.and_eq_true, decide_eq_true_eq, decide_eq_true_eq] at h
  have h0 : 0 ≤ dg c := h.1
  have h1 : dg c < q := h.2
  exact (mem_sig hq).2 ⟨(dg c).toNat, by omega, by rw [show (((dg c).toNat : Nat) : Int) = dg c by omega]; exact lt_of c h0⟩
theorem ExI.start {q n : Nat} (hq : q ≤ 16) {left : Bool} {w : ByteArray} (hw : Chg.okw (q : Int) (bl w) = true) (hn : n ≤ w.size) : ExI q n [cutB left n w] := by
  refine ⟨by simp, fun z hz => ?_⟩
  rw [List.mem_singleton.1 hz, bl_cut]
  have hs := okw_sig (by omega) hw
  have hl := bl_len w
  refine mem_allW.2 ⟨?_, fun d hd => hs d ?_⟩
  · unfold cutL; split
    · rw [List.length_take]; omega
    · rw [List.length_drop]; omega
  · unfold cutL at hd; split at hd
    · exact List.mem_of_mem_take hd
    · exact List.mem_of_mem_drop hd

/-! ### What the laws say -/
theorem flat_len (f : ByteArray → List ByteArray) (n : Nat) : ∀ (l : List ByteArray), (∀ u ∈ l, (f u).length ≤ n) → (l.flatMap f).length ≤ l.length * n
  | [], _ => by simp
  | u :: l, h => by
    have h1 := flat_len f n l (fun v hv => h v (by simp [hv]))
    have h2 := h u (by simp)
    rw [List.flatMap_cons, List.length_append, List.length_cons, Nat.succ_mul]; omega
theorem insAll_le (l : List ByteArray) : (insAll l).length ≤ l.length := by
  have : ∀ (l s : List ByteArray), (l.foldl (fun s x => insB x s) s).length ≤ s.length + l.length := by
    intro l
    induction l with
    | nil => intro s; simp
    | cons x l ih => intro s; have h1 := ih (insB x s); have h2 := insB_len x s; rw [List.foldl_cons, List.length_cons]; omega
  have h := this l []
  unfold insAll; simpa using h
theorem stA_len {l : List ByteArray} {n : Nat} (hz : ∀ u ∈ l, u.size ≤ n) : (stA l).length ≤ 1 + l.length * n := by
  refine Nat.le_trans (insAll_le _) ?_
  unfold candF
  rw [List.take_length, List.length_cons]
  have := flat_len (fun w => preF l w w.size) n l (fun u hu => Nat.le_trans (preF_len l u u.size) (hz u hu))
  omega
theorem lng_ge : ∀ {l : List ByteArray} {u : ByteArray}, u ∈ l → (u.size : Int) ≤ lngA l := by
  have hm : ∀ (l : List ByteArray) (n : Int), n ≤ l.foldl (fun n w => max n (w.size : Int)) n ∧ ∀ u ∈ l, (u.size : Int) ≤ l.foldl (fun n w => max n (w.size : Int)) n := by
    intro l
    induction l with
    | nil => intro n; exact ⟨Int.le_refl _, by simp⟩
    | cons a l ih =>
      intro n
      obtain ⟨h1, h2⟩ := ih (max n (a.size : Int))
      rw [List.foldl_cons]
      refine ⟨Int.le_trans (Int.le_max_left _ _) h1, fun u hu => ?_⟩
      rcases List.mem_cons.1 hu with e | e
      · rw [e]; exact Int.le_trans (Int.le_max_right _ _) h1
      · exact h2 u e
  intro l u hu
  exact (hm l 0).2 u hu
/-- ForbiddenWords. -/
theorem words_law {q : Nat} {l : List ByteArray} {n : Nat} (hc : chkF (q : Int) l = 0) (hq : q ≤ 3) (hn : n ≤ 3) (hz : ∀ u ∈ l, u.size ≤ n + 1) (hs : (stA l).length ≤ 64) {w : ByteArray} (hw : Chg.okw (q : Int) (bl w) = true) (hnw : n ≤ w.size) :
    accA (graphB (q : Int) l).1 w = (alwA l w && (extA q l true n w && extA q l false n w)) := by
  obtain ⟨_, _, _, hone⟩ := chkF_ok hc
  rw [Bool.eq_iff_iff, words_gd hc hs (fun u hu => oneA_ne (hone u hu)) (fun u hu => oneA_size (hone u hu)) hw, Bool.and_eq_true, Bool.and_eq_true, ext_iff (by omega), ext_iff (by omega), av_iff]
  have h4 : 3 ^ n ≤ 3 ^ 3 := Nat.pow_le_pow_right (by omega) hn
  have h3 := allW_len (sigL (q : Int)) (k := 3) (by unfold sigL; rw [List.length_take]; omega) n
  have := gd_iff (S := sigL (q : Int)) (L := Ls l) (n := n) (N := 30) (fun u hu => by have := hz _ (mem_Ls.1 hu); rw [← bl_len, bl_lb] at this; exact this) (by omega) (w := bl w) (by rw [bl_len]; exact hnw) (okw_sig (by omega) hw)
  rw [this]
  unfold cutL
  simp
theorem av_lb {l : List ByteArray} {v : List UInt8} : Av (Ls l) v ↔ alwA l (lb v) = true := by rw [av_iff, bl_lb]
theorem Gd.weak {α : Type} {S : List α} {L L' : List (List α)} {w : List α} (h : ∀ v, Av L v → Av L' v) (hg : Gd S L w) : Gd S L' w := fun n => by
  obtain ⟨x, y, h1, h2, h3, h4, h5⟩ := hg n
  exact ⟨x, y, h1, h2, h3, h4, h _ h5⟩
/-- ForbiddenMore. -/
theorem more_law {q : Int} {l : List ByteArray} {m : ByteArray} (h1 : Okl q l) (h2 : Okl q (l ++ [m])) (hs1 : (stA (mOf l)).length ≤ 64) (hs2 : (stA (mOf (l ++ [m]))).length ≤ 64) {w : ByteArray} (hw : Chg.okw q (bl w) = true) :
    (accA (graphB q (mOf (l ++ [m]))).1 w = true → accA (graphB q (mOf l)).1 w = true) ∧ (accA (graphB q (mOf (l ++ [m]))).1 w = true → Lib.contains w.data.toList m.data.toList = false) := by
  have ha : ∀ v, Av (Ls (mOf (l ++ [m]))) v → alwA (l ++ [m]) (lb v) = true := fun v hv => by rw [← m_alw h2]; exact av_lb.1 hv
  have hon1 : ∀ u ∈ mOf l, oneA q u = 0 := fun u hu => h1.one u (mem_m.1 hu).1
  have hon2 : ∀ u ∈ mOf (l ++ [m]), oneA q u = 0 := fun u hu => h2.one u (mem_m.1 hu).1
  rw [words_gd (m_chk h1) hs1 (fun u hu => oneA_ne (hon1 u hu)) (fun u hu => oneA_size (hon1 u hu)) hw, words_gd (m_chk h2) hs2 (fun u hu => oneA_ne (hon2 u hu)) (fun u hu => oneA_size (hon2 u hu)) hw]
  constructor
  · refine Gd.weak (fun v hv => ?_)
    have h3 := ha v hv
    rw [av_lb, m_alw h1]
    unfold alwA at h3 ⊢
    rw [List.any_append, Bool.not_or, Bool.and_eq_true] at h3
    exact h3.1
  · intro hg
    have h3 := ha _ hg.av
    rw [lb_bl] at h3
    unfold alwA at h3
    rw [List.any_append, Bool.not_or, Bool.and_eq_true] at h3
    have := h3.2
    simpa using this
end Go.Proofs.YtaclgmhinljkbaaGreatDoor
namespace Go.Proofs.YtaclgmhinljkbaaGreatDoor
open Go.RowKit

/-! ### What is found is a list of forbidden words -/
theorem bls_lt : ∀ x y : List UInt8, x < y → Op.bytesLess x y = true
  | [], [], h => absurd h (List.lt_irrefl _)
  | [], _ :: _, _ => rfl
  | a :: x, [], h => by simp at h
  | a :: x, b :: y, h => by
    rw [List.cons_lt_cons_iff] at h
    unfold Op.bytesLess
    rcases h with h | ⟨rfl, h⟩
    · simp [h]
    · simp [bls_lt x y h]
theorem ordX_B {x y : ByteArray} (h : ordX x y) : ordB x y < 0 := by
  rw [ordB_neg]
  refine h.imp id fun h => ⟨h.1, ?_⟩
  have h1 := bls_lt _ _ h.2
  rw [bless_cmp] at h1
  exact of_decide_eq_true h1
theorem chk_found {G : Gr} (h1 : 1 ≤ G.q) (h2 : G.q ≤ 16) {N : Nat} (hN : N ≤ 32) (hl : (fdN G N).length ≤ 64) : chkF G.q (fdN G N) = 0 := by
  unfold chkF
  rw [if_neg (by omega), if_neg (by omega)]
  refine chk2_srt (fun u hu => ?_) ((fdN_ord h2 N).imp ordX_B) (fun a ha => by cases ha)
  obtain ⟨k1, k2, k3, _⟩ := fd_each h2 hu
  have hne : u ≠ (⟨#[]⟩ : ByteArray) := fun e => by rw [e] at k1; exact absurd k1 (by decide)
  unfold oneA
  rw [if_neg hne, if_neg (by omega)]
  exact wchk_ok _ _ h1 h2 (by rw [show u.data.toList.length = u.size by simp]; omega) k3
theorem one_okw {q : Int} {u : ByteArray} (h : oneA q u = 0) : Chg.okw q (bl u) = true := by
  have hs := oneA_size h
  have hn := oneA_ne h
  unfold oneA at h
  rw [if_neg hn, if_neg (by omega)] at h
  exact wchk_okw (show Chg.wchk q u.data.toList = 0 from h)

/-! ### Lists of labels and words -/
def wdL (x : List Int) : ByteArray := lb (x.map lt)
theorem lab_wd {q : Int} (hq : q ≤ 16) : ∀ {x : List Int}, Lab q.toNat x → (x.map lt).map dg = x ∧ ∀ c ∈ x.map lt, c ∈ sigL q
  | [], _ => ⟨rfl, fun c hc => by cases hc⟩
  | a :: x, h => by
    obtain ⟨h1, h2⟩ := lab_wd hq (x := x) (fun b hb => h b (by simp [hb]))
    have ha := h a (by simp)
    obtain ⟨n, rfl⟩ : ∃ n : Nat, a = n := ⟨a.toNat, by omega⟩
    refine ⟨?_, fun c hc => ?_⟩
    · rw [List.map_cons, List.map_cons, h1, lt_dg n (by omega)]
    · rw [List.map_cons] at hc
      rcases List.mem_cons.1 hc with rfl | hc
      · exact (mem_sig hq).2 ⟨n, by omega, rfl⟩
      · exact h2 c hc
theorem ltr_wdL {q : Int} (hq : q ≤ 16) {x : List Int} (h : Lab q.toNat x) : ltr (wdL x) = x := by
  have h1 := (lab_wd hq h).1
  have h2 : bl (wdL x) = x.map lt := bl_lb _
  show (bl (wdL x)).map (fun c => Chg.dig c.toNat) = x
  rw [h2]; exact h1
theorem okw_wdL {q : Int} (hq : q ≤ 16) {x : List Int} (h : Lab q.toNat x) : Chg.okw q (bl (wdL x)) = true := by
  have h2 : bl (wdL x) = x.map lt := bl_lb _
  rw [h2]; exact sig_okw hq (lab_wd hq h).2
theorem word_acc {G : Gr} (hv : Vg G) (hq : G.q ≤ 16) {x : List Int} (hl : Lab G.q.toNat x) : wordA G x = accA G (wdL x) := by
  unfold wordA accA
  rw [ltr_wdL hq hl, leads_fold hv x _ (upto_st hv) hl]
  show decide (endA G (upto G.n.toNat) x ≠ []) = _
  exact decide_eq_decide.2 List.length_pos_iff.symm

/-! ### Two graphs with the same words -/
theorem incl_of {G H : Gr} (hv : Vg G) (hv' : Vg H) (hq : H.q = G.q) (h16 : G.q ≤ 16) (h : ∀ w : ByteArray, Chg.okw G.q (bl w) = true → accA G w = true → accA H w = true) (hk : (srA G H incB).2.2 = 0) : (srA G H incB).2.1 = true := by
  cases hi : (srA G H incB).2.1 with
  | true => rfl
  | false =>
    obtain ⟨e1, e2⟩ := (includes_plain G H).2.1 hk hi
    by_cases hl : Lab G.q.toNat (srA G H incB).1
    · rw [word_acc hv h16 hl] at e1
      rw [word_acc hv' (by omega) (by rw [hq]; exact hl)] at e2
      rw [h _ (okw_wdL h16 hl) e1] at e2; cases e2
    · unfold wordA at e1
      rw [leads_bad hv _ _ (upto_st hv) hl] at e1; simp at e1
theorem same_of {G H : Gr} (hv : Vg G) (hv' : Vg H) (hq : H.q = G.q) (h16 : G.q ≤ 16) (h : ∀ w : ByteArray, Chg.okw G.q (bl w) = true → (accA G w = true ↔ accA H w = true)) :
    ((srA G H oneB).2.2 = 0 ∨ (srA G H oneB).2.2 = 4) ∧ ((srA G H oneB).2.2 = 0 → (srA G H oneB).2.1 = true) := by
  have cG := chkG_ok.2 hv; have cH := chkG_ok.2 hv'
  obtain ⟨e1, e2, _, e4⟩ := equals_plain G H
  refine ⟨?_, fun hk => ?_⟩
  · unfold srA
    rw [if_neg (by simp [cG, cH])]
    split
    · exact sbA_err G cG
    · split
      · exact sbA_err H cH
      · split <;> exact .inl rfl
  · rw [(e4 hk).1, incl_of hv hv' hq h16 (fun w hw => (h w hw).1) (by omega), incl_of hv' hv hq.symm (by omega) (fun w hw => (h w (by rw [← hq]; exact hw)).2) (by omega)]
    rfl

/-! ### The law -/
theorem graphB_lim {q : Int} {l : List ByteArray} (hc : chkF q l = 0) : (graphB q l).2 = 4 ∨ (stA l).length ≤ 64 := by
  by_cases h : 64 < (stA l).length
  · refine .inl ?_
    unfold graphB
    rw [if_neg (by omega), if_pos h]
  · exact .inr (by omega)
theorem fdN_size {G : Gr} (hq : G.q ≤ 16) {N : Nat} : ∀ u ∈ fdN G N, u.size ≤ N := fun _ hu => (fd_each hq hu).2.1
theorem graph_okB {q : Int} {l : List ByteArray} (hc : chkF q l = 0) (h3 : (stA l).length ≤ 64) : (graphB q l).2 = 0 ∧ Vg (graphB q l).1 ∧ (graphB q l).1.q = q := by
  obtain ⟨h1, h2, _, _⟩ := chkF_ok hc
  have hv := grF_vg h1 h2 h3
  rw [graphB_eq hc h3]
  exact ⟨rfl, part_vg hv (essT_st hv), rfl⟩
theorem back_plain {q : Int} {l : List ByteArray} (hc : chkF q l = 0) (h4 : l.length ≤ 4) (hL : lngA l ≤ 4) :
    (graphB q l).2 = 0 ∧ Vg (graphB q l).1 ∧ (graphB q l).1.q = q ∧
    ((fdN (graphB q l).1 (lngA l).toNat).length ≤ 64 → (graphB q l).1.n ≠ 0 →
      (graphB q (fdN (graphB q l).1 (lngA l).toNat)).2 = 4 ∨
      ((graphB q (fdN (graphB q l).1 (lngA l).toNat)).2 = 0 ∧ Vg (graphB q (fdN (graphB q l).1 (lngA l).toNat)).1 ∧
        ((srA (graphB q l).1 (graphB q (fdN (graphB q l).1 (lngA l).toNat)).1 oneB).2.2 = 0 ∨ (srA (graphB q l).1 (graphB q (fdN (graphB q l).1 (lngA l).toNat)).1 oneB).2.2 = 4) ∧
        ((srA (graphB q l).1 (graphB q (fdN (graphB q l).1 (lngA l).toNat)).1 oneB).2.2 = 0 → (srA (graphB q l).1 (graphB q (fdN (graphB q l).1 (lngA l).toNat)).1 oneB).2.1 = true))) := by
  obtain ⟨q1, q16, _, hone⟩ := chkF_ok hc
  have hz : ∀ u ∈ l, u.size ≤ 4 := fun u hu => by have := lng_ge hu; omega
  have hs : (stA l).length ≤ 64 := by have := stA_len hz; omega
  obtain ⟨k1, k2, k3⟩ := graph_okB hc hs
  refine ⟨k1, k2, k3, fun hm hn => ?_⟩
  have HA : ∀ w : ByteArray, Chg.okw q (bl w) = true → (accA (graphB q l).1 w = true ↔ Gd (sigL q) (Ls l) (bl w)) := fun w hw => words_gd hc hs (fun u hu => oneA_ne (hone u hu)) (fun u hu => oneA_size (hone u hu)) hw
  generalize (graphB q l).1 = G at *
  subst k3
  obtain ⟨N, hN⟩ : ∃ N : Nat, (lngA l).toNat = N := ⟨_, rfl⟩
  rw [hN] at hm ⊢
  have hc2 := chk_found (G := G) q1 q16 (N := N) (by omega) hm
  rcases graphB_lim hc2 with h | hs2
  · exact .inl h
  · obtain ⟨j1, j2, j3⟩ := graph_okB hc2 hs2
    have hone2 := (chkF_ok hc2).2.2.2
    have HB : ∀ w : ByteArray, Chg.okw G.q (bl w) = true → (accA (graphB G.q (fdN G N)).1 w = true ↔ Gd (sigL G.q) (Ls (fdN G N)) (bl w)) := fun w hw => words_gd hc2 hs2 (fun u hu => oneA_ne (hone2 u hu)) (fun u hu => oneA_size (hone2 u hu)) hw
    refine .inr ⟨j1, j2, ?_⟩
    refine same_of k2 j2 j3 q16 (fun w hw => ?_)
    rw [HB w hw]
    exact back_law q16 rfl (by have := k2.n1; omega) HA (fun u hu => ⟨one_okw (hone u hu), by have := lng_ge hu; omega⟩) hw
end Go.Proofs.YtaclgmhinljkbaaGreatDoor
namespace Go.Proofs.YtaclgmhinljkbaaGreatDoor
open Go.RowKit Go.Sort Go.Shelf Go.Lib

theorem stepA_next {G : Gr} {st : List Int} {b : Int} (hv : Vg G) (hc : chkS G.n none st = 0) (h0 : 0 ≤ b) (h1 : b < G.q) : stepA G st b = (nextA G st b, 0) := by
  unfold stepA; rw [if_pos (chkG_ok.2 hv), if_pos hc, if_neg (by omega)]
theorem own_len {w : World} {B e n : Nat} {p : Option Addr} {m c : Nat} {xs : List Value} (h : w.ownsRow B e 1 (.slice p m c) n xs) : m = n := by
  rcases h.2 with ⟨e, rfl⟩ | ⟨g, cap, cur, e, _⟩
  · cases e; rfl
  · cases e; rfl
theorem retLi_own {r : List Int} {k : Int} {w : World} {e : Ending} {w' : World} (h : RetLi r k w e w') : ∃ p c, e = .returned (.tuple #[.slice p r.length c, .int .i64 k]) ∧ w'.ownsRow w.heap.size 3 1 (.slice p r.length c) r.length (r.map (Value.int .i64)) ∧ RowKit.Below w.heap.size w w' := by
  obtain ⟨p, m, c, rfl, ho, hB⟩ := h
  obtain rfl := own_len ho
  exact ⟨p, c, rfl, ho, hB⟩

set_option maxRecDepth 100000 in
set_option maxHeartbeats 2000000 in
theorem ssteps_any (G : Gr) (p : Option Addr) (c : Nat) (st : List Int) (q : Option Addr) (d : Nat) (gi : Nat) (lb : Array Value) (J : Nat → World → Prop) (w : World)
    (hv : Vg G) (hc : chkS G.n none st = 0) (hs : st.length ≤ 64) (eg : ∀ args w, (callFunc gi args).run Tryz.prog w = .ok (.enter gi args) w)
    (hJs : ∀ a W, J a W → Sg 3 W edE p G.es ∧ Sl W (Value.int .i64) q st)
    (hJb : ∀ a W W', J a W → RowKit.Below W.heap.size W W' → J a W')
    (hJn : ∀ (a : Nat) W, (a : Int) < G.q → nextA G st a = [] → J a W → J (a + 1) W)
    (hJe : ∀ (a : Nat) W pn cn, (a : Int) < G.q → nextA G st a ≠ [] → w.heap.size < W.heap.size → J a W →
      W.ownsRow w.heap.size 3 1 (.slice pn (nextA G st a).length cn) (nextA G st a).length ((nextA G st a).map (Value.int .i64)) →
      Calls Tryz.prog gi (#[.int .i64 a, .slice pn (nextA G st a).length cn] ++ lb) W fun e W' => e = .returned (.tuple #[]) ∧ J (a + 1) W' ∧ (∀ l, VRow W w.heap.size 29 l → VRow W' w.heap.size 29 l))
    (h0 : J 0 w) :
    Calls Tryz.prog 120 #[(.agg #[.int .i64 G.q, .int .i64 G.n, .slice p G.es.length c]), .slice q st.length d, .func (.func gi) #[] lb] w fun e w' => e = .returned (.tuple #[]) ∧ J G.q.toNat w' := by
  obtain ⟨w0, hw0⟩ : ∃ w0, w0 = w.alloc (.cells #[.int .i64 G.q, .int .i64 G.n, .slice p G.es.length c] 29) := ⟨_, rfl⟩
  have b0 : VRow w0 w.heap.size 29 [.int .i64 G.q, .int .i64 G.n, .slice p G.es.length c] := by subst hw0; exact VRow.new w _ _
  have hB0 : RowKit.Below w.heap.size w w0 := by subst hw0; exact (RowKit.Below.refl _ _).alloc (Nat.le_refl _) _
  have J0 := hJb 0 w w0 h0 hB0
  obtain ⟨Q, hQ⟩ : ∃ Q : Nat, G.q = Q := ⟨G.q.toNat, by have := hv.q1; omega⟩
  have HQ : Hid (G.q.toNat = Q) := by rw [Hid, hQ]; rfl
  have HQ2 := hidI hQ
  have hq2 : Q ≤ 256 := by have := hv.q2; omega
  have HV := hidI hv; have HC := hidI hc
  have hlen := HV.out.len
  have g0 := b0.at 0 rfl
  clear hv hc hQ h0 hB0
  rw [HQ.out]
  go_enter Tryz.func120, Tryz.ntmps120
  go_wp2
  rw [← hw0]
  clear hw0 g0
  go_loopw [11] (fun iv wr => ∃ k : Nat, k ≤ Q ∧ iv = .int .i64 k ∧ J k wr ∧ VRow wr w.heap.size 29 [.int .i64 G.q, .int .i64 G.n, .slice p G.es.length c]) (fun iv _ => Q - (intOf iv).toNat)
  case atStart => exact ⟨0, by omega, rfl, J0, b0⟩
  case round =>
    clear J0 b0
    obtain ⟨k, hk, rfl, hJ, br⟩ := hrel
    by_cases hlt : k < Q
    · have hltk : (k : Int) < G.q := by rw [HQ2.out]; omega
      have f0 := br.at 0 rfl; have f1 := br.at 1 rfl; have f2 := br.at 2 rfl
      have hlt0 := br.lt
      obtain ⟨hsg, hsl⟩ := hJs k wr hJ
      have HG := hidI (gStep_any G p c st q d k wr hsg hsl (by omega) (by omega))
      rw [stepA_next HV.out HC.out (by omega) hltk] at HG
      have HN := hidI (hJn k); have HE := hidI (hJe k)
      generalize nextA G st (k : Int) = nx at *
      have HLT := hidI hltk
      go_wp2_with fail
      refine HG.out.mono ?_
      rintro e w1 hret
      obtain ⟨pn, cn, rfl, hown, hB1⟩ := retLi_own hret
      have J1 := hJb k wr w1 hJ hB1
      have b1 := br.below hB1 hlt0
      clear hJ br f0 f1 f2 hret
      by_cases hn : nx = []
      · have J2 := HN.out w1 HLT.out hn J1
        have hl0 : nx.length = 0 := by rw [hn]; rfl
        go_wp2
        go_roundw
        case rel => exact ⟨k + 1, by omega, by go_num, J2, b1⟩
        case measure => simp [intOf]; omega
      · have hl0 : (0 : Int) < (nx.length : Int) := by have := List.length_pos_iff.2 hn; omega
        have hw1 : w.heap.size < w1.heap.size := b1.lt
        have HE2 := hidI (HE.out w1 pn cn HLT.out hn hw1 J1 (own_downN hown (by omega)))
        go_wp2_with fail
        go_at_fn gi
        refine HE2.out.mono ?_
        rintro e w2 ⟨rfl, J2, hk2⟩
        have b2 := hk2 _ b1
        go_wp2
        go_roundw
        case rel => exact ⟨k + 1, by omega, by go_num, J2, b2⟩
        case measure => simp [intOf]; omega
    · have hltk : ¬ (k : Int) < G.q := by rw [HQ2.out]; omega
      obtain rfl : k = Q := by omega
      go_wp2
      go_end0
      exact ⟨rfl, hJ⟩
end Go.Proofs.YtaclgmhinljkbaaGreatDoor
