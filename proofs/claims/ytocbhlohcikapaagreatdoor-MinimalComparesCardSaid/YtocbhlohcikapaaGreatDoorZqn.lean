/-
  Words, plain lemmas and walks, merged: Np, Nx, Sc, Sd, Se, Ny, Sf, Tf.
-/
import Derived.Test.YtocbhlohcikapaaGreatDoorZqf
import Derived.Test.YtocbhlohcikapaaGreatDoorZqi
import Derived.Test.YtocbhlohcikapaaGreatDoorZqd
import Derived.Test.YtocbhlohcikapaaGreatDoorZqm
set_option linter.unusedVariables false
set_option linter.unusedSimpArgs false
namespace Go.Proofs.YtocbhlohcikapaaGreatDoor
open Go.RowKit

/-! ### The order of words -/
def lxt : List Int → List Int → Prop
  | a :: x, b :: y => a < b ∨ (a = b ∧ lxt x y)
  | _, _ => False
def slt (a b : List Int) : Prop := a.length < b.length ∨ (a.length = b.length ∧ lxt a b)
def sle (a b : List Int) : Prop := a = b ∨ slt a b
theorem lxt_irrefl : ∀ a : List Int, ¬ lxt a a
  | [], h => h
  | _ :: x, h => by rcases h with h | ⟨_, h⟩
                    · omega
                    · exact lxt_irrefl x h
theorem lxt_trans : ∀ {a b c : List Int}, lxt a b → lxt b c → lxt a c
  | a :: x, b :: y, c :: z, h, k => by
    rcases h with h | ⟨rfl, h⟩
    · rcases k with k | ⟨rfl, _⟩
      · exact .inl (by omega)
      · exact .inl h
    · rcases k with k | ⟨rfl, k⟩
      · exact .inl k
      · exact .inr ⟨rfl, lxt_trans h k⟩
theorem lxt_total : ∀ {a b : List Int}, a.length = b.length → a = b ∨ lxt a b ∨ lxt b a
  | [], [], _ => .inl rfl
  | [], _ :: _, h => by simp at h
  | _ :: _, [], h => by simp at h
  | a :: x, b :: y, h => by
    rcases Int.lt_trichotomy a b with h1 | h1 | h1
    · exact .inr (.inl (.inl h1))
    · subst h1
      rcases lxt_total (a := x) (b := y) (by simpa using h) with h2 | h2 | h2
      · subst h2; exact .inl rfl
      · exact .inr (.inl (.inr ⟨rfl, h2⟩))
      · exact .inr (.inr (.inr ⟨rfl, h2⟩))
    · exact .inr (.inr (.inl h1))
theorem lxt_app : ∀ {a b x y : List Int}, a.length = b.length → lxt a b → lxt (a ++ x) (b ++ y)
  | a :: u, b :: v, x, y, hl, h => by
    rcases h with h | ⟨rfl, h⟩
    · exact .inl h
    · exact .inr ⟨rfl, lxt_app (by simpa using hl) h⟩
theorem lxt_last : ∀ (u : List Int) {a b : Int}, a < b → lxt (u ++ [a]) (u ++ [b])
  | [], _, _, h => .inl h
  | _ :: u, _, _, h => .inr ⟨rfl, lxt_last u h⟩
theorem slt_irrefl (a : List Int) : ¬ slt a a := by
  rintro (h | ⟨_, h⟩)
  · omega
  · exact lxt_irrefl a h
theorem slt_trans {a b c : List Int} (h : slt a b) (k : slt b c) : slt a c := by
  rcases h with h | ⟨h, h'⟩ <;> rcases k with k | ⟨k, k'⟩
  · exact .inl (by omega)
  · exact .inl (by omega)
  · exact .inl (by omega)
  · exact .inr ⟨by omega, lxt_trans h' k'⟩
theorem slt_total (a b : List Int) : a = b ∨ slt a b ∨ slt b a := by
  rcases Nat.lt_trichotomy a.length b.length with h | h | h
  · exact .inr (.inl (.inl h))
  · rcases lxt_total h with h1 | h1 | h1
    · exact .inl h1
    · exact .inr (.inl (.inr ⟨h, h1⟩))
    · exact .inr (.inr (.inr ⟨h.symm, h1⟩))
  · exact .inr (.inr (.inl h))
theorem slt_snoc {u v : List Int} (h : slt u v) (a b : Int) : slt (u ++ [a]) (v ++ [b]) := by
  rcases h with h | ⟨h, h'⟩
  · exact .inl (by simp; omega)
  · exact .inr ⟨by simp [h], lxt_app h h'⟩
theorem slt_last (u : List Int) {a b : Int} (h : a < b) : slt (u ++ [a]) (u ++ [b]) := .inr ⟨by simp, lxt_last u h⟩
theorem slt_more (u : List Int) (b : Int) : slt u (u ++ [b]) := .inl (by simp)
theorem sle_snoc {u v : List Int} (h : sle u v) (b : Int) : sle (u ++ [b]) (v ++ [b]) := by
  rcases h with h | h
  · subst h; exact .inl rfl
  · exact .inr (slt_snoc h b b)
theorem sle_trans {a b c : List Int} (h : sle a b) (k : sle b c) : sle a c := by
  rcases h with rfl | h
  · exact k
  · rcases k with rfl | k
    · exact .inr h
    · exact .inr (slt_trans h k)
theorem sle_slt {a b c : List Int} (h : sle a b) (k : slt b c) : slt a c := by
  rcases h with rfl | h
  · exact k
  · exact slt_trans h k
theorem sle_app (u v : List Int) : sle u (u ++ v) := by
  cases v with
  | nil => exact .inl (by simp)
  | cons b v => exact .inr (.inl (by simp))

/-! ### Where words lead -/
def runP (f g : List Ed) (p : Int × Int) (w : List Int) : Int × Int := w.foldl (stp f g) p
theorem runP_snoc (f g : List Ed) (p : Int × Int) (w : List Int) (a : Int) : runP f g p (w ++ [a]) = stp f g (runP f g p w) a := by simp [runP]
theorem runP_app (f g : List Ed) (p : Int × Int) (w v : List Int) : runP f g p (w ++ v) = runP f g (runP f g p w) v := by simp [runP]
def Lab (L : Nat) (w : List Int) : Prop := ∀ a ∈ w, 0 ≤ a ∧ a < L
/-- What is not kept never leads to the property. -/
def Dead (f g : List Ed) (kp is : Int × Int → Bool) : Prop := ∀ p a, kp (stp f g p a) = false → ∀ w, is (runP f g (stp f g p a) w) = false
/-- A queue, of which the first i pairs were looked at, and number i for the first a labels. -/
structure Bi (f g : List Ed) (kp is : Int × Int → Bool) (L : Nat) (p0 : Int × Int) (i a : Nat) (l : List Pw) : Prop where
  run : ∀ x ∈ l, x.1 = runP f g p0 x.2 ∧ Lab L x.2
  one : ∃ h : 0 < l.length, l[0] = (p0, [])
  inc : l.Pairwise (fun x y => slt x.2 y.2)
  not_ : ∀ j (h : j < l.length), j < i → is l[j].1 = false
  clo : ∀ j (h : j < l.length) (b : Nat), b < L → (j < i ∨ (j = i ∧ b < a)) → kp (stp f g l[j].1 b) = true → ∃ x ∈ l, x.1 = stp f g l[j].1 b ∧ sle x.2 (l[j].2 ++ [(b : Int)])
  frm : ∀ x ∈ l, x.2 = [] ∨ ∃ j, ∃ h : j < l.length, ∃ b : Nat, (j < i ∨ (j = i ∧ b < a)) ∧ x.2 = l[j].2 ++ [(b : Int)]
section
variable {f g : List Ed} {kp is : Int × Int → Bool} {L : Nat} {p0 : Int × Int}
theorem Bi.start : Bi f g kp is L p0 0 0 [(p0, [])] where
  run x hx := by obtain rfl := List.mem_singleton.1 hx; exact ⟨rfl, fun a ha => by simp at ha⟩
  one := ⟨by simp, rfl⟩
  inc := by simp
  not_ j _ h := absurd h (by omega)
  clo j _ b _ h := by omega
  frm x hx := by obtain rfl := List.mem_singleton.1 hx; exact .inl rfl
theorem Bi.new {i a : Nat} {l : List Pw} (h : Bi f g kp is L p0 i a l) (hi : i < l.length) : ∀ x ∈ l, slt x.2 (l[i].2 ++ [(a : Int)]) := by
  intro x hx
  rcases h.frm x hx with e | ⟨j, hj, b, hjb, e⟩
  · rw [e]; exact .inl (by simp)
  · rw [e]
    rcases hjb with hji | ⟨rfl, hb⟩
    · exact slt_snoc (List.pairwise_iff_getElem.1 h.inc j i hj hi hji) _ _
    · exact slt_last _ (by omega)
theorem Bi.add {i a : Nat} {l : List Pw} (h : Bi f g kp is L p0 i a l) (hi : i < l.length) (ha : a < L) : Bi f g kp is L p0 i (a + 1) (bAdd f g kp l[i] l a) := by
  have hnew := h.new hi
  unfold bAdd
  split
  · rename_i hc
    have hg : ∀ j (hj : j < l.length), (l ++ [(stp f g l[i].1 a, l[i].2 ++ [(a : Int)])])[j]'(by simp; omega) = l[j] := fun j hj => List.getElem_append_left hj
    refine ⟨fun x hx => ?_, ?_, ?_, fun j hj hji => ?_, fun j hj b hb hjb hk => ?_, fun x hx => ?_⟩
    · rcases List.mem_append.1 hx with hx | hx
      · exact h.run x hx
      · obtain rfl := List.mem_singleton.1 hx
        obtain ⟨r1, r2⟩ := h.run _ (List.getElem_mem hi)
        refine ⟨?_, fun b hb => ?_⟩
        · show stp f g l[i].1 a = runP f g p0 (l[i].2 ++ [(a : Int)])
          rw [runP_snoc, ← r1]
        · rcases List.mem_append.1 hb with hb | hb
          · exact r2 b hb
          · obtain rfl := List.mem_singleton.1 hb; omega
    · obtain ⟨h0, h1⟩ := h.one
      exact ⟨by simp, by rw [hg 0 h0]; exact h1⟩
    · refine List.pairwise_append.2 ⟨h.inc, by simp, fun x hx y hy => ?_⟩
      obtain rfl := List.mem_singleton.1 hy
      exact hnew x hx
    · have hj' : j < l.length := by omega
      rw [hg j hj']; exact h.not_ j hj' hji
    · have hj' : j < l.length := by rcases hjb with h1 | ⟨h1, _⟩ <;> omega
      rw [hg j hj'] at hk ⊢
      by_cases e : j < i ∨ (j = i ∧ b < a)
      · obtain ⟨x, hx, e1, e2⟩ := h.clo j hj' b hb e hk
        exact ⟨x, List.mem_append_left _ hx, e1, e2⟩
      · have e1 : j = i := by omega
        have e2 : b = a := by omega
        subst e1; subst e2
        exact ⟨_, List.mem_append_right _ (List.mem_singleton.2 rfl), rfl, .inl rfl⟩
    · rcases List.mem_append.1 hx with hx | hx
      · rcases h.frm x hx with e | ⟨j, hj, b, hjb, e⟩
        · exact .inl e
        · exact .inr ⟨j, by simp; omega, b, by omega, by rw [hg j hj]; exact e⟩
      · obtain rfl := List.mem_singleton.1 hx
        exact .inr ⟨i, by simp; omega, a, .inr ⟨rfl, by omega⟩, by rw [hg i hi]⟩
  · rename_i hc
    refine ⟨h.run, h.one, h.inc, h.not_, fun j hj b hb hjb hk => ?_, fun x hx => ?_⟩
    · by_cases e : j < i ∨ (j = i ∧ b < a)
      · exact h.clo j hj b hb e hk
      · have e1 : j = i := by omega
        have e2 : b = a := by omega
        subst e1; subst e2
        have hm : stp f g l[j].1 b ∈ l.map Prod.fst := by
          by_cases hm : stp f g l[j].1 b ∈ l.map Prod.fst
          · exact hm
          · exact absurd ⟨hk, hm⟩ hc
        obtain ⟨x, hx, ex⟩ := List.mem_map.1 hm
        exact ⟨x, hx, ex, .inr (hnew x hx)⟩
    · rcases h.frm x hx with e | ⟨j, hj, b, hjb, e⟩
      · exact .inl e
      · exact .inr ⟨j, hj, b, by omega, e⟩
theorem Bi.row {i : Nat} {l : List Pw} (h : Bi f g kp is L p0 i 0 l) (hi : i < l.length) : ∀ a, a ≤ L → Bi f g kp is L p0 i a (bRow f g kp l[i] l a)
  | 0, _ => h
  | a + 1, ha => by
    have ih := h.row hi a (by omega)
    rw [bRow_succ]
    have hlen := bRow_len f g kp l[i] l a
    have e : (bRow f g kp l[i] l a)[i]'(by omega) = l[i] := by
      have := bRow_get f g kp l[i] l a i hi
      rw [List.getElem?_eq_getElem (by omega)] at this
      exact Option.some.inj this
    have := ih.add (by omega) (by omega : a < L)
    rw [e] at this; exact this
theorem Bi.next {i : Nat} {l : List Pw} (h : Bi f g kp is L p0 i L l) (hi : i < l.length) (hn : is l[i].1 = false) : Bi f g kp is L p0 (i + 1) 0 l where
  run := h.run
  one := h.one
  inc := h.inc
  not_ j hj hji := by
    by_cases e : j = i
    · subst e; exact hn
    · exact h.not_ j hj (by omega)
  clo j hj b hb hjb hk := h.clo j hj b hb (by omega) hk
  frm x hx := (h.frm x hx).imp id (fun ⟨j, hj, b, hjb, e⟩ => ⟨j, hj, b, by omega, e⟩)
/-- A word less than number i's that leads on is found below i. -/
theorem Bi.below {i : Nat} {l : List Pw} (h : Bi f g kp is L p0 i 0 l) (hd : Dead f g kp is) (bound : List Int → Prop) (hb1 : ∀ w x, x ∈ l → bound w → sle x.2 w → ∃ j, ∃ hj : j < l.length, j < i ∧ l[j] = x) (hpre : ∀ w v, bound (w ++ v) → bound w) (v : List Int) (hv : Lab L v) (hbv : bound v) (hi0 : 0 < i) (his : is (runP f g p0 v) = true) : False := by
  have key : ∀ (u r : List Int), u ++ r = v → ∃ j, ∃ hj : j < l.length, j < i ∧ l[j].1 = runP f g p0 u ∧ sle l[j].2 u := by
    intro u
    induction hlen : u.length generalizing u with
    | zero =>
      intro r _
      obtain rfl : u = [] := List.length_eq_zero_iff.1 hlen
      obtain ⟨h0, h1⟩ := h.one
      exact ⟨0, h0, hi0, by rw [h1]; rfl, by rw [h1]; exact .inl rfl⟩
    | succ n ih =>
      intro r hr
      obtain ⟨u', b, rfl⟩ : ∃ u' b, u = u' ++ [b] := ⟨u.dropLast, u.getLast (by intro e; subst e; simp at hlen), (List.dropLast_concat_getLast _).symm⟩
      obtain ⟨j, hj, hji, e1, e2⟩ := ih u' (by simpa using hlen) ([b] ++ r) (by rw [← hr]; simp)
      have hbm : b ∈ v := by rw [← hr]; simp
      have hbb := hv b hbm
      obtain ⟨B, rfl⟩ : ∃ B : Nat, b = B := ⟨b.toNat, by omega⟩
      have hk : kp (stp f g l[j].1 B) = true := by
        cases hk : kp (stp f g l[j].1 B)
        · have := hd _ _ hk r
          rw [e1, ← runP_snoc, ← runP_app, hr, his] at this; cases this
        · rfl
      obtain ⟨x, hx, x1, x2⟩ := h.clo j hj B (by omega) (.inl hji) hk
      have hle : sle x.2 (u' ++ [(B : Int)]) := sle_trans x2 (sle_snoc e2 _)
      obtain ⟨k, hk2, hki, hkx⟩ := hb1 (u' ++ [(B : Int)]) x hx (hpre _ r (by rw [hr]; exact hbv)) hle
      refine ⟨k, hk2, hki, ?_, by rw [hkx]; exact hle⟩
      rw [hkx, x1, e1, ← runP_snoc]
  obtain ⟨j, hj, hji, e1, _⟩ := key v [] (by simp)
  have := h.not_ j hj hji
  rw [e1, his] at this; cases this
/-- What the search answers. -/
theorem bfs_spec (hd : Dead f g kp is) : ∀ (m i : Nat) (l : List Pw), Bi f g kp is L p0 i 0 l → i ≤ l.length →
    (∀ w, bfs f g kp is L m i l = some w → Lab L w ∧ is (runP f g p0 w) = true ∧ ∀ v, Lab L v → is (runP f g p0 v) = true → sle w v)
  | 0, _, _, _, _, w, h => by cases h
  | m + 1, i, l, hB, hil, w, h => by
    by_cases hlt : i < l.length
    · cases his : is l[i].1
      · rw [bfs_next hlt his] at h
        have h1 := hB.row hlt L (Nat.le_refl _)
        have hlen := bRow_len f g kp l[i] l L
        have e : (bRow f g kp l[i] l L)[i]'(by omega) = l[i] := by
          have := bRow_get f g kp l[i] l L i hlt
          rw [List.getElem?_eq_getElem (by omega)] at this
          exact Option.some.inj this
        exact bfs_spec hd m (i + 1) _ (h1.next (by omega) (by rw [e]; exact his)) (by omega) w h
      · rw [bfs_hit hlt his] at h
        cases h
        obtain ⟨r1, r2⟩ := hB.run _ (List.getElem_mem hlt)
        refine ⟨r2, by rw [← r1]; exact his, fun v hv hvi => ?_⟩
        rcases slt_total l[i].2 v with e | e | e
        · exact .inl e
        · exact .inr e
        · exfalso
          have hi0 : 0 < i := by
            rcases Nat.eq_zero_or_pos i with h0 | h0
            · subst h0
              obtain ⟨g0, g1⟩ := hB.one
              rw [g1] at e
              rcases e with e | ⟨_, e⟩
              · simp at e
              · cases v with
                | nil => exact e.elim
                | cons b v => exact e.elim
            · exact h0
          refine hB.below hd (fun w => slt w l[i].2) (fun u x hx hu hle => ?_) (fun u r hur => sle_slt (sle_app u r) hur) v hv e hi0 hvi
          obtain ⟨j, hj, rfl⟩ := List.mem_iff_getElem.1 hx
          refine ⟨j, hj, ?_, rfl⟩
          have hlt2 := sle_slt hle hu
          rcases Nat.lt_trichotomy j i with h1 | h1 | h1
          · exact h1
          · subst h1; exact absurd hlt2 (slt_irrefl _)
          · exact absurd (slt_trans hlt2 (List.pairwise_iff_getElem.1 hB.inc i j hlt hj h1)) (slt_irrefl _)
    · rw [bfs_end (by omega)] at h; cases h
theorem bfs_none (hd : Dead f g kp is) {n k : Nat} (hf : ∀ s a, -1 ≤ nxt f s a ∧ nxt f s a < n) (hg : ∀ s a, -1 ≤ nxt g s a ∧ nxt g s a < k) : ∀ (m i : Nat) (l : List Pw), Bi f g kp is L p0 i 0 l → Bq n k l → i ≤ l.length → (n + 1) * (k + 1) < m + i → bfs f g kp is L m i l = none →
    ∀ v, Lab L v → is (runP f g p0 v) = false
  | 0, i, l, hB, hq, hil, hm, _, v, hv => by
    have := hq.len; omega
  | m + 1, i, l, hB, hq, hil, hm, h, v, hv => by
    by_cases hlt : i < l.length
    · cases his : is l[i].1
      · rw [bfs_next hlt his] at h
        have h1 := hB.row hlt L (Nat.le_refl _)
        have hlen := bRow_len f g kp l[i] l L
        have e : (bRow f g kp l[i] l L)[i]'(by omega) = l[i] := by
          have := bRow_get f g kp l[i] l L i hlt
          rw [List.getElem?_eq_getElem (by omega)] at this
          exact Option.some.inj this
        exact bfs_none hd hf hg m (i + 1) _ (h1.next (by omega) (by rw [e]; exact his)) (hq.row hf hg L) (by omega) (by omega) h v hv
      · rw [bfs_hit hlt his] at h; cases h
    · cases hvi : is (runP f g p0 v)
      · rfl
      · exfalso
        obtain ⟨g0, _⟩ := hB.one
        refine hB.below hd (fun _ => True) (fun u x hx _ _ => ?_) (fun _ _ _ => trivial) v hv trivial (by omega) hvi
        obtain ⟨j, hj, rfl⟩ := List.mem_iff_getElem.1 hx
        exact ⟨j, hj, by omega, rfl⟩
end
/-- The search, from its beginning. -/
theorem bfsA_some {f g : List Ed} {kp is : Int × Int → Bool} {L n k : Nat} {s t : Int} (hd : Dead f g kp is) {w : List Int} (h : bfsA n k f g kp is L s t = some w) : Lab L w ∧ is (runP f g (s, t) w) = true ∧ ∀ v, Lab L v → is (runP f g (s, t) v) = true → sle w v :=
  bfs_spec hd _ 0 _ Bi.start (by simp) w h
theorem bfsA_none {f g : List Ed} {kp is : Int × Int → Bool} {L n k : Nat} {s t : Int} (hd : Dead f g kp is) (hf : ∀ s a, -1 ≤ nxt f s a ∧ nxt f s a < n) (hg : ∀ s a, -1 ≤ nxt g s a ∧ nxt g s a < k) (h1 : -1 ≤ s) (h2 : s < n) (h3 : -1 ≤ t) (h4 : t < k) (h : bfsA n k f g kp is L s t = none) :
    ∀ v, Lab L v → is (runP f g (s, t) v) = false :=
  bfs_none hd hf hg _ 0 _ Bi.start (Bq.one h1 h2 h3 h4) (by simp) (by omega) h
theorem sle_anti {a b : List Int} (h : sle a b) (k : sle b a) : a = b := by
  rcases h with h | h
  · exact h
  · rcases k with k | k
    · exact k.symm
    · exact absurd (slt_trans h k) (slt_irrefl _)
/-- Two searches for the same property answer alike. -/
theorem bfsA_same {f g : List Ed} {kp kp' is is' : Int × Int → Bool} {L n k n' k' : Nat} {s t : Int} (hd : Dead f g kp is) (hd' : Dead f g kp' is') (hf : ∀ s a, -1 ≤ nxt f s a ∧ nxt f s a < n) (hg : ∀ s a, -1 ≤ nxt g s a ∧ nxt g s a < k) (hf' : ∀ s a, -1 ≤ nxt f s a ∧ nxt f s a < n') (hg' : ∀ s a, -1 ≤ nxt g s a ∧ nxt g s a < k')
    (h1 : -1 ≤ s) (h2 : s < n) (h3 : -1 ≤ t) (h4 : t < k) (h2' : s < n') (h4' : t < k') (hs : ∀ p, is p = is' p) : bfsA n k f g kp is L s t = bfsA n' k' f g kp' is' L s t := by
  cases e : bfsA n k f g kp is L s t with
  | none =>
    have a := bfsA_none hd hf hg h1 h2 h3 h4 e
    cases e' : bfsA n' k' f g kp' is' L s t with
    | none => rfl
    | some w =>
      obtain ⟨b1, b2, _⟩ := bfsA_some hd' e'
      rw [← hs, a w b1] at b2; cases b2
  | some w =>
    obtain ⟨a1, a2, a3⟩ := bfsA_some hd e
    cases e' : bfsA n' k' f g kp' is' L s t with
    | none =>
      have b := bfsA_none hd' hf' hg' h1 h2' h3 h4' e' w a1
      rw [← hs, a2] at b; cases b
    | some v =>
      obtain ⟨b1, b2, b3⟩ := bfsA_some hd' e'
      rw [sle_anti (a3 v b1 (by rw [hs]; exact b2)) (b3 w a1 (by rw [← hs]; exact a2))]
end Go.Proofs.YtocbhlohcikapaaGreatDoor
namespace Go.Proofs.YtocbhlohcikapaaGreatDoor
open Go.RowKit

/-! ### Runs of one state -/
def run1 (es : List Ed) (s : Int) (w : List Int) : Int := w.foldl (nxt es) s
theorem run1_cons (es : List Ed) (s a : Int) (w : List Int) : run1 es s (a :: w) = run1 es (nxt es s a) w := rfl
theorem run1_neg {es : List Ed} : ∀ (w : List Int) {s : Int}, s < 0 → run1 es s w < 0
  | [], s, h => h
  | a :: w, s, h => by rw [run1_cons, nxt_neg h]; exact run1_neg w (by omega)
theorem run1_bd {es : List Ed} {n : Nat} (hb : ∀ s a, -1 ≤ nxt es s a ∧ nxt es s a < n) : ∀ (w : List Int) {s : Int}, -1 ≤ s → s < n → -1 ≤ run1 es s w ∧ run1 es s w < n
  | [], s, h, h2 => ⟨h, h2⟩
  | a :: w, s, _, _ => by rw [run1_cons]; exact run1_bd hb w (hb s a).1 (hb s a).2
theorem runP_run1 (f g : List Ed) : ∀ (w : List Int) (s t : Int), runP f g (s, t) w = (run1 f s w, run1 g t w)
  | [], s, t => rfl
  | a :: w, s, t => by
    show runP f g (stp f g (s, t) a) w = _
    rw [show stp f g (s, t) a = (nxt f s a, nxt g t a) from rfl, runP_run1 f g w, run1_cons, run1_cons]
theorem oneB_iff (s t : Int) : oneB (s, t) = false ↔ (s < 0 ↔ t < 0) := by
  unfold oneB
  by_cases h1 : s < 0 <;> by_cases h2 : t < 0 <;> simp [h1, h2]
theorem dead_one (es : List Ed) : Dead es es kpP oneB := by
  intro p a h w
  have e : stp es es p a = (-1, -1) := by
    unfold kpP at h
    simpa using h
  rw [e, runP_run1, oneB_iff]

/-! ### Classes -/
theorem cls_agree {q n : Nat} {es : List Ed} (hb : ∀ s a, tgt es s a < n) {r s : Nat} (hr : r < n) (hs : s < n) (h : cg (clsN q n es n) r = cg (clsN q n es n) s) :
    ∀ w, Lab q w → (run1 es r w < 0 ↔ run1 es s w < 0) := by
  intro w
  induction w generalizing r s with
  | nil => intro _; show ((r : Int) < 0 ↔ (s : Int) < 0); omega
  | cons a w ih =>
    intro hl
    have ha := hl a (by simp)
    obtain ⟨A, rfl⟩ : ∃ A : Nat, a = A := ⟨a.toNat, by omega⟩
    have h2 : relA q es (clsN q n es n) r s = true := by
      rw [← eqA_succ n hr hs, cls_fix]
      unfold eqA
      rw [decide_eq_true_iff]; exact h
    obtain ⟨_, h3⟩ := relA_iff.1 h2
    obtain ⟨h4, h5⟩ := h3 A (by omega)
    rw [run1_cons, run1_cons, nxt_pos (by omega), nxt_pos (by omega)]
    by_cases hn : tgt es (r : Int) (A : Int) < 0
    · have hn2 := h4.1 hn
      have e1 := run1_neg (es := es) w hn
      have e2 := run1_neg (es := es) w hn2
      exact ⟨fun _ => e2, fun _ => e1⟩
    · have hn2 : ¬ tgt es (s : Int) (A : Int) < 0 := fun h => hn (h4.2 h)
      have hc := h5 (by omega)
      have hb1 := hb r A
      have hb2 := hb s A
      obtain ⟨r', hr'⟩ : ∃ r' : Nat, tgt es (r : Int) (A : Int) = r' := ⟨(tgt es (r : Int) (A : Int)).toNat, by omega⟩
      obtain ⟨s', hs'⟩ : ∃ s' : Nat, tgt es (s : Int) (A : Int) = s' := ⟨(tgt es (s : Int) (A : Int)).toNat, by omega⟩
      rw [hr'] at hc hb1 ⊢
      rw [hs'] at hc hb2 ⊢
      exact ih (by omega) (by omega) hc (fun x hx => hl x (by simp [hx]))
theorem cls_of_agree {q n : Nat} {es : List Ed} (hb : ∀ s a, tgt es s a < n) : ∀ (k : Nat) {r s : Nat}, r < n → s < n → (∀ w, Lab q w → (run1 es r w < 0 ↔ run1 es s w < 0)) → cg (clsN q n es k) r = cg (clsN q n es k) s
  | 0, r, s, _, _, _ => by rw [cg_zero, cg_zero]
  | k + 1, r, s, hr, hs, h => by
    rw [cg_succ k hr, cg_succ k hs]
    refine (numR_iff (relA_eqv _ _ _)).2 (relA_iff.2 ⟨cls_of_agree hb k hr hs h, fun a ha => ?_⟩)
    have h1 := h [(a : Int)] (fun x hx => by obtain rfl := List.mem_singleton.1 hx; omega)
    have e1 : ∀ x : Nat, run1 es x [(a : Int)] = tgt es x a := fun x => by rw [run1_cons, nxt_pos (by omega)]; rfl
    rw [e1, e1] at h1
    refine ⟨h1, fun h0 => ?_⟩
    have h02 : ¬ tgt es (s : Int) (a : Int) < 0 := fun h => by have := h1.2 h; omega
    have hb1 := hb r a
    have hb2 := hb s a
    have hw : ∀ w, Lab q w → (run1 es (tgt es (r : Int) (a : Int)) w < 0 ↔ run1 es (tgt es (s : Int) (a : Int)) w < 0) := fun w hw => by
      have h2 := h ((a : Int) :: w) (fun x hx => by
        rcases List.mem_cons.1 hx with rfl | hx
        · omega
        · exact hw x hx)
      rw [run1_cons, run1_cons, nxt_pos (by omega), nxt_pos (by omega)] at h2
      exact h2
    obtain ⟨r', hr'⟩ : ∃ r' : Nat, tgt es (r : Int) (a : Int) = r' := ⟨(tgt es (r : Int) (a : Int)).toNat, by omega⟩
    obtain ⟨s', hs'⟩ : ∃ s' : Nat, tgt es (s : Int) (a : Int) = s' := ⟨(tgt es (s : Int) (a : Int)).toNat, by omega⟩
    rw [hr'] at hw hb1 ⊢
    rw [hs'] at hw hb2 ⊢
    exact cls_of_agree hb k (by omega) (by omega) hw
theorem tgt_lt {G : Gr} (hv : Vg G) (s a : Int) : tgt G.es s a < (G.n.toNat : Int) ∨ G.n.toNat = 0 := by
  have := tgt_bd hv s a; have := hv.n1; omega
/-- A word separates two states exactly if their classes differ. -/
theorem sep_cls {G : Gr} (hv : Vg G) {r s : Nat} (hr : r < G.n.toNat) (hs : s < G.n.toNat) : (fwA (sepO G r s)).2 = !decide (cg (clA G) r = cg (clA G) s) := by
  have hb : ∀ s a, tgt G.es s a < (G.n.toNat : Int) := fun s a => by rcases tgt_lt hv s a with h | h <;> omega
  have hx : ∀ s a, -1 ≤ nxt G.es s a ∧ nxt G.es s a < (G.n.toNat : Int) := fun s a => by have := nxt_bd hv s a; have := hv.n1; omega
  cases ho : sepO G r s with
  | none =>
    have h := bfsA_none (dead_one G.es) hx hx (by omega) (by omega) (by omega) (by omega) ho
    have e : cg (clA G) r = cg (clA G) s := cls_of_agree hb _ hr hs (fun w hw => by have := h w hw; rw [runP_run1, oneB_iff] at this; exact this)
    simp [fwA, e]
  | some w =>
    obtain ⟨h1, h2, _⟩ := bfsA_some (dead_one G.es) ho
    have e : cg (clA G) r ≠ cg (clA G) s := fun e => by
      have h3 := cls_agree hb hr hs e w h1
      rw [runP_run1, (oneB_iff _ _).2 h3] at h2
      cases h2
    simp [fwA, e]
/-- A word that is found is one of exactly one of the two states. -/
theorem sep_word {G : Gr} {r s : Int} {w : List Int} (h : sepO G r s = some w) : Lab G.q.toNat w ∧ (decide (0 ≤ run1 G.es r w) != decide (0 ≤ run1 G.es s w)) = true := by
  obtain ⟨h1, h2, _⟩ := bfsA_some (dead_one G.es) h
  refine ⟨h1, ?_⟩
  rw [runP_run1] at h2
  unfold oneB at h2
  by_cases h3 : run1 G.es r w < 0 <;> by_cases h4 : run1 G.es s w < 0 <;> simp_all <;> omega

/-! ### Sets of one state, at most -/
def toS (x : Int) : List Int := if x < 0 then [] else [x]
theorem toS_pos (x : Int) : (0 < (toS x).length) ↔ 0 ≤ x := by unfold toS; split <;> simp <;> omega
theorem filter_one : ∀ (n : Nat) (p : Int → Bool) (y : Int), 0 ≤ y → y < n → (∀ x, p x = true ↔ x = y) → (upto n).filter p = [y]
  | 0, p, y, h1, h2, _ => by omega
  | n + 1, p, y, h1, h2, h => by
    rw [uptof_succ]
    by_cases e : y = n
    · have h3 : (upto n).filter p = [] := by
        rw [List.filter_eq_nil_iff]
        intro a ha hp
        have := (h a).1 hp
        simp only [upto, List.mem_map, List.mem_range] at ha
        obtain ⟨i, hi, rfl⟩ := ha
        omega
      rw [h3, if_pos ((h _).2 e.symm), e]; rfl
    · rw [filter_one n p y h1 (by omega) h, if_neg (fun hp => e ((h _).1 hp).symm)]; simp
theorem next_toS {G : Gr} (hv : Vg G) (hu : Uq G.es) (x b : Int) : nextA G (toS x) b = toS (nxt G.es x b) := by
  unfold toS
  by_cases hx : x < 0
  · rw [if_pos hx, nxt_neg hx, if_pos (by omega)]
    unfold nextA
    rw [List.filter_eq_nil_iff]
    intro a _ h
    obtain ⟨y, _, hy⟩ := List.any_eq_true.1 h
    simp [nxE] at hy
  · rw [if_neg hx, nxt_pos hx]
    by_cases ht : tgt G.es x b < 0
    · rw [if_pos ht]
      unfold nextA
      rw [List.filter_eq_nil_iff]
      intro a _ h
      obtain ⟨y, hy, h2⟩ := List.any_eq_true.1 h
      simp [nxE] at h2
      have := tgt_at hu hy
      rw [h2.2.2, h2.2.1] at this
      have h5 := hv.ins y hy
      omega
    · rw [if_neg ht]
      have hb := tgt_bd hv x b
      refine filter_one _ _ _ (by omega) (by have := hv.n1; omega) (fun a => ?_)
      constructor
      · intro h
        obtain ⟨y, hy, h2⟩ := List.any_eq_true.1 h
        simp [nxE] at h2
        have := tgt_at hu hy
        rw [h2.2.2, h2.2.1] at this
        rw [this]; exact h2.1.symm
      · rintro rfl
        obtain ⟨y, hy, h2, h3, h4⟩ := tgt_mem (es := G.es) (s := x) (a := b) (by omega)
        refine List.any_eq_true.2 ⟨y, hy, ?_⟩
        simp [nxE, h2, h3, h4]
end Go.Proofs.YtocbhlohcikapaaGreatDoor
namespace Go.Proofs.YtocbhlohcikapaaGreatDoor
open Go.RowKit

def incB (x : Int × Int) : Bool := decide (0 ≤ x.1) && decide (x.2 < 0)
theorem oneB_inc (s t : Int) : oneB (s, t) = (incB (s, t) || incB (t, s)) := by
  unfold oneB incB
  by_cases h1 : s < 0 <;> by_cases h2 : t < 0 <;> simp [h1, h2] <;> omega
theorem dead_of {f g : List Ed} {is : Int × Int → Bool} (h : ∀ s t, s < 0 → t < 0 → is (s, t) = false) : Dead f g kpP is := by
  intro p a hk w
  have e : stp f g p a = (-1, -1) := by
    unfold kpP at hk
    simpa using hk
  rw [e, runP_run1]
  exact h _ _ (run1_neg w (by omega)) (run1_neg w (by omega))
theorem dead_inc (f g : List Ed) : Dead f g kpP incB := dead_of (fun s t h1 h2 => by unfold incB; simp; omega)
theorem dead_one2 (f g : List Ed) : Dead f g kpP oneB := dead_of (fun s t h1 h2 => by unfold oneB; simp [h1, h2])

section
variable {f g : List Ed} {n m L : Nat} {s t : Int}
variable (hf : ∀ s a, -1 ≤ nxt f s a ∧ nxt f s a < n) (hg : ∀ s a, -1 ≤ nxt g s a ∧ nxt g s a < m) (h1 : -1 ≤ s) (h2 : s < n) (h3 : -1 ≤ t) (h4 : t < m)
/-- What a search finds: the least word of a kind; none if there is none. -/
def Least (L : Nat) (P : List Int → Bool) (o : Option (List Int)) : Prop := match o with
  | some w => Lab L w ∧ P w = true ∧ ∀ v, Lab L v → P v = true → sle w v
  | none => ∀ v, Lab L v → P v = false
theorem Least.same {P Q : List Int → Bool} {o o' : Option (List Int)} (h : Least L P o) (k : Least L Q o') (e : ∀ v, Lab L v → P v = Q v) : o = o' := by
  cases o with
  | none =>
    cases o' with
    | none => rfl
    | some w => have := h w k.1; rw [e w k.1, k.2.1] at this; cases this
  | some w =>
    cases o' with
    | none => have := k w h.1; rw [← e w h.1, h.2.1] at this; cases this
    | some v =>
      have a := h.2.2 v k.1 (by rw [e v k.1]; exact k.2.1)
      have b := k.2.2 w h.1 (by rw [← e w h.1]; exact h.2.1)
      rw [sle_anti a b]
include hf hg h1 h2 h3 h4 in
theorem least_of {is : Int × Int → Bool} (hd : Dead f g kpP is) : Least L (fun w => is (runP f g (s, t) w)) (bfsA n m f g kpP is L s t) := by
  cases h : bfsA n m f g kpP is L s t with
  | none => exact bfsA_none hd hf hg h1 h2 h3 h4 h
  | some w => exact bfsA_some hd h
/-- The least word of two kinds together. -/
theorem Least.or {P Q R : List Int → Bool} {a b x : Option (List Int)} (ha : Least L P a) (hb : Least L Q b) (hx : Least L R x) (e : ∀ v, Lab L v → R v = (P v || Q v)) :
    (x = none ↔ a = none ∧ b = none) ∧ (a = none → x = b) ∧ (b = none → x = a) ∧ (∀ u v, a = some u → b = some v → (slt v u → x = b) ∧ (¬ slt v u → x = a)) := by
  refine ⟨⟨?_, ?_⟩, ?_, ?_, ?_⟩
  · rintro rfl
    refine ⟨?_, ?_⟩
    · cases a with
      | none => rfl
      | some u => have := hx u ha.1; rw [e u ha.1, ha.2.1] at this; cases this
    · cases b with
      | none => rfl
      | some u => have := hx u hb.1; rw [e u hb.1, hb.2.1, Bool.or_true] at this; cases this
  · rintro ⟨rfl, rfl⟩
    cases x with
    | none => rfl
    | some w => have := hx.2.1; rw [e w hx.1, ha w hx.1, hb w hx.1] at this; cases this
  · rintro rfl
    exact hx.same hb (fun v hv => by rw [e v hv, ha v hv, Bool.false_or])
  · rintro rfl
    exact hx.same ha (fun v hv => by rw [e v hv, hb v hv, Bool.or_false])
  · rintro u v rfl rfl
    refine ⟨fun hlt => ?_, fun hlt => ?_⟩
    · refine hx.same (Q := R) (o' := some v) ⟨hb.1, by rw [e v hb.1, hb.2.1, Bool.or_true], fun z hz hr => ?_⟩ (fun _ _ => rfl)
      rw [e z hz, Bool.or_eq_true] at hr
      rcases hr with hr | hr
      · have := ha.2.2 z hz hr
        rcases this with rfl | h
        · exact .inr hlt
        · exact .inr (slt_trans hlt h)
      · exact hb.2.2 z hz hr
    · refine hx.same (Q := R) (o' := some u) ⟨ha.1, by rw [e u ha.1, ha.2.1, Bool.true_or], fun z hz hr => ?_⟩ (fun _ _ => rfl)
      rw [e z hz, Bool.or_eq_true] at hr
      have huv : sle u v := by
        rcases slt_total u v with h | h | h
        · exact .inl h
        · exact .inr h
        · exact absurd h hlt
      rcases hr with hr | hr
      · exact ha.2.2 z hz hr
      · exact sle_trans huv (hb.2.2 z hz hr)
end
/-- The laws of MinimalEquals: for two graphs, from their states. -/
theorem equal_laws {f g : List Ed} {n m L : Nat} {s t : Int} (hf : ∀ s a, -1 ≤ nxt f s a ∧ nxt f s a < n) (hg : ∀ s a, -1 ≤ nxt g s a ∧ nxt g s a < m) (h1 : -1 ≤ s) (h2 : s < n) (h3 : -1 ≤ t) (h4 : t < m) :
    bfsA n m f g kpP oneB L s t = bfsA m n g f kpP oneB L t s ∧
    ((bfsA n m f g kpP oneB L s t = none ↔ bfsA n m f g kpP incB L s t = none ∧ bfsA m n g f kpP incB L t s = none) ∧
      (bfsA n m f g kpP incB L s t = none → bfsA n m f g kpP oneB L s t = bfsA m n g f kpP incB L t s) ∧
      (bfsA m n g f kpP incB L t s = none → bfsA n m f g kpP oneB L s t = bfsA n m f g kpP incB L s t) ∧
      (∀ u v, bfsA n m f g kpP incB L s t = some u → bfsA m n g f kpP incB L t s = some v → (slt v u → bfsA n m f g kpP oneB L s t = bfsA m n g f kpP incB L t s) ∧ (¬ slt v u → bfsA n m f g kpP oneB L s t = bfsA n m f g kpP incB L s t))) := by
  have hE := least_of (L := L) hf hg h1 h2 h3 h4 (dead_one2 f g)
  have hY := least_of (L := L) hg hf h3 h4 h1 h2 (dead_one2 g f)
  have hA := least_of (L := L) hf hg h1 h2 h3 h4 (dead_inc f g)
  have hB := least_of (L := L) hg hf h3 h4 h1 h2 (dead_inc g f)
  refine ⟨hE.same hY (fun v _ => ?_), hA.or hB hE (fun v _ => ?_)⟩
  · simp only [runP_run1, oneB_inc]
    exact Bool.or_comm _ _
  · simp only [runP_run1, oneB_inc]
/-- The law of MinimalIncludes: no word found means that all words of the one are words of the other; a word found is one of exactly the first. -/
theorem include_laws {f g : List Ed} {n m L : Nat} {s t : Int} (hf : ∀ s a, -1 ≤ nxt f s a ∧ nxt f s a < n) (hg : ∀ s a, -1 ≤ nxt g s a ∧ nxt g s a < m) (h1 : -1 ≤ s) (h2 : s < n) (h3 : -1 ≤ t) (h4 : t < m) :
    match bfsA n m f g kpP incB L s t with
    | some w => Lab L w ∧ 0 ≤ run1 f s w ∧ run1 g t w < 0
    | none => ∀ v, Lab L v → 0 ≤ run1 f s v → 0 ≤ run1 g t v := by
  have hA := least_of (L := L) hf hg h1 h2 h3 h4 (dead_inc f g)
  cases h : bfsA n m f g kpP incB L s t with
  | none =>
    rw [h] at hA
    intro v hv h0
    have := hA v hv
    simp only [runP_run1, incB] at this
    by_cases h5 : run1 g t v < 0
    · simp [h0, h5] at this
    · omega
  | some w =>
    rw [h] at hA
    obtain ⟨k1, k2, _⟩ := hA
    simp only [runP_run1, incB, Bool.and_eq_true, decide_eq_true_iff] at k2
    exact ⟨k1, k2.1, k2.2⟩
end Go.Proofs.YtocbhlohcikapaaGreatDoor
namespace Go.Proofs.YtocbhlohcikapaaGreatDoor
open Go.RowKit

structure Sw (G : Gr) (i a : Nat) (st : Sst) : Prop where
  go : ∀ (j b : Nat) (set : List Int), st.1[j]? = some set → (j < i ∨ (j = i ∧ b < a)) → b < G.q.toNat → nextA G set b ≠ [] → ∃ t : Nat, (⟨(j : Int), (b : Int), (t : Int)⟩ : Ed) ∈ st.2 ∧ st.1[t]? = some (nextA G set b)
  no : ∀ x ∈ st.2, ∃ (j b : Nat) (set : List Int), x.f = j ∧ x.l = b ∧ st.1[j]? = some set ∧ nextA G set b ≠ []
theorem get_app {α : Type} {l m : List α} {j : Nat} {x : α} (h : l[j]? = some x) : (l ++ m)[j]? = some x := by
  rw [List.getElem?_append_left (List.getElem?_eq_some_iff.1 h).1]; exact h
theorem Sw.snoc {G : Gr} {i a : Nat} {st : Sst} (h : Sw G i a st) {set : List Int} (hi : st.1[i]? = some set) (hn : nextA G set a ≠ []) (m : List (List Int)) (t : Nat) (ht : (st.1 ++ m)[t]? = some (nextA G set a)) (hb : ∀ j, st.1.length ≤ j → j < (st.1 ++ m).length → i < j) :
    Sw G i (a + 1) (st.1 ++ m, st.2 ++ [⟨(i : Int), (a : Int), (t : Int)⟩]) where
  go := fun j b s hs hjb hbq hne => by
    have hj : j < st.1.length := by
      by_cases hj : j < st.1.length
      · exact hj
      · have := hb j (by omega) (List.getElem?_eq_some_iff.1 hs).1
        rcases hjb with h | h <;> omega
    have hs' : st.1[j]? = some s := by
      have hs2 : (st.1 ++ m)[j]? = some s := hs
      rwa [List.getElem?_append_left hj] at hs2
    by_cases e : j = i ∧ b = a
    · obtain ⟨rfl, rfl⟩ := e
      rw [hi] at hs'; cases hs'
      exact ⟨t, by simp, ht⟩
    · obtain ⟨t', h1, h2⟩ := h.go j b s hs' (by rcases hjb with h | h <;> omega) hbq hne
      exact ⟨t', List.mem_append_left _ h1, get_app h2⟩
  no := fun x hx => by
    rcases List.mem_append.1 hx with hx | hx
    · obtain ⟨j, b, s, h1, h2, h3, h4⟩ := h.no x hx
      exact ⟨j, b, s, h1, h2, get_app h3, h4⟩
    · obtain rfl := List.mem_singleton.1 hx
      exact ⟨i, a, set, rfl, rfl, get_app hi, hn⟩
theorem Sw.add {G : Gr} {i a : Nat} {st : Sst} (h : Sw G i a st) {set : List Int} (hi : st.1[i]? = some set) : Sw G i (a + 1) (sbAdd G set i st a) ∧ (sbAdd G set i st a).1[i]? = some set := by
  have hlt := (List.getElem?_eq_some_iff.1 hi).1
  by_cases h1 : nextA G set a = []
  · rw [sbAdd_none h1]
    refine ⟨⟨fun j b s hs hjb hbq hne => h.go j b s hs ?_ hbq hne, h.no⟩, hi⟩
    rcases hjb with hj | ⟨rfl, hb⟩
    · exact .inl hj
    · refine .inr ⟨rfl, ?_⟩
      rw [hi] at hs; cases hs
      by_cases e : b = a
      · subst e; exact absurd h1 hne
      · omega
  · by_cases h2 : nextA G set a ∈ st.1
    · rw [sbAdd_old h1 h2]
      have hx := List.idxOf_lt_length_iff.2 h2
      have k := h.snoc hi h1 [] (st.1.idxOf (nextA G set a)) (by rw [List.append_nil, List.getElem?_eq_getElem hx, List.getElem_idxOf hx]) (fun j h3 h4 => by rw [List.append_nil] at h4; omega)
      rw [List.append_nil] at k
      exact ⟨k, hi⟩
    · rw [sbAdd_new h1 h2]
      exact ⟨h.snoc hi h1 [nextA G set a] st.1.length (by simp) (fun j h3 h4 => by omega), get_app hi⟩
theorem Sw.row {G : Gr} {i : Nat} {st : Sst} (h : Sw G i 0 st) {set : List Int} (hi : st.1[i]? = some set) : ∀ L : Nat, Sw G i L (sbTo G set i st L) ∧ (sbTo G set i st L).1[i]? = some set
  | 0 => ⟨h, hi⟩
  | L + 1 => by
    rw [sbTo_succ]
    obtain ⟨h1, h2⟩ := h.row hi L
    exact h1.add h2
theorem Sw.next {G : Gr} {i : Nat} {st : Sst} (h : Sw G i G.q.toNat st) : Sw G (i + 1) 0 st where
  go := fun j b s hs hjb hbq hne => h.go j b s hs (by rcases hjb with h | h <;> omega) hbq hne
  no := h.no
theorem sbAdd_head {G : Gr} {set : List Int} {i a : Nat} {st : Sst} {x : List Int} (h : st.1[0]? = some x) : (sbAdd G set i st a).1[0]? = some x := by
  unfold sbAdd
  split
  · exact h
  · split
    · exact h
    · exact get_app h
theorem sbTo_head {G : Gr} {set : List Int} {i : Nat} {st : Sst} {x : List Int} (h : st.1[0]? = some x) : ∀ L : Nat, (sbTo G set i st L).1[0]? = some x
  | 0 => h
  | L + 1 => by rw [sbTo_succ]; exact sbAdd_head (sbTo_head h L)
theorem sbGo_sw {G : Gr} {x : List Int} : ∀ (m i : Nat) (st r : Sst), Sw G i 0 st → st.1[0]? = some x → sbGo G m i st = some r → (∃ k, Sw G k 0 r ∧ r.1.length ≤ k) ∧ r.1[0]? = some x
  | 0, i, st, r, _, _, h => by cases h
  | m + 1, i, st, r, hS, h0, h => by
    unfold sbGo at h
    cases hx : st.1[i]? with
    | none =>
      rw [hx] at h
      cases h
      exact ⟨⟨i, hS, List.getElem?_eq_none_iff.1 hx⟩, h0⟩
    | some set =>
      rw [hx] at h
      simp only at h
      split at h
      · cases h
      · exact sbGo_sw m (i + 1) _ r (hS.row hx _).1.next (sbTo_head h0 _) h
/-- Where a word leads in the graph of sets. -/
theorem sets_run {G : Gr} {r : Sst} {k : Nat} (hw : Sw G k 0 r) (hk : r.1.length ≤ k) (hu : Uq r.2) : ∀ (w : List Int) (j : Nat) (set : List Int), r.1[j]? = some set → set ≠ [] → Lab G.q.toNat w →
    (0 ≤ run1 r.2 j w ↔ w.foldl (nextA G) set ≠ [])
  | [], j, set, _, hne, _ => by
    show (0 ≤ (j : Int) ↔ set ≠ [])
    exact ⟨fun _ => hne, fun _ => by omega⟩
  | a :: w, j, set, hs, hne, hl => by
    have ha := hl a (by simp)
    obtain ⟨A, rfl⟩ : ∃ A : Nat, a = A := ⟨a.toNat, by omega⟩
    have hj := (List.getElem?_eq_some_iff.1 hs).1
    have hl2 : Lab G.q.toNat w := fun x hx => hl x (by simp [hx])
    rw [run1_cons, nxt_pos (by omega), List.foldl_cons]
    by_cases h0 : nextA G set (A : Int) = []
    · have ht : tgt r.2 (j : Int) (A : Int) = -1 := by
        by_cases h1 : tgt r.2 (j : Int) (A : Int) = -1
        · exact h1
        · obtain ⟨y, hy, hf, hy2, _⟩ := tgt_mem h1
          obtain ⟨j', b, s, k1, k2, k3, k4⟩ := hw.no y hy
          have e1 : j' = j := by omega
          have e2 : b = A := by omega
          subst e1; subst e2
          rw [hs] at k3; cases k3
          exact absurd h0 k4
      rw [ht, h0]
      have e1 := run1_neg (es := r.2) w (s := -1) (by omega)
      have e2 : ∀ w : List Int, w.foldl (nextA G) [] = [] := by
        intro w
        induction w with
        | nil => rfl
        | cons b w ih =>
          rw [List.foldl_cons]
          have : nextA G [] b = [] := by
            unfold nextA
            rw [List.filter_eq_nil_iff]
            intro z _ hz
            obtain ⟨y, _, hy⟩ := List.any_eq_true.1 hz
            simp [nxE] at hy
          rw [this]; exact ih
      rw [e2]
      exact ⟨fun h => by omega, fun h => absurd rfl h⟩
    · obtain ⟨t, h1, h2⟩ := hw.go j A set hs (.inl (by omega)) (by omega) h0
      have ht := tgt_at hu h1
      rw [ht]
      exact sets_run hw hk hu w t _ h2 h0 hl2
end Go.Proofs.YtocbhlohcikapaaGreatDoor
namespace Go.Proofs.YtocbhlohcikapaaGreatDoor
open Go.RowKit

/-- Where a search begins in a graph of sets. -/
def st0 (G : Gr) : Int := if 0 < (sbA G).1.n then 0 else -1
def srO (G H : Gr) (is : Int × Int → Bool) : Option (List Int) := bfsA (sbA G).1.n.toNat (sbA H).1.n.toNat (sbA G).1.es (sbA H).1.es kpP is (max G.q H.q).toNat (st0 G) (st0 H)
/-- The word, whether there is none, and the error. -/
def srA (G H : Gr) (is : Int × Int → Bool) : List Int × Bool × Int :=
  if chkG G ≠ 0 ∨ chkG H ≠ 0 then ([], false, 1)
  else if (sbA G).2.2 ≠ 0 then ([], false, (sbA G).2.2)
  else if (sbA H).2.2 ≠ 0 then ([], false, (sbA H).2.2)
  else if st0 G = -1 ∧ st0 H = -1 then ([], true, 0)
  else ((fwA (srO G H is)).1, !(fwA (srO G H is)).2, 0)
theorem sbA_err (G : Gr) (h : chkG G = 0) : (sbA G).2.2 = 0 ∨ (sbA G).2.2 = 4 := by
  unfold sbA
  rw [if_pos h]
  split
  · exact .inl rfl
  · cases sbGo G 66 0 ([upto G.n.toNat], []) with
    | none => exact .inr rfl
    | some r => exact .inl rfl
theorem sb_bd {G : Gr} (h : (sbA G).2.2 = 0) : (∀ s a, -1 ≤ nxt (sbA G).1.es s a ∧ nxt (sbA G).1.es s a < ((sbA G).1.n.toNat : Int)) ∨ ((sbA G).1.n = 0 ∧ st0 G = -1) := by
  obtain ⟨hv, _⟩ := sbA_ok h
  by_cases h0 : (sbA G).1.n = 0
  · exact .inr ⟨h0, by unfold st0; rw [if_neg (by omega)]⟩
  · exact .inl (fun s a => by have := nxt_bd hv s a; have := hv.n1; omega)
theorem sb_bd0 {G : Gr} (h : (sbA G).2.2 = 0) : (∀ s a, -1 ≤ nxt (sbA G).1.es s a ∧ nxt (sbA G).1.es s a < ((sbA G).1.n.toNat : Int)) ∧ -1 ≤ st0 G ∧ st0 G < ((sbA G).1.n.toNat : Int) := by
  obtain ⟨hv, _⟩ := sbA_ok h
  have hn := hv.n1
  refine ⟨fun s a => ?_, ?_, ?_⟩
  · have := nxt_bd hv s a; omega
  · unfold st0; split <;> omega
  · unfold st0; split <;> omega
/-- All that MinimalEquals says of the four answers. -/
theorem equals_plain (G H : Gr) : (srA G H oneB).2.2 = (srA G H incB).2.2 ∧ (srA G H oneB).2.2 = (srA H G incB).2.2 ∧ srA H G oneB = srA G H oneB ∧
    ((srA G H oneB).2.2 = 0 → (srA G H oneB).2.1 = ((srA G H incB).2.1 && (srA H G incB).2.1) ∧
      ((srA G H incB).2.1 = true ∨ ((srA H G incB).2.1 = false ∧ slt (srA H G incB).1 (srA G H incB).1) → (srA G H oneB).1 = (srA H G incB).1) ∧
      (¬ ((srA G H incB).2.1 = true ∨ ((srA H G incB).2.1 = false ∧ slt (srA H G incB).1 (srA G H incB).1)) → (srA G H oneB).1 = (srA G H incB).1)) := by
  by_cases hc : chkG G ≠ 0 ∨ chkG H ≠ 0
  · have hc2 : chkG H ≠ 0 ∨ chkG G ≠ 0 := hc.symm
    have e1 : ∀ is, srA G H is = ([], false, 1) := fun is => by unfold srA; rw [if_pos hc]
    have e2 : ∀ is, srA H G is = ([], false, 1) := fun is => by unfold srA; rw [if_pos hc2]
    rw [e1 oneB, e1 incB, e2 incB, e2 oneB]
    exact ⟨rfl, rfl, rfl, fun h => by cases h⟩
  · have hG : chkG G = 0 := Decidable.byContradiction fun h => hc (.inl h)
    have hH : chkG H = 0 := Decidable.byContradiction fun h => hc (.inr h)
    have hc2 : ¬ (chkG H ≠ 0 ∨ chkG G ≠ 0) := fun h => hc h.symm
    by_cases kG : (sbA G).2.2 = 0
    · by_cases kH : (sbA H).2.2 = 0
      · by_cases h0 : st0 G = -1 ∧ st0 H = -1
        · have h02 : st0 H = -1 ∧ st0 G = -1 := ⟨h0.2, h0.1⟩
          have e1 : ∀ is, srA G H is = ([], true, 0) := fun is => by unfold srA; rw [if_neg hc, if_neg (by simp [kG]), if_neg (by simp [kH]), if_pos h0]
          have e2 : ∀ is, srA H G is = ([], true, 0) := fun is => by unfold srA; rw [if_neg hc2, if_neg (by simp [kH]), if_neg (by simp [kG]), if_pos h02]
          rw [e1 oneB, e1 incB, e2 incB, e2 oneB]
          exact ⟨rfl, rfl, rfl, fun _ => ⟨rfl, fun _ => rfl, fun _ => rfl⟩⟩
        · have h02 : ¬ (st0 H = -1 ∧ st0 G = -1) := fun h => h0 ⟨h.2, h.1⟩
          have e1 : ∀ is, srA G H is = ((fwA (srO G H is)).1, !(fwA (srO G H is)).2, 0) := fun is => by unfold srA; rw [if_neg hc, if_neg (by simp [kG]), if_neg (by simp [kH]), if_neg h0]
          have e2 : ∀ is, srA H G is = ((fwA (srO H G is)).1, !(fwA (srO H G is)).2, 0) := fun is => by unfold srA; rw [if_neg hc2, if_neg (by simp [kH]), if_neg (by simp [kG]), if_neg h02]
          obtain ⟨b1, b2, b3⟩ := sb_bd0 kG
          obtain ⟨c1, c2, c3⟩ := sb_bd0 kH
          have hL : (max H.q G.q).toNat = (max G.q H.q).toNat := by omega
          obtain ⟨L1, L2, L3, L4, L5⟩ := equal_laws (L := (max G.q H.q).toNat) b1 c1 b2 b3 c2 c3
          have f1 : srO H G oneB = srO G H oneB := by unfold srO; rw [hL]; exact L1.symm
          have f2 : srO H G incB = bfsA (sbA H).1.n.toNat (sbA G).1.n.toNat (sbA H).1.es (sbA G).1.es kpP incB (max G.q H.q).toNat (st0 H) (st0 G) := by unfold srO; rw [hL]
          rw [← f2] at L2 L3 L4 L5
          change srO G H oneB = none ↔ srO G H incB = none ∧ srO H G incB = none at L2
          change srO G H incB = none → srO G H oneB = srO H G incB at L3
          change srO H G incB = none → srO G H oneB = srO G H incB at L4
          change ∀ u v, srO G H incB = some u → srO H G incB = some v → (slt v u → srO G H oneB = srO H G incB) ∧ (¬ slt v u → srO G H oneB = srO G H incB) at L5
          rw [e1 oneB, e1 incB, e2 incB, e2 oneB, f1]
          refine ⟨rfl, rfl, rfl, fun _ => ?_⟩
          cases ha : srO G H incB with
          | none =>
            rw [L3 ha]
            cases hb : srO H G incB with
            | none => exact ⟨rfl, fun _ => rfl, fun _ => rfl⟩
            | some v => exact ⟨rfl, fun _ => rfl, fun h => absurd (.inl rfl) h⟩
          | some u =>
            cases hb : srO H G incB with
            | none =>
              rw [L4 hb, ha]
              refine ⟨rfl, fun h => ?_, fun _ => rfl⟩
              rcases h with h | ⟨h, _⟩ <;> cases h
            | some v =>
              obtain ⟨k1, k2⟩ := L5 u v ha hb
              by_cases hlt : slt v u
              · rw [k1 hlt, hb]
                exact ⟨rfl, fun _ => rfl, fun h => absurd (.inr ⟨rfl, hlt⟩) h⟩
              · rw [k2 hlt, ha]
                refine ⟨rfl, fun h => ?_, fun _ => rfl⟩
                rcases h with h | ⟨_, h⟩
                · cases h
                · exact absurd h hlt
      · have kH4 : (sbA H).2.2 = 4 := (sbA_err H hH).resolve_left kH
        have e1 : ∀ is, srA G H is = ([], false, 4) := fun is => by unfold srA; rw [if_neg hc, if_neg (by simp [kG]), if_pos kH, kH4]
        have e2 : ∀ is, srA H G is = ([], false, 4) := fun is => by unfold srA; rw [if_neg hc2, if_pos kH, kH4]
        rw [e1 oneB, e1 incB, e2 incB, e2 oneB]
        exact ⟨rfl, rfl, rfl, fun h => by cases h⟩
    · have kG4 : (sbA G).2.2 = 4 := (sbA_err G hG).resolve_left kG
      have e1 : ∀ is, srA G H is = ([], false, 4) := fun is => by unfold srA; rw [if_neg hc, if_pos kG, kG4]
      have e2 : ∀ is, srA H G is = ([], false, 4) := fun is => by
        unfold srA
        rw [if_neg hc2]
        by_cases kH : (sbA H).2.2 = 0
        · rw [if_neg (by simp [kH]), if_pos kG, kG4]
        · rw [if_pos kH, (sbA_err H hH).resolve_left kH]
      rw [e1 oneB, e1 incB, e2 incB, e2 oneB]
      exact ⟨rfl, rfl, rfl, fun h => by cases h⟩
end Go.Proofs.YtocbhlohcikapaaGreatDoor
namespace Go.Proofs.YtocbhlohcikapaaGreatDoor
open Go.RowKit Go.Sort Go.Shelf Go.Lib

def leadsA (G : Gr) : List Int → List Int → List Int
  | st, [] => st
  | st, b :: l => if (stepA G st b).2 = 0 then leadsA G (stepA G st b).1 l else []
theorem stepA_len (G : Gr) (st : List Int) (b : Int) : (stepA G st b).1.length ≤ 64 := by
  unfold stepA
  split
  · rename_i h
    have hv := chkG_ok.1 h
    split
    · split
      · exact Nat.zero_le _
      · have := uptof_len (nxP G.es st b) G.n.toNat
        have := hv.n2
        show (nextA G st b).length ≤ 64
        unfold nextA
        omega
    · exact Nat.zero_le _
  · exact Nat.zero_le _
theorem leadsA_go {G : Gr} {st ws : List Int} {k : Nat} (h : k < ws.length) (h2 : (stepA G st ws[k]).2 = 0) : leadsA G st (ws.drop k) = leadsA G (stepA G st ws[k]).1 (ws.drop (k + 1)) := by
  rw [List.drop_eq_getElem_cons h, leadsA, if_pos h2]
theorem leadsA_halt {G : Gr} {st ws : List Int} {k : Nat} (h : k < ws.length) (h2 : (stepA G st ws[k]).2 ≠ 0) : leadsA G st (ws.drop k) = [] := by
  rw [List.drop_eq_getElem_cons h, leadsA, if_neg h2]
theorem leadsA_end {G : Gr} {st ws : List Int} {k : Nat} (h : ws.length ≤ k) : leadsA G st (ws.drop k) = st := by
  rw [List.drop_eq_nil_of_le h]; rfl
/-- Numbers. -/
def RetLd (l : List Int) (w : World) (e : Ending) (w' : World) : Prop := ∃ q d, e = .returned (.slice q l.length d) ∧ Sl w' (Value.int .i64) q l ∧ RowKit.Below w.heap.size w w'

/-! ### Deterministic -/
def det13A (G : Gr) : Bool := !gr13 G && (decide ((detA G).2 = 0) && (detA G).1)
end Go.Proofs.YtocbhlohcikapaaGreatDoor
namespace Go.Proofs.YtocbhlohcikapaaGreatDoor
open Go.RowKit

theorem upto_st {G : Gr} (hv : Vg G) : St G.n (upto G.n.toNat) := ⟨upto_srt _, fun x hx => by have := mem_upto.1 hx; have := hv.n1; omega⟩
theorem next_st {G : Gr} (hv : Vg G) (st : List Int) (b : Int) : St G.n (nextA G st b) :=
  ⟨(upto_srt _).filter _, fun x hx => (upto_st hv).ins x (List.mem_filter.1 hx).1⟩
theorem leads_fold {G : Gr} (hv : Vg G) : ∀ (w st : List Int), St G.n st → Lab G.q.toNat w → leadsA G st w = w.foldl (nextA G) st
  | [], _, _, _ => rfl
  | b :: w, st, hs, hl => by
    have hb := hl b (by simp)
    have hq := hv.q1
    have e : stepA G st b = (nextA G st b, 0) := by
      unfold stepA
      rw [if_pos (chkG_ok.2 hv), if_pos hs.chk, if_neg (by omega)]
    rw [leadsA, e]
    simp only [if_true]
    rw [leads_fold hv w _ (next_st hv st b) (fun y hy => hl y (by simp [hy])), List.foldl_cons]
theorem leads_bad {G : Gr} (hv : Vg G) : ∀ (w st : List Int), St G.n st → ¬ Lab G.q.toNat w → leadsA G st w = []
  | [], _, _, h => absurd (fun x hx => by cases hx) h
  | b :: w, st, hs, h => by
    have hq := hv.q1
    rw [leadsA]
    by_cases hb : 0 ≤ b ∧ b < (G.q.toNat : Int)
    · have e : stepA G st b = (nextA G st b, 0) := by
        unfold stepA
        rw [if_pos (chkG_ok.2 hv), if_pos hs.chk, if_neg (by omega)]
      rw [e]
      simp only [if_true]
      refine leads_bad hv w _ (next_st hv st b) (fun hl => h (fun x hx => ?_))
      rcases List.mem_cons.1 hx with rfl | hx
      · exact hb
      · exact hl x hx
    · have e : stepA G st b = ([], 2) := by
        unfold stepA
        rw [if_pos (chkG_ok.2 hv), if_pos hs.chk, if_pos (by omega)]
      rw [e, if_neg (by decide)]
theorem run_bad {G : Gr} (hv : Vg G) : ∀ (w : List Int) (s : Int), ¬ Lab G.q.toNat w → run1 G.es s w < 0
  | [], _, h => absurd (fun x hx => by cases hx) h
  | b :: w, s, h => by
    have hq := hv.q1
    rw [run1_cons]
    by_cases hb : 0 ≤ b ∧ b < (G.q.toNat : Int)
    · exact run_bad hv w _ (fun hl => h (fun x hx => by
        rcases List.mem_cons.1 hx with rfl | hx
        · exact hb
        · exact hl x hx))
    · refine run1_neg w ?_
      by_cases hs : s < 0
      · rw [nxt_neg hs]; omega
      · rw [nxt_pos hs]
        by_cases ht : tgt G.es s b = -1
        · omega
        · obtain ⟨y, hy, _, hl, _⟩ := tgt_mem ht
          have := hv.ins y hy
          omega
/-- A word of a graph. -/
theorem word_iff {G : Gr} (hc : chkG G = 0) (he : (sbA G).2.2 = 0) (w : List Int) : leadsA G (upto G.n.toNat) w ≠ [] ↔ 0 ≤ run1 (sbA G).1.es (st0 G) w := by
  have hv := chkG_ok.1 hc
  obtain ⟨hsv, hsu⟩ := sbA_ok he
  have hn := hv.n1
  have hq : (sbA G).1.q = G.q := by
    unfold sbA at he ⊢
    rw [if_pos hc] at he ⊢
    by_cases h0 : G.n = 0
    · rw [if_pos h0]
    · rw [if_neg h0] at he ⊢
      cases hg : sbGo G 66 0 ([upto G.n.toNat], []) with
      | none => rw [hg] at he; cases he
      | some r => rfl
  by_cases hl : Lab G.q.toNat w
  · rw [leads_fold hv w _ (upto_st hv) hl]
    by_cases h0 : G.n = 0
    · have hs0 : st0 G = -1 := by
        unfold st0 sbA
        rw [if_pos hc, if_pos h0]; rfl
      have hu0 : upto G.n.toNat = [] := by rw [h0]; rfl
      rw [hs0, hu0]
      have e1 := run1_neg (es := (sbA G).1.es) w (s := -1) (by omega)
      have e2 : ∀ w : List Int, w.foldl (nextA G) [] = [] := by
        intro w
        induction w with
        | nil => rfl
        | cons b w ih =>
          rw [List.foldl_cons]
          have : nextA G [] b = [] := by
            unfold nextA
            rw [List.filter_eq_nil_iff]
            intro z _ hz
            obtain ⟨y, _, hy⟩ := List.any_eq_true.1 hz
            simp [nxE] at hy
          rw [this]; exact ih
      rw [e2]
      exact ⟨fun h => absurd rfl h, fun h => by omega⟩
    · unfold st0
      unfold sbA at he hsu ⊢
      rw [if_pos hc, if_neg h0] at he hsu ⊢
      cases hg : sbGo G 66 0 ([upto G.n.toNat], []) with
      | none => rw [hg] at he; cases he
      | some r =>
        rw [hg] at hsu
        simp only at hsu ⊢
        have hs : Sw G 0 0 ([upto G.n.toNat], []) := ⟨fun j b set _ h _ _ => by omega, fun x hx => by cases hx⟩
        obtain ⟨⟨k, k1, k2⟩, k3⟩ := sbGo_sw (x := upto G.n.toNat) _ _ _ r hs rfl hg
        have hlen := (List.getElem?_eq_some_iff.1 k3).1
        rw [if_pos (by omega)]
        have hne : upto G.n.toNat ≠ [] := fun e => by
          have e2 := congrArg List.length e
          rw [upto_len, List.length_nil] at e2
          omega
        exact (sets_run k1 k2 hsu w 0 _ k3 hne hl).symm
  · rw [leads_bad hv w _ (upto_st hv) hl]
    have := run_bad hsv w (st0 G) (by rw [hq]; exact hl)
    exact ⟨fun h => absurd rfl h, fun h => by omega⟩
end Go.Proofs.YtocbhlohcikapaaGreatDoor
namespace Go.Proofs.YtocbhlohcikapaaGreatDoor
open Go.RowKit Go.Sort Go.Shelf Go.Lib

/-! ### Plain: what is in the sets -/
theorem nextA_chk (G : Gr) (st : List Int) (b : Int) (hn : 0 ≤ G.n) : chkS G.n none (nextA G st b) = 0 :=
  chkS_of (nextA_srt G st b) (fun x hx => by
    have := mem_upto.1 (List.mem_filter.1 hx).1
    omega) (fun q h => by cases h)
theorem srt_len {n : Int} : ∀ {l : List Int} {a : Int}, l.Pairwise (· < ·) → (∀ x ∈ l, a ≤ x ∧ x < n) → a ≤ n → (l.length : Int) ≤ n - a
  | [], a, _, _, h => by simp; omega
  | x :: l, a, h1, h2, h => by
    obtain ⟨p1, p2⟩ := List.pairwise_cons.1 h1
    have hx := h2 x (by simp)
    have := srt_len (a := x + 1) p2 (fun y hy => ⟨by have := p1 y hy; omega, (h2 y (by simp [hy])).2⟩) (by omega)
    rw [List.length_cons]; omega
theorem chk_len {n : Int} {l : List Int} (hn : 0 ≤ n ∧ n ≤ 64) (h : chkS n none l = 0) : l.length ≤ 64 := by
  obtain ⟨h1, h2, _⟩ := chkS_ok h
  have := srt_len (a := 0) h1 h2 (by omega)
  omega
theorem chk_okK {n : Int} {l : List Int} (hn : 0 ≤ n ∧ n ≤ 64) (h : chkS n none l = 0) : okK l :=
  ⟨fun x hx => by have := (chkS_ok h).2.1 x hx; omega, by have := chk_len hn h; omega⟩
/-- All sets can be sets. -/
def Gs (n : Int) (st : Sst) : Prop := ∀ s ∈ st.1, chkS n none s = 0
theorem Gs.add {G : Gr} (hn : 0 ≤ G.n) {set : List Int} {i : Nat} {st : Sst} (h : Gs G.n st) (a : Nat) : Gs G.n (sbAdd G set i st a) := by
  unfold sbAdd
  split
  · exact h
  · split
    · exact h
    · intro s hs
      rcases List.mem_append.1 hs with hs | hs
      · exact h s hs
      · obtain rfl := List.mem_singleton.1 hs
        exact nextA_chk G set a hn
theorem Gs.to {G : Gr} (hn : 0 ≤ G.n) {set : List Int} {i : Nat} {st : Sst} (h : Gs G.n st) : ∀ L, Gs G.n (sbTo G set i st L)
  | 0 => h
  | L + 1 => by rw [sbTo_succ]; exact (h.to hn L).add hn L
theorem sbTo_grow (G : Gr) (set : List Int) (i : Nat) (st : Sst) : ∀ L, (sbTo G set i st L).1.length ≤ st.1.length + L ∧ (sbTo G set i st L).2.length ≤ st.2.length + L
  | 0 => ⟨Nat.le_refl _, Nat.le_refl _⟩
  | L + 1 => by
    have := sbTo_grow G set i st L
    rw [sbTo_succ]
    unfold sbAdd
    split
    · omega
    · split
      · simp only [List.length_append, List.length_singleton]; omega
      · simp only [List.length_append, List.length_singleton]; omega
/-- What a build from a set on answers. -/
def sbR (G : Gr) : Option Sst → Gr × List (List Int) × Int
  | none => (⟨0, 0, []⟩, [], 4)
  | some r => (⟨G.q, (r.1.length : Int), r.2⟩, r.1, 0)
theorem sbA_ok1 {G : Gr} (h : chkG G = 0) (hn : G.n ≠ 0) : sbA G = sbR G (sbGo G 66 0 ([upto G.n.toNat], [])) := by
  unfold sbA; rw [if_pos h, if_neg hn]; cases sbGo G 66 0 ([upto G.n.toNat], []) <;> rfl
theorem sbGo_end {G : Gr} {m i : Nat} {st : Sst} (h : st.1.length ≤ i) : sbGo G (m + 1) i st = some st := by
  unfold sbGo; rw [List.getElem?_eq_none h]
theorem sbGo_next {G : Gr} {m i : Nat} {st : Sst} (h : i < st.1.length) : sbGo G (m + 1) i st = if 64 < (sbTo G st.1[i] i st G.q.toNat).1.length ∨ 1024 < (sbTo G st.1[i] i st G.q.toNat).2.length then none else sbGo G m (i + 1) (sbTo G st.1[i] i st G.q.toNat) := by
  rw [sbGo]; rw [List.getElem?_eq_getElem h]

/-- A graph, sets and an error number. -/
def RetSb (r : Gr × List (List Int) × Int) (w : World) (e : Ending) (w' : World) : Prop :=
  ∃ p c ps ms cs, e = .returned (.tuple #[(.agg #[.int .i64 r.1.q, .int .i64 r.1.n, .slice p r.1.es.length c]), .slice ps ms cs, .int .i64 r.2.2]) ∧ w'.ownsRow w.heap.size 44 3 (.slice p r.1.es.length c) r.1.es.length (cat r.1.es) ∧ RowKit.Below w.heap.size w w'
theorem RetSb.of {x : Gr × List (List Int) × Int} {G : Gr} {S : List (List Int)} {k : Int} {w w' : World} {p ps : Option Addr} {m c ms cs : Nat} (hx : x = (G, S, k)) (hm : m = G.es.length) (hs : w'.ownsRow w.heap.size 44 3 (.slice p m c) m (cat G.es)) (hB : RowKit.Below w.heap.size w w') :
    RetSb x w (.returned (.tuple #[.agg #[.int .i64 G.q, .int .i64 G.n, .slice p m c], .slice ps ms cs, .int .i64 k])) w' := by
  subst hx; subst hm; exact ⟨p, c, ps, ms, cs, rfl, hs, hB⟩
def cellInt (W : World) : Value → Nat
  | .pointer (some a) => (match W.cell? a with | some v => (RowKit.intOf v).toNat | none => 0)
  | _ => 0

theorem Mp.store1 {w w2 : World} {ks : ByteArray} {set : List Int} (hk : okK set) (hks : kK set = .string ks) (hB : RowKit.Below (w.alloc (.map #[] 0)).heap.size (w.alloc (.map #[] 0)) w2) :
    ∃ w3, (Instr.mapUpdate 174 (.map (some w.heap.size)) (.string ks) (.int .i64 0)).run Tryz.prog w2 = .ok () w3 ∧ Mp kK okK (Value.int .i64) w3 w.heap.size (numF [set]) ∧ w2.mapTurned w3 w.heap.size := by
  have h := (Mp.made (kv := kK) (ok := okK) (vv := Value.int .i64) w).below hB (by rw [World.size_alloc]; omega)
  obtain ⟨w3, h1, h2, h3⟩ := h.store keyK Tryz.underlying174 set hk 0
  rw [hks] at h1
  refine ⟨w3, h1, h2.congr (fun a => ?_), h3⟩
  unfold mset numF
  by_cases e : a = set
  · subst e; simp
  · simp [e]

/-- A build of sets at a state of it. -/
def SbJ (G : Gr) (w0 : World) (bn bs bo mb bi i : Nat) (s : List Int) (v : Value) (st : Sst) (W : World) : Prop :=
  Bx w0.heap.size bn bs bo mb G.q st W ∧ RowKit.Below w0.heap.size w0 W ∧ VRow W bi 3 [.int .i64 i] ∧ W.ownsRow w0.heap.size 3 1 v s.length (s.map (Value.int .i64))
theorem SbJ.below {G : Gr} {w0 : World} {bn bs bo mb bi i : Nat} {s : List Int} {v : Value} {st : Sst} {W W' : World} (h : SbJ G w0 bn bs bo mb bi i s v st W) (hB : RowKit.Below W.heap.size W W') : SbJ G w0 bn bs bo mb bi i s v st W' :=
  ⟨h.1.below hB, h.2.1.trans (hB.mono h.2.1.size), h.2.2.1.below hB h.2.2.1.lt, h.2.2.2.below hB⟩
set_option maxRecDepth 100000 in
set_option maxHeartbeats 1000000 in
/-- All steps of one set. -/
theorem ssteps_build (G : Gr) (p : Option Addr) (c : Nat) (w0 : World) (bn bs bo mb bi i : Nat) (s : List Int) (q : Option Addr) (d : Nat) (st : Sst) (W : World) (hin : Sg 3 w0 edE p G.es) (hv : Vg G) (hs : chkS G.n none s = 0)
    (h1 : st.1.length ≤ 64) (h2 : st.2.length ≤ 1024) (hmb : w0.heap.size ≤ mb) (hbs : w0.heap.size ≤ bs) (hbo : w0.heap.size ≤ bo) (h : SbJ G w0 bn bs bo mb bi i s (.slice q s.length d) st W) :
    Calls Tryz.prog 167 #[(.agg #[.int .i64 G.q, .int .i64 G.n, .slice p G.es.length c]), .slice q s.length d, .func (.func 168) #[] #[.pointer (some ⟨bn, 0, none⟩), .pointer (some ⟨bs, 0, none⟩), .pointer (some ⟨bo, 0, none⟩), .pointer (some ⟨bi, 0, none⟩)]] W fun e w' =>
      e = .returned (.tuple #[]) ∧ SbJ G w0 bn bs bo mb bi i s (.slice q s.length d) (sbTo G s i st G.q.toNat) w' := by
  have hboW : bo < W.heap.size := by
    obtain ⟨⟨_, _, ⟨pe, ce, r, _⟩, _⟩, _⟩ := h
    exact r.lt
  refine ssteps_any G p c s q d 168 _ (fun a V => SbJ G w0 bn bs bo mb bi i s (.slice q s.length d) (sbTo G s i st a) V) W hv hs (chk_len ⟨hv.n1, hv.n2⟩ hs) (enters_of Tryz.func168 (by kernel_rfl) rfl) ?_ ?_ ?_ ?_ h
  · rintro a V ⟨_, hB, _, ho⟩
    obtain ⟨p', c', e, hsl⟩ := own_sl ho
    cases e
    exact ⟨hin.below hB, hsl⟩
  · intro a V V' hJ hB; exact hJ.below hB
  · intro a V ha hn hJ
    show SbJ G w0 bn bs bo mb bi i s (.slice q s.length d) (sbTo G s i st (a + 1)) V
    rw [sbTo_succ, sbAdd_none hn]; exact hJ
  · rintro a V pn cn ha hn hlt ⟨hX, hB, hI, ho⟩ hnx
    have hgr := sbTo_grow G s i st a
    have hq := hv.q2
    show Calls Tryz.prog 168 #[.int .i64 a, .slice pn (nextA G s a).length cn, .pointer (some ⟨bn, 0, none⟩), .pointer (some ⟨bs, 0, none⟩), .pointer (some ⟨bo, 0, none⟩), .pointer (some ⟨bi, 0, none⟩)] V _
    have hB0 := hB.size
    refine (sbuild1_any w0.heap.size bn bs bo mb bi i a G.q (sbTo G s i st a) (nextA G s a) pn cn V hX hI (own_downN hnx (by omega)) (chk_okK ⟨hv.n1, hv.n2⟩ (nextA_chk G s a hv.n1)) (by omega) (by omega) hmb hbs hbo hB0).mono ?_
    rintro e V' ⟨he, k1, k2, k3, k4⟩
    refine ⟨he, ⟨?_, hB.trans k2, k4.vrow hI, k4.own ho⟩, fun l hl => k3.vrow hl (by omega)⟩
    rw [sbTo_succ, sbAdd_put hn]; exact k1

set_option maxRecDepth 100000 in
set_option maxHeartbeats 4000000 in
theorem sbuild_any (G : Gr) (p : Option Addr) (c : Nat) (set : List Int) (q : Option Addr) (d : Nat) (w : World) (hin : Sg 3 w edE p G.es) (hst : Sl w (Value.int .i64) q set) (hv : Vg G) (hc : chkS G.n none set = 0) (hne : set ≠ []) :
    Calls Tryz.prog 113 #[(.agg #[.int .i64 G.q, .int .i64 G.n, .slice p G.es.length c]), .slice q set.length d] w (RetSb (sbR G (sbGo G 66 0 ([set], []))) w) := by
  have HV := hidI hv
  have hlen := HV.out.len
  have hks0 := chk_okK ⟨hv.n1, hv.n2⟩ hc
  have h64 := chk_len ⟨hv.n1, hv.n2⟩ hc
  obtain ⟨Q, hQ⟩ : ∃ Q : Nat, G.q = Q := ⟨G.q.toNat, by have := hv.q1; omega⟩
  have HQ := hidI hQ
  have HKO := hidI hks0
  obtain ⟨ks, hks⟩ : ∃ ks : ByteArray, ks = ⟨(keyL set).toArray⟩ := ⟨_, rfl⟩
  have HPK : Hid (kK set = .string ks) := by rw [hks]; rfl
  obtain ⟨w0, hw0⟩ : ∃ w0, w0 = (w.alloc (.cells #[.int .i64 G.q, .int .i64 G.n, .slice p G.es.length c] 24)).alloc (.cells #[.int .i64 0, .int .i64 0, .slice none 0 0] 24) := ⟨_, rfl⟩
  have b0 : VRow w0 w.heap.size 24 [.int .i64 G.q, .int .i64 G.n, .slice p G.es.length c] := by subst hw0; exact (VRow.new w _ _).alloc _
  have b1 : VRow w0 (w.heap.size + 1) 24 [.int .i64 0, .int .i64 0, .slice none 0 0] := by subst hw0; exact VRow.new1 w _ _ _
  have hB0 : RowKit.Below w.heap.size w w0 := by subst hw0; exact ((RowKit.Below.refl _ _).alloc (Nat.le_refl _) _).alloc (by simp) _
  have HIN := hidI (hin.below hB0); have HST := hidI (hst.below hB0)
  have HKY : Hid (∀ W, RowKit.Below w0.heap.size w0 W → Calls Tryz.prog 166 #[.slice q set.length d] W fun e w' => e = .returned (.string ks) ∧ RowKit.Below W.heap.size W w') := fun W hW => by
    rw [hks]; exact skey_any set q d W (HST.out.below hW) HKO.out.1 HKO.out.2
  obtain ⟨w1, hw1⟩ : ∃ w1, w1 = w0.alloc (.map #[] 0) := ⟨_, rfl⟩
  have hB1 : RowKit.Below w0.heap.size w0 w1 := by subst hw1; exact (RowKit.Below.refl _ _).alloc (Nat.le_refl _) _
  have HMS : Hid (∀ w2, RowKit.Below w1.heap.size w1 w2 → ∃ w3, (Instr.mapUpdate 174 (.map (some w0.heap.size)) (.string ks) (.int .i64 0)).run Tryz.prog w2 = .ok () w3 ∧ Mp kK okK (Value.int .i64) w3 w0.heap.size (numF [set]) ∧ w2.mapTurned w3 w0.heap.size) := fun w2 h => by
    subst hw1; exact Mp.store1 HKO.out HPK.out h
  have HW1 := hidI hw1
  have hmm := @run_makeMap Tryz.prog
  have HGS : Hid (Gs G.n ([set], [])) := fun s hs => by obtain rfl := List.mem_singleton.1 hs; exact hc
  clear hin hst hv hc hks0 hQ hks
  go_enter Tryz.func113, Tryz.ntmps113
  go_upto_region 1 with fail
  rw [← hw0]
  clear hw0
  go_wp2_with fail
  rw [← HW1.out]
  refine (HKY.out w1 hB1).mono ?_
  rintro e w2 ⟨rfl, hB2⟩
  obtain ⟨w3, hst3, hM3, hturn⟩ := HMS.out w2 hB2
  go_upto_region 2 with fail
  obtain ⟨w4, hw4⟩ : ∃ w4, w4 = w3.alloc (.cells #[.map (some w0.heap.size)] 174) := ⟨_, rfl⟩
  have hB3 : RowKit.Below w0.heap.size w0 w3 := turn_below (hB1.trans (hB2.mono hB1.size)) hturn (Nat.le_refl _) (Nat.le_trans hB1.size hB2.size)
  have hB34 : RowKit.Below w3.heap.size w3 w4 := by subst hw4; exact (RowKit.Below.refl _ _).alloc (Nat.le_refl _) _
  have hB4 := hB3.trans (hB34.mono hB3.size)
  have hN4 : PN w3.heap.size w0.heap.size [set] w4 := ⟨by subst hw4; exact VRow.new w3 _ _, Mp.below' hM3 hB34⟩
  rw [← hw4]
  obtain ⟨bn, hbn⟩ : ∃ bn, bn = w3.heap.size := ⟨_, rfl⟩
  obtain ⟨mb, hmb⟩ : ∃ mb, mb = w0.heap.size := ⟨_, rfl⟩
  have hmb0 : w0.heap.size ≤ mb := by omega
  have hbn0 : w0.heap.size ≤ bn := by rw [hbn]; exact hB3.size
  rw [← hbn, ← hmb] at hN4
  rw [← hbn, ← hmb]
  clear hw4 hst3 hM3 hturn hB3 hB34 hmm hw1 HW1 HMS hbn hmb
  have hCL : Hid (∀ W, RowKit.Below w0.heap.size w0 W → Calls Tryz.prog 91 #[.slice q set.length d] W fun e w' => ∃ p c, e = .returned (.slice p set.length c) ∧ w'.ownsRow W.heap.size 3 1 (.slice p set.length c) set.length (set.map (Value.int .i64)) ∧ RowKit.Below W.heap.size W w') := fun W hW => by
    obtain ⟨b, off, rfl, hb, hcell⟩ := (HST.out.below hW).get 0 (List.length_pos_iff.2 hne)
    refine (Tryz.slices_Clone_int b off set.length d set W (Nat.le_refl _) (by omega) (fun j hj => by rw [hcell j hj]; simp [List.getD_eq_getElem?_getD, hj])).mono ?_
    rintro e w' ⟨v', rfl, ho, _, hB⟩
    rw [List.take_length] at ho
    obtain ⟨p', c', rfl⟩ := own_shape1 ho
    exact ⟨p', c', rfl, ho, hB⟩
  go_wp2_with fail
  refine (hCL.out w4 hB4).mono ?_
  rintro e w5 ⟨ps, cs, rfl, hown5, hB5⟩
  go_upto_region 3 with fail
  obtain ⟨bs, hbs⟩ : ∃ bs, bs = w5.heap.size + 1 := ⟨_, rfl⟩
  obtain ⟨w6, hw6⟩ : ∃ w6, w6 = (w5.alloc (.cells #[.slice ps set.length cs] 30)).alloc (.cells #[.slice (some ⟨w5.heap.size, 0, none⟩) 1 1] 47) := ⟨_, rfl⟩
  have hB6 : RowKit.Below w5.heap.size w5 w6 := by subst hw6; exact ((RowKit.Below.refl _ _).alloc (Nat.le_refl _) _).alloc (by simp) _
  have hB45 := hB4.trans (hB5.mono hB4.size)
  have hB06 := hB45.trans (hB6.mono hB45.size)
  have hbs0 : w0.heap.size ≤ bs := by have := hB45.size; omega
  have hS6 : PS w0.heap.size bs [set] w6 := by
    subst hw6
    refine ⟨some ⟨w5.heap.size, 0, none⟩, 1, [.slice ps set.length cs], by rw [hbs]; exact VRow.new1 w5 _ _ _, ?_, fun i hi => ?_⟩
    · exact (own_new w5 w0.heap.size [.slice ps set.length cs] 30 hB45.size (by simp [maxLen])).alloc _
    · obtain rfl : i = 0 := by simp at hi; exact hi
      exact ⟨_, rfl, ⟨_, _, rfl⟩, (own_downN (hown5.below hB6) hB4.size)⟩
  have hN6 := hN4.keep (KX0.below (hB5.trans (hB6.mono hB5.size))) (KXm.below (hB5.trans (hB6.mono hB5.size)))
  rw [← hw6, ← hbs]
  clear hw6 hbs hB5 hB6 hB45 hown5 hN4
  have c0 := b0.below hB06 b0.lt
  have f0 := c0.at 0 rfl
  obtain ⟨w7, hw7⟩ : ∃ w7, w7 = w6.alloc (.cells #[.int .i64 G.q, .int .i64 0, .slice none 0 0] 24) := ⟨_, rfl⟩
  obtain ⟨w8, hw8⟩ : ∃ w8, w8 = w7.alloc (.cells #[.int .i64 0] 3) := ⟨_, rfl⟩
  have hB67 : RowKit.Below w6.heap.size w6 w7 := by subst hw7; exact (RowKit.Below.refl _ _).alloc (Nat.le_refl _) _
  have hB78 : RowKit.Below w7.heap.size w7 w8 := by subst hw8; exact (RowKit.Below.refl _ _).alloc (Nat.le_refl _) _
  have hB68 := hB67.trans (hB78.mono hB67.size)
  have hB08 := hB06.trans (hB68.mono hB06.size)
  have hI8 : VRow w8 w7.heap.size 3 [.int .i64 ((0 : Nat) : Int)] := by subst hw8; exact VRow.new w7 _ _
  obtain ⟨bo, hbo⟩ : ∃ bo, bo = w6.heap.size := ⟨_, rfl⟩
  obtain ⟨bi, hbi⟩ : ∃ bi, bi = w7.heap.size := ⟨_, rfl⟩
  have hbo0 : w0.heap.size ≤ bo := by have := hB06.size; omega
  have hbi0 : w0.heap.size ≤ bi := by have := (hB06.trans (hB67.mono hB06.size)).size; omega
  have hO8 : PO w0.heap.size bo G.q [] w8 := by
    have r7 : VRow w7 w6.heap.size 24 [.int .i64 G.q, .int .i64 0, .slice none 0 0] := by subst hw7; exact VRow.new w6 _ _
    rw [hbo]
    exact ⟨none, 0, r7.below hB78 r7.lt, World.ownsRow_nil _ _ _ _⟩
  have hX8 : Bx w0.heap.size bn bs bo mb G.q ([set], []) w8 :=
    ⟨hN6.keep (KX0.below hB68) (KXm.below hB68), hS6.keep (KX0.below hB68) (KX0.below hB68) (KX0.below hB68), hO8, fun s hs => by obtain rfl := List.mem_singleton.1 hs; exact HKO.out⟩
  rw [← hbi] at hI8
  go_upto_region 4 with fail
  rw [← hw7, ← hbo]
  have HW8 := hidI hw8; have HBI := hidI hbi
  clear f0 hw7 hw8 hbo hbi hB67 hB78 hB68 hN6 hS6 hO8 hB06 c0
  go_wp2
  rw [← HW8.out, ← HBI.out]
  clear HW8 HBI
  go_loopw [10] (fun bv wr => ∃ (i bi : Nat) (st : Sst), bv = .pointer (some ⟨bi, 0, none⟩) ∧ VRow wr bi 3 [.int .i64 i] ∧ Bx w0.heap.size bn bs bo mb G.q st wr ∧ Gs G.n st ∧ i ≤ st.1.length ∧ st.1.length ≤ 64 ∧ st.2.length ≤ 1024 ∧ Hid (sbGo G (66 - i) i st = sbGo G 66 0 ([set], [])) ∧ RowKit.Below w0.heap.size w0 wr ∧ w0.heap.size ≤ bi) (fun bv wr => 66 - cellInt wr bv)
  case atStart => exact ⟨0, bi, ([set], []), rfl, hI8, hX8, HGS.out, by simp, by simp, by simp, rfl, hB08, hbi0⟩
  case round =>
    clear hX8 hI8 hB08 hbi0
    obtain ⟨i, bi, st, rfl, hI, hX, hg, hil, h64, h1k, hgo, hB, hbi0⟩ := hrel
    have fi := hI.at 0 rfl
    obtain ⟨ps, cs, Vs, rs, os, hel⟩ := hX.sets
    have s0 := rs.at 0 rfl
    by_cases hlt : i < st.1.length
    · have hltI : (i : Int) < (st.1.length : Int) := by omega
      obtain ⟨v, hv, ⟨pv, cv, rfl⟩, ov⟩ := hel i hlt
      obtain ⟨gs, rfl⟩ : ∃ gs, ps = some ⟨gs, 0, none⟩ := by
        rcases os.2 with ⟨_, h0⟩ | ⟨g, cap, cur, e, _⟩
        · omega
        · cases e; exact ⟨g, rfl⟩
      have cS : wr.cell? ⟨gs, i, none⟩ = some (.slice pv st.1[i].length cv) := by rw [os.cellAt i (by omega)]; exact hv
      have HSP := hidI (fun W (h : SbJ G w0 bn bs bo mb bi i st.1[i] (.slice pv st.1[i].length cv) st W) => ssteps_build G p c w0 bn bs bo mb bi i st.1[i] pv cv st W HIN.out HV.out (hg _ (List.getElem_mem hlt)) h64 h1k hmb0 hbs0 hbo0 h)
      have HJ : Hid (SbJ G w0 bn bs bo mb bi i st.1[i] (.slice pv st.1[i].length cv) st wr) := ⟨hX, hB, hI, ov⟩
      have HGN := hidI (sbGo_next (G := G) (m := 65 - i) hlt)
      have HGG := hidI (hg.to HV.out.n1 (set := st.1[i]) (i := i) G.q.toNat)
      generalize st.1[i] = s at *
      go_upto_region 7 with fail
      refine region_tail 6 (by kernel_rfl) (by kernel_rfl) fun W hD => ?_
      have HJ2 := hidI (HJ.out.below (hD.below _))
      have c0 := (b0.below (hB.mono (Nat.le_refl _)) b0.lt).dr hD
      have e0 := c0.at 0 rfl; have e1 := c0.at 1 rfl; have e2 := c0.at 2 rfl
      have fi2 := (hD.cell _).trans fi
      have HFI := hidI fi
      have s02 := (hD.cell _).trans s0
      have cS2 := (hD.cell _).trans cS
      clear fi s0 cS hel os rs hI hX ov hv HJ c0
      simp only [List.take_succ_cons, List.take_zero, List.drop_succ_cons, List.drop_zero]
      iterate 6 still_step
      refine wpStill_nil ?_
      clear e0 e1 e2 fi2 s02 cS2
      go_wp2_with fail
      refine (HSP.out W HJ2.out).mono ?_
      rintro e W2 ⟨rfl, hX2, hB2, hI2, hO2⟩
      have hgr := sbTo_grow G s i st G.q.toNat
      have hle := sbTo_len (G := G) (set := s) (i := i) (st := st) G.q.toNat
      have hqb := HV.out.q2
      generalize sbTo G s i st G.q.toNat = st2 at *
      clear HJ2 hD hB HSP
      obtain ⟨S2, E2⟩ := st2
      have HGN : Hid (sbGo G (65 - i + 1) i st = if 64 < S2.length ∨ 1024 < E2.length then none else sbGo G (65 - i) (i + 1) (S2, E2)) := HGN
      have hgr : S2.length ≤ st.1.length + G.q.toNat ∧ E2.length ≤ st.2.length + G.q.toNat := hgr
      have hX2' := hidI hX2
      obtain ⟨_, ⟨ps2, cs2, Vs2, r2, _, _⟩, ⟨pe, ce, ro, _⟩, _⟩ := hX2
      have hle : st.1.length ≤ S2.length := hle
      have s2 : W2.cell? ⟨bs, 0, none⟩ = some (.slice ps2 S2.length cs2) := r2.at 0 rfl
      have e2 : W2.cell? ⟨bo, 2, none⟩ = some (.slice pe E2.length ce) := ro.at 2 rfl
      have fi3 := hI2.at 0 rfl
      have HGO : Hid (sbGo G 66 0 ([set], []) = sbGo G (65 - i + 1) i st) := by rw [Hid, ← hgo.out, show 65 - i + 1 = 66 - i by omega]
      have hS2l : S2.length ≤ 1000 := by omega
      have hE2l : E2.length ≤ 2000 := by omega
      have hlI : (S2.length : Int) ≤ 1000 := by omega
      clear r2 ro hgr
      by_cases hA : 64 < S2.length
      · have HGE : Hid (sbGo G 66 0 ([set], []) = none) := by rw [Hid, HGO.out, HGN.out, if_pos (.inl hA)]
        have hAI : (64 : Int) < (S2.length : Int) := by omega
        (have c1 := b1.below hB2 b1.lt; have j0 := c1.at 0 rfl; have j1 := c1.at 1 rfl; have j2 := c1.at 2 rfl; have z0 := c1.frozen 0; have z1 := c1.frozen 1; have z2 := c1.frozen 2; go_wp2; have r6 := VRow.set (i := 2) (.slice none 0 0) (VRow.set (i := 1) (.int .i64 0) (VRow.set (i := 0) (.int .i64 0) c1)); have y0 := r6.at 0 rfl; have y1 := r6.at 1 rfl; have y2 := r6.at 2 rfl; have x2 := hB0.trans (hB2.mono hB0.size); have x6 : RowKit.Below w.heap.size w (((W2.setCell (⟨w.heap.size + 1, 0, none⟩ : Addr) (.int .i64 0)).setCell (⟨w.heap.size + 1, 1, none⟩ : Addr) (.int .i64 0)).setCell (⟨w.heap.size + 1, 2, none⟩ : Addr) (.slice none 0 0)) := ((x2.setCell (show w.heap.size ≤ w.heap.size + 1 by omega) _).setCell (show w.heap.size ≤ w.heap.size + 1 by omega) _).setCell (show w.heap.size ≤ w.heap.size + 1 by omega) _; refine bodyPost_ret (v := .tuple #[.agg #[.int .i64 0, .int .i64 0, .slice none 0 0], .slice none 0 0, .int .i64 4]) (by simp [results, Tryz.results113, go_sem, y0, y1, y2]) rfl ?_; rw [HGE.out]; exact RetSb.of (G := ⟨0, 0, []⟩) (S := []) rfl rfl (World.ownsRow_nil _ _ _ _) x6)
      · have hAI : ¬ (64 : Int) < (S2.length : Int) := by omega
        by_cases hC : 1024 < E2.length
        · have HGE : Hid (sbGo G 66 0 ([set], []) = none) := by rw [Hid, HGO.out, HGN.out, if_pos (.inr hC)]
          have hCI : (1024 : Int) < (E2.length : Int) := by omega
          (have c1 := b1.below hB2 b1.lt; have j0 := c1.at 0 rfl; have j1 := c1.at 1 rfl; have j2 := c1.at 2 rfl; have z0 := c1.frozen 0; have z1 := c1.frozen 1; have z2 := c1.frozen 2; go_wp2; have r6 := VRow.set (i := 2) (.slice none 0 0) (VRow.set (i := 1) (.int .i64 0) (VRow.set (i := 0) (.int .i64 0) c1)); have y0 := r6.at 0 rfl; have y1 := r6.at 1 rfl; have y2 := r6.at 2 rfl; have x2 := hB0.trans (hB2.mono hB0.size); have x6 : RowKit.Below w.heap.size w (((W2.setCell (⟨w.heap.size + 1, 0, none⟩ : Addr) (.int .i64 0)).setCell (⟨w.heap.size + 1, 1, none⟩ : Addr) (.int .i64 0)).setCell (⟨w.heap.size + 1, 2, none⟩ : Addr) (.slice none 0 0)) := ((x2.setCell (show w.heap.size ≤ w.heap.size + 1 by omega) _).setCell (show w.heap.size ≤ w.heap.size + 1 by omega) _).setCell (show w.heap.size ≤ w.heap.size + 1 by omega) _; refine bodyPost_ret (v := .tuple #[.agg #[.int .i64 0, .int .i64 0, .slice none 0 0], .slice none 0 0, .int .i64 4]) (by simp [results, Tryz.results113, go_sem, y0, y1, y2]) rfl ?_; rw [HGE.out]; exact RetSb.of (G := ⟨0, 0, []⟩) (S := []) rfl rfl (World.ownsRow_nil _ _ _ _) x6)
        · have hCI : ¬ (1024 : Int) < (E2.length : Int) := by omega
          have HGX : Hid (sbGo G (66 - (i + 1)) (i + 1) (S2, E2) = sbGo G 66 0 ([set], [])) := by rw [Hid, HGO.out, HGN.out, if_neg (by omega), show 66 - (i + 1) = 65 - i by omega]
          clear HGN HGO
          go_wp2
          go_roundw
          case rel =>
            have hBn := (RowKit.Below.refl W2.heap.size W2).alloc (Nat.le_refl _) (.cells #[.int .i64 ((i : Int) + 1)] 3)
            exact ⟨i + 1, W2.heap.size, (S2, E2), rfl, by simpa using VRow.new W2 3 [.int .i64 ((i : Int) + 1)], hX2'.out.below hBn, HGG.out, by show i + 1 ≤ S2.length; omega, by show S2.length ≤ 64; omega, by show E2.length ≤ 1024; omega, HGX, hB2.trans (hBn.mono hB2.size), hB2.size⟩
          case measure =>
            have h1 := HFI.out
            have h2 : (W2.alloc (.cells #[.int .i64 ((i : Int) + 1)] 3)).cell? ⟨W2.heap.size, 0, none⟩ = some (.int .i64 ((i : Int) + 1)) := (VRow.new W2 3 [.int .i64 ((i : Int) + 1)]).at 0 rfl
            simp only [cellInt, h1, h2, RowKit.intOf]
            omega
    · obtain rfl : i = st.1.length := by omega
      obtain ⟨S, E⟩ := st
      have hltI : ¬ (S.length : Int) < (S.length : Int) := by omega
      obtain ⟨pe, ce, ro, oo⟩ := hX.out
      have HGE : Hid (sbGo G 66 0 ([set], []) = some (S, E)) := by
        rw [Hid, ← hgo.out]
        have h64' : S.length ≤ 64 := h64
        show sbGo G (66 - S.length) S.length (S, E) = _
        rw [show 66 - S.length = 65 - S.length + 1 by omega]; exact sbGo_end (Nat.le_refl _)
      have s1 : wr.cell? ⟨bs, 0, none⟩ = some (.slice ps S.length cs) := s0
      have i1 : wr.cell? ⟨bi, 0, none⟩ = some (.int .i64 S.length) := fi
      have ro1 : VRow wr bo 24 [.int .i64 G.q, .int .i64 0, .slice pe E.length ce] := ro
      have e1 := ro1.at 1 rfl; have z1 := ro1.frozen 1
      have rw2 := ro1.set (i := 1) (.int .i64 S.length)
      have rs1 : VRow (wr.setCell ⟨bo, 1, none⟩ (.int .i64 S.length)) bs 47 [.slice ps S.length cs] := (KX0.set ro1 1 _ (by decide)).vrow rs
      have o9 := (KX0.set ro1 1 (.int .i64 S.length) (t := 44) (by decide)).own oo
      have hB9 := hB.setCell (p := ⟨bo, 1, none⟩) hbo0 (.int .i64 S.length)
      clear fi s0 hel hX hg os rs ro
      go_upto_region 13 with fail
      generalize wr.setCell ⟨bo, 1, none⟩ (.int .i64 S.length) = w9 at *
      have c1 := b1.below hB9 b1.lt
      have k0 := rw2.at 0 rfl; have k1 := rw2.at 1 rfl; have k2 := rw2.at 2 rfl; have k3 := rs1.at 0 rfl
      have j0 := c1.at 0 rfl; have j1 := c1.at 1 rfl; have j2 := c1.at 2 rfl
      have z0 := c1.frozen 0; have z1 := c1.frozen 1; have z2 := c1.frozen 2
      have x9 := hB0.trans (hB9.mono hB0.size)
      have r6 := VRow.set (i := 2) (.slice pe E.length ce) (VRow.set (i := 1) (.int .i64 S.length) (VRow.set (i := 0) (.int .i64 G.q) c1))
      have y0 := r6.at 0 rfl; have y1 := r6.at 1 rfl; have y2 := r6.at 2 rfl
      have hz0 : w.heap.size + 1 < w0.heap.size := b1.lt
      have o6 := ownsRow_setCell_below (a := (⟨w.heap.size + 1, 2, none⟩ : Addr)) (ownsRow_setCell_below (a := (⟨w.heap.size + 1, 1, none⟩ : Addr)) (ownsRow_setCell_below (a := (⟨w.heap.size + 1, 0, none⟩ : Addr)) o9 hz0 (.int .i64 G.q)) hz0 (.int .i64 S.length)) hz0 (.slice pe E.length ce)
      have x6 : RowKit.Below w.heap.size w (((w9.setCell (⟨w.heap.size + 1, 0, none⟩ : Addr) (.int .i64 G.q)).setCell (⟨w.heap.size + 1, 1, none⟩ : Addr) (.int .i64 S.length)).setCell (⟨w.heap.size + 1, 2, none⟩ : Addr) (.slice pe E.length ce)) :=
        ((x9.setCell (show w.heap.size ≤ w.heap.size + 1 by omega) _).setCell (show w.heap.size ≤ w.heap.size + 1 by omega) _).setCell (show w.heap.size ≤ w.heap.size + 1 by omega) _
      go_region
      all_goals
        go_wp2
        generalize ((w9.setCell (⟨w.heap.size + 1, 0, none⟩ : Addr) (.int .i64 G.q)).setCell (⟨w.heap.size + 1, 1, none⟩ : Addr) (.int .i64 S.length)).setCell (⟨w.heap.size + 1, 2, none⟩ : Addr) (.slice pe E.length ce) = wz at *
        have q0 : wz.drew.cell? ⟨w.heap.size + 1, 0, none⟩ = _ := y0
        have q1 : wz.drew.cell? ⟨w.heap.size + 1, 1, none⟩ = _ := y1
        have q2 : wz.drew.cell? ⟨w.heap.size + 1, 2, none⟩ = _ := y2
        refine bodyPost_ret (v := .tuple #[.agg #[.int .i64 G.q, .int .i64 S.length, .slice pe E.length ce], .slice ps S.length cs, .int .i64 0]) (by simp [results, Tryz.results113, go_sem, q0, q1, q2]) rfl ?_
        rw [HGE.out]
        exact RetSb.of (G := ⟨G.q, (S.length : Int), E⟩) (S := S) rfl rfl ((own_downN o6 hB0.size).dr ⟨1, rfl⟩) x6.drew
end Go.Proofs.YtocbhlohcikapaaGreatDoor
