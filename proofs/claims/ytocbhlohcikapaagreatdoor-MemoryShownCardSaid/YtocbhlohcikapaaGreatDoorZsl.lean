/-
  MemoryShown: whatever comes in, the law returns true, and its arguments read as they did; the tables of the library that its row lists are tied to the program's text.
-/
import Derived.Test.YtocbhlohcikapaaGreatDoorZsd
import Derived.Test.YtocbhlohcikapaaGreatDoorZsk
import Derived.Test.YtocbhlohcikapaaGreatDoorZsa
import Derived.Test.YtocbhlohcikapaaGreatDoorZsc
import Derived.Test.YtocbhlohcikapaaGreatDoorTie
import Derived.Test.YtocbhlohcikapaaGreatDoorCards
import Derived.LaidMore
import Derived.SevenTiedAt
import Derived.Carry
set_option linter.unusedVariables false
set_option linter.unusedSimpArgs false
namespace Go.Proofs.YtocbhlohcikapaaGreatDoor
open Go.RowKit
def dpt (N : Nat) (es : List Ed) : Nat → List (Nat × Nat) → Nat → Prop
  | p, [], q => p = q
  | p, e :: c, q => e ∈ dnx N es p ∧ dpt N es (dend N es e) c q
theorem mem_dnx_iff {N : Nat} {es : List Ed} {n : Nat} {e : Nat × Nat} : e ∈ dnx N es n ↔ e ∈ prs es ∧ dif2 es e = true ∧ dbeg N es e = n := by
  unfold dnx dnxL
  rw [List.mem_filter, Bool.and_eq_true, decide_eq_true_iff]
theorem dif2_iff {es : List Ed} {p : Nat × Nat} : dif2 es p = true ↔ (eget es p.1).f ≠ (eget es p.2).f ∧ (eget es p.1).t ≠ (eget es p.2).t := by
  unfold dif2; rw [Bool.and_eq_true, decide_eq_true_iff, decide_eq_true_iff]
theorem dpt_app {N : Nat} {es : List Ed} : ∀ {a b : List (Nat × Nat)} {p q : Nat}, dpt N es p (a ++ b) q ↔ ∃ m, dpt N es p a m ∧ dpt N es m b q
  | [], b, p, q => by
    constructor
    · intro h; exact ⟨p, rfl, h⟩
    · rintro ⟨m, rfl, h⟩; exact h
  | e :: a, b, p, q => by
    show (e ∈ dnx N es p ∧ dpt N es (dend N es e) (a ++ b) q) ↔ _
    rw [dpt_app]
    constructor
    · rintro ⟨h, m, h1, h2⟩; exact ⟨m, ⟨h, h1⟩, h2⟩
    · rintro ⟨m, ⟨h, h1⟩, h2⟩; exact ⟨h, m, h1, h2⟩
theorem dpt_snoc {N : Nat} {es : List Ed} {a : List (Nat × Nat)} {e : Nat × Nat} {p q : Nat} : dpt N es p (a ++ [e]) q ↔ ∃ m, dpt N es p a m ∧ e ∈ dnx N es m ∧ dend N es e = q := dpt_app
section
variable {G : Gr} {N : Nat}
theorem dend_in (hv : Vg G) (hN : G.n = N) {e : Nat × Nat} (h : e ∈ prs G.es) : dend N G.es e < N * N := by
  obtain ⟨h1, h2, _⟩ := mem_prs.1 h
  have k1 := hv.ins _ (Gr.at_ h1); have k2 := hv.ins _ (Gr.at_ h2)
  exact pix_lt (by omega) (by omega) (by omega) (by omega)
theorem dbeg_lt (hv : Vg G) (hN : G.n = N) {e : Nat × Nat} (h : e ∈ prs G.es) : dbeg N G.es e < N * N := by
  obtain ⟨h1, h2, _⟩ := mem_prs.1 h
  have k1 := hv.ins _ (Gr.at_ h1); have k2 := hv.ins _ (Gr.at_ h2)
  exact pix_lt (by omega) (by omega) (by omega) (by omega)
theorem dpt_lt (hv : Vg G) (hN : G.n = N) : ∀ {c : List (Nat × Nat)} {p q : Nat}, p < N * N → dpt N G.es p c q → q < N * N
  | [], _, _, hp, h => by cases h; exact hp
  | _ :: _, _, _, _, h => dpt_lt hv hN (dend_in hv hN (mem_dnx_iff.1 h.1).1) h.2
theorem can_iff (hv : Vg G) (hN : G.n = N) {s : Nat} (hs : s < N * N) : ∀ (k : Nat) {p : Nat}, lkB (canA N G.es s k) p = true ↔ p < N * N ∧ ∃ c : List (Nat × Nat), c.length = k ∧ dpt N G.es p c s
  | 0, p => by
    show lkB ((List.replicate (N * N) false).set s true) p = true ↔ _
    rw [lkB_set (by rw [List.length_replicate]; exact hs)]
    constructor
    · intro h
      by_cases e : s = p
      · subst e; exact ⟨hs, [], rfl, rfl⟩
      · rw [if_neg e, lkB_rep] at h; cases h
    · rintro ⟨_, c, hc, h⟩
      have hc := List.eq_nil_of_length_eq_zero hc
      subst hc
      have h : p = s := h
      rw [if_pos h.symm]
  | k + 1, p => by
    by_cases hp : p < N * N
    · rw [lkB_get (by rw [canA_len]; exact hp)]
      have e : (canA N G.es s (k + 1))[p]'(by rw [canA_len]; exact hp) = (dnx N G.es p).any fun e => lkB (canA N G.es s k) (dend N G.es e) := by simp [canA]
      rw [e, List.any_eq_true]
      constructor
      · rintro ⟨x, hx, h⟩
        obtain ⟨_, c, hc, h⟩ := (can_iff hv hN hs k).1 h
        exact ⟨hp, x :: c, by simp [hc], hx, h⟩
      · rintro ⟨_, c, hc, h⟩
        cases c with
        | nil => simp at hc
        | cons x c => exact ⟨x, h.1, (can_iff hv hN hs k).2 ⟨dend_in hv hN (mem_dnx_iff.1 h.1).1, c, by simpa using hc, h.2⟩⟩
    · rw [lkB_out (by rw [canA_len]; omega)]
      constructor
      · intro h; cases h
      · rintro ⟨h, _⟩; exact absurd h hp
theorem cyW_dpt {s : Nat} (h0 : ∀ {p : Nat}, lkB (canA N G.es s 0) p = true → p = s) : ∀ (k : Nat) {a : Nat}, lkB (canA N G.es s k) a = true → dpt N G.es a (cyW N G.es s k a) s
  | 0, a, h => h0 h
  | k + 1, a, h => by
    obtain ⟨e, h1, h2, h3⟩ := cyW_step h
    rw [h3]
    exact ⟨List.mem_of_find?_eq_some h1, cyW_dpt h0 k h2⟩
theorem can_zero {es : List Ed} {s p : Nat} (hs : s < N * N) (h : lkB (canA N es s 0) p = true) : p = s := by
  have h : lkB ((List.replicate (N * N) false).set s true) p = true := h
  rw [lkB_set (by rw [List.length_replicate]; exact hs)] at h
  by_cases e : s = p
  · exact e.symm
  · rw [if_neg e, lkB_rep] at h; cases h
theorem cycA_some {s n : Nat} {c : List (Nat × Nat)} (hs : s < N * N) (h : cycA N G.es s n = some c) : c.length = n ∧ dpt N G.es s c s := by
  refine ⟨cycA_len h, ?_⟩
  unfold cycA at h
  split at h
  · rename_i hc; cases h; exact cyW_dpt (can_zero hs) n hc
  · cases h
theorem cycA_ne (hv : Vg G) (hN : G.n = N) {s n : Nat} {c : List (Nat × Nat)} (hs : s < N * N) (hc : c.length = n) (h : dpt N G.es s c s) : ∃ c', cycA N G.es s n = some c' := by
  unfold cycA
  rw [if_pos ((can_iff hv hN hs n).2 ⟨hs, c, hc, h⟩)]
  exact ⟨_, rfl⟩
def dre (N : Nat) (es : List Ed) (s i x : Nat) : Prop := ∃ c : List (Nat × Nat), c.length = i ∧ dpt N es s c x
theorem dre_zero {es : List Ed} {s x : Nat} : dre N es s 0 x ↔ s = x := by
  constructor
  · rintro ⟨c, hc, h⟩
    have hc := List.eq_nil_of_length_eq_zero hc
    subst hc; exact h
  · intro h; exact ⟨[], rfl, h⟩
theorem dre_succ {es : List Ed} {s i x : Nat} : dre N es s (i + 1) x ↔ ∃ y, dre N es s i y ∧ ∃ e ∈ dnx N es y, dend N es e = x := by
  constructor
  · rintro ⟨c, hc, h⟩
    rcases List.eq_nil_or_concat c with rfl | ⟨c', e, rfl⟩
    · simp at hc
    · rw [List.concat_eq_append] at *
      obtain ⟨m, h1, h2, h3⟩ := dpt_snoc.1 h
      exact ⟨m, ⟨c', by simpa using hc, h1⟩, e, h2, h3⟩
  · rintro ⟨y, ⟨c, hc, h⟩, e, he, h2⟩
    exact ⟨c ++ [e], by simp [hc], dpt_snoc.2 ⟨y, h, he, h2⟩⟩
theorem shE_none {es : List Ed} {s : Nat} : ∀ {l : List (Nat × Nat)} {st : List Bool × List Nat}, shE N es s l st = none → ∃ e ∈ l, dend N es e = s
  | [], _, h => by cases h
  | e :: l, st, h => by
    unfold shE at h
    split at h
    · rename_i he; exact ⟨e, by simp, he⟩
    · obtain ⟨e', h1, h2⟩ := shE_none h
      exact ⟨e', by simp [h1], h2⟩
theorem shE_some {es : List Ed} {s M : Nat} : ∀ {l : List (Nat × Nat)} {st st' : List Bool × List Nat}, st.1.length = M → (∀ e ∈ l, dend N es e < M) → shE N es s l st = some st' →
    st'.1.length = M ∧ (∀ e ∈ l, dend N es e ≠ s) ∧ (∀ x, lkB st'.1 x = true ↔ lkB st.1 x = true ∨ ∃ e ∈ l, dend N es e = x) ∧ (∀ x, x ∈ st'.2 ↔ x ∈ st.2 ∨ (lkB st.1 x = false ∧ ∃ e ∈ l, dend N es e = x))
  | [], st, st', hM, _, h => by cases h; exact ⟨hM, (fun e he => by cases he), fun x => by simp, fun x => by simp⟩
  | e :: l, st, st', hM, hb, h => by
    unfold shE at h
    split at h
    · cases h
    · rename_i he
      have hbe := hb e (by simp)
      by_cases hl : lkB st.1 (dend N es e) = true
      · rw [if_pos hl] at h
        obtain ⟨h1, h2, h3, h4⟩ := shE_some hM (fun x hx => hb x (by simp [hx])) h
        refine ⟨h1, fun x hx => ?_, fun x => ?_, fun x => ?_⟩
        · rcases List.mem_cons.1 hx with rfl | hx
          · exact he
          · exact h2 x hx
        · rw [h3]
          constructor
          · rintro (h | ⟨y, hy, h⟩)
            · exact .inl h
            · exact .inr ⟨y, by simp [hy], h⟩
          · rintro (h | ⟨y, hy, h⟩)
            · exact .inl h
            · rcases List.mem_cons.1 hy with rfl | hy
              · exact .inl (h ▸ hl)
              · exact .inr ⟨y, hy, h⟩
        · rw [h4]
          constructor
          · rintro (h | ⟨h, y, hy, h'⟩)
            · exact .inl h
            · exact .inr ⟨h, y, by simp [hy], h'⟩
          · rintro (h | ⟨h, y, hy, h'⟩)
            · exact .inl h
            · rcases List.mem_cons.1 hy with rfl | hy
              · rw [h'] at hl; rw [h] at hl; cases hl
              · exact .inr ⟨h, y, hy, h'⟩
      · have hl' : lkB st.1 (dend N es e) = false := by simpa using hl
        rw [if_neg hl] at h
        have hbe' : dend N es e < st.1.length := by rw [hM]; exact hbe
        obtain ⟨h1, h2, h3, h4⟩ := shE_some (st := (st.1.set (dend N es e) true, st.2 ++ [dend N es e])) (by simpa using hM) (fun x hx => hb x (by simp [hx])) h
        have hset : ∀ x, lkB (st.1.set (dend N es e) true) x = true ↔ lkB st.1 x = true ∨ dend N es e = x := fun x => by
          rw [lkB_set hbe']
          by_cases e' : dend N es e = x
          · simp [e']
          · simp [e']
        refine ⟨h1, fun x hx => ?_, fun x => ?_, fun x => ?_⟩
        · rcases List.mem_cons.1 hx with rfl | hx
          · exact he
          · exact h2 x hx
        · rw [h3, hset]
          constructor
          · rintro ((k | k) | ⟨y, hy, k⟩)
            · exact .inl k
            · exact .inr ⟨e, by simp, k⟩
            · exact .inr ⟨y, by simp [hy], k⟩
          · rintro (k | ⟨y, hy, k⟩)
            · exact .inl (.inl k)
            · rcases List.mem_cons.1 hy with rfl | hy
              · exact .inl (.inr k)
              · exact .inr ⟨y, hy, k⟩
        · rw [h4]
          show (x ∈ st.2 ++ [dend N es e] ∨ (lkB (st.1.set (dend N es e) true) x = false ∧ _)) ↔ _
          have hs2 := hset x
          constructor
          · rintro (h | ⟨h, y, hy, h'⟩)
            · rcases List.mem_append.1 h with h | h
              · exact .inl h
              · obtain rfl := List.mem_singleton.1 h
                exact .inr ⟨hl', e, by simp, rfl⟩
            · refine .inr ⟨?_, y, by simp [hy], h'⟩
              rw [Bool.eq_false_iff]; intro hc
              rw [hs2.2 (.inl hc)] at h; cases h
          · rintro (h | ⟨h, y, hy, h'⟩)
            · exact .inl (List.mem_append_left _ h)
            · by_cases e' : dend N es e = x
              · exact .inl (List.mem_append_right _ (by simp [e']))
              · rcases List.mem_cons.1 hy with rfl | hy
                · exact absurd h' e'
                · refine .inr ⟨?_, y, hy, h'⟩
                  rw [Bool.eq_false_iff]; intro hc
                  rcases hs2.1 hc with hc | hc
                  · rw [h] at hc; cases hc
                  · exact e' hc
structure LvI (N : Nat) (es : List Ed) (s n : Nat) (st : List Bool × List Nat) : Prop where
  len : st.1.length = N * N
  seen : ∀ x, lkB st.1 x = true ↔ ∃ i, 1 ≤ i ∧ i < n ∧ dre N es s i x
  lev : ∀ x, x ∈ st.2 ↔ dre N es s (n - 1) x ∧ ∀ i, 1 ≤ i → i < n - 1 → ¬ dre N es s i x
  no : ∀ i, 1 ≤ i → i < n → ¬ dre N es s i s
theorem LvI.start {es : List Ed} {s : Nat} : LvI N es s 1 (List.replicate (N * N) false, [s]) := by
  refine ⟨by simp, fun x => ?_, fun x => ?_, fun i h1 h2 => by omega⟩
  · constructor
    · intro h
      have h : lkB (List.replicate (N * N) false) x = true := h
      rw [lkB_rep] at h; cases h
    · rintro ⟨i, h1, h2, _⟩; omega
  · show x ∈ [s] ↔ dre N es s 0 x ∧ _
    rw [List.mem_singleton, dre_zero]
    constructor
    · rintro rfl; exact ⟨rfl, fun i h1 h2 => by omega⟩
    · rintro ⟨h, _⟩; exact h.symm
theorem least_nat {P : Nat → Prop} {n : Nat} (h : P n) : ∃ m, m ≤ n ∧ P m ∧ ∀ k, k < m → ¬ P k := by
  induction n using Nat.strongRecOn with
  | _ n ih =>
    by_cases e : ∃ k, k < n ∧ P k
    · obtain ⟨k, hk, hp⟩ := e
      obtain ⟨m, h1, h2, h3⟩ := ih k hk hp
      exact ⟨m, by omega, h2, h3⟩
    · exact ⟨n, Nat.le_refl _, h, fun k hk hp => e ⟨k, hk, hp⟩⟩
theorem dre_split {es : List Ed} {s : Nat} {c : List (Nat × Nat)} {q : Nat} (h : dpt N es s c q) {m : Nat} (hm : m ≤ c.length) : ∃ v, dre N es s m v ∧ dre N es v (c.length - m) q := by
  rw [← List.take_append_drop m c] at h
  obtain ⟨v, h1, h2⟩ := dpt_app.1 h
  exact ⟨v, ⟨_, by simp; omega, h1⟩, ⟨_, by simp, h2⟩⟩
theorem dre_trans {es : List Ed} {s v q i j : Nat} (h : dre N es s i v) (k : dre N es v j q) : dre N es s (i + j) q := by
  obtain ⟨a, ha, h⟩ := h
  obtain ⟨b, hb, k⟩ := k
  exact ⟨a ++ b, by simp [ha, hb], dpt_app.2 ⟨v, h, k⟩⟩
theorem shN_ok (hv : Vg G) (hN : G.n = N) {s lim : Nat} : ∀ (f n : Nat) (st : List Bool × List Nat), 1 ≤ n → lim ≤ f + n → LvI N G.es s n st →
    (shN N G.es s lim f n st < lim → dre N G.es s (shN N G.es s lim f n st) s ∧ 1 ≤ shN N G.es s lim f n st) ∧ ∀ j, 1 ≤ j → dre N G.es s j s → shN N G.es s lim f n st ≤ j
  | 0, n, st, hn, hf, hI => by
    show (lim < lim → _) ∧ _
    refine ⟨fun h => by omega, fun j hj h => ?_⟩
    show lim ≤ j
    rcases Nat.lt_or_ge j n with e | e
    · exact absurd h (hI.no j hj e)
    · omega
  | f + 1, n, st, hn, hf, hI => by
    by_cases hc : n < lim ∧ st.2 ≠ []
    · have hb : ∀ e ∈ st.2.flatMap (dnx N G.es), dend N G.es e < N * N := fun e he => by
        obtain ⟨p, _, h⟩ := List.mem_flatMap.1 he
        exact dend_in hv hN (mem_dnx_iff.1 h).1
      cases hm : shE N G.es s (st.2.flatMap (dnx N G.es)) (st.1, []) with
      | none =>
        rw [shN_met (f := f + 1) (by omega) hc.1 hc.2 hm]
        refine ⟨fun _ => ⟨?_, hn⟩, fun j hj h => ?_⟩
        · obtain ⟨e, he, h⟩ := shE_none hm
          obtain ⟨p, hp, he⟩ := List.mem_flatMap.1 he
          have := dre_succ.2 ⟨p, ((hI.lev p).1 hp).1, e, he, h⟩
          rwa [show n - 1 + 1 = n by omega] at this
        · rcases Nat.lt_or_ge j n with e | e
          · exact absurd h (hI.no j hj e)
          · exact e
      | some st' =>
        rw [shN_step (f := f + 1) (by omega) hc.1 hc.2 hm]
        obtain ⟨h1, h2, h3, h4⟩ := shE_some (st := (st.1, [])) hI.len hb hm
        have hnew : ∀ x, (∃ e ∈ st.2.flatMap (dnx N G.es), dend N G.es e = x) → dre N G.es s n x := by
          rintro x ⟨e, he, h⟩
          obtain ⟨p, hp, he⟩ := List.mem_flatMap.1 he
          have := dre_succ.2 ⟨p, ((hI.lev p).1 hp).1, e, he, h⟩
          rwa [show n - 1 + 1 = n by omega] at this
        have hold : ∀ x, dre N G.es s n x → (∃ i, 1 ≤ i ∧ i < n ∧ dre N G.es s i x) ∨ ∃ e ∈ st.2.flatMap (dnx N G.es), dend N G.es e = x := by
          intro x hx
          rw [show n = n - 1 + 1 by omega] at hx
          obtain ⟨y, hy, e, he, h⟩ := dre_succ.1 hx
          by_cases hl : y ∈ st.2
          · exact .inr ⟨e, List.mem_flatMap.2 ⟨y, hl, he⟩, h⟩
          · have : ¬ ∀ i, 1 ≤ i → i < n - 1 → ¬ dre N G.es s i y := fun h => hl ((hI.lev y).2 ⟨hy, h⟩)
            obtain ⟨i, hi⟩ := Classical.not_forall.1 this
            have hi1 : 1 ≤ i := Classical.byContradiction fun e => hi (fun k => absurd k e)
            have hi2 : i < n - 1 := Classical.byContradiction fun e => hi (fun _ k => absurd k e)
            have hi3 : dre N G.es s i y := Classical.byContradiction fun e => hi (fun _ _ => e)
            exact .inl ⟨i + 1, by omega, by omega, dre_succ.2 ⟨y, hi3, e, he, h⟩⟩
        refine shN_ok hv hN f (n + 1) st' (by omega) (by omega) ⟨h1, fun x => ?_, fun x => ?_, fun i hi hin h => ?_⟩
        · rw [h3]
          show lkB st.1 x = true ∨ _ ↔ _
          rw [hI.seen]
          constructor
          · rintro (⟨i, a, b, c⟩ | h)
            · exact ⟨i, a, by omega, c⟩
            · exact ⟨n, hn, by omega, hnew x h⟩
          · rintro ⟨i, a, b, c⟩
            by_cases e : i = n
            · subst e; exact hold x c
            · exact .inl ⟨i, a, by omega, c⟩
        · rw [h4]
          show x ∈ ([] : List Nat) ∨ (lkB st.1 x = false ∧ _) ↔ _
          rw [Nat.add_sub_cancel]
          constructor
          · rintro (h | ⟨h, k⟩)
            · cases h
            · refine ⟨hnew x k, fun i a b c => ?_⟩
              rw [(hI.seen x).2 ⟨i, a, b, c⟩] at h; cases h
          · rintro ⟨h, k⟩
            refine .inr ⟨?_, ?_⟩
            · rw [Bool.eq_false_iff]; intro hc
              obtain ⟨i, a, b, c⟩ := (hI.seen x).1 hc
              exact k i a b c
            · rcases hold x h with ⟨i, a, b, c⟩ | h
              · exact absurd c (k i a b)
              · exact h
        · by_cases e : i = n
          · subst e
            rcases hold s h with ⟨j, a, b, c⟩ | ⟨x, hx, e⟩
            · exact hI.no j a b c
            · exact h2 x hx e
          · exact hI.no i hi (by omega) h
    · rw [shN_stop hc]
      refine ⟨fun h => by omega, fun j hj h => ?_⟩
      rcases Nat.lt_or_ge n lim with hlt | hge
      · have he : st.2 = [] := Classical.byContradiction fun e => hc ⟨hlt, e⟩
        obtain ⟨m, hm, ⟨hm1, c, hcl, hcp⟩, hmin⟩ := least_nat (P := fun k => 1 ≤ k ∧ dre N G.es s k s) ⟨hj, h⟩
        have hmn : n ≤ m := Nat.le_of_not_lt fun e => hI.no m hm1 e ⟨c, hcl, hcp⟩
        obtain ⟨v, v1, v2⟩ := dre_split hcp (m := n - 1) (by omega)
        have : v ∈ st.2 := (hI.lev v).2 ⟨v1, fun i a b k => hmin (i + (c.length - (n - 1))) (by omega) ⟨by omega, dre_trans k v2⟩⟩
        rw [he] at this; cases this
      · rcases Nat.lt_or_ge j n with e | e
        · exact absurd h (hI.no j hj e)
        · omega
theorem shA_ok (hv : Vg G) (hN : G.n = N) {s lim : Nat} :
    (shA N G.es s lim < lim → dre N G.es s (shA N G.es s lim) s ∧ 1 ≤ shA N G.es s lim) ∧ ∀ j, 1 ≤ j → dre N G.es s j s → shA N G.es s lim ≤ j :=
  shN_ok hv hN lim 1 _ (Nat.le_refl _) (by omega) LvI.start
theorem minS_ok (hv : Vg G) (hN : G.n = N) {L : Nat} : ∀ m, (minS N G.es m L < L → ∃ s, s < m ∧ dre N G.es s (minS N G.es m L) s ∧ 1 ≤ minS N G.es m L) ∧ ∀ s, s < m → ∀ j, 1 ≤ j → dre N G.es s j s → minS N G.es m L ≤ j
  | 0 => ⟨fun h => by have : minS N G.es 0 L = L := rfl; omega, fun s hs => by omega⟩
  | m + 1 => by
    obtain ⟨h1, h2⟩ := minS_ok hv hN (L := L) m
    obtain ⟨k1, k2⟩ := shA_ok hv hN (s := m) (lim := minS N G.es m L)
    have e : minS N G.es (m + 1) L = shA N G.es m (minS N G.es m L) := rfl
    have hle := shA_le N G.es m (minS N G.es m L)
    rw [e]
    refine ⟨fun h => ?_, fun s hs j hj h => ?_⟩
    · rcases Nat.lt_or_ge (shA N G.es m (minS N G.es m L)) (minS N G.es m L) with hlt | hge
      · exact ⟨m, by omega, k1 hlt⟩
      · have he : shA N G.es m (minS N G.es m L) = minS N G.es m L := by omega
        rw [he] at h ⊢
        obtain ⟨s, hs, h⟩ := h1 h
        exact ⟨s, by omega, h⟩
    · by_cases e' : s = m
      · subst e'; exact k2 j hj h
      · exact Nat.le_trans hle (h2 s (by omega) j hj h)
theorem bstW_some {es : List Ed} {n : Nat} : ∀ (m : Nat) {x : List (Nat × Nat)}, bstW N es n m = some x → ∃ s, s < m ∧ cycA N es s n = some x
  | 0, _, h => by cases h
  | m + 1, x, h => by
    rw [bstW] at h
    cases hc : cycA N es m n with
    | none =>
      rw [hc] at h
      obtain ⟨s, hs, h⟩ := bstW_some m h
      exact ⟨s, by omega, h⟩
    | some y =>
      rw [hc] at h
      have h : betW y (bstW N es n m) = x := Option.some.inj h
      cases hb : bstW N es n m with
      | none => rw [hb] at h; cases h; exact ⟨m, by omega, hc⟩
      | some g =>
        rw [hb] at h
        obtain ⟨s, hs, hg⟩ := bstW_some m hb
        simp only [betW] at h
        split at h
        · cases h; exact ⟨m, by omega, hc⟩
        · split at h
          · split at h
            · cases h; exact ⟨m, by omega, hc⟩
            · cases h; exact ⟨s, by omega, hg⟩
          · cases h; exact ⟨s, by omega, hg⟩
theorem bstW_none {es : List Ed} {n : Nat} : ∀ (m : Nat), bstW N es n m = none → ∀ s, s < m → cycA N es s n = none
  | 0, _, s, hs => by omega
  | m + 1, h, s, hs => by
    rw [bstW] at h
    cases hc : cycA N es m n with
    | none =>
      rw [hc] at h
      by_cases e : s = m
      · subst e; exact hc
      · exact bstW_none m h s (by omega)
    | some y => rw [hc] at h; cases h
theorem nd_le3 : ∀ {l m : List Nat}, l.Nodup → (∀ x ∈ l, x ∈ m) → l.length ≤ m.length
  | [], _, _, _ => Nat.zero_le _
  | x :: l, m, hn, hs => by
    rw [List.nodup_cons] at hn
    have hx : x ∈ m := hs x (by simp)
    have h := nd_le3 (l := l) (m := m.erase x) hn.2 (fun y hy => (List.mem_erase_of_ne (fun e => hn.1 (by rw [← e]; exact hy))).2 (hs y (by simp [hy])))
    have h2 := List.length_erase_of_mem hx
    have h3 := List.length_pos_of_mem hx
    rw [List.length_cons]; omega
def dnodes (N : Nat) (es : List Ed) (p : Nat) (c : List (Nat × Nat)) : List Nat := p :: c.map (dend N es)
theorem dpt_node {es : List Ed} : ∀ {c : List (Nat × Nat)} {p q r : Nat}, dpt N es p c q → r ∈ dnodes N es p c → ∃ i, i ≤ c.length ∧ dre N es p i r
  | [], p, q, r, _, hr => by
    obtain rfl := List.mem_singleton.1 hr
    exact ⟨0, Nat.le_refl _, dre_zero.2 rfl⟩
  | e :: c, p, q, r, h, hr => by
    rcases List.mem_cons.1 hr with rfl | hr
    · exact ⟨0, Nat.zero_le _, dre_zero.2 rfl⟩
    · obtain ⟨i, hi, a, ha, hp⟩ := dpt_node h.2 (show r ∈ dnodes N es (dend N es e) c from hr)
      exact ⟨i + 1, by simp; omega, e :: a, by simp [ha], h.1, hp⟩
theorem dpt_nodup {es : List Ed} : ∀ {c : List (Nat × Nat)} {p q : Nat}, dpt N es p c q → (dnodes N es p c).Nodup ∨ ∃ s ∈ dnodes N es p c, ∃ i, 1 ≤ i ∧ i ≤ c.length ∧ dre N es s i s
  | [], p, q, _ => .inl (by simp [dnodes])
  | e :: c, p, q, h => by
    have hcons : dnodes N es p (e :: c) = p :: dnodes N es (dend N es e) c := rfl
    rw [hcons]
    rcases dpt_nodup h.2 with hn | ⟨s, hs, i, h1, h2, h3⟩
    · by_cases hp : p ∈ dnodes N es (dend N es e) c
      · obtain ⟨i, hi, a, ha, hk⟩ := dpt_node h.2 hp
        exact .inr ⟨p, by simp, i + 1, by omega, by simp; omega, e :: a, by simp [ha], h.1, hk⟩
      · exact .inl (List.nodup_cons.2 ⟨hp, hn⟩)
    · exact .inr ⟨s, by simp [hs], i, h1, by simp; omega, h3⟩
theorem nodes_lt (hv : Vg G) (hN : G.n = N) {c : List (Nat × Nat)} {p q : Nat} (hp : p < N * N) (h : dpt N G.es p c q) : ∀ x ∈ dnodes N G.es p c, x < N * N := fun x hx => by
  obtain ⟨i, _, a, _, h⟩ := dpt_node h hx
  exact dpt_lt hv hN hp h
theorem long_closed (hv : Vg G) (hN : G.n = N) {c : List (Nat × Nat)} {p q : Nat} (hp : p < N * N) (hc : c.length = N * N) (h : dpt N G.es p c q) : ∃ s, s < N * N ∧ ∃ i, 1 ≤ i ∧ i ≤ N * N ∧ dre N G.es s i s := by
  rcases dpt_nodup h with hn | ⟨s, hs, i, h1, h2, h3⟩
  · have := nd_le3 (m := List.range (N * N)) hn (fun x hx => List.mem_range.2 (nodes_lt hv hN hp h x hx))
    simp only [dnodes, List.length_cons, List.length_map, hc, List.length_range] at this
    omega
  · exact ⟨s, nodes_lt hv hN hp h s hs, i, h1, by omega, h3⟩
theorem open_path (hv : Vg G) (hu : Uq G.es) (hN : G.n = N) : ∀ (k : Nat) {s t : Int}, 0 ≤ s → s < N → 0 ≤ t → t < N → s ≠ t → lkB (itF (aftF N G.es) k (allF2 N)) (pix N s t) = true →
    ∃ p, p < N * N ∧ dre N G.es p k (pix N s t)
  | 0, s, t, h0, h1, h2, h3, _, _ => ⟨_, pix_lt h0 h1 h2 h3, dre_zero.2 rfl⟩
  | k + 1, s, t, h0, h1, h2, h3, hne, h => by
    rw [itF_succ, aft_at hv hN h0 h1 h2 h3] at h
    obtain ⟨x, hx, y, hy, hl, hF, rfl, rfl⟩ := h
    have k1 := hv.ins _ hx; have k2 := hv.ins _ hy
    obtain ⟨i, hi, rfl⟩ := List.mem_iff_getElem.1 hx
    obtain ⟨j, hj, rfl⟩ := List.mem_iff_getElem.1 hy
    have hf : G.es[i].f ≠ G.es[j].f := fun e => by
      rcases Nat.lt_trichotomy i j with h | h | h
      · exact List.pairwise_iff_getElem.1 hu _ _ hi hj h ⟨e, hl⟩
      · subst h; exact hne rfl
      · exact List.pairwise_iff_getElem.1 hu _ _ hj hi h ⟨e.symm, hl.symm⟩
    obtain ⟨p, hp, hd⟩ := open_path hv hu hN k (by omega) (by omega) (by omega) (by omega) hf hF
    refine ⟨p, hp, dre_succ.2 ⟨_, hd, (i, j), ?_, ?_⟩⟩
    · rw [mem_dnx_iff, dif2_iff]
      refine ⟨mem_prs.2 ⟨hi, hj, by rw [eget_eq _ _ hi, eget_eq _ _ hj]; exact hl⟩, ⟨by rw [eget_eq _ _ hi, eget_eq _ _ hj]; exact hf, by rw [eget_eq _ _ hi, eget_eq _ _ hj]; exact hne⟩, ?_⟩
      simp only [dbeg, eget_eq _ _ hi, eget_eq _ _ hj]
    · simp only [dend, eget_eq _ _ hi, eget_eq _ _ hj]
theorem closed_open (hv : Vg G) (hN : G.n = N) : ∀ (k : Nat) {r j : Nat}, r < N * N → 1 ≤ j → dre N G.es r j r → lkB (itF (aftF N G.es) k (allF2 N)) r = true
  | 0, r, j, hr, _, _ => by show lkB (allF2 N) r = true; simp [lkB, allF2, hr]
  | k + 1, r, j, hr, hj, h => by
    obtain ⟨j', rfl⟩ : ∃ j', j = j' + 1 := ⟨j - 1, by omega⟩
    obtain ⟨y, ⟨c, hc, hy⟩, e, he, hd⟩ := dre_succ.1 h
    have hm := mem_dnx_iff.1 he
    obtain ⟨q1, q2, q3⟩ := mem_prs.1 hm.1
    have k1 := hv.ins _ (Gr.at_ q1); have k2 := hv.ins _ (Gr.at_ q2)
    have hyl : y < N * N := by rw [← hm.2.2]; exact dbeg_lt hv hN hm.1
    have hcy : dre N G.es y (j' + 1) y := ⟨e :: c, by simp [hc], he, by rw [hd]; exact hy⟩
    have ih := closed_open hv hN k hyl (by omega) hcy
    rw [← hm.2.2] at ih
    rw [← hd]
    unfold dend
    rw [itF_succ, aft_at hv hN (by omega) (by omega) (by omega) (by omega)]
    exact ⟨_, Gr.at_ q1, _, Gr.at_ q2, q3, ih, rfl, rfl⟩
theorem mem_closed (hc : chkG G = 0) (hd : detB G.es = true) (hN : G.n.toNat = N) : (memA G).2.1 = false ↔ ∃ s, s < N * N ∧ ∃ i, 1 ≤ i ∧ i ≤ N * N ∧ dre N G.es s i s := by
  have hv := chkG_ok.1 hc
  have hn : G.n = (N : Int) := by have := hv.n1; omega
  constructor
  · intro h
    rcases mem_ok hc hN with ⟨k, _, h2, _⟩ | ⟨_, h2⟩
    · rw [h2] at h; cases h
    · have h3 := h2 (N * N)
      unfold difB at h3
      rw [List.any_eq_true] at h3
      obtain ⟨s, hs, h3⟩ := h3
      rw [List.any_eq_true] at h3
      obtain ⟨t, ht, h3⟩ := h3
      simp only [Bool.and_eq_true, decide_eq_true_eq] at h3
      have hs := List.mem_range.1 hs
      have ht := List.mem_range.1 ht
      obtain ⟨p, hp, c, hc, hdp⟩ := open_path hv (uq_det hv hd) hn (N * N) (by omega) (by omega) (by omega) (by omega) (by omega) h3.2
      exact long_closed hv hn hp hc hdp
  · rintro ⟨s, hs, i, hi, _, h⟩
    rcases mem_ok hc hN with ⟨k, _, _, h3, _⟩ | ⟨h2, _⟩
    · exfalso
      have h4 := closed_open hv hn k hs hi h
      obtain ⟨i', rfl⟩ : ∃ i', i = i' + 1 := ⟨i - 1, by omega⟩
      obtain ⟨y, _, e, he, hde⟩ := dre_succ.1 h
      have hm := mem_dnx_iff.1 he
      obtain ⟨q1, q2, q3⟩ := mem_prs.1 hm.1
      have k1 := hv.ins _ (Gr.at_ q1); have k2 := hv.ins _ (Gr.at_ q2)
      have hne := (dif2_iff.1 hm.2.1).2
      have : difB N (itF (aftF N G.es) k (allF2 N)) = true := by
        unfold difB
        rw [List.any_eq_true]
        refine ⟨(eget G.es e.1).t.toNat, List.mem_range.2 (by omega), ?_⟩
        rw [List.any_eq_true]
        refine ⟨(eget G.es e.2).t.toNat, List.mem_range.2 (by omega), ?_⟩
        simp only [Bool.and_eq_true, decide_eq_true_eq]
        refine ⟨by omega, ?_⟩
        rw [Int.toNat_of_nonneg (by omega), Int.toNat_of_nonneg (by omega)]
        rw [← hde] at h4
        exact h4
      rw [this] at h3; cases h3
    · rw [h2]
theorem wit_ok (hc : chkG G = 0) (hd : detB G.es = true) (hN : G.n.toNat = N) :
    ((memA G).2.1 = true ∧ witA G = ([], false, 0)) ∨
    ((memA G).2.1 = false ∧ ∃ c s, witA G = (c, true, 0) ∧ 1 ≤ c.length ∧ c.length ≤ N * N ∧ dpt N G.es s c s) := by
  have hv := chkG_ok.1 hc
  have hn : G.n = (N : Int) := by have := hv.n1; omega
  have hm := mem_closed hc hd hN
  obtain ⟨h1, h2⟩ := minS_ok hv hn (L := N * N + 1) (N * N)
  have hle := minS_le N G.es (N * N + 1) (N * N)
  have hw : witA G = if minS N G.es (N * N) (N * N + 1) = N * N + 1 then ([], false, 0) else ((bstW N G.es (minS N G.es (N * N) (N * N + 1)) (N * N)).getD [], true, 0) := by
    unfold witA
    rw [if_neg (by simpa using hc), detA_ok hc, if_neg (by simpa using hd), hN]
  rw [hw]
  by_cases e : minS N G.es (N * N) (N * N + 1) = N * N + 1
  · refine .inl ⟨?_, if_pos e⟩
    rw [← Bool.not_eq_false]
    intro h
    obtain ⟨s, hs, i, i1, i2, h⟩ := hm.1 h
    have := h2 s hs i i1 h
    omega
  · obtain ⟨s, hs, ⟨c, hcl, hcp⟩, h4⟩ := h1 (by omega)
    refine .inr ⟨hm.2 ⟨s, hs, _, h4, by omega, ⟨c, hcl, hcp⟩⟩, ?_⟩
    rw [if_neg e]
    cases hb : bstW N G.es (minS N G.es (N * N) (N * N + 1)) (N * N) with
    | none =>
      obtain ⟨c', hc'⟩ := cycA_ne hv hn hs hcl hcp
      rw [bstW_none _ hb s hs] at hc'; cases hc'
    | some x =>
      obtain ⟨r, hr, hx⟩ := bstW_some _ hb
      obtain ⟨x1, x2⟩ := cycA_some hr hx
      exact ⟨x, r, rfl, by omega, by omega, x2⟩
theorem dpt_link {es : List Ed} {s : Nat} {c : List (Nat × Nat)} (h : dpt N es s c s) {i : Nat} (hi : i < c.length) : c[i] ∈ prs es ∧ dif2 es c[i] = true ∧ dend N es c[i] = dbeg N es (c[(i + 1) % c.length]'(Nat.mod_lt _ (by omega))) := by
  have hstep : ∀ {c : List (Nat × Nat)} {p q : Nat}, dpt N es p c q → ∀ i (hi : i < c.length), c[i] ∈ prs es ∧ dif2 es c[i] = true ∧ (∀ h0 : i = 0, dbeg N es c[i] = p) ∧ (∀ h1 : i + 1 < c.length, dend N es c[i] = dbeg N es c[i + 1]) ∧ (i + 1 = c.length → dend N es c[i] = q) := by
    intro c
    induction c with
    | nil => intro p q _ i hi; simp at hi
    | cons e c ih =>
      intro p q h i hi
      have hm := mem_dnx_iff.1 h.1
      cases i with
      | zero =>
        refine ⟨hm.1, hm.2.1, fun _ => hm.2.2, fun h1 => ?_, fun h1 => ?_⟩
        · have := (ih h.2 0 (by simpa using h1)).2.2.1 rfl
          simpa using this.symm
        · have : c = [] := List.eq_nil_of_length_eq_zero (by simpa using h1.symm)
          subst this
          exact h.2
      | succ i =>
        obtain ⟨a, b, _, d, f⟩ := ih h.2 i (by simpa using hi)
        refine ⟨by simpa using a, by simpa using b, fun h0 => by omega, fun h1 => ?_, fun h1 => ?_⟩
        · have := d (by simpa using h1); simpa using this
        · have := f (by simpa using h1); simpa using this
  obtain ⟨a, b, _, d, f⟩ := hstep h i hi
  refine ⟨a, b, ?_⟩
  by_cases e : i + 1 < c.length
  · simp only [Nat.mod_eq_of_lt e]; exact d e
  · have e' : i + 1 = c.length := by omega
    have h0 := (hstep h 0 (by omega)).2.2.1 rfl
    simp only [e', Nat.mod_self]
    rw [h0, f e']
end
end Go.Proofs.YtocbhlohcikapaaGreatDoor
namespace Go.Proofs.YtocbhlohcikapaaGreatDoor
open Go.RowKit Go.Sort Go.Shelf Go.Lib
theorem fstI_len (c : List (Nat × Nat)) : (fstI c).length = c.length := by simp [fstI]
theorem sndI_len (c : List (Nat × Nat)) : (sndI c).length = c.length := by simp [sndI]
theorem fstI_at {c : List (Nat × Nat)} {i : Nat} (h : i < c.length) : (fstI c)[i]'(by rw [fstI_len]; exact h) = ((c[i].1 : Nat) : Int) := by simp [fstI]
theorem sndI_at {c : List (Nat × Nat)} {i : Nat} (h : i < c.length) : (sndI c)[i]'(by rw [sndI_len]; exact h) = ((c[i].2 : Nat) : Int) := by simp [sndI]
theorem shown_plain {G : Gr} {N : Nat} (hv : Vg G) (hN : G.n = N) {c : List (Nat × Nat)} {s : Nat} (h : dpt N G.es s c s) {i : Nat} (hi : i < c.length) (hj : (i + 1) % c.length < c.length) :
    c[i].1 < G.es.length ∧ c[i].2 < G.es.length ∧ (c[(i + 1) % c.length]'hj).1 < G.es.length ∧ (c[(i + 1) % c.length]'hj).2 < G.es.length ∧
      (eget G.es c[i].1).l = (eget G.es c[i].2).l ∧ (eget G.es c[i].1).f ≠ (eget G.es c[i].2).f ∧ (eget G.es c[i].1).t = (eget G.es (c[(i + 1) % c.length]'hj).1).f ∧ (eget G.es c[i].2).t = (eget G.es (c[(i + 1) % c.length]'hj).2).f := by
  obtain ⟨h1, h2, h3⟩ := dpt_link h hi
  obtain ⟨k1, k2, _⟩ := dpt_link h hj
  obtain ⟨q1, q2, q3⟩ := mem_prs.1 h1
  obtain ⟨r1, r2, r3⟩ := mem_prs.1 k1
  have b1 := hv.ins _ (Gr.at_ q1); have b2 := hv.ins _ (Gr.at_ q2)
  have b3 := hv.ins _ (Gr.at_ r1); have b4 := hv.ins _ (Gr.at_ r2)
  obtain ⟨e1, e2⟩ := pix_inj (by omega) (by omega) (by omega) (by omega) (by omega) (by omega) h3
  exact ⟨q1, q2, r1, r2, q3, (dif2_iff.1 h2).1, e1, e2⟩
set_option maxRecDepth 100000 in
theorem shown1_any (G : Gr) (p : Option Addr) (c B k : Nat) (hk : k < G.es.length) (w : World) (h2 : w.cell? ⟨B, 2, none⟩ = some (.slice p G.es.length c)) :
    Calls Tryz.prog 32 #[.int .i64 (k : Int), .pointer (some ⟨B, 0, none⟩)] w fun e w' => e = .returned (.bool true) ∧ w' = w := by
  have g0 : (0 : Int) ≤ (k : Int) := by omega
  have g1 : (k : Int) < (G.es.length : Int) := by omega
  go_enter Tryz.func32, Tryz.ntmps32
  go_wp2
  go_ret
  exact ⟨rfl, rfl⟩
theorem shown_top {G : Gr} (hc : chkG G = 0) : (detA G = (false, 0) ∧ witA G = ([], false, 8)) ∨
    (detA G = (true, 0) ∧ ∃ X has c, memA G = (X, has, 0) ∧ witA G = (c, !has, 0) ∧ c.length ≤ 4096 ∧ (has = true → c = []) ∧ (has = false → 0 < c.length ∧ ∃ s, dpt G.n.toNat G.es s c s)) := by
  have hv := chkG_ok.1 hc
  cases hd : detB G.es with
  | false =>
    refine .inl ⟨by rw [detA_ok hc, hd], ?_⟩
    unfold witA
    rw [if_neg (by simpa using hc), detA_ok hc, if_pos hd]
  | true =>
    refine .inr ⟨by rw [detA_ok hc, hd], ?_⟩
    obtain ⟨_, _, m2, _⟩ := mem_ok3 hc
    have h64 : G.n.toNat * G.n.toNat ≤ 64 * 64 := Nat.mul_le_mul (by have := hv.n2; omega) (by have := hv.n2; omega)
    rcases wit_ok hc hd rfl with ⟨h1, h2⟩ | ⟨h1, c, s, h2, h3, h4, h5⟩
    · exact ⟨(memA G).1, true, [], by rw [← m2, ← h1], h2, by simp, fun _ => rfl, fun h => by cases h⟩
    · exact ⟨(memA G).1, false, c, by rw [← m2, ← h1], h2, by omega, fun h => (by cases h), fun _ => ⟨by omega, s, h5⟩⟩
set_option maxRecDepth 100000 in
set_option maxHeartbeats 4000000 in
theorem lawShown_any (G : Gr) (p : Option Addr) (c : Nat) (w : World) (hin : Sg 3 w edE p G.es) (hl : G.es.length ≤ 9223372036854775807) :
    Calls Tryz.prog 5 #[(.agg #[.int .i64 G.q, .int .i64 G.n, .slice p G.es.length c])] w fun e w' => e = .returned (.bool true) ∧ RowKit.Below w.heap.size w w' := by
  obtain ⟨w0, hw0⟩ : ∃ w0, w0 = w.alloc (.cells #[.int .i64 G.q, .int .i64 G.n, .slice p G.es.length c] 24) := ⟨_, rfl⟩
  have b0 : VRow w0 w.heap.size 24 [.int .i64 G.q, .int .i64 G.n, .slice p G.es.length c] := by subst hw0; exact VRow.new w _ _
  have hB0 : RowKit.Below w.heap.size w w0 := by subst hw0; exact (RowKit.Below.refl _ _).alloc (Nat.le_refl _) _
  have HAW := hidI awake15_any
  have HFI := hidI (fine15_any G p c w0 (hin.below hB0) hl)
  have g0 := b0.at 0 rfl; have g1 := b0.at 1 rfl; have g2 := b0.at 2 rfl
  by_cases hf : finB G = true
  · obtain ⟨hc, _, _, _⟩ := fin_iff.1 hf
    have HM := hidI (fun W (hW : RowKit.Below w0.heap.size w0 W) => mmMemory_any G p c W ((hin.below hB0).below hW) hl)
    have HD := hidI (fun W (hW : RowKit.Below w0.heap.size w0 W) => gDet_any G p c W ((hin.below hB0).below hW) hl)
    have HWI := hidI (fun W (hW : RowKit.Below w0.heap.size w0 W) => mmWitness_any G p c W ((hin.below hB0).below hW) hl)
    have HIN := hidI (hin.below hB0)
    rw [hf] at HFI
    have HV := hidI (chkG_ok.1 hc)
    rcases shown_top hc with ⟨hd, hw⟩ | ⟨hd, X, has, c', hm, hw, hcl, hyes, hno⟩
    · rw [hd] at HD
      rw [hw] at HWI
      clear hf hc hin hd hw HM
      go_enter Tryz.func5, Tryz.ntmps5
      go_upto_region 1 with fail
      rw [← hw0]
      clear hw0
      go_wp2_with fail
      refine HFI.out.mono ?_
      rintro e w1 ⟨rfl, hB1⟩
      have x1 := hB1
      (clear g0 g1 g2; have c0 := b0.below x1 b0.lt; have g0 := c0.at 0 rfl; have g1 := c0.at 1 rfl; have g2 := c0.at 2 rfl; clear c0)
      go_wp2_with fail
      refine (HD.out w1 x1).mono ?_
      rintro e w2 ⟨rfl, hB2⟩
      have x2 := x1.trans (hB2.mono x1.size)
      (clear g0 g1 g2; have c0 := b0.below x2 b0.lt; have g0 := c0.at 0 rfl; have g1 := c0.at 1 rfl; have g2 := c0.at 2 rfl; clear c0)
      go_wp2_with fail
      refine (HWI.out w2 x2).mono ?_
      rintro e w3 ⟨hB3, p3, q3, ca, cb, rfl, _, _⟩
      have x3 := x2.trans (hB3.mono x2.size)
      clear g0 g1 g2
      go_wp2_with fail
      refine (HAW.out w3).mono ?_
      rintro e w4 ⟨rfl, hB4⟩
      have x4 := x3.trans (hB4.mono x3.size)
      go_wp2
      go_ret
      exact ⟨rfl, hB0.trans (x4.mono hB0.size)⟩
    · rw [hd] at HD
      rw [hm] at HM
      rw [hw] at HWI
      have HNO := hidI hno
      have HYE := hidI hyes
      clear hf hc hin hd hw hm hno hyes
      go_enter Tryz.func5, Tryz.ntmps5
      go_upto_region 1 with fail
      rw [← hw0]
      clear hw0
      go_wp2_with fail
      refine HFI.out.mono ?_
      rintro e w1 ⟨rfl, hB1⟩
      have x1 := hB1
      (clear g0 g1 g2; have c0 := b0.below x1 b0.lt; have g0 := c0.at 0 rfl; have g1 := c0.at 1 rfl; have g2 := c0.at 2 rfl; clear c0)
      go_wp2_with fail
      refine (HD.out w1 x1).mono ?_
      rintro e w2 ⟨rfl, hB2⟩
      have x2 := x1.trans (hB2.mono x1.size)
      (clear g0 g1 g2; have c0 := b0.below x2 b0.lt; have g0 := c0.at 0 rfl; have g1 := c0.at 1 rfl; have g2 := c0.at 2 rfl; clear c0)
      go_wp2_with fail
      refine (HWI.out w2 x2).mono ?_
      rintro e w3 ⟨hB3, p3, q3, ca, cb, rfl, hs3, ht3⟩
      have x3 := x2.trans (hB3.mono x2.size)
      (clear g0 g1 g2; have c0 := b0.below x3 b0.lt; have g0 := c0.at 0 rfl; have g1 := c0.at 1 rfl; have g2 := c0.at 2 rfl; clear c0)
      go_wp2_with fail
      refine (HM.out w3 x3).mono ?_
      rintro e w4 ⟨rfl, hB4⟩
      have x4 := x3.trans (hB4.mono x3.size)
      have HS := hidI (hs3.below hB4); have HT := hidI (ht3.below hB4)
      clear hs3 ht3 hB1 hB2 hB3 hB4 x1 x2 x3 HFI HD HM HWI
      (clear g0 g1 g2; have c0 := b0.below x4 b0.lt; have g0 := c0.at 0 rfl; have g1 := c0.at 1 rfl; have g2 := c0.at 2 rfl; clear c0)
      cases has
      · obtain ⟨hpos, s, hd⟩ := HNO.out rfl
        have HDP := hidI hd
        have hposI : (0 : Int) < (c'.length : Int) := by omega
        clear HNO HYE hd
        go_wp2_with fail
        obtain ⟨wo, hwo⟩ : ∃ wo : World, wo = w4 := ⟨_, rfl⟩
        go_loopw [94] (fun iv wr => ∃ i : Nat, i ≤ c'.length ∧ iv = .int .i64 i ∧ RowKit.Below w4.heap.size w4 wr) (fun iv _ => c'.length - (intOf iv).toNat)
        case atStart => exact ⟨0, Nat.zero_le _, rfl, RowKit.Below.refl _ _⟩
        case round =>
          clear hwo wo g0 g1 g2
          obtain ⟨i, hi, rfl, hB⟩ := hrel
          have xr := x4.trans (hB.mono x4.size)
          by_cases hlt : i < c'.length
          · have hltI : (i : Int) < (c'.length : Int) := by omega
            have hnx : (i + 1) % c'.length < c'.length := Nat.mod_lt _ hpos
            obtain ⟨a1, a2, a3, a4, hxl, hxf, hxt, hyt⟩ := shown_plain HV.out (by have := HV.out.n1; omega) HDP.out hlt hnx
            obtain ⟨bp, op, ep, hbp, hcp⟩ := (HS.out.below hB).get i (by rw [fstI_len]; exact hlt)
            obtain ⟨bq, oq, eq_, hbq, hcq⟩ := (HT.out.below hB).get i (by rw [sndI_len]; exact hlt)
            have s0 := hcp i (by rw [fstI_len]; exact hlt)
            have s1 := hcp ((i + 1) % c'.length) (by rw [fstI_len]; exact hnx)
            have t0 := hcq i (by rw [sndI_len]; exact hlt)
            have t1 := hcq ((i + 1) % c'.length) (by rw [sndI_len]; exact hnx)
            rw [fstI_at hlt] at s0
            rw [fstI_at hnx] at s1
            rw [sndI_at hlt] at t0
            rw [sndI_at hnx] at t1
            cases ep; cases eq_
            clear hcp hcq
            generalize c'[i].1 = a at *
            generalize c'[i].2 = b at *
            generalize (c'[(i + 1) % c'.length]'hnx).1 = a' at *
            generalize (c'[(i + 1) % c'.length]'hnx).2 = b' at *
            obtain ⟨b4, o4, e4, hb4, x0, x1, x2⟩ := (HIN.out.below xr).get3 a a1 rfl
            obtain ⟨b5, o5, e', hb5, y0, y1, y2⟩ := (HIN.out.below xr).get3 b a2 rfl
            cases e4; cases e'
            obtain ⟨_, _, e', _, u0, _, _⟩ := (HIN.out.below xr).get3 a' a3 rfl
            cases e'
            obtain ⟨_, _, e', _, v0, _, _⟩ := (HIN.out.below xr).get3 b' a4 rfl
            cases e'
            rw [eget_eq _ _ a1, eget_eq _ _ a2, eget_eq _ _ a3, eget_eq _ _ a4] at *
            rw [← hxt] at u0
            rw [← hyt] at v0
            rw [← hxl] at y1
            clear hxt hyt hxl
            generalize G.es[a] = x at *
            generalize G.es[b] = y at *
            generalize G.es[a'] = x' at *
            generalize G.es[b'] = y' at *
            have c0 := b0.below xr b0.lt
            have g2 := c0.at 2 rfl
            have hgl := c0.lt
            have HC1 := hidI (fun W (h : W.cell? ⟨w.heap.size, 2, none⟩ = some (.slice (some ⟨b4, o4, none⟩) G.es.length c)) k (hk : k < G.es.length) => shown1_any G (some ⟨b4, o4, none⟩) c w.heap.size k hk W h)
            have hm1 : IntKind.i64.wrap ((i : Int) + 1) = (i : Int) + 1 := IntWalk.i64_in _ (by omega)
            have hm2 : ((i : Int) + 1).tmod (c'.length : Int) = (((i + 1) % c'.length : Nat) : Int) := by rw [Int.tmod_eq_emod_of_nonneg (by omega)]; simp
            have hm3 : IntKind.i64.wrap (((i + 1) % c'.length : Nat) : Int) = (((i + 1) % c'.length : Nat) : Int) := IntWalk.i64_in _ (by omega)
            have hm4 : ((i : Int) + 1) % (c'.length : Int) = (((i + 1) % c'.length : Nat) : Int) := by simp
            have hne0 : ((c'.length : Int) == 0) = false := beq_eq_false_iff_ne.2 (by omega)
            generalize (i + 1) % c'.length = nx at *
            generalize c'.length = L at *
            go_wp2_with fail
            refine (HC1.out wr g2 a a1).mono ?_
            rintro e w5 ⟨rfl, hw5⟩
            replace hw5 := hw5.symm
            subst hw5
            go_wp2_with fail
            refine (HC1.out wr g2 b a2).mono ?_
            rintro e w5 ⟨rfl, hw5⟩
            replace hw5 := hw5.symm
            subst hw5
            go_wp2_with fail
            refine (HC1.out wr g2 a' a3).mono ?_
            rintro e w5 ⟨rfl, hw5⟩
            replace hw5 := hw5.symm
            subst hw5
            go_wp2_with fail
            refine (HC1.out wr g2 b' a4).mono ?_
            rintro e w5 ⟨rfl, hw5⟩
            replace hw5 := hw5.symm
            subst hw5
            go_upto_region 17 with fail
            go_cut [15, 16] from 136 to 151 (fun s15 s16 wx => ∃ b6 b7, s15 = .pointer (some ⟨b6, 0, none⟩) ∧ s16 = .pointer (some ⟨b7, 0, none⟩) ∧ VRow wx b6 44 (edV x) ∧ VRow wx b7 44 (edV ⟨y.f, x.l, y.t⟩) ∧ RowKit.Below wr.heap.size wr wx)
            case first =>
              refine region_detW (by kernel_rfl) 20 [(some 136, some (.pointer (some ⟨w.heap.size, 2, none⟩))), (some 137, some (.slice (some ⟨b4, o4, none⟩) G.es.length c)), (some 138, some (.slice (some ⟨bp, op, none⟩) L ca)), (some 139, some (.int .i64 (i : Int))), (some 140, some (.pointer (some ⟨bp, op + i, none⟩))), (some 141, some (.int .i64 (a : Int))), (some 142, some (.pointer (some ⟨b4, o4 + a * 3, none⟩))), (some 143, some (.agg #[.int .i64 x.f, .int .i64 x.l, .int .i64 x.t])),
                  (some 144, some (.pointer (some ⟨w.heap.size, 2, none⟩))), (some 145, some (.slice (some ⟨b4, o4, none⟩) G.es.length c)), (some 146, some (.slice (some ⟨bq, oq, none⟩) L cb)), (some 147, some (.int .i64 (i : Int))), (some 148, some (.pointer (some ⟨bq, oq + i, none⟩))), (some 149, some (.int .i64 (b : Int))), (some 150, some (.pointer (some ⟨b4, o4 + b * 3, none⟩))), (some 151, some (.agg #[.int .i64 y.f, .int .i64 x.l, .int .i64 y.t])),
                  (some 15, none), (some 16, none), (none, none), (none, none)]
                (fun d f W' => Kp2 wr x ⟨y.f, x.l, y.t⟩ (d 18) (d 19) (f 15) (f 16) W') (by kernel_rfl) (by kernel_rfl) (by kernel_rfl) (by kernel_rfl) ⟨below_dN (RowKit.Below.refl _ _) 1, (fun _ e => by cases e), (fun _ e => by cases e), (fun _ _ e => by cases e)⟩ ?_ ?_
              focus
                intro i' o ho a9 d f W' hS hdi hdn hnd hdep hout hold K hK
                have hil : i' < 20 := (Array.getElem?_eq_some_iff.1 ho).1
                have hcases : i' = 0 ∨ i' = 1 ∨ i' = 2 ∨ i' = 3 ∨ i' = 4 ∨ i' = 5 ∨ i' = 6 ∨ i' = 7 ∨ i' = 8 ∨ i' = 9 ∨ i' = 10 ∨ i' = 11 ∨ i' = 12 ∨ i' = 13 ∨ i' = 14 ∨ i' = 15 ∨ i' = 16 ∨ i' = 17 ∨ i' = 18 ∨ i' = 19 := by omega
                clear hil
                have u1 := hout 1 (by kernel_rfl)
                have u5 := hout 5 (by kernel_rfl)
                have u6 := hout 6 (by kernel_rfl)
                have u13 := hout 13 (by kernel_rfl)
                simp at u1 u5 u6 u13
                clear hout
                have hc2 := (hS.b.cell (p := ⟨w.heap.size, 2, none⟩) hgl).trans g2
                have X0 := (hS.b.cell (p := ⟨b4, o4 + a * 3, none⟩) hb4).trans x0
                have X1 := (hS.b.cell (p := ⟨b4, o4 + a * 3 + 1, none⟩) hb4).trans x1
                have X2 := (hS.b.cell (p := ⟨b4, o4 + a * 3 + 2, none⟩) hb4).trans x2
                have Y0 := (hS.b.cell (p := ⟨b4, o4 + b * 3, none⟩) hb4).trans y0
                have Y1 := (hS.b.cell (p := ⟨b4, o4 + b * 3 + 1, none⟩) hb4).trans y1
                have Y2 := (hS.b.cell (p := ⟨b4, o4 + b * 3 + 2, none⟩) hb4).trans y2
                have S0 := (hS.b.cell (p := ⟨bp, op + i, none⟩) hbp).trans s0
                have T0 := (hS.b.cell (p := ⟨bq, oq + i, none⟩) hbq).trans t0
                have haI : (a : Int) < (G.es.length : Int) := by omega
                have hbI : (b : Int) < (G.es.length : Int) := by omega
                clear x0 x1 x2 y0 y1 y2 u0 v0 s0 s1 t0 t1 g2 hm1 hm2 hm3 hm4 hne0
                rcases hcases with rfl | rfl | rfl | rfl | rfl | rfl | rfl | rfl | rfl | rfl | rfl | rfl | rfl | rfl | rfl | rfl | rfl | rfl | rfl | rfl
                all_goals (simp only [List.getElem?_toArray, List.getElem?_cons_succ, List.getElem?_cons_zero, Option.some.injEq] at ho; subst ho; simp [Region.binds] at hdep; (try go_split_ands))
                iterate 16
                  first
                    | (go_simp; exact hK _ _ (fun u hu => Option.some.inj hu) hS)
                    | skip
                · have h6 := (hold 16 (by kernel_rfl) _ rfl 15 rfl).1
                  have e14 := hnd 18 (by kernel_rfl)
                  have h := hS
                  rw [e14, h6] at h
                  have hfin := h.new6
                  go_simp
                  exact hK _ _ (fun u hu => by cases hu) (by
                    show Kp2 _ _ _ (d 18) (d 19) (some _) (f 16) _
                    rw [e14]; exact hfin)
                · have h7 := (hold 17 (by kernel_rfl) _ rfl 16 rfl).1
                  have e15 := hnd 19 (by kernel_rfl)
                  have h := hS
                  rw [e15, h7] at h
                  have hfin := h.new7
                  go_simp
                  exact hK _ _ (fun u hu => by cases hu) (by
                    show Kp2 _ _ _ (d 18) (d 19) (f 15) (some _) _
                    rw [e15]; exact hfin)
                · obtain ⟨v, hv, hat⟩ : ∃ v, f 15 = some v ∧ a9.tmps[15]? = some v := by assumption
                  have e14 : d 18 = false := hdi
                  have h := hS
                  rw [e14, hv] at h
                  obtain ⟨B, rfl, hbl, hzr⟩ := h.a _ rfl
                  have k0 := hzr.at 0 rfl; have k1 := hzr.at 1 rfl; have k2 := hzr.at 2 rfl
                  have z0 := hzr.frozen 0; have z1 := hzr.frozen 1; have z2 := hzr.frozen 2
                  have hfin := h.set6
                  have HV1 := hidI hv
                  clear hzr h hv
                  go_simp
                  exact hK undef _ (fun u hu => by cases hu) (by
                    show Kp2 _ _ _ true (d 19) (f 15) (f 16) _
                    rw [HV1.out]; exact hfin)
                · obtain ⟨v, hv, hat⟩ : ∃ v, f 16 = some v ∧ a9.tmps[16]? = some v := by assumption
                  have e15 : d 19 = false := hdi
                  have h := hS
                  rw [e15, hv] at h
                  obtain ⟨B, rfl, hbl, hzr⟩ := h.c _ rfl
                  have k0 := hzr.at 0 rfl; have k1 := hzr.at 1 rfl; have k2 := hzr.at 2 rfl
                  have z0 := hzr.frozen 0; have z1 := hzr.frozen 1; have z2 := hzr.frozen 2
                  have hfin := h.set7
                  have HV1 := hidI hv
                  clear hzr h hv
                  go_simp
                  exact hK undef _ (fun u hu => by cases hu) (by
                    show Kp2 _ _ _ (d 18) true (f 15) (f 16) _
                    rw [HV1.out]; exact hfin)
              intro d f W2 hS hall hf
              have e14 : d 18 = true := hall 18 (by decide)
              have e15 : d 19 = true := hall 19 (by decide)
              obtain ⟨v6, hv6, -⟩ := hf (some 15, none) (by simp) 15 rfl
              obtain ⟨v7, hv7, -⟩ := hf (some 16, none) (by simp) 16 rfl
              obtain ⟨b6, rfl, hb6, r6⟩ := hS.a _ hv6
              obtain ⟨b7, rfl, hb7, r7⟩ := hS.c _ hv7
              rw [e14, if_pos rfl] at r6
              rw [e15, if_pos rfl] at r7
              have hBS := hS.b
              simp only [putsD, List.filterMap_cons, List.filterMap_nil, Option.map_some, Option.map_none, Option.getD_some, Option.getD_none, List.foldl_cons, List.foldl_nil, Act.put, List.setIfInBounds_toArray, List.set_cons_zero, List.set_cons_succ]
              rw [hv6, hv7]
              simp only [Option.getD_some]
              clear hf hv6 hv7 hS hall e14 e15 x0 x1 x2 y0 y1 y2 u0 v0 s0 s1 t0 t1 g2
              go_wp2_with fail
              go_meet
              exact ⟨b6, b7, rfl, rfl, r6, r7, hBS⟩
            case rest =>
              obtain ⟨b6, b7, rfl, rfl, r6, r7, hBS⟩ := hcut
              have hBw := hB.trans (hBS.mono hB.size)
              have G2 := (hBS.cell (p := ⟨w.heap.size, 2, none⟩) hgl).trans g2
              have U0 := (hBS.cell (p := ⟨b4, o4 + a' * 3, none⟩) hb4).trans u0
              have V0 := (hBS.cell (p := ⟨b4, o4 + b' * 3, none⟩) hb4).trans v0
              have S1 := (hBS.cell (p := ⟨bp, op + nx, none⟩) hbp).trans s1
              have T1 := (hBS.cell (p := ⟨bq, oq + nx, none⟩) hbq).trans t1
              have X0 := r6.at 0 rfl; have X1 := r6.at 1 rfl; have X2 := r6.at 2 rfl
              have Y0 := r7.at 0 rfl; have Y1 := r7.at 1 rfl; have Y2 := r7.at 2 rfl
              have haI : (a' : Int) < (G.es.length : Int) := by omega
              have hbI : (b' : Int) < (G.es.length : Int) := by omega
              have hnI : (nx : Int) < (L : Int) := by omega
              have n1 : (x.l != x.l) = false := by simp
              have n2 : (x.f == y.f) = false := by simpa using hxf
              have n3 : (x.t != x.t) = false := by simp
              have n4 : (y.t != y.t) = false := by simp
              clear x0 x1 x2 y0 y1 y2 u0 v0 s0 s1 t0 t1 g2 hm1 hm2 hm3 hm4 hne0 r6 r7 HC1 hxf
              go_upto_region 18 with fail
              (refine wp_region_quiet_lit (by kernel_rfl) (by kernel_rfl) ?_; (repeat (first | go_big_quiet_step (fail) | quiet_step (fail))); refine wpQuiet_nil ?_; intro _ hwq; obtain ⟨nq, hwq2⟩ := hwq; subst hwq2)
              go_wp2
              go_roundw
              case rel => exact ⟨i + 1, by omega, by go_num, below_dN hBw _⟩
              case measure => simp [intOf]; omega
          · obtain rfl : i = c'.length := by omega
            have hltI : ¬ (c'.length : Int) < (c'.length : Int) := by omega
            go_wp2_with fail
            refine (HAW.out wr).mono ?_
            rintro e w5 ⟨rfl, hB5⟩
            have x5 := xr.trans (hB5.mono xr.size)
            go_wp2
            go_ret
            exact ⟨rfl, hB0.trans (x5.mono hB0.size)⟩
      · have hc0 := HYE.out rfl
        subst hc0
        clear HNO HYE
        go_wp2_with fail
        go_loopw [94] (fun iv wr => iv = .int .i64 0 ∧ RowKit.Below w4.heap.size w4 wr) (fun _ _ => 0)
        case atStart => exact ⟨rfl, RowKit.Below.refl _ _⟩
        case round =>
          obtain ⟨rfl, hB⟩ := hrel
          have xr := x4.trans (hB.mono x4.size)
          clear g0 g1 g2
          go_wp2_with fail
          refine (HAW.out wr).mono ?_
          rintro e w5 ⟨rfl, hB5⟩
          have x5 := xr.trans (hB5.mono xr.size)
          go_wp2
          go_ret
          exact ⟨rfl, hB0.trans (x5.mono hB0.size)⟩
  · have hf' : finB G = false := by simpa using hf
    rw [hf'] at HFI
    clear hf hf' hin
    go_enter Tryz.func5, Tryz.ntmps5
    go_upto_region 1 with fail
    rw [← hw0]
    clear hw0
    go_wp2_with fail
    refine HFI.out.mono ?_
    rintro e w1 ⟨rfl, hB1⟩
    have x1 := hB0.trans (hB1.mono hB0.size)
    go_wp2_with fail
    refine (HAW.out w1).mono ?_
    rintro e w2 ⟨rfl, hB2⟩
    go_wp2
    go_ret
    exact ⟨rfl, x1.trans (hB2.mono x1.size)⟩
end Go.Proofs.YtocbhlohcikapaaGreatDoor
namespace Go.Proofs.YtocbhlohcikapaaGreatDoor
open Go.Joins Go.ChangeShapes Go.WideShapes Go.ChangeAt Go.RowKit Go.Deep
set_option maxRecDepth 100000 in
theorem memoryShown_door (os : Os) (args : Array Value) : laidMetH Tryz.prog Rows.memoryShownRow.laid ((World.doorLaid Tryz.prog 24 os).forCall (fun _ _ => 0) ⟨#[], args, []⟩).memory :=
  laidMetH_of_parts3 (fuel := 8) (laidMet_of_run' 8 (by kernel_rfl) (by kernel_rfl)) (by kernel_rfl) (by kernel_rfl)
set_option maxRecDepth 100000 in
theorem memoryShown_lifted (os : Os) (started : os.Started) (H : Type) (enc : TypeId × Value → H) :
    ReturnsInHanded {} Tryz.checked os 5 .any (fun w args => (Rows.memoryShownSpec.pre enc Tryz.prog Tryz.f5 [] false w args ∧ laidMetH Tryz.prog Rows.memoryShownRow.laid w) ∧ sizedMet enc Tryz.prog Tryz.f5 (OpenSpec.ofChange Rows.memoryShownSpec) false w args)
      (Rows.memoryShownSpec.post enc Tryz.prog Tryz.f5 false true false false) := by
  refine returnsInHanded_of_change_and (C := Tryz.checked) (X := fun w _ => laidMetH Tryz.prog Rows.memoryShownRow.laid w) (fun _ _ _ hh h => h.of_heap hh) own started (by kernel_rfl) Tryz.func5
    (ChangeSpec.witness_shaped (enc := enc) (C := Tryz.checked) (os := os) (X := fun w _ => laidMetH Tryz.prog Rows.memoryShownRow.laid w) false (World.doorLaid Tryz.prog 24 os) #[.agg #[.int .i64 0, .int .i64 0, .slice none 0 0]] 8 rfl (World.shaped_of_RefB (by kernel_rfl) (by kernel_rfl)) (by kernel_rfl) (by kernel_rfl) (by kernel_rfl) (memoryShown_door os _)) ?_
  intro W base args ds gs before hval0 hW _ _ _ _
  have hval : ∀ (j : Nat) t v, Tryz.f5.params[j]? = some t → args[j]? = some v → Value.okWide Tryz.prog W .any base t v := hval0
  have hW' := hW
  obtain ⟨p, q, hA0, hV, rfl, hfz, hnd⟩ := hW
  have hA : DataW.TrodAll enc Tryz.prog W 0 (fun _ => true) true Tryz.f5.params.toList args.toList ds p := hA0
  rw [Tryz.params5] at hA hval
  obtain ⟨v0, d0, rfl, rfl, h0⟩ := trodAll_one hA
  obtain ⟨rfl, rfl⟩ := trodVars_none hV
  have hlt : ∀ x ∈ p, x.block < W.heap.size := fun x hx => hW'.lt x (List.mem_append_left _ (by simpa using hx))
  obtain ⟨G0, q0, c0, rfl, s0, l0⟩ := graph_in (hval 0 24 v0 rfl rfl) h0 hlt
  refine (lawShown_any G0 q0 c0 W s0 l0).mono fun e W' ⟨he, hB⟩ => ?_
  subst he
  refine ⟨_, rfl, law_post hW' rfl (by kernel_rfl) ?_ rfl rfl rfl hB⟩
  rw [Tryz.params5]
  intro t ht
  simp only [List.mem_cons, List.not_mem_nil, or_false] at ht
  subst ht
  · exact readGraph
theorem memoryShown_holds : Rows.MemoryShownSaid :=
  OpenClaim.holds_of_wide 5 Tryz.f5 rfl rfl rfl rfl rfl rfl rfl ⟨rfl, rfl, rfl, rfl, rfl⟩ rfl rfl rfl rfl rfl (by kernel_rfl) Tryz.func5 (by kernel_rfl)
    (of_decide_eq_true (by kernel_rfl)) (by unfold Func.isWrapper; rw [if_neg (of_decide_eq_false (by kernel_rfl))]; exact ⟨rfl, rfl⟩)
    (fun os started H enc _ => memoryShown_lifted os started H enc)
theorem memoryShown_card : Rows.MemoryShownCardSaid :=
  Claim7.holds_tied_plain_at .later [] [.data, .data, .data] true _ false
    memoryShown_holds (fun _ h => by cases h) (by kernel_rfl) (fun _ h => by cases h) memoryShown_row_tie rfl ⟨rfl, rfl⟩ (by kernel_rfl) rfl
    (fun f fn hf hfn => by
      obtain rfl : f = 5 := Option.some.inj ((show Tryz.prog.funcNamed "groove/groovelaw15.MemoryShown" = some 5 by kernel_rfl).symm.trans hf) |>.symm
      obtain rfl : fn = Tryz.f5 := (Option.some.inj (Tryz.func5.symm.trans hfn)).symm
      exact ⟨by kernel_rfl, fun j t ht => by
        rw [Tryz.params5] at ht
        rcases j with _ | j
        · obtain rfl : t = 24 := by simpa using ht.symm
          exact (show Tryz.prog.wantsStandIn 24 = false by kernel_rfl)
        · simp at ht⟩)
    (by kernel_rfl)
#print axioms memoryShown_card
end Go.Proofs.YtocbhlohcikapaaGreatDoor
