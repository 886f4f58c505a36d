/-
  Words, plain lemmas and walks, merged: Ka, Kb, Ea, Eb, Ra, Ec.
-/
import Derived.Lib.IndexMore
import Derived.Test.YtaclgmhinljkbaaGreatDoorZpi
import Derived.Test.YtaclgmhinljkbaaGreatDoorZpf
import Derived.Test.YtaclgmhinljkbaaGreatDoorZpg
import Derived.Maps.RangeRun
import Derived.OwnWalkIn
set_option linter.unusedVariables false
set_option linter.unusedSimpArgs false
namespace Go.Proofs.YtaclgmhinljkbaaGreatDoor

section
variable {α : Type}

theorem snocs (l : List α) : l = [] ∨ ∃ z b, l = z ++ [b] := by
  rcases List.eq_nil_or_concat l with e | ⟨z, b, e⟩
  · exact .inl e
  · exact .inr ⟨z, b, by rw [e, List.concat_eq_append]⟩

/-- No word of the list is a factor. -/
def Av (L : List (List α)) (v : List α) : Prop := ∀ u ∈ L, ¬ u <:+: v
theorem Av.sub {L : List (List α)} {v w : List α} (h : Av L w) (hv : v <:+: w) : Av L v := fun u hu hi => h u hu (hi.trans hv)
/-- The states: allowed beginnings of the list's words, but not these. -/
def Pr (L : List (List α)) (p : List α) : Prop := Av L p ∧ (p = [] ∨ ∃ u ∈ L, p <+: u ∧ p.length < u.length)
/-- The first end that is a state. -/
def sg (st : List α → Bool) : List α → List α
  | [] => []
  | a :: v => if st (a :: v) = true then a :: v else sg st v
theorem sg_suf (st : List α → Bool) : ∀ v, sg st v <:+ v
  | [] => List.suffix_refl _
  | a :: v => by
    unfold sg; split
    · exact List.suffix_refl _
    · exact (sg_suf st v).trans (List.suffix_cons _ _)
theorem sg_mem {st : List α → Bool} (h0 : st [] = true) : ∀ v, st (sg st v) = true
  | [] => h0
  | a :: v => by
    unfold sg; split
    · assumption
    · exact sg_mem h0 v
theorem sg_max {st : List α → Bool} {s : List α} (hs : st s = true) : ∀ {v}, s <:+ v → s <:+ sg st v
  | [], h => h
  | a :: v, h => by
    unfold sg; split
    · exact h
    · rename_i hn
      rcases List.suffix_cons_iff.1 h with e | h
      · subst e; exact absurd hs hn
      · exact sg_max hs h
theorem suf_anti {a b : List α} (h1 : a <:+ b) (h2 : b <:+ a) : a = b := h1.eq_of_length (Nat.le_antisymm h1.length_le h2.length_le)
theorem sg_self {st : List α → Bool} {s : List α} (hs : st s = true) : sg st s = s := suf_anti (sg_suf st s) (sg_max hs (List.suffix_refl _))
theorem suf_snoc {z v : List α} {a : α} (h : z <:+ v ++ [a]) : z = [] ∨ ∃ z', z = z' ++ [a] ∧ z' <:+ v := by
  rcases snocs z with e | ⟨z', b, rfl⟩
  · exact .inl e
  · obtain ⟨t, ht⟩ := h
    rw [← List.append_assoc] at ht
    obtain ⟨h1, h2⟩ := List.append_inj' ht rfl
    refine .inr ⟨z', by rw [h2], ⟨t, h1⟩⟩
theorem suf_snoc' {z v : List α} (a : α) (h : z <:+ v) : z ++ [a] <:+ v ++ [a] := by
  obtain ⟨t, rfl⟩ := h
  exact ⟨t, by simp⟩
/-- The state behind one letter more. -/
theorem sg_step {st : List α → Bool} (h0 : st [] = true) (hp : ∀ p a, st (p ++ [a]) = true → st p = true) (v : List α) (a : α) : sg st (v ++ [a]) = sg st (sg st v ++ [a]) := by
  refine suf_anti ?_ (sg_max (sg_mem h0 _) ((sg_suf st _).trans (suf_snoc' a (sg_suf st v))))
  refine sg_max (sg_mem h0 _) ?_
  have hm := sg_mem h0 (v ++ [a])
  have hs := sg_suf st (v ++ [a])
  generalize sg st (v ++ [a]) = z at *
  rcases suf_snoc hs with e | ⟨z', rfl, hz⟩
  · subst e; exact List.nil_suffix
  · exact suf_snoc' a (sg_max (hp _ _ hm) hz)
theorem Pr.pre {L : List (List α)} {p : List α} {a : α} (h : Pr L (p ++ [a])) : Pr L p := by
  obtain ⟨h1, h2⟩ := h
  refine ⟨h1.sub ⟨[], [a], by simp⟩, ?_⟩
  rcases h2 with h | ⟨u, hu, h3, h4⟩
  · simp at h
  · exact .inr ⟨u, hu, (List.prefix_append p [a]).trans h3, by simp at h4; omega⟩
theorem Pr.nil {L : List (List α)} (hL : ∀ u ∈ L, u ≠ []) : Pr L [] := ⟨fun u hu hi => hL u hu (List.infix_nil.1 hi), .inl rfl⟩

/-- One step; a path. -/
def stpK (L : List (List α)) (st : List α → Bool) (p : List α) (a : α) (t : List α) : Prop := (∀ u ∈ L, ¬ u <:+ p ++ [a]) ∧ t = sg st (p ++ [a])
def wpt (L : List (List α)) (st : List α → Bool) : List α → List α → List α → Prop
  | p, [], t => p = t
  | p, a :: v, t => ∃ m, stpK L st p a m ∧ wpt L st m v t
structure Aut (L : List (List α)) (st : List α → Bool) : Prop where
  ne : ∀ u ∈ L, u ≠ []
  iff : ∀ p, st p = true ↔ Pr L p
theorem Aut.nil {L : List (List α)} {st : List α → Bool} (h : Aut L st) : st [] = true := (h.iff _).2 (Pr.nil h.ne)
theorem Aut.pre {L : List (List α)} {st : List α → Bool} (h : Aut L st) (p : List α) (a : α) (hp : st (p ++ [a]) = true) : st p = true := (h.iff _).2 ((h.iff _).1 hp).pre
theorem av_snoc {L : List (List α)} {z : List α} {a : α} (h : Av L z) (h2 : ∀ u ∈ L, ¬ u <:+ z ++ [a]) : Av L (z ++ [a]) := fun u hu hi => by
  rcases List.infix_concat_iff.1 hi with h3 | h3
  · exact h2 u hu h3
  · exact h u hu h3
/-- What a path's labels spell is allowed, behind its state's word. -/
theorem Aut.spell {L : List (List α)} {st : List α → Bool} (H : Aut L st) : ∀ {v z p t : List α}, Av L z → p = sg st z → wpt L st p v t → Av L (z ++ v) ∧ t = sg st (z ++ v)
  | [], z, p, t, hz, hp, hw => by
    have hw : p = t := hw
    rw [List.append_nil]; exact ⟨hz, by rw [← hw, hp]⟩
  | a :: v, z, p, t, hz, hp, hw => by
    obtain ⟨m, ⟨h1, h2⟩, h3⟩ := hw
    have hA : Av L (z ++ [a]) := av_snoc hz (fun u hu hs => by
      rcases suf_snoc hs with e | ⟨u', rfl, hu'⟩
      · exact H.ne u hu e
      · have hP : st u' = true := (H.iff _).2 ⟨hz.sub hu'.isInfix, .inr ⟨_, hu, List.prefix_append _ _, by simp⟩⟩
        exact h1 _ hu (suf_snoc' a (by rw [hp]; exact sg_max hP hu')))
    have := H.spell (v := v) (z := z ++ [a]) hA (by rw [h2, hp, ← sg_step H.nil H.pre]) h3
    simpa using this

/-! ### Words that can be extended -/
def Gd (S : List α) (L : List (List α)) (w : List α) : Prop := ∀ n : Nat, ∃ x y : List α, n ≤ x.length ∧ n ≤ y.length ∧ (∀ c ∈ x, c ∈ S) ∧ (∀ c ∈ y, c ∈ S) ∧ Av L (x ++ w ++ y)
theorem pigeon {P : α → Nat → Prop} (hmono : ∀ c n m, m ≤ n → P c n → P c m) : ∀ {S : List α}, (∀ n, ∃ c ∈ S, P c n) → ∃ c ∈ S, ∀ n, P c n
  | [], h => by obtain ⟨c, hc, _⟩ := h 0; simp at hc
  | a :: S, h => by
    by_cases ha : ∀ n, P a n
    · exact ⟨a, by simp, ha⟩
    · obtain ⟨k, hk⟩ := Classical.not_forall.1 ha
      obtain ⟨c, hc, hp⟩ := pigeon hmono (S := S) (fun n => by
        obtain ⟨c, hc, hp⟩ := h (max n k)
        rcases List.mem_cons.1 hc with e | hc
        · subst e; exact absurd (hmono _ _ _ (Nat.le_max_right _ _) hp) hk
        · exact ⟨c, hc, hmono _ _ _ (Nat.le_max_left _ _) hp⟩)
      exact ⟨c, List.mem_cons_of_mem _ hc, hp⟩
theorem Gd.av {S : List α} {L : List (List α)} {w : List α} (h : Gd S L w) : Av L w := by
  obtain ⟨x, y, _, _, _, _, h1⟩ := h 0
  exact h1.sub ⟨x, y, rfl⟩
theorem Gd.right {S : List α} {L : List (List α)} {w : List α} (h : Gd S L w) : ∃ c ∈ S, Gd S L (w ++ [c]) := by
  refine pigeon (P := fun c n => ∃ x y : List α, n ≤ x.length ∧ n ≤ y.length ∧ (∀ c ∈ x, c ∈ S) ∧ (∀ c ∈ y, c ∈ S) ∧ Av L (x ++ (w ++ [c]) ++ y)) ?_ ?_
  · rintro c n m hm ⟨x, y, h1, h2, h3⟩
    exact ⟨x, y, by omega, by omega, h3⟩
  · intro n
    obtain ⟨x, y, h1, h2, h3, h4, h5⟩ := h (n + 1)
    cases y with
    | nil => simp at h2
    | cons c y => exact ⟨c, h4 c (by simp), x, y, by omega, by simpa using h2, h3, fun d hd => h4 d (by simp [hd]), by simpa using h5⟩
theorem Gd.left {S : List α} {L : List (List α)} {w : List α} (h : Gd S L w) : ∃ c ∈ S, Gd S L (c :: w) := by
  refine pigeon (P := fun c n => ∃ x y : List α, n ≤ x.length ∧ n ≤ y.length ∧ (∀ c ∈ x, c ∈ S) ∧ (∀ c ∈ y, c ∈ S) ∧ Av L (x ++ (c :: w) ++ y)) ?_ ?_
  · rintro c n m hm ⟨x, y, h1, h2, h3⟩
    exact ⟨x, y, by omega, by omega, h3⟩
  · intro n
    obtain ⟨x, y, h1, h2, h3, h4, h5⟩ := h (n + 1)
    rcases snocs x with e | ⟨x', c, rfl⟩
    · subst e; simp at h1
    · exact ⟨c, h3 c (by simp), x', y, by simpa using h1, by omega, fun d hd => h3 d (by simp [hd]), h4, by simpa using h5⟩
theorem Gd.pre {S : List α} {L : List (List α)} {w : List α} {c : α} (hc : c ∈ S) (h : Gd S L (w ++ [c])) : Gd S L w := fun n => by
  obtain ⟨x, y, h1, h2, h3, h4, h5⟩ := h n
  refine ⟨x, c :: y, h1, by simp; omega, h3, fun d hd => ?_, by simpa using h5⟩
  rcases List.mem_cons.1 hd with e | e
  · rw [e]; exact hc
  · exact h4 d e
theorem Gd.far {S : List α} {L : List (List α)} {w : List α} (h : Gd S L w) : ∀ n : Nat, ∃ x : List α, n ≤ x.length ∧ (∀ c ∈ x, c ∈ S) ∧ Gd S L (x ++ w)
  | 0 => ⟨[], by simp, by simp, h⟩
  | n + 1 => by
    obtain ⟨x, h1, h2, h3⟩ := Gd.far h n
    obtain ⟨c, hc, h4⟩ := h3.left
    exact ⟨c :: x, by simp; omega, fun d hd => by
      rcases List.mem_cons.1 hd with e | e
      · rw [e]; exact hc
      · exact h2 d e, h4⟩
/-- The states behind words that can be extended. -/
def Tt (S : List α) (L : List (List α)) (st : List α → Bool) (M : Nat) (p : List α) : Prop := ∃ u : List α, M ≤ u.length ∧ (∀ c ∈ u, c ∈ S) ∧ Gd S L u ∧ p = sg st u
theorem Aut.stp_of {L : List (List α)} {st : List α → Bool} (H : Aut L st) {u : List α} {c : α} (h : Av L (u ++ [c])) : stpK L st (sg st u) c (sg st (u ++ [c])) :=
  ⟨fun z hz hs => h z hz ((hs.trans (suf_snoc' c (sg_suf st u))).isInfix), sg_step H.nil H.pre u c⟩
theorem Tt.out {S : List α} {L : List (List α)} {st : List α → Bool} (H : Aut L st) {M : Nat} {p : List α} (h : Tt S L st M p) : ∃ c ∈ S, ∃ t, stpK L st p c t ∧ Tt S L st M t := by
  obtain ⟨u, h1, h2, h3, rfl⟩ := h
  obtain ⟨c, hc, h4⟩ := h3.right
  refine ⟨c, hc, _, H.stp_of h4.av, u ++ [c], by simp; omega, fun d hd => ?_, h4, rfl⟩
  rcases List.mem_append.1 hd with e | e
  · exact h2 d e
  · rw [List.mem_singleton.1 e]; exact hc
theorem sg_cons {st : List α → Bool} {M : Nat} (hM : ∀ p, st p = true → p.length ≤ M) (h0 : st [] = true) {c : α} {u : List α} (hu : M ≤ u.length) : sg st (c :: u) = sg st u := by
  refine suf_anti (sg_max (sg_mem h0 _) ?_) (sg_max (sg_mem h0 _) ((sg_suf st u).trans (List.suffix_cons _ _)))
  rcases List.suffix_cons_iff.1 (sg_suf st (c :: u)) with e | e
  · have := hM _ (sg_mem h0 (c :: u)); rw [e] at this; simp at this; omega
  · exact e
theorem Tt.into {S : List α} {L : List (List α)} {st : List α → Bool} (H : Aut L st) {M : Nat} (hM : ∀ p, st p = true → p.length ≤ M) (hM1 : 0 < M) {p : List α} (h : Tt S L st M p) : ∃ c ∈ S, ∃ t, stpK L st t c p ∧ Tt S L st M t := by
  obtain ⟨u, h1, h2, h3, rfl⟩ := h
  obtain ⟨c, hc, h4⟩ := h3.left
  rcases snocs u with e | ⟨u', d, rfl⟩
  · subst e; simp at h1; omega
  · have hd : d ∈ S := h2 d (by simp)
    have hs := H.stp_of (u := c :: u') (c := d) (by simpa using h4.av)
    rw [List.cons_append, sg_cons hM H.nil h1] at hs
    refine ⟨d, hd, _, hs, c :: u', by simp at h1; simp; omega, fun e he => ?_, Gd.pre hd (by simpa using h4), rfl⟩
    rcases List.mem_cons.1 he with e1 | e1
    · rw [e1]; exact hc
    · exact h2 e (by simp [e1])
/-- A path whose states are all such. -/
def wptT (T : List α → Prop) (L : List (List α)) (st : List α → Bool) : List α → List α → List α → Prop
  | p, [], t => p = t ∧ T p
  | p, a :: v, t => T p ∧ ∃ m, stpK L st p a m ∧ wptT T L st m v t
theorem Aut.path {S : List α} {L : List (List α)} {st : List α → Bool} (H : Aut L st) {M : Nat} : ∀ {w u : List α}, M ≤ u.length → (∀ c ∈ u, c ∈ S) → (∀ c ∈ w, c ∈ S) → Gd S L (u ++ w) → ∃ t, wptT (Tt S L st M) L st (sg st u) w t
  | [], u, h1, h2, _, h4 => ⟨sg st u, rfl, u, h1, h2, by simpa using h4, rfl⟩
  | c :: w, u, h1, h2, h3, h4 => by
    have hc := h3 c (by simp)
    have hu : Gd S L u := by
      have : ∀ (w : List α), (∀ c ∈ w, c ∈ S) → ∀ u, Gd S L (u ++ w) → Gd S L u := by
        intro w
        induction w with
        | nil => intro _ u h; simpa using h
        | cons c w ih =>
          intro hw u h
          exact Gd.pre (hw c (by simp)) (ih (fun d hd => hw d (by simp [hd])) (u ++ [c]) (by simpa using h))
      exact this _ h3 u h4
    obtain ⟨t, ht⟩ := H.path (S := S) (M := M) (w := w) (u := u ++ [c]) (by simp; omega) (fun d hd => by
      rcases List.mem_append.1 hd with e | e
      · exact h2 d e
      · rw [List.mem_singleton.1 e]; exact hc) (fun d hd => h3 d (by simp [hd])) (by simpa using h4)
    refine ⟨t, ⟨u, h1, h2, hu, rfl⟩, _, H.stp_of ?_, ht⟩
    exact h4.av.sub ⟨[], w, by simp⟩
theorem Gd.found {S : List α} {L : List (List α)} {st : List α → Bool} (H : Aut L st) {w : List α} (h : Gd S L w) (hw : ∀ c ∈ w, c ∈ S) (M : Nat) : ∃ p t, wptT (Tt S L st M) L st p w t := by
  obtain ⟨x, h1, h2, h3⟩ := h.far M
  exact ⟨_, H.path h1 h2 hw h3⟩
end

/-! ### Bytes -/
theorem contains_inf (s u : List UInt8) : Lib.contains s u = true ↔ u <:+: s := by
  unfold Lib.contains
  rw [decide_eq_true_eq]
  constructor
  · intro h
    rcases Lib.index_spec s u with ⟨h1, _⟩ | ⟨i, h1, h2, h3, _⟩
    · omega
    · have h3 : u.isPrefixOf (s.drop i) = true := by simpa [Lib.occAt] using h3
      exact (List.isPrefixOf_iff_prefix.1 h3).isInfix.trans (List.drop_suffix i s).isInfix
  · rintro ⟨a, b, rfl⟩
    rcases Lib.index_spec (a ++ u ++ b) u with ⟨_, h2⟩ | ⟨i, h1, _⟩
    · have := h2 a.length (by simp)
      have h4 : u.isPrefixOf ((a ++ u ++ b).drop a.length) = true := List.isPrefixOf_iff_prefix.2 (by simp)
      unfold Lib.occAt at this
      rw [h4] at this; cases this
    · omega
theorem hasSuffix_suf (s u : List UInt8) : Lib.hasSuffix s u = true ↔ u <:+ s := by
  unfold Lib.hasSuffix
  exact List.isSuffixOf_iff_suffix
end Go.Proofs.YtaclgmhinljkbaaGreatDoor
namespace Go.Proofs.YtaclgmhinljkbaaGreatDoor
open Go.RowKit Go.Sort

/-! ### Paths -/
def pth (es : List Ed) : Int → List Int → Int → Prop
  | u, [], t => u = t
  | u, b :: l, t => ∃ x ∈ es, x.f = u ∧ x.l = b ∧ pth es x.t l t
theorem mem_endA {G : Gr} (hv : Vg G) : ∀ (l st : List Int) (t : Int), t ∈ endA G st l ↔ ∃ u ∈ st, pth G.es u l t
  | [], st, t => by
    show t ∈ st ↔ _
    constructor
    · intro h; exact ⟨t, h, rfl⟩
    · rintro ⟨u, hu, rfl⟩; exact hu
  | b :: l, st, t => by
    show t ∈ endA G (nextA G st b) l ↔ _
    rw [mem_endA hv l]
    constructor
    · rintro ⟨u, hu, hp⟩
      obtain ⟨x, hx, rfl, h1, h2⟩ := (mem_nextA hv).1 hu
      exact ⟨x.f, h2, x, hx, rfl, h1, hp⟩
    · rintro ⟨u, hu, x, hx, rfl, h1, hp⟩
      exact ⟨x.t, (mem_nextA hv).2 ⟨x, hx, rfl, h1, hu⟩, hp⟩
theorem acc_iff {G : Gr} (hv : Vg G) (s : ByteArray) : accA G s = true ↔ ∃ u t, 0 ≤ u ∧ u < G.n ∧ pth G.es u (ltr s) t := by
  have hn := hv.n1
  unfold accA
  rw [decide_eq_true_eq, List.length_pos_iff_exists_mem]
  constructor
  · rintro ⟨t, ht⟩
    obtain ⟨u, hu, hp⟩ := (mem_endA hv _ _ _).1 ht
    have := mem_upto.1 hu
    exact ⟨u, t, this.1, by omega, hp⟩
  · rintro ⟨u, t, h0, h1, hp⟩
    exact ⟨t, (mem_endA hv _ _ _).2 ⟨u, mem_upto.2 ⟨h0, by omega⟩, hp⟩⟩
theorem pth_app {es : List Ed} : ∀ {l m : List Int} {u t : Int}, pth es u (l ++ m) t ↔ ∃ v, pth es u l v ∧ pth es v m t
  | [], m, u, t => by
    constructor
    · intro h; exact ⟨u, rfl, h⟩
    · rintro ⟨v, rfl, h⟩; exact h
  | b :: l, m, u, t => by
    show (∃ x ∈ es, x.f = u ∧ x.l = b ∧ pth es x.t (l ++ m) t) ↔ _
    constructor
    · rintro ⟨x, hx, h1, h2, h3⟩
      obtain ⟨v, h4, h5⟩ := pth_app.1 h3
      exact ⟨v, ⟨x, hx, h1, h2, h4⟩, h5⟩
    · rintro ⟨v, ⟨x, hx, h1, h2, h4⟩, h5⟩
      exact ⟨x, hx, h1, h2, pth_app.2 ⟨v, h4, h5⟩⟩
/-- A path of a part is one of the graph. -/
theorem pth_part {G : Gr} {st : List Int} : ∀ {l : List Int} {i j u : Int}, u ∈ st → ((st.idxOf u : Nat) : Int) = i → pth (partA G st).es i l j → ∃ v ∈ st, ((st.idxOf v : Nat) : Int) = j ∧ pth G.es u l v
  | [], i, j, u, hu, hi, hp => ⟨u, hu, by rw [hi]; exact hp, rfl⟩
  | b :: l, i, j, u, hu, hi, hp => by
    obtain ⟨y, hy, h1, h2, h3⟩ := hp
    obtain ⟨x, hx, hxy⟩ := List.mem_filterMap.1 (show y ∈ G.es.filterMap (partE st) from hy)
    obtain ⟨a1, a2, rfl⟩ := partE_some hxy
    have e : x.f = u := iof_inj a1 hu (by
      have h1 : ((st.idxOf x.f : Nat) : Int) = i := h1
      omega)
    obtain ⟨v, hv, hv2, hv3⟩ := pth_part a2 rfl h3
    exact ⟨v, hv, hv2, x, hx, e, h2, hv3⟩
/-- A path that keeps to a set of states is one of the part. -/
def pthT (es : List Ed) (C : Int → Prop) : Int → List Int → Int → Prop
  | u, [], t => u = t ∧ C u
  | u, b :: l, t => C u ∧ ∃ x ∈ es, x.f = u ∧ x.l = b ∧ pthT es C x.t l t
theorem pthT_head {es : List Ed} {C : Int → Prop} : ∀ {l : List Int} {u t : Int}, pthT es C u l t → C u
  | [], _, _, h => h.2
  | _ :: _, _, _, h => h.1
theorem pthT_part {G : Gr} {st : List Int} {C : Int → Prop} (hC : ∀ s, C s → s ∈ st) : ∀ {l : List Int} {u t : Int}, pthT G.es C u l t → pth (partA G st).es ((st.idxOf u : Nat) : Int) l ((st.idxOf t : Nat) : Int)
  | [], u, t, h => by show ((st.idxOf u : Nat) : Int) = _; rw [h.1]
  | b :: l, u, t, h => by
    obtain ⟨h0, x, hx, rfl, h2, h3⟩ := h
    exact ⟨_, List.mem_filterMap.2 ⟨x, hx, part_go ⟨hC _ h0, hC _ (pthT_head h3)⟩⟩, rfl, h2, pthT_part hC h3⟩
/-- Inside an essential part each path goes on, on both sides. -/
theorem pth_more {G : Gr} (h : Vg G) : ∀ (n : Nat) {u : Int}, 0 ≤ u → u < (partA G (essT G)).n → (∃ (l : List Int) (t : Int), l.length = n ∧ pth (partA G (essT G)).es u l t) ∧ ∃ (l : List Int) (t : Int), 0 ≤ t ∧ t < (partA G (essT G)).n ∧ l.length = n ∧ pth (partA G (essT G)).es t l u
  | 0, u, h0, h1 => ⟨⟨[], u, rfl, rfl⟩, [], u, h0, h1, rfl, rfl⟩
  | n + 1, u, h0, h1 => by
    have hv := part_vg h (essT_st h)
    obtain ⟨⟨y, hy, e1⟩, z, hz, e2⟩ := ess_edges h h0 h1
    have iy := hv.ins y hy
    have iz := hv.ins z hz
    obtain ⟨⟨l, t, hl, hp⟩, _⟩ := pth_more h n iz.2.2.1 iz.2.2.2.2.1
    obtain ⟨_, m, s, hs0, hs1, hm, hq⟩ := pth_more h n iy.1 iy.2.2.2.1
    refine ⟨⟨z.l :: l, t, by simp [hl], z, hz, e2, rfl, hp⟩, m ++ [y.l], s, hs0, hs1, by simp [hm], pth_app.2 ⟨y.f, hq, y, hy, rfl, rfl, e1⟩⟩
theorem pth_lab {G : Gr} (h : Vg G) : ∀ {l : List Int} {u t : Int}, pth G.es u l t → ∀ b ∈ l, 0 ≤ b ∧ b < G.q
  | [], _, _, _, b, hb => by simp at hb
  | c :: l, _, _, hp, b, hb => by
    obtain ⟨x, hx, _, h2, h3⟩ := hp
    rcases List.mem_cons.1 hb with e | e
    · subst e; have := h.ins x hx; omega
    · exact pth_lab h h3 b e

/-! ### Words as lists of bytes -/
def bl (w : ByteArray) : List UInt8 := w.data.toList
def lb (p : List UInt8) : ByteArray := ⟨p.toArray⟩
theorem lb_bl (w : ByteArray) : lb (bl w) = w := by cases w; simp [lb, bl]
theorem bl_lb (p : List UInt8) : bl (lb p) = p := by simp [lb, bl]
theorem bl_len (w : ByteArray) : (bl w).length = w.size := by cases w; rfl
theorem bl_inj {a b : ByteArray} (h : bl a = bl b) : a = b := by rw [← lb_bl a, h, lb_bl]
theorem bl_ext (w : ByteArray) (i k : Nat) : bl (w.extract i k) = ((bl w).take k).drop i := by
  unfold bl
  rw [ByteArray.data_extract, Array.toList_extract, List.extract_eq_take_drop]
  rw [List.drop_take]
theorem bl_app (a b : ByteArray) : bl (a ++ b) = bl a ++ bl b := by unfold bl; rw [ByteArray.data_append, Array.toList_append]
def Ls (l : List ByteArray) : List (List UInt8) := l.map bl
theorem mem_Ls {l : List ByteArray} {u : List UInt8} : u ∈ Ls l ↔ lb u ∈ l := by
  unfold Ls
  rw [List.mem_map]
  constructor
  · rintro ⟨x, hx, rfl⟩; rw [lb_bl]; exact hx
  · intro h; exact ⟨_, h, bl_lb u⟩
theorem bl_Ls {l : List ByteArray} {x : ByteArray} (h : x ∈ l) : bl x ∈ Ls l := List.mem_map_of_mem h
theorem av_iff {l : List ByteArray} {w : ByteArray} : alwA l w = true ↔ Av (Ls l) (bl w) := by
  unfold alwA Av Ls
  rw [Bool.not_eq_true', List.any_eq_false]
  constructor
  · intro h u hu hi
    obtain ⟨x, hx, rfl⟩ := List.mem_map.1 hu
    exact h x hx ((contains_inf _ _).2 hi)
  · intro h x hx hc
    exact h _ (List.mem_map_of_mem hx) ((contains_inf _ _).1 hc)
theorem bad_iffL {l : List ByteArray} {w : ByteArray} : badA l w = false ↔ ∀ u ∈ Ls l, ¬ u <:+ bl w := by
  unfold badA Ls
  rw [List.any_eq_false]
  constructor
  · intro h u hu hi
    obtain ⟨x, hx, rfl⟩ := List.mem_map.1 hu
    exact h x hx ((hasSuffix_suf _ _).2 hi)
  · intro h x hx hc
    exact h _ (List.mem_map_of_mem hx) ((hasSuffix_suf _ _).1 hc)
def stB (l : List ByteArray) (p : List UInt8) : Bool := (stA l).any (fun u => bl u == p)
theorem stB_iff {l : List ByteArray} {p : List UInt8} : stB l p = true ↔ lb p ∈ stA l := by
  unfold stB
  rw [List.any_eq_true]
  constructor
  · rintro ⟨u, hu, he⟩
    have e : bl u = p := by simpa using he
    rw [← e, lb_bl]; exact hu
  · intro h; exact ⟨_, h, by rw [bl_lb]; simp⟩
theorem aut_of {l : List ByteArray} (hl : ∀ u ∈ l, u ≠ (⟨#[]⟩ : ByteArray)) : Aut (Ls l) (stB l) where
  ne := fun u hu e => by subst e; exact hl _ (mem_Ls.1 hu) rfl
  iff := fun p => by
    rw [stB_iff]
    constructor
    · intro h
      have ha := av_iff.1 (stA_alw hl h)
      rw [bl_lb] at ha
      refine ⟨ha, ?_⟩
      have h := mem_insAll.1 h
      unfold candF preF at h
      rcases List.mem_cons.1 h with h | h
      · left; rw [← bl_lb p, h]; rfl
      · obtain ⟨x, hx, hu⟩ := List.mem_flatMap.1 h
        obtain ⟨k, hk, he⟩ := List.mem_map.1 (List.mem_filter.1 hu).1
        have hk := List.mem_range.1 hk
        refine .inr ⟨bl x, bl_Ls (List.mem_of_mem_take hx), ?_, ?_⟩
        · rw [← bl_lb p, ← he, bl_ext, List.drop_zero]; exact List.take_prefix _ _
        · rw [← bl_lb p, ← he, bl_len, bl_len]; simp; omega
    · rintro ⟨ha, h⟩
      refine mem_insAll.2 ?_
      unfold candF preF
      rcases h with h | ⟨u, hu, hp, hlt⟩
      · subst h; exact List.mem_cons_self
      · refine List.mem_cons_of_mem _ (List.mem_flatMap.2 ⟨lb u, by rw [List.take_length]; exact mem_Ls.1 hu, List.mem_filter.2 ⟨List.mem_map.2 ⟨p.length, List.mem_range.2 ?_, ?_⟩, ?_⟩⟩)
        · rw [← bl_len, bl_lb]; exact hlt
        · refine bl_inj ?_
          rw [bl_ext, bl_lb, bl_lb, List.drop_zero]
          exact (List.prefix_iff_eq_take.1 hp).symm
        · exact av_iff.2 (by rw [bl_lb]; exact ha)

/-! ### Letters -/
def lt (a : Int) : UInt8 := (bl ltB).getD a.toNat 48
def dg (c : UInt8) : Int := Chg.dig (c.toNat : Int)
def sigL (q : Int) : List UInt8 := (bl ltB).take q.toNat
theorem lt_dg : ∀ a : Nat, a < 16 → dg (lt (a : Int)) = a := by decide
theorem dg_lt : ∀ c : Nat, c < 256 → 0 ≤ Chg.dig (c : Int) → lt (Chg.dig (c : Int)) = UInt8.ofNat c := by decide +kernel
theorem lt_of (c : UInt8) (h : 0 ≤ dg c) : lt (dg c) = c := by
  have := dg_lt c.toNat (UInt8.toNat_lt c) h
  unfold dg; rw [this]; exact UInt8.ofNat_toNat
theorem bl_ltB : (bl ltB).length = 16 := rfl
theorem lt_get (a : Nat) (h : a < 16) : lt (a : Int) = (bl ltB)[a]'(by rw [bl_ltB]; exact h) := by
  unfold lt; rw [Int.toNat_natCast, List.getD_eq_getElem?_getD, List.getElem?_eq_getElem (by rw [bl_ltB]; exact h)]; rfl
theorem mem_sig {q : Int} (hq : q ≤ 16) {c : UInt8} : c ∈ sigL q ↔ ∃ a : Nat, (a : Int) < q ∧ lt (a : Int) = c := by
  unfold sigL
  constructor
  · intro h
    obtain ⟨a, ha, e⟩ := List.getElem_of_mem h
    rw [List.length_take, bl_ltB] at ha
    refine ⟨a, by omega, ?_⟩
    rw [← e, List.getElem_take, lt_get a (by omega)]
  · rintro ⟨a, ha, rfl⟩
    rw [lt_get a (by omega)]
    refine List.mem_iff_getElem.2 ⟨a, by rw [List.length_take, bl_ltB]; omega, ?_⟩
    rw [List.getElem_take]
theorem bl_wd (p : ByteArray) (a : Nat) (h : a < 16) : bl (wdA p a) = bl p ++ [lt (a : Int)] := by
  unfold wdA
  rw [bl_app, bl_ext, lt_get a h]
  congr 1
  have h1 : a < (bl ltB).length := by rw [bl_ltB]; exact h
  rw [List.take_succ_eq_append_getElem h1, List.drop_append_of_le_length (by rw [List.length_take, bl_ltB]; omega), List.drop_eq_nil_of_le (by rw [List.length_take]; omega), List.nil_append]

/-! ### States and edges -/
theorem tg_drop {l : List ByteArray} (h0 : (⟨#[]⟩ : ByteArray) ∈ stA l) : ∀ {i : Nat} {v : List UInt8}, i ≤ v.length → (∀ j, j < i → stB l (v.drop j) = false) → stB l (v.drop i) = true → sg (stB l) v = v.drop i
  | i, [], _, _, _ => by simp [sg]
  | 0, a :: v, _, _, h => by unfold sg; rw [if_pos (by simpa using h)]; rfl
  | i + 1, a :: v, hi, hn, h => by
    have := hn 0 (by omega)
    unfold sg
    rw [if_neg (by rw [show a :: v = (a :: v).drop 0 from rfl, this]; simp)]
    have := tg_drop (i := i) (v := v) h0 (by simpa using hi) (fun j hj => by simpa using hn (j + 1) (by omega)) (by simpa using h)
    simpa using this
/-- A number and its state's word. -/
def At (l : List ByteArray) (s : Int) (p : List UInt8) : Prop := ∃ (i : Nat) (h : i < (stA l).length), s = (i : Int) ∧ bl (stA l)[i] = p
theorem At.st {l : List ByteArray} {s : Int} {p : List UInt8} (h : At l s p) : stB l p = true := by
  obtain ⟨i, hi, _, rfl⟩ := h
  rw [stB_iff, lb_bl]; exact List.getElem_mem hi
theorem At.uniq {l : List ByteArray} {s t : Int} {p : List UInt8} (h : At l s p) (k : At l t p) : s = t := by
  obtain ⟨i, hi, rfl, h1⟩ := h
  obtain ⟨j, hj, rfl, h2⟩ := k
  have he : (stA l)[i] = (stA l)[j] := bl_inj (h1.trans h2.symm)
  have hs := insAll_srt (candF l l.length)
  rcases Nat.lt_trichotomy i j with e | e | e
  · have := List.pairwise_iff_getElem.1 hs i j hi hj e
    have he : (insAll (candF l l.length))[i]'hi = (insAll (candF l l.length))[j]'hj := he
    rw [he, ordB_refl] at this; omega
  · rw [e]
  · have := List.pairwise_iff_getElem.1 hs j i hj hi e
    have he : (insAll (candF l l.length))[i]'hi = (insAll (candF l l.length))[j]'hj := he
    rw [he, ordB_refl] at this; omega
theorem At.same {l : List ByteArray} {s : Int} {p p' : List UInt8} (h : At l s p) (k : At l s p') : p = p' := by
  obtain ⟨i, hi, rfl, h1⟩ := h
  obtain ⟨j, hj, e, h2⟩ := k
  obtain rfl : i = j := by omega
  rw [← h1, ← h2]
theorem At.of {l : List ByteArray} {p : List UInt8} (h : stB l p = true) : ∃ s, At l s p := by
  obtain ⟨i, hi, e⟩ := List.getElem_of_mem (stB_iff.1 h)
  exact ⟨_, i, hi, rfl, by rw [e, bl_lb]⟩
theorem tg_at (l : List ByteArray) (w : ByteArray) : At l (tgA (stA l) w) (sg (stB l) (bl w)) := by
  have h0 := stA_nil l
  obtain ⟨i, hi, h1, h2⟩ := tgR_first (f := plF (stA l) (stA l).length) (plF_some (stA l).length (Nat.le_refl _) (by rw [List.take_length]; exact h0)) w.size w (Nat.le_refl _)
  obtain ⟨k, hk, h3, h4⟩ := plF_get (stA l).length (Nat.le_refl _) h1
  have hx : ∀ j, lb ((bl w).drop j) = w.extract j w.size := fun j => bl_inj (by rw [bl_lb, bl_ext, ← bl_len, List.take_length])
  have hd : sg (stB l) (bl w) = (bl w).drop i := by
    refine tg_drop h0 (by rw [bl_len]; exact hi) (fun j hj => ?_) ?_
    · rw [Bool.eq_false_iff]
      intro hs
      have hm := stB_iff.1 hs
      rw [hx] at hm
      have := plF_some (st := stA l) (stA l).length (Nat.le_refl _) (by rw [List.take_length]; exact hm)
      rw [h2 j hj] at this; cases this
    · rw [stB_iff, hx, ← h4]; exact List.getElem_mem hk
  refine ⟨k, hk, h3, ?_⟩
  rw [h4, hd, ← hx, bl_lb]
theorem mem_edRow {l st : List ByteArray} {s : Nat} {x : Ed} : ∀ {a : Nat}, x ∈ edRow l st s a ↔ ∃ b, b < a ∧ badA l (wdA (st.getD s (⟨#[]⟩ : ByteArray)) b) = false ∧ x = ⟨(s : Int), (b : Int), tgA st (wdA (st.getD s (⟨#[]⟩ : ByteArray)) b)⟩
  | 0 => by simp [edRow]
  | a + 1 => by
    rw [edRow, List.mem_append, mem_edRow]
    constructor
    · rintro (⟨b, h1, h2, h3⟩ | h)
      · exact ⟨b, by omega, h2, h3⟩
      · split at h
        · simp at h
        · rename_i hb
          exact ⟨a, by omega, by simpa using hb, List.mem_singleton.1 h⟩
    · rintro ⟨b, h1, h2, h3⟩
      by_cases e : b = a
      · subst e; right; rw [if_neg (by rw [h2]; simp)]; exact List.mem_singleton.2 h3
      · exact .inl ⟨b, by omega, h2, h3⟩
theorem mem_edAll {l st : List ByteArray} {q : Nat} {x : Ed} : ∀ {k : Nat}, x ∈ edAll l st q k ↔ ∃ s, s < k ∧ x ∈ edRow l st s q
  | 0 => by simp [edAll]
  | k + 1 => by
    rw [edAll, List.mem_append, mem_edAll]
    constructor
    · rintro (⟨s, h1, h2⟩ | h)
      · exact ⟨s, by omega, h2⟩
      · exact ⟨k, by omega, h⟩
    · rintro ⟨s, h1, h2⟩
      by_cases e : s = k
      · subst e; exact .inr h2
      · exact .inl ⟨s, by omega, h2⟩
/-- The graph ahead of its essential part. -/
def grF (q : Int) (l : List ByteArray) : Gr := ⟨q, (stA l).length, norm (edAll l (stA l) q.toNat (stA l).length)⟩
theorem edge_iff {q : Int} (hq : q ≤ 16) {l : List ByteArray} {x : Ed} : x ∈ (grF q l).es ↔ ∃ (a : Nat) (p : List UInt8), (a : Int) < q ∧ x.l = a ∧ At l x.f p ∧ (∀ u ∈ Ls l, ¬ u <:+ p ++ [lt (a : Int)]) ∧ At l x.t (sg (stB l) (p ++ [lt (a : Int)])) := by
  show x ∈ norm _ ↔ _
  rw [mem_norm, mem_edAll]
  constructor
  · rintro ⟨s, hs, h⟩
    obtain ⟨a, ha, hb, rfl⟩ := mem_edRow.1 h
    rw [getD_at hs] at hb ⊢
    have hw := bl_wd (stA l)[s] a (by omega)
    have h1 := bad_iffL.1 hb
    rw [hw] at h1
    have h2 := tg_at l (wdA (stA l)[s] a)
    rw [hw] at h2
    exact ⟨a, bl (stA l)[s], by omega, rfl, ⟨s, hs, rfl, rfl⟩, h1, h2⟩
  · rintro ⟨a, p, ha, hl, ⟨s, hs, hf, rfl⟩, h1, h2⟩
    refine ⟨s, hs, mem_edRow.2 ⟨a, by omega, ?_, ?_⟩⟩
    · rw [getD_at hs, bad_iffL, bl_wd _ a (by omega)]; exact h1
    · rw [getD_at hs]
      have h3 := tg_at l (wdA (stA l)[s] a)
      rw [bl_wd _ a (by omega)] at h3
      have h4 := h2.uniq h3
      cases x with
      | mk f lx t =>
        simp only at hf hl h4
        rw [hf, hl, h4]
theorem At.bd {l : List ByteArray} {s : Int} {p : List UInt8} (h : At l s p) : 0 ≤ s ∧ s < (stA l).length := by
  obtain ⟨i, hi, rfl, _⟩ := h; omega
theorem grF_vg {q : Int} {l : List ByteArray} (h1 : 1 ≤ q) (h2 : q ≤ 16) (h3 : (stA l).length ≤ 64) : Vg (grF q l) where
  q1 := h1
  q2 := by show q ≤ 256; omega
  n1 := by show 0 ≤ ((stA l).length : Int); omega
  n2 := by show ((stA l).length : Int) ≤ 64; omega
  len := by
    show (norm _).length ≤ 1024
    have e := norm_len (edAll l (stA l) q.toNat (stA l).length) _ (Nat.le_refl _)
    rw [List.take_length] at e
    have := edAll_len l (stA l) q.toNat (stA l).length
    have h4 : (stA l).length * q.toNat ≤ 64 * 16 := Nat.mul_le_mul h3 (by omega)
    omega
  ins := fun x hx => by
    obtain ⟨a, p, ha, hl, hf, _, ht⟩ := (edge_iff h2).1 hx
    have := hf.bd; have := ht.bd
    rw [hl]
    show 0 ≤ x.f ∧ (0 : Int) ≤ a ∧ 0 ≤ x.t ∧ x.f < ((stA l).length : Int) ∧ x.t < ((stA l).length : Int) ∧ (a : Int) < q
    omega
  srt := norm_srt _
theorem graphB_eq {q : Int} {l : List ByteArray} (hc : chkF q l = 0) (h3 : (stA l).length ≤ 64) : graphB q l = (partA (grF q l) (essT (grF q l)), 0) := by
  obtain ⟨h1, h2, _, _⟩ := chkF_ok hc
  have hv := grF_vg h1 h2 h3
  have hm : makeA q (stA l).length (edAll l (stA l) q.toNat (stA l).length) = (grF q l, 0) := makeA_ok (chkG_ok.2 hv)
  unfold graphB
  rw [if_neg (by rw [hc]; simp), if_neg (by omega), hm]
  simp only [ne_eq, not_true_eq_false, if_false, essA_t hv]

/-! ### The words of the graph -/
theorem pth_wpt {q : Int} (hq : q ≤ 16) {l : List ByteArray} : ∀ {is : List Int} {s t : Int} {p : List UInt8}, At l s p → pth (grF q l).es s is t → ∃ p', At l t p' ∧ wpt (Ls l) (stB l) p (is.map lt) p'
  | [], s, t, p, hp, h => by
    have h : s = t := h
    subst h; exact ⟨p, hp, rfl⟩
  | b :: is, s, t, p, hp, h => by
    obtain ⟨x, hx, hf, hb, h2⟩ := h
    obtain ⟨a, p1, ha, hl, hf1, h3, h4⟩ := (edge_iff hq).1 hx
    rw [hf] at hf1
    have e := hp.same hf1
    subst e
    obtain ⟨p', h5, h6⟩ := pth_wpt hq h4 h2
    refine ⟨p', h5, _, ⟨?_, rfl⟩, ?_⟩
    · rw [← hb, hl]; exact h3
    · rw [← hb, hl]; exact h6
theorem stp_edge {q : Int} (hq : q ≤ 16) {l : List ByteArray} {s : Int} {p t : List UInt8} {c : UInt8} (hs : At l s p) (hc : c ∈ sigL q) (h : stpK (Ls l) (stB l) p c t) : ∃ x ∈ (grF q l).es, x.f = s ∧ x.l = dg c ∧ At l x.t t := by
  obtain ⟨a, ha, rfl⟩ := (mem_sig hq).1 hc
  obtain ⟨h1, rfl⟩ := h
  have hw : lb (p ++ [lt (a : Int)]) = lb (p ++ [lt (a : Int)]) := rfl
  have h2 := tg_at l (lb (p ++ [lt (a : Int)]))
  rw [bl_lb] at h2
  exact ⟨⟨s, a, _⟩, (edge_iff hq).2 ⟨a, p, ha, rfl, hs, h1, h2⟩, rfl, (lt_dg a (by omega)).symm, h2⟩
theorem words_gd {q : Int} {l : List ByteArray} (hc : chkF q l = 0) (h3 : (stA l).length ≤ 64) (hl : ∀ u ∈ l, u ≠ (⟨#[]⟩ : ByteArray)) (hz : ∀ u ∈ l, u.size ≤ 32) {w : ByteArray} (hw : Chg.okw q (bl w) = true) :
    accA (graphB q l).1 w = true ↔ Gd (sigL q) (Ls l) (bl w) := by
  obtain ⟨h1, h2, _, _⟩ := chkF_ok hc
  have hv := grF_vg h1 h2 h3
  have hvp := part_vg hv (essT_st hv)
  have H := aut_of hl
  have hlw : ∀ c ∈ bl w, 0 ≤ dg c ∧ dg c < q := fun c hcm => by
    have h := List.all_eq_true.1 hw c hcm
    unfold Chg.okc at h
    rw [Bool.and_eq_true, decide_eq_true_eq, decide_eq_true_eq] at h
    exact h
  have hltr : (ltr w).map lt = bl w := by
    unfold ltr
    rw [List.map_map]
    have h : ∀ l : List UInt8, (∀ c ∈ l, 0 ≤ dg c) → l.map (lt ∘ fun c => Chg.dig (c.toNat : Int)) = l := by
      intro l
      induction l with
      | nil => intro _; rfl
      | cons c l ih =>
        intro hc
        rw [List.map_cons, ih (fun d hd => hc d (by simp [hd]))]
        congr 1
        exact lt_of c (hc c (by simp))
    exact h _ (fun c hc => (hlw c hc).1)
  have hsw : ∀ c ∈ bl w, c ∈ sigL q := fun c hcm => by
    have h := hlw c hcm
    exact (mem_sig h2).2 ⟨(dg c).toNat, by omega, by rw [show (((dg c).toNat : Nat) : Int) = dg c by omega]; exact lt_of c h.1⟩
  rw [graphB_eq hc h3, acc_iff hvp]
  constructor
  · rintro ⟨u, t, h0, hn, hp⟩ n
    have ht : 0 ≤ t ∧ t < (partA (grF q l) (essT (grF q l))).n := by
      have : ∀ {m : List Int} {a b : Int}, 0 ≤ a ∧ a < (partA (grF q l) (essT (grF q l))).n → pth (partA (grF q l) (essT (grF q l))).es a m b → 0 ≤ b ∧ b < (partA (grF q l) (essT (grF q l))).n := by
        intro m
        induction m with
        | nil => intro a b ha h; have h : a = b := h; rw [← h]; exact ha
        | cons c m ih =>
          intro a b _ h
          obtain ⟨x, hx, _, _, h4⟩ := h
          have := hvp.ins x hx
          exact ih ⟨this.2.2.1, this.2.2.2.2.1⟩ h4
      exact this ⟨h0, hn⟩ hp
    obtain ⟨_, xs, s, hs0, hs1, hxl, hxp⟩ := pth_more hv n h0 hn
    obtain ⟨⟨ys, r, hyl, hyp⟩, _⟩ := pth_more hv n ht.1 ht.2
    have hP : pth (partA (grF q l) (essT (grF q l))).es s (xs ++ ltr w ++ ys) r := pth_app.2 ⟨t, pth_app.2 ⟨u, hxp, hp⟩, hyp⟩
    have hlab := pth_lab hvp hP
    have hsl : s.toNat < (essT (grF q l)).length := by
      have : s < ((essT (grF q l)).length : Int) := hs1
      omega
    have hm : (essT (grF q l))[s.toNat] ∈ essT (grF q l) := List.getElem_mem _
    have hidx := iof_at (essT_st hv).srt hsl
    obtain ⟨v, hvm, _, hP2⟩ := pth_part hm (by rw [hidx]; omega) hP
    have hin := (essT_st hv).ins _ hm
    generalize (essT (grF q l))[s.toNat] = s0 at *
    have hin2 : 0 ≤ s0 ∧ s0 < ((stA l).length : Int) := hin
    have hsA : s0.toNat < (stA l).length := by omega
    have hAt : At l s0 (bl (stA l)[s0.toNat]) := ⟨s0.toNat, hsA, by omega, rfl⟩
    obtain ⟨p', _, hwp⟩ := pth_wpt h2 hAt hP2
    have hst := hAt.st
    generalize bl (stA l)[s0.toNat] = p at *
    have hav := ((H.iff p).1 hst).1
    have := (H.spell hav (sg_self hst).symm hwp).1
    rw [List.map_append, List.map_append, hltr] at this
    refine ⟨xs.map lt, ys.map lt, by simp [hxl], by simp [hyl], ?_, ?_, this.sub (List.suffix_append p _).isInfix⟩
    · intro c hcm
      obtain ⟨b, hb, rfl⟩ := List.mem_map.1 hcm
      have := hlab b (by simp [hb])
      have h5 : b < q := this.2
      exact (mem_sig h2).2 ⟨b.toNat, by omega, by rw [show ((b.toNat : Nat) : Int) = b by omega]⟩
    · intro c hcm
      obtain ⟨b, hb, rfl⟩ := List.mem_map.1 hcm
      have := hlab b (by simp [hb])
      have h5 : b < q := this.2
      exact (mem_sig h2).2 ⟨b.toNat, by omega, by rw [show ((b.toNat : Nat) : Int) = b by omega]⟩
  · intro hg
    have hM : ∀ p, stB l p = true → p.length ≤ 32 := fun p hp => by
      have := stA_size hz _ (stB_iff.1 hp)
      rw [← bl_len, bl_lb] at this; exact this
    obtain ⟨p, t, hpt⟩ := hg.found H hsw 32
    have hC : ∀ s, (∃ p, At l s p ∧ Tt (sigL q) (Ls l) (stB l) 32 p) → s ∈ essT (grF q l) := by
      refine sup_ess ?_ _ _ (Nat.le_refl _) ?_
      · rintro s ⟨p, hs, hT⟩
        constructor
        · obtain ⟨c, hcm, t, h5, h6⟩ := hT.into H hM (by omega)
          have hts : stB l t = true := by obtain ⟨u, _, _, _, rfl⟩ := h6; exact sg_mem H.nil u
          obtain ⟨r, hr⟩ := At.of hts
          obtain ⟨x, hx, hf, _, ht⟩ := stp_edge h2 hr hcm h5
          exact ⟨x, hx, ht.uniq hs, t, by rw [hf]; exact hr, h6⟩
        · obtain ⟨c, hcm, t, h5, h6⟩ := hT.out H
          obtain ⟨x, hx, hf, _, ht⟩ := stp_edge h2 hs hcm h5
          exact ⟨x, hx, hf, t, ht, h6⟩
      · rintro s ⟨p, hs, _⟩
        have := hs.bd
        exact mem_upto.2 ⟨this.1, by show s < (((stA l).length : Int).toNat : Int); omega⟩
    have key : ∀ {v : List UInt8} {p t : List UInt8} {s : Int}, (∀ c ∈ v, c ∈ sigL q) → At l s p → wptT (Tt (sigL q) (Ls l) (stB l) 32) (Ls l) (stB l) p v t → ∃ r, pthT (grF q l).es (fun s => ∃ p, At l s p ∧ Tt (sigL q) (Ls l) (stB l) 32 p) s (v.map dg) r := by
      intro v
      induction v with
      | nil =>
        intro p t s _ hs h
        exact ⟨s, rfl, p, hs, h.2⟩
      | cons c v ih =>
        intro p t s hcs hs h
        obtain ⟨h0, m, h5, h6⟩ := h
        obtain ⟨x, hx, hf, hxl, ht⟩ := stp_edge h2 hs (hcs c (by simp)) h5
        obtain ⟨r, hr⟩ := ih (fun d hd => hcs d (by simp [hd])) ht h6
        exact ⟨r, ⟨p, hs, h0⟩, x, hx, hf, hxl, hr⟩
    have hpT : stB l p = true := by
      have : ∀ {v : List UInt8} {p t : List UInt8}, wptT (Tt (sigL q) (Ls l) (stB l) 32) (Ls l) (stB l) p v t → stB l p = true := by
        intro v p t h
        have hT : Tt (sigL q) (Ls l) (stB l) 32 p := by
          cases v with
          | nil => exact h.2
          | cons c v => exact h.1
        obtain ⟨u, _, _, _, rfl⟩ := hT
        exact sg_mem H.nil u
      exact this hpt
    obtain ⟨s, hs⟩ := At.of hpT
    obtain ⟨r, hr⟩ := key hsw hs hpt
    have hmem := hC s (pthT_head hr)
    have hlt := List.idxOf_lt_length_iff.2 hmem
    have h1' : (((essT (grF q l)).idxOf s : Nat) : Int) < (partA (grF q l) (essT (grF q l))).n := by
      show (((essT (grF q l)).idxOf s : Nat) : Int) < ((essT (grF q l)).length : Int)
      omega
    exact ⟨(((essT (grF q l)).idxOf s : Nat) : Int), (((essT (grF q l)).idxOf r : Nat) : Int), by omega, h1', pthT_part hC hr⟩
end Go.Proofs.YtaclgmhinljkbaaGreatDoor
namespace Go.Proofs.YtaclgmhinljkbaaGreatDoor
open Go

theorem ltr_letter : ∀ a : Nat, a < 16 → ltr (ltB.extract a (a + 1)) = [(a : Int)] := by decide +kernel
theorem ltr_add (a b : ByteArray) : ltr (a ++ b) = ltr a ++ ltr b := by
  unfold ltr; rw [ByteArray.data_append, Array.toList_append, List.map_append]
theorem ltr_wd (u : ByteArray) {a : Nat} (h : a < 16) : ltr (wdA u a) = ltr u ++ [(a : Int)] := by
  unfold wdA; rw [ltr_add, ltr_letter a h]
theorem wd_sz (u : ByteArray) {a : Nat} (h : a < 16) : (wdA u a).size = u.size + 1 := by
  have := congrArg List.length (ltr_wd u h)
  rwa [ltr_len, List.length_append, ltr_len] at this
/-- The states at the end of a word. -/
def enA (G : Gr) (u : ByteArray) : List Int := endA G (upto G.n.toNat) (ltr u)
theorem enA_wd (G : Gr) (u : ByteArray) {a : Nat} (h : a < 16) : enA G (wdA u a) = nextA G (enA G u) a := by
  unfold enA; rw [ltr_wd u h, endA_snoc]
theorem accA_en (G : Gr) (u : ByteArray) : accA G u = decide (0 < (enA G u).length) := rfl
theorem accA_f {G : Gr} {u : ByteArray} : accA G u = false ↔ enA G u = [] := by
  rw [accA_en, decide_eq_false_iff_not]
  cases enA G u <;> simp
theorem acc_less {G : Gr} {u : ByteArray} {a : Nat} (h : a < 16) (hw : accA G (wdA u a) = true) : accA G u = true := by
  cases hu : accA G u with
  | true => rfl
  | false =>
    rw [accA_en, enA_wd G u h, accA_f.1 hu, nextA_nil] at hw
    simp at hw
/-- The words with a letter more. -/
def nxW (G : Gr) (u : ByteArray) : List ByteArray := ((List.range G.q.toNat).filter (fun a => accA G (wdA u a))).map (wdA u)
/-- The words of one length. -/
def wk (G : Gr) : Nat → List ByteArray
  | 0 => if 0 < G.n then [⟨#[]⟩] else []
  | k + 1 => (wk G k).flatMap (nxW G)
theorem enA_nil (G : Gr) : enA G ⟨#[]⟩ = upto G.n.toNat := rfl
theorem wk_acc {G : Gr} : ∀ {k : Nat} {u : ByteArray}, u ∈ wk G k → accA G u = true
  | 0, u, h => by
    unfold wk at h
    split at h
    · rw [List.mem_singleton] at h
      subst h
      rw [accA_en, enA_nil, upto_len, decide_eq_true_eq]; omega
    · cases h
  | k + 1, u, h => by
    obtain ⟨v, _, hv⟩ := List.mem_flatMap.1 h
    unfold nxW at hv
    obtain ⟨a, ha, rfl⟩ := List.mem_map.1 hv
    exact (List.mem_filter.1 ha).2
theorem wk_size {G : Gr} (hq : G.q ≤ 16) : ∀ {k : Nat} {u : ByteArray}, u ∈ wk G k → u.size = k
  | 0, u, h => by
    unfold wk at h
    split at h
    · rw [List.mem_singleton] at h
      subst h; rfl
    · cases h
  | k + 1, u, h => by
    obtain ⟨v, hv1, hv⟩ := List.mem_flatMap.1 h
    unfold nxW at hv
    obtain ⟨a, ha, rfl⟩ := List.mem_map.1 hv
    have ha' := List.mem_range.1 (List.mem_filter.1 ha).1
    rw [wd_sz v (a := a) (by omega), wk_size hq hv1]
/-- A word's letters are among the first q. -/
def okU (q : Int) (u : ByteArray) : Prop := ∀ c ∈ u.data.toList, ∃ a : Nat, a < q.toNat ∧ c = ltB.data.toList.getD a 0
theorem wk_len (G : Gr) : ∀ k, (wk G k).length ≤ G.q.toNat ^ k
  | 0 => by
    unfold wk
    split
    · simp
    · simp
  | k + 1 => by
    unfold wk
    have ih := wk_len G k
    have h1 : ∀ l : List ByteArray, (l.flatMap (nxW G)).length ≤ l.length * G.q.toNat := by
      intro l
      induction l with
      | nil => simp
      | cons x l ihl =>
        rw [List.flatMap_cons, List.length_append, List.length_cons, Nat.add_mul, Nat.one_mul]
        have : (nxW G x).length ≤ G.q.toNat := by
          unfold nxW
          rw [List.length_map]
          exact Nat.le_trans (List.length_filter_le _ _) (by simp)
        omega
    refine Nat.le_trans (h1 _) ?_
    rw [Nat.pow_succ]
    exact Nat.mul_le_mul_right _ ih
theorem wd_inj {u v : ByteArray} {a b : Nat} (ha : a < 16) (hb : b < 16) (h : wdA u a = wdA v b) : u = v ∧ a = b := by
  have hl := congrArg ltr h
  rw [ltr_wd u ha, ltr_wd v hb] at hl
  have e1 := (List.append_inj' hl rfl).2
  have hab : a = b := by have := (List.cons.inj e1).1; omega
  subst hab
  refine ⟨?_, rfl⟩
  have h2 := congrArg bl h
  unfold wdA at h2
  rw [bl_app, bl_app] at h2
  exact bl_inj (List.append_cancel_right h2)
theorem wk_none {G : Gr} {k : Nat} (h : wk G k = []) : ∀ j, k ≤ j → wk G j = [] := by
  intro j hj
  induction j with
  | zero => obtain rfl : k = 0 := by omega
            exact h
  | succ j ih =>
    by_cases e : k = j + 1
    · subst e; exact h
    · show (wk G j).flatMap (nxW G) = []
      rw [ih (by omega)]; rfl
theorem mem_nx {G : Gr} {u v : ByteArray} : v ∈ nxW G u ↔ ∃ a : Nat, a < G.q.toNat ∧ accA G (wdA u a) = true ∧ v = wdA u a := by
  unfold nxW
  rw [List.mem_map]
  constructor
  · rintro ⟨a, ha, rfl⟩
    rw [List.mem_filter, List.mem_range] at ha
    exact ⟨a, ha.1, ha.2, rfl⟩
  · rintro ⟨a, h1, h2, rfl⟩
    exact ⟨a, List.mem_filter.2 ⟨List.mem_range.2 h1, h2⟩, rfl⟩
theorem mem_wk {G : Gr} {k : Nat} {v : ByteArray} : v ∈ wk G (k + 1) ↔ ∃ u ∈ wk G k, ∃ a : Nat, a < G.q.toNat ∧ accA G (wdA u a) = true ∧ v = wdA u a := by
  show v ∈ (wk G k).flatMap (nxW G) ↔ _
  rw [List.mem_flatMap]
  constructor
  · rintro ⟨u, hu, hv⟩
    exact ⟨u, hu, mem_nx.1 hv⟩
  · rintro ⟨u, hu, hv⟩
    exact ⟨u, hu, mem_nx.2 hv⟩

/-- What is found of one length: words that are none, without their first letter they are. -/
def fdW (G : Gr) (k : Nat) (u : ByteArray) : List ByteArray := ((List.range G.q.toNat).filter (fun a => !accA G (wdA u a) && (wk G k).any (fun y => decide (y = (wdA u a).extract 1 (wdA u a).size)))).map (wdA u)
def fdK (G : Gr) (k : Nat) : List ByteArray := (wk G k).flatMap (fdW G k)
def fdN (G : Gr) (n : Nat) : List ByteArray := (List.range n).flatMap (fdK G)
/-- What Find answers. -/
def findA (G : Gr) (n : Int) : List ByteArray × Int := if chkG G ≠ 0 then ([], 1) else if 16 < G.q then ([], 12) else if n < 0 ∨ 32 < n then ([], 2) else (fdN G n.toNat, 0)
theorem fdN_succ (G : Gr) (n : Nat) : fdN G (n + 1) = fdN G n ++ fdK G n := by unfold fdN; rw [List.range_succ, List.flatMap_append]; simp
theorem fdW_len (G : Gr) (k : Nat) (u : ByteArray) : (fdW G k u).length ≤ G.q.toNat := by
  unfold fdW
  rw [List.length_map]
  exact Nat.le_trans (List.length_filter_le _ _) (by simp)
theorem fdK_le (G : Gr) (k : Nat) : ∀ l : List ByteArray, (l.flatMap (fdW G k)).length ≤ l.length * G.q.toNat
  | [] => by simp
  | x :: l => by
    rw [List.flatMap_cons, List.length_append, List.length_cons, Nat.add_mul, Nat.one_mul]
    have := fdW_len G k x; have := fdK_le G k l
    omega
theorem fdK_len (G : Gr) (k : Nat) : (fdK G k).length ≤ G.q.toNat ^ k * G.q.toNat := Nat.le_trans (fdK_le G k _) (Nat.mul_le_mul_right _ (wk_len G k))
theorem pow3 {q k : Nat} (hq : q ≤ 3) (hk : k ≤ 6) : q ^ k ≤ 729 :=
  Nat.le_trans (Nat.pow_le_pow_left hq k) (Nat.le_trans (Nat.pow_le_pow_right (by omega) hk) (by decide))
theorem wk_few {G : Gr} (hq : G.q ≤ 3) {k : Nat} (hk : k ≤ 6) : (wk G k).length ≤ 729 := Nat.le_trans (wk_len G k) (pow3 (by omega) hk)
theorem fdN_few {G : Gr} (hq : G.q ≤ 3) : ∀ n : Nat, 2 * (fdN G n).length + 3 ≤ 3 ^ (n + 1)
  | 0 => by simp [fdN]
  | n + 1 => by
    rw [fdN_succ, List.length_append]
    have h1 := fdN_few hq n
    have h2 := fdK_len G n
    have h3 : G.q.toNat ^ n * G.q.toNat = G.q.toNat ^ (n + 1) := (Nat.pow_succ ..).symm
    have h4 : G.q.toNat ^ (n + 1) ≤ 3 ^ (n + 1) := Nat.pow_le_pow_left (by omega) _
    have h5 : 3 ^ (n + 1 + 1) = 3 ^ (n + 1) * 3 := Nat.pow_succ ..
    omega
theorem fdN_1092 {G : Gr} (hq : G.q ≤ 3) {n : Nat} (hn : n ≤ 6) : (fdN G n).length ≤ 1092 := by
  have h1 := fdN_few hq n
  have h2 : 3 ^ (n + 1) ≤ 3 ^ 7 := Nat.pow_le_pow_right (by omega) (by omega)
  omega
end Go.Proofs.YtaclgmhinljkbaaGreatDoor
namespace Go.Proofs.YtaclgmhinljkbaaGreatDoor
open Go

theorem lt_app : ∀ {u v : List UInt8} (x y : List UInt8), u.length = v.length → u < v → u ++ x < v ++ y
  | [], [], x, y, _, h => absurd h (List.lt_irrefl _)
  | [], b :: v, x, y, hl, _ => by simp at hl
  | a :: u, [], x, y, hl, _ => by simp at hl
  | a :: u, b :: v, x, y, hl, h => by
    rw [List.cons_lt_cons_iff] at h
    rw [List.cons_append, List.cons_append, List.cons_lt_cons_iff]
    rcases h with h | ⟨h1, h2⟩
    · exact .inl h
    · exact .inr ⟨h1, lt_app x y (by simpa using hl) h2⟩
theorem lt_app2 : ∀ (u : List UInt8) {x y : List UInt8}, x < y → u ++ x < u ++ y
  | [], _, _, h => h
  | a :: u, x, y, h => by
    rw [List.cons_append, List.cons_append, List.cons_lt_cons_iff]
    exact .inr ⟨rfl, lt_app2 u h⟩
theorem letter_lt : ∀ a : Nat, a < 16 → ∀ b : Nat, b < 16 → a < b → bl (ltB.extract a (a + 1)) < bl (ltB.extract b (b + 1)) := by decide +kernel
theorem bl_wd0 (u : ByteArray) (a : Nat) : bl (wdA u a) = bl u ++ bl (ltB.extract a (a + 1)) := by unfold wdA; rw [bl_app]
theorem nx_sorted {G : Gr} (hq : G.q ≤ 16) (u : ByteArray) : (nxW G u).Pairwise (fun x y => bl x < bl y) := by
  unfold nxW
  rw [List.pairwise_map]
  refine List.Pairwise.imp_of_mem (fun {a b} ha hb h => ?_) ((List.pairwise_lt_range (n := G.q.toNat)).filter _)
  have ha' := List.mem_range.1 (List.mem_filter.1 ha).1
  have hb' := List.mem_range.1 (List.mem_filter.1 hb).1
  rw [bl_wd0, bl_wd0]
  exact lt_app2 _ (letter_lt a (by omega) b (by omega) h)
theorem wk_sorted {G : Gr} (hq : G.q ≤ 16) : ∀ k, (wk G k).Pairwise (fun x y => bl x < bl y)
  | 0 => by
    unfold wk
    split <;> simp
  | k + 1 => by
    show ((wk G k).flatMap (nxW G)).Pairwise _
    rw [List.pairwise_flatMap]
    refine ⟨fun u _ => nx_sorted hq u, List.Pairwise.imp_of_mem (fun {u v} hu hv h x hx y hy => ?_) (wk_sorted hq k)⟩
    obtain ⟨a, _, _, rfl⟩ := mem_nx.1 hx
    obtain ⟨b, _, _, rfl⟩ := mem_nx.1 hy
    rw [bl_wd0, bl_wd0]
    exact lt_app _ _ (by rw [bl_len, bl_len, wk_size hq hu, wk_size hq hv]) h
theorem strict_unique : ∀ {l m : List (List UInt8)}, l.Pairwise (· < ·) → m.Pairwise (· < ·) → (∀ x, x ∈ l ↔ x ∈ m) → l = m
  | [], [], _, _, _ => rfl
  | [], b :: m, _, _, h => by have := (h b).2 (by simp); simp at this
  | a :: l, [], _, _, h => by have := (h a).1 (by simp); simp at this
  | a :: l, b :: m, hl, hm, h => by
    obtain ⟨h1, h2⟩ := List.pairwise_cons.1 hl
    obtain ⟨h3, h4⟩ := List.pairwise_cons.1 hm
    have hab : a = b := by
      rcases List.mem_cons.1 ((h a).1 (by simp)) with e | e
      · exact e
      · rcases List.mem_cons.1 ((h b).2 (by simp)) with e' | e'
        · exact e'.symm
        · exact absurd (List.lt_trans (h1 b e') (h3 a e)) (List.lt_irrefl _)
    subst hab
    congr 1
    refine strict_unique h2 h4 (fun x => ⟨fun hx => ?_, fun hx => ?_⟩)
    · rcases List.mem_cons.1 ((h x).1 (List.mem_cons_of_mem _ hx)) with e | e
      · subst e; exact absurd (h1 x hx) (List.lt_irrefl _)
      · exact e
    · rcases List.mem_cons.1 ((h x).2 (List.mem_cons_of_mem _ hx)) with e | e
      · subst e; exact absurd (h3 x hx) (List.lt_irrefl _)
      · exact e
/-- Sorted, a list of different texts is the strictly ordered one. -/
theorem sort_is {ss T : List (List UInt8)} (h : ss.Perm T) (hT : T.Pairwise (· < ·)) : ss.mergeSort (fun x y => decide (x ≤ y)) = T := by
  have hp : (ss.mergeSort (fun x y => decide (x ≤ y))).Perm T := (List.mergeSort_perm ss _).trans h
  have hs := List.pairwise_mergeSort (le := fun x y : List UInt8 => decide (x ≤ y)) (fun a b c h1 h2 => by
    rw [decide_eq_true_eq] at *
    exact List.le_trans h1 h2) (fun a b => by
    rw [Bool.or_eq_true, decide_eq_true_eq, decide_eq_true_eq]
    exact List.le_total a b) ss
  have hn : T.Nodup := hT.imp (fun {a b} h e => by subst e; exact List.lt_irrefl _ h)
  have hn2 : (ss.mergeSort (fun x y => decide (x ≤ y))).Nodup := hp.nodup_iff.2 hn
  refine strict_unique ?_ hT (fun x => hp.mem_iff)
  refine List.Pairwise.imp₂ (fun {a b} h1 h2 => ?_) hs hn2
  rw [decide_eq_true_eq] at h1
  rcases List.le_iff_lt_or_eq.1 h1 with h | h
  · exact h
  · exact absurd h h2
end Go.Proofs.YtaclgmhinljkbaaGreatDoor
namespace Go.Proofs.YtaclgmhinljkbaaGreatDoor
open Go.RowKit Go.ChangeMaps Go.MapKept Go.Maps

/-- The entries' numbers. -/
def Bo (w : World) (b : Nat) : Prop := ∃ es clock, w.heap[b]? = some (.map es clock) ∧ (es.toList.map (·.born)).Nodup ∧ ∀ e ∈ es.toList, e.born < clock
theorem Bo.same {w w' : World} {b : Nat} (h : Bo w b) (hb : w'.heap[b]? = w.heap[b]?) : Bo w' b := by
  obtain ⟨es, clock, h1, h2⟩ := h
  exact ⟨es, clock, hb.trans h1, h2⟩
theorem Bo.made (w : World) : Bo (w.alloc (.map #[] 0)) w.heap.size := ⟨#[], 0, heap_alloc_new w _, by simp, by simp⟩
section
variable {α β : Type} {kv : α → Value} {ok : α → Prop} {vv : β → Value} {w : World} {b : Nat} {f : α → Option β} {P : Program} {k : TypeId}
/-- A map with its entries' numbers. -/
def MpB (kv : α → Value) (ok : α → Prop) (vv : β → Value) (w : World) (b : Nat) (f : α → Option β) : Prop := Mp kv ok vv w b f ∧ Bo w b
theorem MpB.same {w' : World} (h : MpB kv ok vv w b f) (hb : w'.heap[b]? = w.heap[b]?) : MpB kv ok vv w' b f := ⟨h.1.same hb, h.2.same hb⟩
theorem MpB.lt (h : MpB kv ok vv w b f) : b < w.heap.size := h.1.lt
theorem MpB.made (w : World) : MpB kv ok vv (w.alloc (.map #[] 0)) w.heap.size (fun _ => none) := ⟨Mp.made w, Bo.made w⟩
theorem MpB.congr {g : α → Option β} (h : MpB kv ok vv w b f) (e : ∀ a, f a = g a) : MpB kv ok vv w b g := ⟨h.1.congr e, h.2⟩
theorem MpB.store [DecidableEq α] {t e : TypeId} (h : MpB kv ok vv w b f) (K : KeyBy P k kv ok) (ht : P.underlying t = some (.map k e)) (a : α) (ha : ok a) (x : β) :
    ∃ w', (Instr.mapUpdate t (.map (some b)) (kv a) (vv x)).run P w = .ok () w' ∧ MpB kv ok vv w' b (mset f a x) ∧ w.mapTurned w' b := by
  obtain ⟨w', hrun, h2, h3⟩ := Mp.store (t := t) h.1 K ht a ha x
  refine ⟨w', hrun, ⟨h2, ?_⟩, h3⟩
  obtain ⟨es, clock, hb, hd, hr, hc⟩ := h.1
  obtain ⟨es', clock', hb', hbn, hbl⟩ := h.2
  rw [hb] at hb'; cases hb'
  obtain ⟨kl, hkey⟩ := K.reads a ha
  have hkeys : ∀ e ∈ es.toList, ∃ l, keyOf P k e.key = some l := fun e he => by
    obtain ⟨a', y, h1, h2, _⟩ := hr e he
    rw [h1]; exact K.reads a' h2
  rcases K.law.find w hkey es.toList hkeys with ⟨h1, _⟩ | ⟨j, e0, h1, h2', h3'⟩
  · have hr2 : (Instr.mapUpdate t (.map (some b)) (kv a) (vv x)).run P w = .ok () (setBlock w b (.map (es.push ⟨kv a, vv x, clock⟩) (clock + 1))) := by
      simp [Instr.mapUpdate, run_underlying ht, MapKept.run_getObj_map hb, K.law.check w false hkey, h1, MapKept.run_setObj_map _ hb, Result.andThen, setBlock]
    rw [hrun] at hr2
    cases hr2
    refine ⟨_, _, heap_setBlock_same hb _, ?_, ?_⟩
    · rw [Array.toList_push, List.map_append, List.nodup_append]
      refine ⟨hbn, by simp, ?_⟩
      intro x hx y hy
      simp at hy; subst hy
      obtain ⟨e, he, rfl⟩ := List.mem_map.1 hx
      have := hbl e he; omega
    · intro e he
      rw [Array.toList_push, List.mem_append, List.mem_singleton] at he
      rcases he with he | rfl
      · have := hbl e he; omega
      · show clock < clock + 1
        omega
  · have hj : es[j]? = some e0 := by simpa using h2'
    have hst := K.law.stays w hkey
    have hr2 : (Instr.mapUpdate t (.map (some b)) (kv a) (vv x)).run P w = .ok () (setBlock w b (.map (es.modify j (fun e' => { e' with key := kv a, val := vv x })) clock)) := by
      simp [Instr.mapUpdate, run_underlying ht, MapKept.run_getObj_map hb, K.law.check w false hkey, h1, hj, h3', hst, MapKept.run_setObj_map _ hb, Result.andThen, setBlock]
    rw [hrun] at hr2
    cases hr2
    have hlist : (es.modify j (fun e' => { e' with key := kv a, val := vv x })).toList = es.toList.set j { e0 with key := kv a, val := vv x } := by rw [Array.toList_modify, modify_eq_set _ _ _ _ h2']
    have hbm : (es.toList.set j { e0 with key := kv a, val := vv x }).map (·.born) = es.toList.map (·.born) := by
      rw [List.map_set]
      apply List.ext_getElem?
      intro i
      rw [List.getElem?_set]
      split
      · rename_i hi; subst hi
        have hjl : j < es.toList.length := (List.getElem?_eq_some_iff.1 h2').1
        rw [if_pos (by simpa using hjl), List.getElem?_map, h2']
        rfl
      · rfl
    refine ⟨_, _, heap_setBlock_same hb _, by rw [hlist, hbm]; exact hbn, ?_⟩
    intro e he
    have : e.born ∈ (es.toList.set j { e0 with key := kv a, val := vv x }).map (·.born) := by rw [← hlist]; exact List.mem_map_of_mem he
    rw [hbm] at this
    obtain ⟨e', he', hb'⟩ := List.mem_map.1 this
    rw [← hb']; exact hbl e' he'

/-- Block r ranges over the map in block b; ks: the keys that have come. -/
def RgA (kv : α → Value) (ok : α → Prop) (vv : β → Value) (w : World) (b r : Nat) (ks : List α) (f : α → Option β) : Prop :=
  ∃ (es : Array MapEntry) (clock : Nat) (seen : Array Nat) (vis : List MapEntry), w.heap[b]? = some (.map es clock) ∧ w.heap[r]? = some (.mapIter (some b) clock seen clock) ∧ (es.toList.map (·.born)).Nodup ∧ (∀ e ∈ es.toList, e.born < clock) ∧
    es.toList.Pairwise (fun x y => x.key ≠ y.key) ∧ (∀ e ∈ es.toList, ∃ s x, e.key = kv s ∧ ok s ∧ e.val = vv x ∧ f s = some x) ∧ (∀ s x, f s = some x → ∃ e ∈ es.toList, e.key = kv s) ∧
    ks.map kv = vis.map (·.key) ∧ seen.toList = vis.map (·.born) ∧ (∀ e ∈ vis, e ∈ es.toList) ∧ (∀ s ∈ ks, ok s)
/-- How many entries are to come. -/
def rgLe (w : World) (b r : Nat) : Nat := match w.heap[b]?, w.heap[r]? with
  | some (.map es _), some (.mapIter _ _ seen _) => (leftOf es seen).size
  | _, _ => 0
theorem rgLe_eq {w w' : World} {b r : Nat} (hb : w'.heap[b]? = w.heap[b]?) (hr : w'.heap[r]? = w.heap[r]?) : rgLe w' b r = rgLe w b r := by unfold rgLe; rw [hb, hr]
theorem RgA.same {w w' : World} {b r : Nat} {ks : List α} {f : α → Option β} (h : RgA kv ok vv w b r ks f) (hb : w'.heap[b]? = w.heap[b]?) (hr : w'.heap[r]? = w.heap[r]?) : RgA kv ok vv w' b r ks f := by
  obtain ⟨es, clock, seen, vis, h1, h2, h3⟩ := h
  exact ⟨es, clock, seen, vis, hb.trans h1, hr.trans h2, h3⟩
theorem RgA.lt {w : World} {b r : Nat} {ks : List α} {f : α → Option β} (h : RgA kv ok vv w b r ks f) : b < w.heap.size ∧ r < w.heap.size ∧ b ≠ r := by
  obtain ⟨es, clock, seen, vis, h1, h2, h3⟩ := h
  refine ⟨(Array.getElem?_eq_some_iff.1 h1).1, (Array.getElem?_eq_some_iff.1 h2).1, ?_⟩
  rintro rfl
  rw [h1] at h2; cases h2
theorem RgA.iter {w : World} {b r : Nat} {ks : List α} {f : α → Option β} (h : RgA kv ok vv w b r ks f) : ∃ o, w.heap[r]? = some o ∧ o.isCells = false ∧ o.isWalk = true := by
  obtain ⟨es, clock, seen, vis, h1, h2, h3⟩ := h
  exact ⟨_, h2, rfl, rfl⟩
theorem RgA.mapO {w : World} {b r : Nat} {ks : List α} {f : α → Option β} (h : RgA kv ok vv w b r ks f) : ∃ o, w.heap[b]? = some o ∧ o.isCells = false := by
  obtain ⟨es, clock, seen, vis, h1, h2, h3⟩ := h
  exact ⟨_, h1, rfl⟩
theorem RgA.map {w : World} {b r : Nat} {ks : List α} {f : α → Option β} (h : RgA kv ok vv w b r ks f) : Mp kv ok vv w b f := by
  obtain ⟨es, clock, seen, vis, h1, h2, h3, h4, h5, h6, h7, h8⟩ := h
  exact ⟨es, clock, h1, h5, h6, h7⟩
theorem RgA.mapB {w : World} {b r : Nat} {ks : List α} {f : α → Option β} (h : RgA kv ok vv w b r ks f) : MpB kv ok vv w b f := by
  obtain ⟨es, clock, seen, vis, h1, h2, h3, h4, h5, h6, h7, h8⟩ := h
  exact ⟨⟨es, clock, h1, h5, h6, h7⟩, es, clock, h1, h3, h4⟩
/-- The range begins. -/
theorem RgA.start {t e : TypeId} {w : World} {b : Nat} {f : α → Option β} (h : MpB kv ok vv w b f) (ht : P.underlying t = some (.map k e)) :
    ∃ w', (Instr.range t (.map (some b))).run P w = .ok (.pointer (some ⟨w.heap.size, 0, none⟩)) w' ∧ RgA kv ok vv w' b w.heap.size [] f ∧ w'.heap.size = w.heap.size + 1 ∧ w.grownBy w' none := by
  obtain ⟨es, clock, hb, hd, hr, hc⟩ := h.1
  obtain ⟨es', clock', hb', hbn, hbl⟩ := h.2
  rw [hb] at hb'; cases hb'
  refine ⟨_, run_range_map w t k _ b es clock ht hb, ⟨es, clock, #[], [], ?_, heap_alloc_new w _, hbn, hbl, hd, hr, hc, rfl, rfl, by simp, by simp⟩, World.size_alloc _ _, World.grownBy_alloc w _ none⟩
  · rw [Below.heap_alloc w _ b h.lt]; exact hb
theorem setRA_at {w : World} {r : Nat} {o o' : Obj} (h : w.heap[r]? = some o) : (setBlock w r o').heap[r]? = some o' := by
  have := (Array.getElem?_eq_some_iff.1 h).1
  simp [setBlock, this]
theorem setRA_ne {w : World} {r i : Nat} {o' : Obj} (h : i ≠ r) : (setBlock w r o').heap[i]? = w.heap[i]? := by
  have h' : r ≠ i := fun e => h e.symm
  simp [setBlock, Array.getElem?_setIfInBounds, h']
/-- The range's step. -/
theorem RgA.next {w : World} {b r : Nat} {ks : List α} {f : α → Option β} (h : RgA kv ok vv w b r ks f) (hinj : ∀ a a', ok a → ok a' → kv a = kv a' → a = a') (ty : TypeId) :
    ((∀ s y, ok s → f s = some y → s ∈ ks) ∧ (Instr.next (.pointer (some ⟨r, 0, none⟩)) false ty).run P w = .ok (.tuple #[.bool false]) w) ∨
    ∃ x y w', f x = some y ∧ x ∉ ks ∧ ok x ∧ (Instr.next (.pointer (some ⟨r, 0, none⟩)) false ty).run P w = .ok (.tuple #[.bool true, kv x, vv y]) w' ∧ RgA kv ok vv w' b r (ks ++ [x]) f ∧ rgLe w' b r < rgLe w b r ∧
      w.grownBy w' (some r) ∧ w'.heap.size = w.heap.size ∧ (Instr.entry (.pointer (some ⟨r, 0, none⟩))).run P w' = .ok (.tuple #[kv x, vv y]) w' := by
  have hbr := h.lt
  obtain ⟨es, clock, seen, vis, hb, hr, hbn, hbl, hd, hent, hcov, hks, hseen, hvis, hoks⟩ := h
  rcases run_next_at (P := P) w ty r b clock clock seen es clock hr hb hbl (Nat.le_refl _) with ⟨h0, hrun⟩ | ⟨e, he, w1, hw1, hrun⟩
  · refine .inl ⟨fun s y hos hs => ?_, hrun⟩
    obtain ⟨e, he, hk⟩ := hcov s y hs
    have hall := all_seen es seen h0 e he
    have hmem : e.born ∈ seen.toList := by simpa using hall
    rw [hseen] at hmem
    obtain ⟨e', he', hbe⟩ := List.mem_map.1 hmem
    have hee : e' = e := by
      have hi := List.mem_iff_getElem.1 (hvis e' he'); have hj := List.mem_iff_getElem.1 he
      obtain ⟨i, hil, hi⟩ := hi; obtain ⟨j, hjl, hj⟩ := hj
      have hij : i = j := by
        have hp := List.pairwise_iff_getElem.1 (show (es.toList.map (·.born)).Pairwise (· ≠ ·) from hbn)
        rcases Nat.lt_trichotomy i j with hlt | heq | hlt
        · exact absurd (by rw [List.getElem_map, List.getElem_map, hi, hj, hbe]) (hp i j (by simpa using hil) (by simpa using hjl) hlt)
        · exact heq
        · exact absurd (by rw [List.getElem_map, List.getElem_map, hi, hj, hbe]) (hp j i (by simpa using hjl) (by simpa using hil) hlt)
      subst hij
      rw [← hi, ← hj]
    subst hee
    have : kv s ∈ vis.map (·.key) := by rw [← hk]; exact List.mem_map_of_mem he'
    rw [← hks] at this
    obtain ⟨s', hs', e⟩ := List.mem_map.1 this
    have := hinj s' s (hoks s' hs') hos e
    rw [← this]; exact hs'
  · obtain ⟨hes, hns⟩ := mem_left he
    obtain ⟨x, y, k1, k2, k3, k4⟩ := hent e hes
    have hw1h : w1.heap = w.heap := by rcases hw1 with rfl | rfl <;> rfl
    have hr1 : w1.heap[r]? = some (.mapIter (some b) clock seen clock) := by rw [hw1h]; exact hr
    have hb2 : (setBlock w1 r (.mapIter (some b) clock (seen.push e.born) clock)).heap[b]? = some (.map es clock) := by
      rw [setRA_ne (fun e => hbr.2.2 e)]; rw [hw1h]; exact hb
    have hr2 : (setBlock w1 r (.mapIter (some b) clock (seen.push e.born) clock)).heap[r]? = some (.mapIter (some b) clock (seen.push e.born) clock) := setRA_at hr1
    refine .inr ⟨x, y, _, k4, ?_, k2, by rw [k1, k3] at hrun; exact hrun, ⟨es, clock, seen.push e.born, vis ++ [e], hb2, hr2, hbn, hbl, hd, hent, hcov, by simp [hks, k1], by simp [hseen], ?_, ?_⟩, ?_, ?_, ?_, ?_⟩
    · intro hx
      have : kv x ∈ vis.map (·.key) := by rw [← hks]; exact List.mem_map_of_mem hx
      obtain ⟨e', he', hk'⟩ := List.mem_map.1 this
      have hee : e' = e := by
        obtain ⟨i, hil, hi⟩ := List.mem_iff_getElem.1 (hvis e' he'); obtain ⟨j, hjl, hj⟩ := List.mem_iff_getElem.1 hes
        rcases Nat.lt_trichotomy i j with hlt | heq | hlt
        · exact absurd (by rw [hi, hj, hk', k1]) (List.pairwise_iff_getElem.1 hd i j hil hjl hlt)
        · subst heq; rw [← hi, ← hj]
        · exact absurd (by rw [hi, hj, hk', k1]) (List.pairwise_iff_getElem.1 hd j i hjl hil hlt)
      subst hee
      have hc : seen.contains e'.born = true := by
        have : e'.born ∈ seen.toList := by rw [hseen]; exact List.mem_map_of_mem he'
        simpa using this
      rw [hc] at hns; cases hns
    · intro e' he'
      rcases List.mem_append.1 he' with he' | he'
      · exact hvis e' he'
      · rw [List.mem_singleton.1 he']; exact hes
    · intro s hs
      rcases List.mem_append.1 hs with hs | hs
      · exact hoks s hs
      · rw [List.mem_singleton.1 hs]; exact k2
    · unfold rgLe
      rw [hb2, hr2, hb, hr]
      exact left_shrinks es seen e he
    · refine ⟨?_, ?_, ?_, ?_, ?_⟩
      all_goals first
        | (rcases hw1 with rfl | rfl <;> rfl)
        | skip
      · rw [show (setBlock w1 r (.mapIter (some b) clock (seen.push e.born) clock)).heap.size = w1.heap.size by simp [setBlock], hw1h]; exact Nat.le_refl _
      · intro i hi hne
        rw [setRA_ne (fun e => hne (by rw [e])), hw1h]
    · rw [show (setBlock w1 r (.mapIter (some b) clock (seen.push e.born) clock)).heap.size = w1.heap.size by simp [setBlock], hw1h]
    · have := run_entry_at (P := P) (setBlock w1 r (.mapIter (some b) clock (seen.push e.born) clock)) r b clock seen es clock e hr2 hb2 hes hbn
      rw [k1, k3] at this
      exact this
end
end Go.Proofs.YtaclgmhinljkbaaGreatDoor
namespace Go.Proofs.YtaclgmhinljkbaaGreatDoor
open Go Go.RowKit Go.ChangeMaps Go.MapKept Go.Maps

def okW (s : ByteArray) : Prop := s.size ≤ maxLen
theorem keyW : KeyBy Tryz.prog 9 Value.string okW where
  law := Maps.string_keyed Tryz.underlying9
  reads := fun a ha => ⟨.string a.data.toList, by simp [keyOf, mapKey, Tryz.underlying9]; exact ha⟩
  inj := fun a b _ _ h => by simpa using h
/-- All cells stay. -/
def KCl (W W' : World) : Prop := W.heap.size ≤ W'.heap.size ∧ ∀ p v, W.cell? p = some v → W'.cell? p = some v
theorem KCl.refl (W : World) : KCl W W := ⟨Nat.le_refl _, fun _ _ h => h⟩
theorem KCl.trans {a b c : World} (h : KCl a b) (k : KCl b c) : KCl a c := ⟨Nat.le_trans h.1 k.1, fun p v e => k.2 p v (h.2 p v e)⟩
theorem cell_lt {W : World} {p : Addr} {v : Value} (h : W.cell? p = some v) : p.block < W.heap.size := by
  by_cases hb : p.block < W.heap.size
  · exact hb
  · have : W.heap[p.block]? = none := by simp [Array.getElem?_eq_none_iff]; omega
    simp [World.cell?, this] at h
theorem KCl.below {W W' : World} (h : RowKit.Below W.heap.size W W') : KCl W W' := ⟨h.size, fun p v e => (World.cell?_of_block (h.block p.block (cell_lt e))).trans e⟩
theorem KCl.alloc (W : World) (o : Obj) : KCl W (W.alloc o) := ⟨by simp, fun p v e => (World.cell?_of_block (Below.heap_alloc W o p.block (cell_lt e))).trans e⟩
theorem KCl.drew {W : World} : KCl W W.drew := ⟨Nat.le_refl _, fun _ _ h => h⟩
theorem KCl.turn {W W' : World} {b : Nat} (h : W.mapTurned W' b) : KCl W W' := by
  refine ⟨h.grown.size, fun p v e => ?_⟩
  obtain ⟨es, clock, es', clock', hb, rfl⟩ := h
  by_cases e1 : p.block = b
  · simp [World.cell?, e1, hb] at e
  · exact (World.cell?_of_block (ChangeMaps.heap_setBlock_other hb _ e1)).trans e
theorem KCl.grown {W W' : World} {r : Nat} {o : Obj} (h : W.grownBy W' (some r)) (hr : W.heap[r]? = some o) (ho : o.isCells = false) : KCl W W' := by
  refine ⟨h.size, fun p v e => ?_⟩
  by_cases e1 : p.block = r
  · cases o <;> simp [World.cell?, e1, hr] at e <;> simp [Obj.isCells] at ho
  · exact (World.cell?_of_block (h.block p.block (cell_lt e) (fun e2 => e1 (Option.some.inj e2)))).trans e
theorem KCl.grown0 {W W' : World} (h : W.grownBy W' none) : KCl W W' :=
  ⟨h.size, fun p v e => (World.cell?_of_block (h.block p.block (cell_lt e) (fun e2 => by cases e2))).trans e⟩
theorem Sl.kcl {α : Type} {W W' : World} {enc : α → Value} {p : Option Addr} {l : List α} (h : Sl W enc p l) (k : KCl W W') : Sl W' enc p l := by
  rcases h with h | ⟨b', off, hp, hb, hc⟩
  · exact .inl h
  · exact .inr ⟨b', off, hp, Nat.lt_of_lt_of_le hb k.1, fun i hi => k.2 _ _ (hc i hi)⟩
abbrev LV := Option Addr × Nat × Nat
def vvL (x : LV) : Value := .slice x.1 x.2.1 x.2.2
def LAt (G : Gr) (W : World) (u : ByteArray) (x : LV) : Prop := x.2.1 = (enA G u).length ∧ Sl W (Value.int .i64) x.1 (enA G u)
/-- A map of words to their ends. -/
def LMp (G : Gr) (D : ByteArray → Prop) (W : World) (b : Nat) : Prop :=
  ∃ f : ByteArray → Option LV, MpB Value.string okW vvL W b f ∧ (∀ u x, f u = some x → D u ∧ LAt G W u x) ∧ ∀ u, D u → ∃ x, f u = some x
section
variable {G : Gr} {D D' : ByteArray → Prop} {W W' : World} {b : Nat}
theorem LMp.lt (h : LMp G D W b) : b < W.heap.size := by
  obtain ⟨f, h1, _⟩ := h
  exact h1.lt
theorem LMp.keep (h : LMp G D W b) (hb : W'.heap[b]? = W.heap[b]?) (hk : KCl W W') : LMp G D W' b := by
  obtain ⟨f, h1, h2, h3⟩ := h
  exact ⟨f, h1.same hb, fun u x e => ⟨(h2 u x e).1, (h2 u x e).2.1, (h2 u x e).2.2.kcl hk⟩, h3⟩
theorem LMp.below (h : LMp G D W b) (hB : RowKit.Below W.heap.size W W') : LMp G D W' b := h.keep (hB.block b h.lt) (KCl.below hB)
theorem LMp.alloc (h : LMp G D W b) (o : Obj) : LMp G D (W.alloc o) b := h.keep (Below.heap_alloc W o b h.lt) (KCl.alloc W o)
theorem LMp.congr (h : LMp G D W b) (e : ∀ u, D u ↔ D' u) : LMp G D' W b := by
  obtain ⟨f, h1, h2, h3⟩ := h
  exact ⟨f, h1, fun u x ex => ⟨(e u).1 (h2 u x ex).1, (h2 u x ex).2⟩, fun u hu => h3 u ((e u).2 hu)⟩
theorem LMp.made (G : Gr) (W : World) : LMp G (fun _ => False) (W.alloc (.map #[] 0)) W.heap.size :=
  ⟨_, MpB.made W, (fun _ _ e => nomatch e), (fun _ e => False.elim e)⟩
theorem LMp.put (h : LMp G D W b) {u : ByteArray} {p : Option Addr} (c : Nat) (hu : okW u) (hs : Sl W (Value.int .i64) p (enA G u)) :
    ∃ W', (Instr.mapUpdate 82 (.map (some b)) (.string u) (.slice p (enA G u).length c)).run Tryz.prog W = .ok () W' ∧ LMp G (fun v => v = u ∨ D v) W' b ∧ W.mapTurned W' b := by
  obtain ⟨f, h1, h2, h3⟩ := h
  obtain ⟨W', hrun, hM, hT⟩ := MpB.store (t := 82) h1 keyW Tryz.underlying82 u hu (p, (enA G u).length, c)
  have hk := KCl.turn hT
  refine ⟨W', hrun, ⟨_, hM, fun v x e => ?_, fun v hv => ?_⟩, hT⟩
  · unfold mset at e
    split at e
    · next hv => subst hv; cases e; exact ⟨.inl rfl, rfl, hs.kcl hk⟩
    · exact ⟨.inr (h2 v x e).1, (h2 v x e).2.1, (h2 v x e).2.2.kcl hk⟩
  · unfold mset
    split
    · exact ⟨_, rfl⟩
    · next hn => rcases hv with e | e
                 · exact absurd e hn
                 · exact h3 v e
theorem nodup_le2 : ∀ {xs l : List ByteArray}, xs.Nodup → (∀ x ∈ xs, x ∈ l) → xs.length ≤ l.length
  | [], _, _, _ => by simp
  | x :: xs, l, hn, hs => by
    have hn' := List.nodup_cons.1 hn
    have hx := hs x (by simp)
    have ih := nodup_le2 (xs := xs) (l := l.filter (fun y => !decide (y = x))) hn'.2 (fun y hy => List.mem_filter.2 ⟨hs y (by simp [hy]), by
      have : y ≠ x := fun e => hn'.1 (by rw [← e]; exact hy)
      simp [this]⟩)
    have h2 : (l.filter (fun y => !decide (y = x))).length < l.length := List.length_filter_lt_length_iff_exists.2 ⟨x, hx, by simp⟩
    simp only [List.length_cons]
    omega
def keyU : Value → ByteArray
  | .string u => u
  | _ => ⟨#[]⟩
theorem LMp.size (h : LMp G D W b) (l : List ByteArray) (hD : ∀ u, D u → u ∈ l) : ∃ es clock, W.heap[b]? = some (.map es clock) ∧ es.size ≤ l.length ∧ (es.size = 0 ↔ ∀ u, ¬ D u) := by
  obtain ⟨f, ⟨⟨es, clock, h1, h2, h3, h4⟩, _⟩, h5, h6⟩ := h
  refine ⟨es, clock, h1, ?_, ?_⟩
  · have hk : ∀ e ∈ es.toList, e.key = .string (keyU e.key) ∧ keyU e.key ∈ l := fun e he => by
      obtain ⟨a, x, e1, _, _, e2⟩ := h3 e he
      rw [e1]; exact ⟨rfl, hD a (h5 a x e2).1⟩
    have := nodup_le2 (xs := es.toList.map (fun e => keyU e.key)) (l := l) (by
      rw [List.nodup_iff_pairwise_ne, List.pairwise_map]
      exact List.Pairwise.imp_of_mem (fun {x y} hx hy hne e => hne (by rw [(hk x hx).1, (hk y hy).1, e])) h2) (fun x hx => by
      obtain ⟨e, he, rfl⟩ := List.mem_map.1 hx
      exact (hk e he).2)
    simpa using this
  · constructor
    · intro h0 u hu
      obtain ⟨x, hx⟩ := h6 u hu
      obtain ⟨e, he, _⟩ := h4 u x hx
      have : es.toList.length = 0 := by simpa using h0
      rw [List.eq_nil_of_length_eq_zero this] at he
      cases he
    · intro hn
      rcases Nat.eq_zero_or_pos es.size with h0 | h0
      · exact h0
      · have he : es.toList[0]'(by simpa using h0) ∈ es.toList := List.getElem_mem _
        obtain ⟨a, x, e1, _, _, e2⟩ := h3 _ he
        exact absurd (h5 a x e2).1 (hn a)
end
/-! ### The letters -/
def ltC (a : Nat) : UInt8 := ltB.data.toList.getD a 0
theorem ltC_dig : ∀ a : Nat, a < 16 → Chg.dig ((ltC a).toNat : Int) = (a : Int) := by decide +kernel
theorem ltC_enc : ∀ a : Nat, a < 16 → Utf8.encode ((ltC a).toNat : Int) = ltB.extract a (a + 1) := by decide +kernel
theorem ltC_at (a : Nat) (h : a < 16) : ltB[a]'(by rw [show ltB.size = 16 from rfl]; exact h) = ltC a := by
  unfold ltC
  rw [List.getD_eq_getElem?_getD, List.getElem?_eq_getElem (by rw [show ltB.data.toList.length = 16 from rfl]; exact h)]
  rfl
theorem run_ltC (a : Nat) (h : a < 16) (W : World) : (Instr.index 9 (.string ⟨#[48, 49, 50, 51, 52, 53, 54, 55, 56, 57, 97, 98, 99, 100, 101, 102]⟩) (.int .i64 (a : Int))).run Tryz.prog W = .ok (.int .u8 ((ltC a).toNat : Int)) W := by
  rw [run_index_string W 9 _ .i64 a Tryz.underlying9]
  have hs : (⟨#[48, 49, 50, 51, 52, 53, 54, 55, 56, 57, 97, 98, 99, 100, 101, 102]⟩ : ByteArray).size = 16 := rfl
  rw [dif_pos (by rw [hs]; omega)]
  have := ltC_at a h
  rw [← this]
  simp only [Int.toNat_natCast]
  rfl
end Go.Proofs.YtaclgmhinljkbaaGreatDoor
