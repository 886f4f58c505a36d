/-
  Plain laws on graphs: turned around, parts of parts, sets of states. Nothing here speaks of a program.
-/
import Derived.Test.YtlgjhmenjfmpfaaGv
import Derived.Test.YtlgjhmenjfmpfaaGz
import Derived.Test.YtlgjhmenjfmpfaaGi
import Derived.Test.YtlgjhmenjfmpfaaGt
import Derived.Test.YtlgjhmenjfmpfaaHp
namespace Go.Proofs.Ytlgjhmenjfmpfaa
open Go.RowKit

/-! ### Graphs turned around -/
theorem norm_le (l : List Ed) : (norm l).length ≤ l.length := by
  rw [← norm_sort]; exact Nat.le_trans (compact_len _) (by simp)
theorem mem_rv {es : List Ed} {x : Ed} : x ∈ es.map rvE ↔ rvE x ∈ es := by
  rw [List.mem_map]
  constructor
  · rintro ⟨y, hy, rfl⟩; exact hy
  · intro h; exact ⟨rvE x, h, rfl⟩
theorem vg_make {q n : Int} {l : List Ed} (h1 : 1 ≤ q) (h2 : q ≤ 256) (h3 : 0 ≤ n) (h4 : n ≤ 64) (hl : l.length ≤ 1024) (hi : ∀ x ∈ l, 0 ≤ x.f ∧ 0 ≤ x.l ∧ 0 ≤ x.t ∧ x.f < n ∧ x.t < n ∧ x.l < q) : Vg ⟨q, n, norm l⟩ :=
  ⟨h1, h2, h3, h4, Nat.le_trans (norm_le l) hl, fun x hx => hi x (mem_norm.1 hx), norm_srt l⟩
theorem vg_rev {G : Gr} (h : Vg G) : Vg ⟨G.q, G.n, norm (G.es.map rvE)⟩ :=
  vg_make h.q1 h.q2 h.n1 h.n2 (by rw [List.length_map]; exact h.len) (fun x hx => by have := h.ins _ (mem_rv.1 hx); simp only [rvE] at this; omega)
theorem revA_ok {G : Gr} (h : Vg G) : revA G = (⟨G.q, G.n, norm (G.es.map rvE)⟩, 0) := by
  unfold revA; rw [if_pos (chkG_ok.2 h)]; exact makeA_ok (chkG_ok.2 (vg_rev h))
theorem rev_rev {G : Gr} (h : Vg G) : revA ⟨G.q, G.n, norm (G.es.map rvE)⟩ = (G, 0) := by
  rw [revA_ok (vg_rev h)]
  have : norm ((norm (G.es.map rvE)).map rvE) = G.es := (norm_eq h.srt (fun x => by rw [mem_rv, mem_norm, mem_rv]; exact Iff.rfl)).symm
  show ((⟨G.q, G.n, norm ((norm (G.es.map rvE)).map rvE)⟩ : Gr), (0:Int)) = _
  rw [this]
theorem rev_step {G : Gr} (h : Vg G) (s t b : Int) : (t ∈ nextA G [s] b ↔ s ∈ nextA ⟨G.q, G.n, norm (G.es.map rvE)⟩ [t] b) := by
  rw [mem_nextA h, mem_nextA (vg_rev h)]
  constructor
  · rintro ⟨x, hx, h1, h2, h3⟩
    rw [List.mem_singleton] at h3
    exact ⟨rvE x, mem_norm.2 (mem_rv.2 hx), h3, h2, by simp [rvE, h1]⟩
  · rintro ⟨x, hx, h1, h2, h3⟩
    rw [List.mem_singleton] at h3
    exact ⟨rvE x, mem_rv.1 (mem_norm.1 hx), h3, h2, by simp [rvE, h1]⟩

/-! ### Sets of states -/
theorem chkS_of {n : Int} : ∀ {l : List Int} {p : Option Int}, l.Pairwise (· < ·) → (∀ x ∈ l, 0 ≤ x ∧ x < n) → (∀ q, p = some q → ∀ x ∈ l, q < x) → chkS n p l = 0
  | [], _, _, _, _ => rfl
  | s :: l, p, h1, h2, h3 => by
    obtain ⟨a, b⟩ := List.pairwise_cons.1 h1
    have hp : ¬ leP p s = true := by
      cases p with
      | none => simp [leP]
      | some q => have := h3 q rfl s List.mem_cons_self; simp [leP]; omega
    rw [chkS_cons, if_neg (by have := h2 s List.mem_cons_self; omega), if_neg hp]
    exact chkS_of b (fun x hx => h2 x (List.mem_cons_of_mem _ hx)) (fun q hq x hx => by cases hq; exact a x hx)
theorem stepA_one {G : Gr} (h : Vg G) {s b : Int} (h1 : 0 ≤ s) (h2 : s < G.n) (h3 : 0 ≤ b) (h4 : b < G.q) : stepA G [s] b = (nextA G [s] b, 0) := by
  unfold stepA
  rw [if_pos (chkG_ok.2 h), if_pos (chkS_of (by simp) (by simp [h1, h2]) (by simp)), if_neg (by omega)]
/-- A set of states. -/
structure St (n : Int) (l : List Int) : Prop where
  srt : l.Pairwise (· < ·)
  ins : ∀ x ∈ l, 0 ≤ x ∧ x < n
theorem St.chk {n : Int} {l : List Int} (h : St n l) : chkS n none l = 0 := chkS_of h.srt h.ins (by simp)
theorem St.eq {n : Int} {l : List Int} (h : St n l) : l = (upto n.toNat).filter (fun x => decide (x ∈ l)) :=
  srt_unique h.srt ((upto_srt _).filter _) (fun x => by
    rw [List.mem_filter, mem_upto, decide_eq_true_eq]
    exact ⟨fun hx => ⟨by have := h.ins x hx; omega, hx⟩, fun hx => hx.2⟩)
theorem St.len {n : Int} {l : List Int} (h : St n l) (hn : 0 ≤ n) : (l.length : Int) ≤ n := by
  have := List.length_filter_le (fun x => decide (x ∈ l)) (upto n.toNat)
  rw [← h.eq, upto_len] at this
  omega
theorem St.upto {n : Int} (hn : 0 ≤ n) : St n (upto n.toNat) := ⟨upto_srt _, fun x hx => by rw [mem_upto] at hx; omega⟩
theorem St.filter {n : Int} {l : List Int} (h : St n l) (p : Int → Bool) : St n (l.filter p) := ⟨h.srt.filter _, fun x hx => h.ins x (List.mem_filter.1 hx).1⟩
theorem iof_lt {x : Int} {l : List Int} (h : x ∈ l) : l.idxOf x < l.length := List.idxOf_lt_length_iff.2 h
theorem iof_get {x : Int} {l : List Int} (h : x ∈ l) : l[l.idxOf x]'(iof_lt h) = x := List.getElem_idxOf (iof_lt h)
theorem iof_mono {x y : Int} {l : List Int} (hs : l.Pairwise (· < ·)) (hx : x ∈ l) (hy : y ∈ l) (h : x < y) : l.idxOf x < l.idxOf y := by
  rcases Nat.lt_or_ge (l.idxOf x) (l.idxOf y) with h' | h'
  · exact h'
  · have ex := iof_get hx; have ey := iof_get hy
    by_cases e : l.idxOf y = l.idxOf x
    · have : y = x := by rw [← ex, ← ey]; congr 1
      omega
    · have := List.pairwise_iff_getElem.1 hs _ _ (iof_lt hy) (iof_lt hx) (by omega)
      rw [ex, ey] at this; omega
theorem iof_inj {x y : Int} {l : List Int} (hx : x ∈ l) (hy : y ∈ l) (h : l.idxOf x = l.idxOf y) : x = y := by
  rw [← iof_get hx, ← iof_get hy]; congr 1
theorem upto_get {n i : Nat} (h : i < (upto n).length) : (upto n)[i] = (i : Int) := by simp [Go.Proofs.Ytlgjhmenjfmpfaa.upto]
theorem iof_upto {n : Nat} {x : Int} (h0 : 0 ≤ x) (h1 : x < n) : (((upto n).idxOf x : Nat) : Int) = x := by
  have hm : x ∈ upto n := mem_upto.2 ⟨h0, h1⟩
  have e := iof_get hm
  have hl := iof_lt hm
  have e2 := upto_get hl
  omega

/-! ### Parts -/
theorem fm_congr {f g : Ed → Option Ed} : ∀ {l : List Ed}, (∀ x ∈ l, f x = g x) → l.filterMap f = l.filterMap g
  | [], _ => rfl
  | x :: l, h => by
    rw [List.filterMap_cons, List.filterMap_cons, h x List.mem_cons_self, fm_congr (fun y hy => h y (List.mem_cons_of_mem _ hy))]
theorem partE_some {st : List Int} {x y : Ed} (h : partE st x = some y) : x.f ∈ st ∧ x.t ∈ st ∧ y = ⟨((st.idxOf x.f : Nat) : Int), x.l, ((st.idxOf x.t : Nat) : Int)⟩ := by
  unfold partE at h
  split at h
  · rename_i hh; cases h; exact ⟨hh.1, hh.2, rfl⟩
  · cases h
theorem part_vg {G : Gr} (h : Vg G) {st : List Int} (hs : St G.n st) : Vg (partA G st) := by
  have hl := hs.len h.n1
  have h2 := h.n2
  refine ⟨h.q1, h.q2, by show (0:Int) ≤ (st.length : Int); omega, by show (st.length : Int) ≤ 64; omega, Nat.le_trans (partE_len _ _) h.len, fun y hy => ?_, ?_⟩
  · obtain ⟨x, hx, e⟩ := List.mem_filterMap.1 hy
    obtain ⟨a, b, rfl⟩ := partE_some e
    have := h.ins x hx
    have := iof_lt a; have := iof_lt b
    show (0:Int) ≤ ((st.idxOf x.f : Nat) : Int) ∧ 0 ≤ x.l ∧ (0:Int) ≤ ((st.idxOf x.t : Nat) : Int) ∧ ((st.idxOf x.f : Nat) : Int) < (st.length : Int) ∧ ((st.idxOf x.t : Nat) : Int) < (st.length : Int) ∧ x.l < G.q
    omega
  · refine h.srt.filterMap _ (fun x x' hlt y hy y' hy' => ?_)
    obtain ⟨a, b, rfl⟩ := partE_some hy
    obtain ⟨a', b', rfl⟩ := partE_some hy'
    rw [ltE_iff] at hlt ⊢
    show ((st.idxOf x.f : Nat) : Int) < ((st.idxOf x'.f : Nat) : Int) ∨ (((st.idxOf x.f : Nat) : Int) = ((st.idxOf x'.f : Nat) : Int) ∧ (x.l < x'.l ∨ (x.l = x'.l ∧ ((st.idxOf x.t : Nat) : Int) < ((st.idxOf x'.t : Nat) : Int))))
    rcases hlt with h1 | ⟨h1, h2 | ⟨h2, h3⟩⟩
    · have := iof_mono hs.srt a a' h1; omega
    · rw [h1]; exact .inr ⟨rfl, .inl h2⟩
    · have := iof_mono hs.srt b b' h3
      rw [h1]; exact .inr ⟨rfl, .inr ⟨h2, by omega⟩⟩
theorem part_all {G : Gr} (h : Vg G) : partA G (upto G.n.toNat) = G := by
  have h1 := h.n1
  have : G.es.filterMap (partE (upto G.n.toNat)) = G.es := by
    have hc : ∀ x ∈ G.es, partE (upto G.n.toNat) x = some x := fun x hx => by
      have := h.ins x hx
      unfold partE
      rw [if_pos ⟨mem_upto.2 (by omega), mem_upto.2 (by omega)⟩, iof_upto (by omega) (by omega), iof_upto (by omega) (by omega)]
    rw [fm_congr hc]; simp
  unfold partA
  rw [this, upto_len]
  cases G; simp at h1 ⊢; omega
theorem iof_map {f : Int → Int} {i : Int} : ∀ {l : List Int}, (∀ j ∈ l, f j = f i → j = i) → (l.map f).idxOf (f i) = l.idxOf i
  | [], _ => rfl
  | y :: l, h => by
    rw [List.map_cons, List.idxOf_cons, List.idxOf_cons, iof_map (fun j hj => h j (List.mem_cons_of_mem _ hj))]
    by_cases e : y = i
    · subst e; simp
    · have : f y ≠ f i := fun e' => e (h y List.mem_cons_self e')
      rw [show (f y == f i) = false by simpa using this, show (y == i) = false by simpa using e]
/-- The states that numbers of states of a part stand for. -/
def bothA (st inner : List Int) : List Int := inner.map (fun i => st.getD i.toNat 0)
theorem both_get {st : List Int} {i : Int} (h0 : 0 ≤ i) (h1 : i < st.length) : st.getD i.toNat 0 = st[i.toNat]'(by omega) := by
  rw [List.getD_eq_getElem?_getD, List.getElem?_eq_getElem (by omega)]; rfl
theorem both_iff {st inner : List Int} (hs : st.Pairwise (· < ·)) (hi : ∀ i ∈ inner, 0 ≤ i ∧ i < st.length) (x : Int) : x ∈ bothA st inner ↔ x ∈ st ∧ ((st.idxOf x : Nat) : Int) ∈ inner := by
  unfold bothA
  rw [List.mem_map]
  constructor
  · rintro ⟨i, hm, rfl⟩
    obtain ⟨h0, h1⟩ := hi i hm
    rw [both_get h0 h1]
    have hmem : st[i.toNat]'(by omega) ∈ st := List.getElem_mem _
    refine ⟨hmem, ?_⟩
    have e := iof_get hmem
    have hl := iof_lt hmem
    have : st.idxOf (st[i.toNat]'(by omega)) = i.toNat := by
      rcases Nat.lt_trichotomy (st.idxOf (st[i.toNat]'(by omega))) i.toNat with h | h | h
      · have := List.pairwise_iff_getElem.1 hs _ _ hl (by omega) h; omega
      · exact h
      · have := List.pairwise_iff_getElem.1 hs _ _ (by omega) hl h; omega
    rw [this, Int.toNat_of_nonneg h0]; exact hm
  · rintro ⟨hm, hx⟩
    refine ⟨_, hx, ?_⟩
    rw [both_get (by omega) (by have := iof_lt hm; omega)]
    simp
theorem both_idx {st inner : List Int} (hs : st.Pairwise (· < ·)) (hi : ∀ i ∈ inner, 0 ≤ i ∧ i < st.length) {x : Int} (hx : x ∈ st) : (bothA st inner).idxOf x = inner.idxOf ((st.idxOf x : Nat) : Int) := by
  have hl := iof_lt hx
  have e : st.getD ((st.idxOf x : Nat) : Int).toNat 0 = x := by
    rw [both_get (by omega) (by omega)]; simp
  have := @iof_map (fun i => st.getD i.toNat 0) ((st.idxOf x : Nat) : Int) inner (fun j hj h => by
    obtain ⟨h0, h1⟩ := hi j hj
    rw [e, both_get h0 h1] at h
    rcases Int.lt_trichotomy j ((st.idxOf x : Nat) : Int) with h' | h' | h'
    · have := List.pairwise_iff_getElem.1 hs j.toNat (st.idxOf x) (by omega) hl (by omega)
      rw [h, iof_get hx] at this; omega
    · exact h'
    · have := List.pairwise_iff_getElem.1 hs (st.idxOf x) j.toNat hl (by omega) (by omega)
      rw [h, iof_get hx] at this; omega)
  simp only [e] at this
  exact this
theorem both_st {n : Int} {st inner : List Int} (hs : St n st) (hi : St st.length inner) : St n (bothA st inner) := by
  refine ⟨?_, fun x hx => hs.ins x ((both_iff hs.srt hi.ins x).1 hx).1⟩
  unfold bothA
  rw [List.pairwise_map]
  refine List.Pairwise.imp_of_mem (fun {a b} ha hb h => ?_) hi.srt
  obtain ⟨a0, a1⟩ := hi.ins a ha
  obtain ⟨b0, b1⟩ := hi.ins b hb
  rw [both_get a0 a1, both_get b0 b1]
  exact List.pairwise_iff_getElem.1 hs.srt _ _ (by omega) (by omega) (by omega)
theorem part_part {G : Gr} {st inner : List Int} (hs : St G.n st) (hi : St st.length inner) : partA (partA G st) inner = partA G (bothA st inner) := by
  unfold partA
  have hb := hi.ins
  simp only [Gr.mk.injEq, true_and]
  refine ⟨by simp [bothA], ?_⟩
  rw [List.filterMap_filterMap]
  refine fm_congr (fun x _ => ?_)
  by_cases h : x.f ∈ st ∧ x.t ∈ st
  · rw [part_go h]
    show partE inner _ = _
    unfold partE
    simp only [both_iff hs.srt hb, both_idx hs.srt hb h.1, both_idx hs.srt hb h.2, h.1, h.2, true_and]
  · rw [part_stop h, part_stop (fun h' => h ⟨((both_iff hs.srt hb _).1 h'.1).1, ((both_iff hs.srt hb _).1 h'.2).1⟩)]
    rfl
theorem keepA_ok {G : Gr} (h : Vg G) {st : List Int} (hs : St G.n st) : keepA G st = (partA G st, 0) := by
  unfold keepA; rw [if_pos (chkG_ok.2 h), if_pos hs.chk]

/-! ### Deterministic graphs -/
def Uq (l : List Ed) : Prop := l.Pairwise (fun a b => ¬ (a.f = b.f ∧ a.l = b.l))
theorem uq_of_det : ∀ {l : List Ed}, l.Pairwise (fun a b => ltE a b = true) → detB l = true → Uq l
  | [], _, _ => List.Pairwise.nil
  | [_], _, _ => by simp [Uq]
  | x :: y :: l, h, hd => by
    obtain ⟨h1, h2⟩ := List.pairwise_cons.1 h
    have hd1 : ¬ (x.f = y.f ∧ x.l = y.l) := fun e => by
      have := detB_f (l := x :: y :: l) 0 (by simp) (by simpa using e.1) (by simpa using e.2)
      rw [hd] at this; cases this
    have hd2 : detB (y :: l) = true := by
      cases hc : detB (y :: l)
      · exfalso
        have : detB (x :: y :: l) = true → detB (y :: l) = true := fun h => by
          unfold detB at h
          first
          | exact (Bool.and_eq_true_iff.1 h).2
          | (split at h <;> simp_all)
        rw [this hd] at hc; cases hc
      · rfl
    have ih := uq_of_det h2 hd2
    refine List.pairwise_cons.2 ⟨fun z hz => ?_, ih⟩
    rcases List.mem_cons.1 hz with e | hz
    · subst e; exact hd1
    · have a := ltE_iff.1 (h1 y List.mem_cons_self)
      have b := ltE_iff.1 ((List.pairwise_cons.1 h2).1 z hz)
      omega
theorem det_of_uq {l : List Ed} (h : Uq l) : detB l = true :=
  detB_t (fun k hk => List.pairwise_iff_getElem.1 h k (k + 1) (by omega) hk (by omega))
theorem det_part {G : Gr} (h : Vg G) {st : List Int} (hd : detB G.es = true) : detB (partA G st).es = true := by
  refine det_of_uq ((uq_of_det h.srt hd).filterMap _ (fun x x' hne y hy y' hy' e => ?_))
  obtain ⟨a, b, rfl⟩ := partE_some hy
  obtain ⟨a', b', rfl⟩ := partE_some hy'
  exact hne ⟨iof_inj a a' (by have := e.1; simp only at this; omega), e.2⟩
theorem two_of_mem {l : List Int} {x y : Int} (hx : x ∈ l) (hy : y ∈ l) (h : x ≠ y) : 2 ≤ l.length := by
  match l, hx, hy with
  | [z], hx, hy => simp at hx hy; omega
  | _ :: _ :: _, _, _ => simp
theorem step_one {G : Gr} (h : Vg G) (hd : detB G.es = true) (s b : Int) : (nextA G [s] b).length < 2 := by
  have hu := uq_of_det h.srt hd
  rcases Nat.lt_or_ge (nextA G [s] b).length 2 with h' | h'
  · exact h'
  · exfalso
    have hm0 := List.getElem_mem (l := nextA G [s] b) (n := 0) (by omega)
    have hm1 := List.getElem_mem (l := nextA G [s] b) (n := 1) (by omega)
    have hlt := List.pairwise_iff_getElem.1 (nextA_srt G [s] b) 0 1 (by omega) (by omega) (by omega)
    obtain ⟨x, hx, e1, e2, e3⟩ := (mem_nextA h).1 hm0
    obtain ⟨y, hy, f1, f2, f3⟩ := (mem_nextA h).1 hm1
    rw [List.mem_singleton] at e3 f3
    obtain ⟨i, hi, rfl⟩ := List.mem_iff_getElem.1 hx
    obtain ⟨j, hj, rfl⟩ := List.mem_iff_getElem.1 hy
    rcases Nat.lt_trichotomy i j with hij | hij | hij
    · exact List.pairwise_iff_getElem.1 hu i j hi hj hij ⟨by omega, by omega⟩
    · subst hij; omega
    · exact List.pairwise_iff_getElem.1 hu j i hj hi hij ⟨by omega, by omega⟩
theorem det_of_steps {G : Gr} (h : Vg G) (hs : ∀ s b : Int, 0 ≤ s → s < G.n → 0 ≤ b → b < G.q → (nextA G [s] b).length < 2) : detB G.es = true := by
  refine detB_t (fun k hk e => ?_)
  have hx := List.getElem_mem (l := G.es) (n := k) (by omega)
  have hy := List.getElem_mem (l := G.es) (n := k + 1) hk
  have ix := h.ins _ hx
  have lt := ltE_iff.1 (List.pairwise_iff_getElem.1 h.srt k (k + 1) (by omega) hk (by omega))
  have := hs G.es[k].f G.es[k].l (by omega) (by omega) (by omega) (by omega)
  have h1 : G.es[k].t ∈ nextA G [G.es[k].f] G.es[k].l := (mem_nextA h).2 ⟨_, hx, rfl, rfl, by simp⟩
  have h2 : G.es[k + 1].t ∈ nextA G [G.es[k].f] G.es[k].l := (mem_nextA h).2 ⟨_, hy, rfl, e.2.symm, by simp [e.1]⟩
  have := two_of_mem h1 h2 (by omega)
  omega
end Go.Proofs.Ytlgjhmenjfmpfaa
