/-
  Words, plain lemmas and walks, merged: Ic, Im.
-/
import Derived.Test.YtocbhlohcikapaaGreatDoorZql
import Derived.Test.YtocbhlohcikapaaGreatDoorZqp
import Derived.Test.YtocbhlohcikapaaGreatDoorZqm
import Derived.Test.YtocbhlohcikapaaGreatDoorZqo
import Derived.Test.YtocbhlohcikapaaGreatDoorZqi
set_option linter.unusedVariables false
set_option linter.unusedSimpArgs false
namespace Go.Proofs.YtocbhlohcikapaaGreatDoor
open Go.RowKit

/-! ### The order in which the states are found -/
def ord1 (es : List Ed) (s : Int) (o : List Int) (a : Nat) : List Int := if tgt es s (a : Int) ≠ -1 ∧ tgt es s (a : Int) ∉ o then o ++ [tgt es s (a : Int)] else o
def ordT (es : List Ed) (s : Int) (o : List Int) : Nat → List Int
  | 0 => o
  | L + 1 => ord1 es s (ordT es s o L) L
def ordGo (es : List Ed) (L : Nat) : Nat → Nat → List Int → List Int
  | 0, _, o => o
  | f + 1, i, o => match o[i]? with
    | none => o
    | some s => ordGo es L f (i + 1) (ordT es s o L)
def ordA (G : Gr) : List Int := ordGo G.es G.q.toNat (G.n.toNat + 1) 0 [0]
def renE (o : List Int) (x : Ed) : Ed := ⟨((o.idxOf x.f : Nat) : Int), x.l, ((o.idxOf x.t : Nat) : Int)⟩
def renG (G : Gr) : Gr := ⟨G.q, G.n, norm (G.es.map (renE (ordA G)))⟩
/-- The cover, where it is known that there is one. -/
def cov4 (M : Gr) : Gr := match sinksA M with
  | [] => ⟨0, 0, []⟩
  | l :: _ => renG (partA M l)
def covA (G : Gr) : Gr × Int :=
  if chkG G ≠ 0 then (⟨0, 0, []⟩, 1) else if irrA G = false then (⟨0, 0, []⟩, 8)
  else if (sbA G).2.2 ≠ 0 then (⟨0, 0, []⟩, (sbA G).2.2) else (cov4 (mgG (sbA G).1), 0)

theorem ordT_succ (es : List Ed) (s : Int) (o : List Int) (L : Nat) : ordT es s o (L + 1) = ord1 es s (ordT es s o L) L := rfl
theorem ord1_old {es : List Ed} {s : Int} {o : List Int} {a : Nat} (h : tgt es s (a : Int) = -1 ∨ tgt es s (a : Int) ∈ o) : ord1 es s o a = o := if_neg (fun k => h.elim k.1 k.2)
theorem ord1_new {es : List Ed} {s : Int} {o : List Int} {a : Nat} (h : tgt es s (a : Int) ≠ -1) (k : tgt es s (a : Int) ∉ o) : ord1 es s o a = o ++ [tgt es s (a : Int)] := if_pos ⟨h, k⟩
theorem nd_le2 : ∀ {l m : List Int}, l.Nodup → (∀ x ∈ l, x ∈ m) → l.length ≤ m.length
  | [], _, _, _ => Nat.zero_le _
  | x :: l, m, hn, hs => by
    rw [List.nodup_cons] at hn
    have hx : x ∈ m := hs x (by simp)
    have h := nd_le2 (l := l) (m := m.erase x) hn.2 (fun y hy => (List.mem_erase_of_ne (fun e => hn.1 (by rw [← e]; exact hy))).2 (hs y (by simp [hy])))
    have h2 := List.length_erase_of_mem hx
    have h3 := List.length_pos_of_mem hx
    rw [List.length_cons]; omega
/-- What is found: states, each once; those of the first numbers are followed up. -/
structure Ord (G : Gr) (i : Nat) (o : List Int) : Prop where
  nd : o.Nodup
  bd : ∀ x ∈ o, 0 ≤ x ∧ x < G.n
  zero : (0 : Int) ∈ o
  le : i ≤ o.length
  cls : ∀ j (h : j < o.length), j < i → ∀ a : Nat, a < G.q.toNat → tgt G.es o[j] a = -1 ∨ tgt G.es o[j] a ∈ o
theorem Ord.len {G : Gr} {i : Nat} {o : List Int} (h : Ord G i o) : o.length ≤ G.n.toNat := by
  have := nd_le2 (m := upto G.n.toNat) h.nd (fun x hx => mem_upto.2 (by have := h.bd x hx; omega))
  rwa [upto_len] at this
theorem ord1_app (es : List Ed) (s : Int) (o : List Int) (a : Nat) : ∃ r, ord1 es s o a = o ++ r := by
  unfold ord1
  split
  · exact ⟨_, rfl⟩
  · exact ⟨[], by simp⟩
theorem ordT_app (es : List Ed) (s : Int) (o : List Int) : ∀ L, ∃ r, ordT es s o L = o ++ r
  | 0 => ⟨[], by simp [ordT]⟩
  | L + 1 => by
    obtain ⟨r, hr⟩ := ordT_app es s o L
    obtain ⟨r', hr'⟩ := ord1_app es s (ordT es s o L) L
    exact ⟨r ++ r', by rw [ordT_succ, hr', hr, List.append_assoc]⟩
theorem ordT_sub {es : List Ed} {s : Int} {o : List Int} {L : Nat} {x : Int} (h : x ∈ o) : x ∈ ordT es s o L := by
  obtain ⟨r, hr⟩ := ordT_app es s o L
  rw [hr]; exact List.mem_append_left _ h
theorem ord1_ok {G : Gr} (hv : Vg G) {i : Nat} {o : List Int} {s : Int} (h : Ord G i o) (a : Nat) : Ord G i (ord1 G.es s o a) := by
  by_cases h1 : tgt G.es s (a : Int) = -1 ∨ tgt G.es s (a : Int) ∈ o
  · rw [ord1_old h1]; exact h
  · have hn : tgt G.es s (a : Int) ≠ -1 := fun e => h1 (.inl e)
    have hm : tgt G.es s (a : Int) ∉ o := fun e => h1 (.inr e)
    have hb := tgt_bd hv s a
    rw [ord1_new hn hm]
    refine ⟨?_, fun x hx => ?_, by simp [h.zero], by have := h.le; simp; omega, fun j hj hji b hb2 => ?_⟩
    · rw [List.nodup_append]
      refine ⟨h.nd, by simp, fun x hx y hy => ?_⟩
      obtain rfl := List.mem_singleton.1 hy
      exact fun e => hm (e ▸ hx)
    · rcases List.mem_append.1 hx with hx | hx
      · exact h.bd x hx
      · obtain rfl := List.mem_singleton.1 hx; omega
    · have hjl : j < o.length := by have := h.le; omega
      rw [List.getElem_append_left hjl]
      rcases h.cls j hjl hji b hb2 with e | e
      · exact .inl e
      · exact .inr (List.mem_append_left _ e)
theorem ordT_ok {G : Gr} (hv : Vg G) {i : Nat} {o : List Int} {s : Int} (h : Ord G i o) : ∀ L, Ord G i (ordT G.es s o L)
  | 0 => h
  | L + 1 => ord1_ok hv (ordT_ok hv h L) L
theorem ordT_in {es : List Ed} {s : Int} {o : List Int} : ∀ {L a : Nat}, a < L → tgt es s (a : Int) = -1 ∨ tgt es s (a : Int) ∈ ordT es s o L
  | L + 1, a, ha => by
    rw [ordT_succ]
    obtain ⟨r, hr⟩ := ord1_app es s (ordT es s o L) L
    by_cases h : a = L
    · subst h
      by_cases h1 : tgt es s (a : Int) = -1 ∨ tgt es s (a : Int) ∈ ordT es s o a
      · rw [ord1_old h1]; exact h1
      · rw [ord1_new (fun e => h1 (.inl e)) (fun e => h1 (.inr e))]; exact .inr (by simp)
    · rcases ordT_in (es := es) (s := s) (o := o) (L := L) (a := a) (by omega) with e | e
      · exact .inl e
      · exact .inr (by rw [hr]; exact List.mem_append_left _ e)
theorem Ord.row {G : Gr} (hv : Vg G) {i : Nat} {o : List Int} {s : Int} (h : Ord G i o) (hs : o[i]? = some s) : Ord G (i + 1) (ordT G.es s o G.q.toNat) := by
  have k := ordT_ok hv (s := s) h G.q.toNat
  obtain ⟨hi, he⟩ := List.getElem?_eq_some_iff.1 hs
  obtain ⟨r, hr⟩ := ordT_app G.es s o G.q.toNat
  have hlen : o.length ≤ (ordT G.es s o G.q.toNat).length := by rw [hr]; simp
  refine ⟨k.nd, k.bd, k.zero, by omega, fun j hj hji a ha => ?_⟩
  by_cases e : j = i
  · subst e
    have : (ordT G.es s o G.q.toNat)[j] = s := by simp only [hr]; rw [List.getElem_append_left hi]; exact he
    rw [this]
    exact ordT_in ha
  · exact k.cls j hj (by omega) a ha
theorem ordGo_ok {G : Gr} (hv : Vg G) : ∀ (f i : Nat) (o : List Int), Ord G i o → G.n.toNat + 1 ≤ f + i → Ord G (ordGo G.es G.q.toNat f i o).length (ordGo G.es G.q.toNat f i o)
  | 0, i, o, h, hf => by have := h.le; have := h.len; omega
  | f + 1, i, o, h, hf => by
    unfold ordGo
    cases hs : o[i]? with
    | none =>
      have : o.length = i := by have := List.getElem?_eq_none_iff.1 hs; have := h.le; omega
      show Ord G o.length o
      rw [this]; exact h
    | some s => exact ordGo_ok hv f (i + 1) _ (h.row hv hs) (by omega)
theorem ordA_ok {G : Gr} (hv : Vg G) (hn : 0 < G.n) : Ord G (ordA G).length (ordA G) :=
  ordGo_ok hv _ 0 [0] ⟨by simp, fun x hx => by obtain rfl := List.mem_singleton.1 hx; omega, by simp, by simp, fun j _ h => by omega⟩ (by omega)
/-- Where all is reached from the first state, all is found. -/
theorem ord_all {G : Gr} (hv : Vg G) (hu : Uq G.es) (hn : 0 < G.n) (hr : ∀ t : Int, 0 ≤ t → t < G.n → Rch G.es 0 t) {x : Int} (h0 : 0 ≤ x) (h1 : x < G.n) : x ∈ ordA G := by
  have h := ordA_ok hv hn
  refine (hr x h0 h1).keep (P := fun u => u ∈ ordA G) (fun y hy hf => ?_) h.zero
  obtain ⟨j, hj, e⟩ := List.mem_iff_getElem.1 hf
  have hb := hv.ins y hy
  have := h.cls j hj hj y.l.toNat (by omega)
  rw [e, show ((y.l.toNat : Nat) : Int) = y.l by omega, tgt_at hu hy] at this
  rcases this with k | k
  · omega
  · exact k

/-! ### A part on a component that no edge leaves -/
theorem part_uq {G : Gr} (hu : Uq G.es) (st : List Int) : Uq (partA G st).es := by
  refine List.Pairwise.filterMap _ (fun x x' h y hy y' hy' => ?_) hu
  obtain ⟨a, b, rfl⟩ := partE_some hy
  obtain ⟨a', b', rfl⟩ := partE_some hy'
  rintro ⟨e1, e2⟩
  refine h ⟨iof_inj a a' ?_, e2⟩
  have e1' : ((st.idxOf x.f : Nat) : Int) = ((st.idxOf x'.f : Nat) : Int) := e1
  omega
theorem part_stp {G : Gr} {st : List Int} (hc : ∀ x ∈ G.es, x.f ∈ st → x.t ∈ st) : ∀ {n : Nat} {s t : Int}, s ∈ st → stpI G.es n s t → Rch (partA G st).es ((st.idxOf s : Nat) : Int) ((st.idxOf t : Nat) : Int)
  | 0, s, t, _, h => by cases h; exact Rch.refl _
  | n + 1, s, t, hs, ⟨x, hx, hf, h⟩ => by
    subst hf
    have ht := hc x hx hs
    have he : (⟨((st.idxOf x.f : Nat) : Int), x.l, ((st.idxOf x.t : Nat) : Int)⟩ : Ed) ∈ (partA G st).es := List.mem_filterMap.2 ⟨x, hx, by unfold partE; rw [if_pos ⟨hs, ht⟩]⟩
    exact (Rch.edge he).trans (part_stp hc ht h)
theorem sink_part {G : Gr} (hv : Vg G) {l : List Int} {ls : List (List Int)} (h : sinksA G = l :: ls) : St G.n l ∧ 0 < l.length ∧ ∀ t : Int, 0 ≤ t → t < (partA G l).n → Rch (partA G l).es 0 t := by
  have hm : l ∈ sinksA G := by rw [h]; simp
  obtain ⟨h1, h2⟩ := List.mem_filter.1 hm
  obtain ⟨s, hs, rfl, _⟩ := comps_mem hv h1
  have hst := cmp_st hv hs
  have hself := cmp_self hv hs
  have hpos := List.length_pos_of_mem hself
  refine ⟨hst, hpos, fun t h0 ht => ?_⟩
  have ht2 : t < ((cmpA G s).length : Int) := ht
  have hc : ∀ x ∈ G.es, x.f ∈ cmpA G s → x.t ∈ cmpA G s := fun x hx hf => sink_keep h2 (Rch.edge hx) hf
  have idx : ∀ k (hk : k < (cmpA G s).length), (cmpA G s).idxOf ((cmpA G s)[k]) = k := fun k hk => by
    have hmem := List.getElem_mem hk
    have e := iof_get hmem
    have hl := iof_lt hmem
    rcases Nat.lt_trichotomy ((cmpA G s).idxOf ((cmpA G s)[k])) k with h | h | h
    · have := List.pairwise_iff_getElem.1 hst.srt _ _ hl hk h; omega
    · exact h
    · have := List.pairwise_iff_getElem.1 hst.srt _ _ hk hl h; omega
  have k0 := List.getElem_mem hpos
  have k1 := List.getElem_mem (show t.toNat < (cmpA G s).length by omega)
  have r0 := ((mem_cmp hv hs).1 k0).2.2
  have r1 := ((mem_cmp hv hs).1 k1).2.1
  obtain ⟨n, hn⟩ := r0.trans r1
  have := part_stp hc k0 hn
  rw [idx 0 hpos, idx t.toNat (by omega), Int.toNat_of_nonneg h0] at this
  exact this

/-! ### New numbers -/
theorem ren_vg {G : Gr} (hv : Vg G) (hn : 0 < G.n) (ha : ∀ x : Int, 0 ≤ x → x < G.n → x ∈ ordA G) : Vg (renG G) where
  q1 := hv.q1
  q2 := hv.q2
  n1 := hv.n1
  n2 := hv.n2
  len := by have := norm_le (G.es.map (renE (ordA G))); rw [List.length_map] at this; exact Nat.le_trans this hv.len
  ins := fun y hy => by
    obtain ⟨x, hx, rfl⟩ := List.mem_map.1 (mem_norm.1 hy)
    have hb := hv.ins x hx
    have hl := (ordA_ok hv hn).len
    have h1 := iof_lt (ha x.f hb.1 hb.2.2.2.1)
    have h2 := iof_lt (ha x.t hb.2.2.1 hb.2.2.2.2.1)
    show (0 : Int) ≤ (((ordA G).idxOf x.f : Nat) : Int) ∧ 0 ≤ x.l ∧ (0 : Int) ≤ (((ordA G).idxOf x.t : Nat) : Int) ∧ (((ordA G).idxOf x.f : Nat) : Int) < G.n ∧ (((ordA G).idxOf x.t : Nat) : Int) < G.n ∧ x.l < G.q
    omega
  srt := norm_srt _
theorem ren_eq {G : Gr} (hv : Vg G) (hn : 0 < G.n) (ha : ∀ x : Int, 0 ≤ x → x < G.n → x ∈ ordA G) : makeA G.q G.n (G.es.map (renE (ordA G))) = (renG G, 0) := makeA_ok (chkG_ok.2 (ren_vg hv hn ha))
/-- All that is asked of a cover's making. -/
theorem cov4_ok {M : Gr} (hv : Vg M) (hu : Uq M.es) (hn : 0 < M.n) : ∃ l ls, sinksA M = l :: ls ∧ St M.n l ∧ Vg (partA M l) ∧ Uq (partA M l).es ∧ 0 < (partA M l).n ∧ (∀ x : Int, 0 ≤ x → x < (partA M l).n → x ∈ ordA (partA M l)) ∧ cov4 M = renG (partA M l) := by
  obtain ⟨l, ls, h⟩ := sinks_ne hv hn
  obtain ⟨h1, h2, h3⟩ := sink_part hv h
  have hp : 0 < (partA M l).n := by show (0 : Int) < (l.length : Int); omega
  exact ⟨l, ls, h, h1, part_vg hv h1, part_uq hu l, hp, fun x h0 hx => ord_all (part_vg hv h1) (part_uq hu l) hp h3 h0 hx, by unfold cov4; rw [h]⟩
end Go.Proofs.YtocbhlohcikapaaGreatDoor
namespace Go.Proofs.YtocbhlohcikapaaGreatDoor
open Go.RowKit Go.Sort Go.Shelf Go.Lib

theorem RetGr.zero {x : Gr × Int} {k : Int} {w w' : World} (hr : x = (⟨0, 0, []⟩, k)) (hB : RowKit.Below w.heap.size w w') : RetGr x.1 x.2 w (.returned (.tuple #[.agg #[.int .i64 0, .int .i64 0, .slice none 0 0], .int .i64 k])) w' := by
  subst hr; exact ⟨none, 0, rfl, .inl rfl, by simp, hB⟩
theorem sbGo_len {G : Gr} : ∀ (m i : Nat) (st r : Sst), sbGo G m i st = some r → st.1.length ≤ r.1.length
  | 0, _, _, _, h => by cases h
  | m + 1, i, st, r, h => by
    unfold sbGo at h
    cases hs : st.1[i]? with
    | none => rw [hs] at h; cases h; exact Nat.le_refl _
    | some set =>
      rw [hs] at h
      simp only at h
      split at h
      · cases h
      · exact Nat.le_trans (sbTo_len (G := G) (set := set) (i := i) (st := st) G.q.toNat) (sbGo_len m (i + 1) _ r h)
theorem sb_pos {G : Gr} (hv : Vg G) (hi : irrA G = true) (h : (sbA G).2.2 = 0) : 0 < (sbA G).1.n := by
  unfold irrA at hi
  rw [Bool.and_eq_true, decide_eq_true_eq, decide_eq_true_eq] at hi
  obtain ⟨x, hx⟩ := List.exists_mem_of_length_pos hi.2
  have hb := hv.ins x hx
  unfold sbA at h ⊢
  rw [if_pos (chkG_ok.2 hv), if_neg (by omega)] at h ⊢
  cases hg : sbGo G 66 0 ([upto G.n.toNat], []) with
  | none => rw [hg] at h; cases h
  | some r =>
    have := sbGo_len _ _ _ _ hg
    show (0 : Int) < (r.1.length : Int)
    simp at this; omega
theorem LLj.first {W : World} {p : Option Addr} {l : List Int} {ls : List (List Int)} (h : LLj W p (l :: ls)) : ∃ b o q d, p = some ⟨b, o, none⟩ ∧ b < W.heap.size ∧ W.cell? ⟨b, o, none⟩ = some (.slice q l.length d) ∧ SlJ W q l := by
  obtain ⟨b, o, q, d, h1, h2, h3, h4⟩ := h.get 0 (by simp)
  exact ⟨b, o, q, d, h1, h2, h3, h4⟩

/-! ### In the midst of the making of the part -/
def tupG (P : Gr) (r : Option Addr × Nat) : Value := .tuple #[(.agg #[.int .i64 P.q, .int .i64 P.n, .slice r.1 P.es.length r.2]), .int .i64 0]
structure KpS (w6 : World) (P : Gr) (d9 : Bool) (f72 f67 f73 f74 f11 f5 : Option Value) (W : World) : Prop where
  b : RowKit.Below w6.heap.size w6 W
  c : ∀ v, f72 = some v → ∃ r, v = tupG P r ∧ Sg 3 W edE r.1 P.es
  m : ∀ v, f67 = some v → f72 = some v
  x : ∀ v, f73 = some v → ∃ r, f72 = some (tupG P r) ∧ v = (.agg #[.int .i64 P.q, .int .i64 P.n, .slice r.1 P.es.length r.2])
  y : ∀ v, f74 = some v → v = .int .i64 0
  z : ∀ v, f5 = some v → v = .int .i64 0
  a : ∀ v, f11 = some v → ∃ b, v = .pointer (some ⟨b, 0, none⟩) ∧ w6.heap.size ≤ b ∧ (d9 = false → VRow W b 24 [.int .i64 0, .int .i64 0, .slice none 0 0]) ∧ (d9 = true → ∃ r : Option Addr × Nat, VRow W b 24 [.int .i64 P.q, .int .i64 P.n, .slice r.1 P.es.length r.2] ∧ Sg 3 W edE r.1 P.es)
section
variable {w6 : World} {P : Gr} {d9 : Bool} {f72 f67 f73 f74 f11 f5 : Option Value} {W W' : World}
theorem KpS.below (h : KpS w6 P d9 f72 f67 f73 f74 f11 f5 W) (hB : RowKit.Below W.heap.size W W') : KpS w6 P d9 f72 f67 f73 f74 f11 f5 W' where
  b := h.b.trans (hB.mono h.b.size)
  c := fun v hv => by obtain ⟨r, e, hs⟩ := h.c v hv; exact ⟨r, e, hs.below hB⟩
  m := h.m
  x := h.x
  y := h.y
  z := h.z
  a := fun v hv => by
    obtain ⟨b, e, h1, h2, h3⟩ := h.a v hv
    refine ⟨b, e, h1, fun e' => (h2 e').below hB (h2 e').lt, fun e' => ?_⟩
    obtain ⟨r, h4, h5⟩ := h3 e'
    exact ⟨r, h4.below hB h4.lt, h5.below hB⟩
theorem KpS.call {v : Value} {r : Option Addr × Nat} (h : KpS w6 P d9 none none none f74 f11 f5 W) (hv : v = tupG P r) (hs : Sg 3 W edE r.1 P.es) : KpS w6 P d9 (some v) none none f74 f11 f5 W :=
  ⟨h.b, fun u hu => ⟨r, by cases hu; exact hv, hs⟩, (fun _ e => by cases e), (fun _ e => by cases e), h.y, h.z, h.a⟩
theorem KpS.move {v : Value} (h : KpS w6 P d9 (some v) f67 f73 f74 f11 f5 W) : KpS w6 P d9 (some v) (some v) f73 f74 f11 f5 W := ⟨h.b, h.c, fun u hu => by cases hu; rfl, h.x, h.y, h.z, h.a⟩
theorem KpS.ext0 {r : Option Addr × Nat} (h : KpS w6 P d9 (some (tupG P r)) f67 f73 f74 f11 f5 W) : KpS w6 P d9 (some (tupG P r)) f67 (some (.agg #[.int .i64 P.q, .int .i64 P.n, .slice r.1 P.es.length r.2])) f74 f11 f5 W := ⟨h.b, h.c, h.m, fun u hu => ⟨r, rfl, by cases hu; rfl⟩, h.y, h.z, h.a⟩
theorem KpS.ext1 (h : KpS w6 P d9 f72 f67 f73 f74 f11 f5 W) : KpS w6 P d9 f72 f67 f73 (some (.int .i64 0)) f11 f5 W := ⟨h.b, h.c, h.m, h.x, fun u hu => by cases hu; rfl, h.z, h.a⟩
theorem KpS.asg (h : KpS w6 P d9 f72 f67 f73 f74 f11 f5 W) : KpS w6 P d9 f72 f67 f73 f74 f11 (some (.int .i64 0)) W := ⟨h.b, h.c, h.m, h.x, h.y, fun u hu => by cases hu; rfl, h.a⟩
theorem KpS.alloc (h : KpS w6 P false f72 f67 f73 f74 none f5 W) : KpS w6 P false f72 f67 f73 f74 (some (.pointer (some ⟨W.heap.size, 0, none⟩))) f5 (W.alloc (.cells #[.int .i64 0, .int .i64 0, .slice none 0 0] 24)) := by
  have h' := h.below ((RowKit.Below.refl W.heap.size W).alloc (Nat.le_refl _) (.cells #[.int .i64 0, .int .i64 0, .slice none 0 0] 24))
  exact ⟨h'.b, h'.c, h'.m, h'.x, h'.y, h'.z, fun v hv => ⟨W.heap.size, by cases hv; rfl, h.b.size, fun _ => VRow.new W _ _, fun e => by cases e⟩⟩
theorem KpS.store {b : Nat} {r : Option Addr × Nat} (h : KpS w6 P false f72 f67 (some (.agg #[.int .i64 P.q, .int .i64 P.n, .slice r.1 P.es.length r.2])) f74 (some (.pointer (some ⟨b, 0, none⟩))) f5 W) :
    KpS w6 P true f72 f67 (some (.agg #[.int .i64 P.q, .int .i64 P.n, .slice r.1 P.es.length r.2])) f74 (some (.pointer (some ⟨b, 0, none⟩))) f5 (((W.setCell ⟨b, 0, none⟩ (.int .i64 P.q)).setCell ⟨b, 1, none⟩ (.int .i64 P.n)).setCell ⟨b, 2, none⟩ (.slice r.1 P.es.length r.2)) := by
  obtain ⟨b', e, h1, h2, _⟩ := h.a _ rfl
  cases e
  have h2 := h2 rfl
  have r1 := VRow.set (i := 0) (.int .i64 P.q) h2
  have r2 := VRow.set (i := 1) (.int .i64 P.n) r1
  have r3 := VRow.set (i := 2) (.slice r.1 P.es.length r.2) r2
  have hsg : ∀ {p : Option Addr} {l : List Ed}, Sg 3 W edE p l → Sg 3 (((W.setCell ⟨b, 0, none⟩ (.int .i64 P.q)).setCell ⟨b, 1, none⟩ (.int .i64 P.n)).setCell ⟨b, 2, none⟩ (.slice r.1 P.es.length r.2)) edE p l := fun hs =>
    sg_boxN r2 (sg_boxN r1 (sg_boxN h2 hs _ _) _ _) _ _
  obtain ⟨r', hr', he⟩ := h.x _ rfl
  obtain ⟨r'', hr'', hs⟩ := h.c _ hr'
  have err : r = r'' := by
    unfold tupG at hr''
    cases r; cases r'; cases r''
    simp at he hr''
    simp [he, hr'']
  subst err
  refine ⟨((h.b.setCell (show w6.heap.size ≤ b from h1) _).setCell (show w6.heap.size ≤ b from h1) _).setCell (show w6.heap.size ≤ b from h1) _, fun v hv => ?_, h.m, h.x, h.y, h.z, fun v hv => ⟨b, by cases hv; rfl, h1, (fun e => by cases e), fun _ => ⟨r, r3, hsg hs⟩⟩⟩
  obtain ⟨q, e, hq⟩ := h.c v hv
  exact ⟨q, e, hsg hq⟩
end

/-! ### Numbers after the order -/
theorem idxFrom_mem (x : Int) : ∀ (l : List Int) (i : Nat), x ∈ l → Lib.idxFrom l x i = ((i + l.idxOf x : Nat) : Int)
  | [], _, h => by cases h
  | z :: zs, i, h => by
    unfold Lib.idxFrom
    by_cases hz : z = x
    · subst hz; simp
    · have hz' : (z == x) = false := by simpa using hz
      rw [if_neg hz, idxFrom_mem x zs (i + 1) ((List.mem_cons.1 h).resolve_left (fun e => hz e.symm)), List.idxOf_cons, hz']
      simp; omega
theorem index_any (o : List Int) (b c : Nat) (x : Int) (W : World) (hx : x ∈ o) (hl : o.length ≤ 9223372036854775807) (hc : ∀ j (h : j < o.length), W.cell? ⟨b, j, none⟩ = some (.int .i64 o[j])) :
    Calls Tryz.prog 57 #[.slice (some ⟨b, 0, none⟩) o.length c, .int .i64 x] W fun e w' => e = .returned (.int .i64 ((o.idxOf x : Nat) : Int)) ∧ w' = W := by
  have h := Tryz.slices_Index_int b 0 o.length c o x W (Nat.le_refl _) hl (fun j hj => by rw [Nat.zero_add, hc j hj]; simp [List.getD, hj])
  rw [List.take_length, show Lib.idxOf o x = ((o.idxOf x : Nat) : Int) by unfold Lib.idxOf; rw [idxFrom_mem x o 0 hx, Nat.zero_add]] at h
  exact h

/-! ### In the midst of the making of an edge -/
structure KpE (zz : Nat) (W0 : World) (ov : Value) (k : Nat) (M : List Ed) (y : Ed) (xb : Nat) (e : Ed) (d13 : Bool) (f134 f135 f17 : Option Value) (W : World) : Prop where
  b : RowKit.Below zz W0 W
  x : VRow W xb 44 [.int .i64 e.f, .int .i64 e.l, .int .i64 e.t]
  o : d13 = false → W.ownsRow zz 44 3 ov k (cat M)
  m : d13 = false → ∀ v, f134 = some v → ∃ c, v = .slice (some ⟨c, 0, none⟩) 1 1 ∧ VRow W c 44 [.int .i64 y.f, .int .i64 y.l, .int .i64 y.t]
  a : d13 = true → ∃ v, f135 = some v ∧ W.ownsRow zz 44 3 v (k + 1) (cat (M ++ [y]))
  z : ∀ v, f17 = some v → f135 = some v
section
variable {zz : Nat} {W0 : World} {ov : Value} {k : Nat} {M : List Ed} {y : Ed} {xb : Nat} {e : Ed} {d13 : Bool} {f134 f135 f17 : Option Value} {W W' : World}
theorem KpE.alloc (h : KpE zz W0 ov k M y xb e false none f135 f17 W) (hz : zz ≤ W.heap.size) :
    KpE zz W0 ov k M y xb e false (some (.slice (some ⟨W.heap.size, 0, none⟩) 1 1)) f135 f17 (W.alloc (.cells #[.int .i64 y.f, .int .i64 y.l, .int .i64 y.t] 44)) :=
  ⟨h.b.alloc hz _, h.x.alloc _, fun e => (h.o e).alloc _, fun _ v hv => ⟨W.heap.size, by cases hv; rfl, VRow.new W _ _⟩, (fun e => by cases e), h.z⟩
theorem KpE.app {v : Value} (h : KpE zz W0 ov k M y xb e false f134 none none W) (hz : zz ≤ W.heap.size) (hne : some xb ≠ ov.ownBlock) (hown : W'.ownsRow zz 44 3 v (k + 1) (cat (M ++ [y]))) (hg : W.grownBy W' ov.ownBlock) :
    KpE zz W0 ov k M y xb e true f134 (some v) none W' :=
  ⟨h.b.grown hg hz (fun j e => ((h.o rfl).lt j e).1), h.x.grown hg hne, (fun e => by cases e), (fun e => by cases e), fun _ => ⟨v, rfl, hown⟩, (fun _ e => by cases e)⟩
theorem KpE.asg {v : Value} (h : KpE zz W0 ov k M y xb e d13 f134 (some v) f17 W) : KpE zz W0 ov k M y xb e d13 f134 (some v) (some v) W := ⟨h.b, h.x, h.o, h.m, h.a, fun u hu => hu⟩
end

set_option maxRecDepth 100000 in
set_option maxHeartbeats 4000000 in
theorem mCover_any (G : Gr) (p : Option Addr) (c : Nat) (w : World) (hin : Sg 3 w edE p G.es) (hl : G.es.length ≤ 9223372036854775807) :
    Calls Tryz.prog 13 #[(.agg #[.int .i64 G.q, .int .i64 G.n, .slice p G.es.length c])] w (RetGr (covA G).1 (covA G).2 w) := by
  obtain ⟨i0, hi0, hz0, hz1, hz3⟩ := info_parts infoIg
  obtain ⟨i9, hi9, hx0, hx1, hx2⟩ := info_parts infoE
  obtain ⟨w0, hw0⟩ : ∃ w0, w0 = (w.alloc (.cells #[.int .i64 G.q, .int .i64 G.n, .slice p G.es.length c] 24)).alloc (.cells #[.int .i64 0, .int .i64 0, .slice none 0 0] 24) := ⟨_, rfl⟩
  have b0 : VRow w0 w.heap.size 24 [.int .i64 G.q, .int .i64 G.n, .slice p G.es.length c] := by subst hw0; exact (VRow.new w _ _).alloc _
  have b1 : VRow w0 (w.heap.size + 1) 24 [.int .i64 0, .int .i64 0, .slice none 0 0] := by subst hw0; exact VRow.new1 w _ _ _
  have hB0 : RowKit.Below w.heap.size w w0 := by subst hw0; exact ((RowKit.Below.refl _ _).alloc (Nat.le_refl _) _).alloc (by simp) _
  have HIN := hidI (hin.below hB0)
  have HIR := hidI (irr_any G p c w0 HIN.out hl)
  have f0 := b0.at 0 rfl; have f1 := b0.at 1 rfl; have f2 := b0.at 2 rfl
  by_cases hc : chkG G = 0
  case neg =>
    have HK : Hid (covA G = (⟨0, 0, []⟩, 1)) := if_pos hc
    have e1 : (ofA G).2 = 1 := by unfold ofA; rw [if_neg hc]
    rw [e1, decide_eq_false hc, Bool.false_and] at HIR
    clear hc hin e1
    go_enter Tryz.func13, Tryz.ntmps13
    go_upto_region 1 with fail
    rw [← hw0]
    clear hw0
    go_wp2_with fail
    refine HIR.out.mono ?_
    rintro e w1 ⟨rfl, hB1⟩
    have x1 := hB0.trans (hB1.mono hB0.size)
    have d1 := b1.below hB1 b1.lt
    clear f0 f1 f2 b0 b1
    (have j0 := (d1).at 0 rfl; have j1 := (d1).at 1 rfl; have j2 := (d1).at 2 rfl; have z0 := (d1).frozen 0; have z1 := (d1).frozen 1; have z2 := (d1).frozen 2; have HBZ := hidI d1; have HXZ := hidI x1)
    clear d1
    (go_wp2; have r6 := VRow.set (i := 2) (.slice none 0 0) (VRow.set (i := 1) (.int .i64 0) (VRow.set (i := 0) (.int .i64 0) HBZ.out)); have y0 := r6.at 0 rfl; have y1 := r6.at 1 rfl; have y2 := r6.at 2 rfl; refine bodyPost_ret (v := .tuple #[.agg #[.int .i64 0, .int .i64 0, .slice none 0 0], .int .i64 1]) (by simp [results, Tryz.results13, go_sem, y0, y1, y2]) rfl ?_; exact RetGr.zero HK.out (((HXZ.out.setCell (by simp) _).setCell (by simp) _).setCell (by simp) _))
  case pos =>
    have e1 : (ofA G).2 = 0 := by unfold ofA; rw [if_pos hc]
    rw [e1, decide_eq_true hc, Bool.true_and] at HIR
    have hv := chkG_ok.1 hc
    cases hir : irrA G
    · have HK : Hid (covA G = (⟨0, 0, []⟩, 8)) := by unfold Hid covA; rw [if_neg (by simpa using hc), if_pos hir]
      rw [hir] at HIR
      clear hc hin e1 hir
      go_enter Tryz.func13, Tryz.ntmps13
      go_upto_region 1 with fail
      rw [← hw0]
      clear hw0
      go_wp2_with fail
      refine HIR.out.mono ?_
      rintro e w1 ⟨rfl, hB1⟩
      have x1 := hB0.trans (hB1.mono hB0.size)
      have d1 := b1.below hB1 b1.lt
      clear f0 f1 f2 b0 b1
      (have j0 := (d1).at 0 rfl; have j1 := (d1).at 1 rfl; have j2 := (d1).at 2 rfl; have z0 := (d1).frozen 0; have z1 := (d1).frozen 1; have z2 := (d1).frozen 2; have HBZ := hidI d1; have HXZ := hidI x1)
      clear d1
      (go_wp2; have r6 := VRow.set (i := 2) (.slice none 0 0) (VRow.set (i := 1) (.int .i64 0) (VRow.set (i := 0) (.int .i64 0) HBZ.out)); have y0 := r6.at 0 rfl; have y1 := r6.at 1 rfl; have y2 := r6.at 2 rfl; refine bodyPost_ret (v := .tuple #[.agg #[.int .i64 0, .int .i64 0, .slice none 0 0], .int .i64 8]) (by simp [results, Tryz.results13, go_sem, y0, y1, y2]) rfl ?_; exact RetGr.zero HK.out (((HXZ.out.setCell (by simp) _).setCell (by simp) _).setCell (by simp) _))
    · rw [hir] at HIR
      have HSB := hidI (fun W (hW : RowKit.Below w0.heap.size w0 W) => sBuild_any G p c W (HIN.out.below hW) hl)
      have HE := hidI (sbA_err G hc)
      have HOK := hidI (fun h : (sbA G).2.2 = 0 => sbA_ok h)
      have HCV : Hid (covA G = if (sbA G).2.2 ≠ 0 then (⟨0, 0, []⟩, (sbA G).2.2) else (cov4 (mgG (sbA G).1), 0)) := by unfold Hid covA; rw [if_neg (by simpa using hc), if_neg (by simp [hir])]
      have HPOS : Hid ((sbA G).2.2 = 0 → 0 < (sbA G).1.n) := fun h => sb_pos hv hir h
      generalize sbA G = sb at *
      obtain ⟨D, sets, kd⟩ := sb
      clear hc hin e1 hir
      go_enter Tryz.func13, Tryz.ntmps13
      go_upto_region 1 with fail
      rw [← hw0]
      clear hw0
      go_wp2_with fail
      refine HIR.out.mono ?_
      rintro e w1 ⟨rfl, hB1⟩
      have c0 := b0.below hB1 b0.lt
      have c1 := b1.below hB1 b1.lt
      clear f0 f1 f2 b0 b1
      have f0 := c0.at 0 rfl; have f1 := c0.at 1 rfl; have f2 := c0.at 2 rfl
      go_wp2_with fail
      refine (HSB.out w1 hB1).mono ?_
      rintro e w2 ⟨pd, cd, ps, ms, cs, rfl, hod, hB2⟩
      replace hod : w2.ownsRow w1.heap.size 44 3 (.slice pd D.es.length cd) D.es.length (cat D.es) := hod
      have x1 := hB0.trans (hB1.mono hB0.size)
      have x2 := x1.trans (hB2.mono x1.size)
      have d1 := c1.below hB2 c1.lt
      clear f0 f1 f2 c0 c1 HIR HSB
      have hrD : VRow (w2.alloc (.cells #[.int .i64 D.q, .int .i64 D.n, .slice pd D.es.length cd] 24)) w2.heap.size 24 [.int .i64 D.q, .int .i64 D.n, .slice pd D.es.length cd] := VRow.new w2 _ _
      have hbD := (RowKit.Below.refl w2.heap.size w2).alloc (Nat.le_refl _) (.cells #[.int .i64 D.q, .int .i64 D.n, .slice pd D.es.length cd] 24)
      have x3 := x2.alloc x2.size (.cells #[.int .i64 D.q, .int .i64 D.n, .slice pd D.es.length cd] 24)
      have d3 := d1.alloc (.cells #[.int .i64 D.q, .int .i64 D.n, .slice pd D.es.length cd] 24)
      obtain ⟨w3, hw3⟩ : ∃ w3, w3 = w2.alloc (.cells #[.int .i64 D.q, .int .i64 D.n, .slice pd D.es.length cd] 24) := ⟨_, rfl⟩
      rw [← hw3] at hrD hbD x3 d3
      obtain ⟨pd', cd', hpe, hsD, _, _⟩ := own_sg hod
      cases hpe
      have hsD3 := hsD.below hbD
      replace HE : Hid (kd = 0 ∨ kd = 4) := HE
      replace HCV : Hid (covA G = if kd ≠ 0 then (⟨0, 0, []⟩, kd) else (cov4 (mgG D), 0)) := HCV
      replace HOK : Hid (kd = 0 → Vg D ∧ Uq D.es) := HOK
      replace HPOS : Hid (kd = 0 → 0 < D.n) := HPOS
      by_cases hk : kd = 0
      case neg =>
        have hkb : (kd != 0) = true := by simpa using hk
        have HK : Hid (covA G = (⟨0, 0, []⟩, kd)) := by rw [Hid, HCV.out, if_pos hk]
        clear hk
        go_upto_region 7 with fail
        rw [← hw3]
        clear hw3 d1
        (have j0 := (d3).at 0 rfl; have j1 := (d3).at 1 rfl; have j2 := (d3).at 2 rfl; have z0 := (d3).frozen 0; have z1 := (d3).frozen 1; have z2 := (d3).frozen 2; have HBZ := hidI d3; have HXZ := hidI x3)
        clear d3
        (go_wp2; have r6 := VRow.set (i := 2) (.slice none 0 0) (VRow.set (i := 1) (.int .i64 0) (VRow.set (i := 0) (.int .i64 0) HBZ.out)); have y0 := r6.at 0 rfl; have y1 := r6.at 1 rfl; have y2 := r6.at 2 rfl; refine bodyPost_ret (v := .tuple #[.agg #[.int .i64 0, .int .i64 0, .slice none 0 0], .int .i64 kd]) (by simp [results, Tryz.results13, go_sem, y0, y1, y2]) rfl ?_; exact RetGr.zero HK.out (((HXZ.out.setCell (by simp) _).setCell (by simp) _).setCell (by simp) _))
      case pos =>
        subst hk
        obtain ⟨hvD, huD⟩ := HOK.out (by first | rfl | trivial)
        have hnD := HPOS.out (by first | rfl | trivial)
        obtain ⟨l, ls, hsk, hst, hvP, huP, hnP, hall, hcv⟩ := cov4_ok (mg_vg hvD) (mg_uq' hvD huD) (by have e := cl_lt (G := D) (s := 0) (by omega); show 0 < mxC (clA D); omega)
        have HK : Hid (covA G = (renG (partA (mgG D) l), 0)) := by rw [Hid, HCV.out, if_neg (by simp), hcv]
        have HMM := hidI (mmerge_any D pd cd w3 hsD3 hvD huD)
        rw [mg_eq hvD] at HMM
        have hvM := mg_vg hvD
        obtain ⟨M, hM⟩ : ∃ M, mgG D = M := ⟨_, rfl⟩
        rw [hM] at HMM hvM hsk hst hvP huP hnP hall HK
        have hq0 := hrD.at 0 rfl; have hq1 := hrD.at 1 rfl; have hq2 := hrD.at 2 rfl
        clear HE HOK HPOS HCV hM hcv hvD huD hnD
        go_upto_region 7 with fail
        rw [← hw3]
        clear hw3 d1 hbD hsD hod
        go_wp2_with fail
        refine HMM.out.mono ?_
        rintro e w4 ⟨pm, cm, qc, dc, rfl, hsM, hcm, _, hB4⟩
        have x4 := x3.trans (hB4.mono x3.size)
        have d4 := d3.below hB4 d3.lt
        clear hq0 hq1 hq2 hrD d3 hsD3 HMM
        have hrM : VRow (w4.alloc (.cells #[.int .i64 M.q, .int .i64 M.n, .slice pm M.es.length cm] 24)) w4.heap.size 24 [.int .i64 M.q, .int .i64 M.n, .slice pm M.es.length cm] := VRow.new w4 _ _
        have hbM := (RowKit.Below.refl w4.heap.size w4).alloc (Nat.le_refl _) (.cells #[.int .i64 M.q, .int .i64 M.n, .slice pm M.es.length cm] 24)
        have x5 := x4.alloc x4.size (.cells #[.int .i64 M.q, .int .i64 M.n, .slice pm M.es.length cm] 24)
        have d5 := d4.alloc (.cells #[.int .i64 M.q, .int .i64 M.n, .slice pm M.es.length cm] 24)
        obtain ⟨w5, hw5⟩ : ∃ w5, w5 = w4.alloc (.cells #[.int .i64 M.q, .int .i64 M.n, .slice pm M.es.length cm] 24) := ⟨_, rfl⟩
        rw [← hw5] at hrM hbM x5 d5
        have hsM5 := hsM.below hbM
        have HSK := hidI (sinks_any M pm cm w5 hsM5 (by have := hvM.len; omega))
        have e1 : snkA M = (l :: ls, 0) := by unfold snkA; rw [if_pos (chkG_ok.2 hvM), hsk]
        rw [e1] at HSK
        obtain ⟨mb, hmb⟩ : ∃ mb, mb = w4.heap.size := ⟨_, rfl⟩
        rw [← hmb] at hrM
        have hq0 := hrM.at 0 rfl; have hq1 := hrM.at 1 rfl; have hq2 := hrM.at 2 rfl
        clear e1 hsk
        go_upto_region 10 with fail
        rw [← hw5, ← hmb]
        clear hw5 d4 hbM hsM hmb
        go_wp2_with fail
        refine HSK.out.mono ?_
        rintro e w6 ⟨qs, ds, rfl, hll, hB6⟩
        have x6 := x5.trans (hB6.mono x5.size)
        have d6 := d5.below hB6 d5.lt
        have hM6 := hrM.below hB6 hrM.lt
        have hsM6 := hsM5.below hB6
        obtain ⟨bs, os, q1, d1, rfl, hbs, hcl1, hsl1⟩ := hll.first
        clear hq0 hq1 hq2 d5 hrM hsM5 HSK
        have hlen1 : ¬ (((l :: ls).length : Int) == 0) = true := by simp; omega
        go_upto_region 15 with fail
        have HKP := hidI (fun W (hW : RowKit.Below w6.heap.size w6 W) => gKeep_any M pm cm l q1 d1 W (hsM6.below hW) (hsl1.1.below hW) (by have := hvM.len; omega) (by have := hst.len hvM.n1; have := hvM.n2; omega))
        have e2 : keepA M l = (partA M l, 0) := by unfold keepA; rw [if_pos (chkG_ok.2 hvM), if_pos hst.chk]
        rw [e2] at HKP
        obtain ⟨P, hP⟩ : ∃ P, partA M l = P := ⟨_, rfl⟩
        rw [hP] at HKP HK hvP huP hnP hall
        have hml := hM6.lt
        have g0 := hM6.at 0 rfl; have g1 := hM6.at 1 rfl; have g2 := hM6.at 2 rfl
        have hpv := hvP.len
        clear hP e2 hvM hst hll
        go_cut [11, 5] (fun s11 s5 wx => ∃ (b : Nat) (r : Option Addr × Nat), s11 = .pointer (some ⟨b, 0, none⟩) ∧ s5 = .int .i64 0 ∧ w6.heap.size ≤ b ∧ VRow wx b 24 [.int .i64 P.q, .int .i64 P.n, .slice r.1 P.es.length r.2] ∧ Sg 3 wx edE r.1 P.es ∧ RowKit.Below w6.heap.size w6 wx)
        case first =>
          obtain ⟨W0, rfl⟩ : ∃ W0 : World, W0 = w6 := ⟨_, rfl⟩
          refine region_detW (by kernel_rfl) 11 [(some 68, some (.agg #[.int .i64 M.q, .int .i64 M.n, .slice pm M.es.length cm])), (some 69, some (.slice (some ⟨bs, os, none⟩) (ls.length + 1) ds)), (some 70, some (.pointer (some ⟨bs, os, none⟩))), (some 71, some (.slice q1 l.length d1)), (some 72, none), (some 67, none), (some 73, none), (some 74, none), (some 11, none), (none, none), (some 5, none)]
            (fun d f W => KpS W0 P (d 9) (f 72) (f 67) (f 73) (f 74) (f 11) (f 5) W) (by kernel_rfl) (by kernel_rfl) (by kernel_rfl) (by kernel_rfl) ⟨below_dN (RowKit.Below.refl _ _) 1, (fun _ e => by cases e), (fun _ e => by cases e), (fun _ e => by cases e), (fun _ e => by cases e), (fun _ e => by cases e), (fun _ e => by cases e)⟩ ?_ ?_
          focus
            intro i o ho a d f W hS hdi hdn hnd hdep hout hold K hK
            have hil : i < 11 := (Array.getElem?_eq_some_iff.1 ho).1
            have hcases : i = 0 ∨ i = 1 ∨ i = 2 ∨ i = 3 ∨ i = 4 ∨ i = 5 ∨ i = 6 ∨ i = 7 ∨ i = 8 ∨ i = 9 ∨ i = 10 := by omega
            clear hil
            have u8 := hout 8 (by kernel_rfl)
            have u10 := hout 10 (by kernel_rfl)
            simp at u8 u10
            clear hout
            have hc0 := (hS.b.cell hml).trans g0
            have hc1 := (hS.b.cell (p := ⟨mb, 1, none⟩) hml).trans g1
            have hc2 := (hS.b.cell (p := ⟨mb, 2, none⟩) hml).trans g2
            have hc3 := (hS.b.cell (p := ⟨bs, os, none⟩) hbs).trans hcl1
            clear g0 g1 g2
            rcases hcases with rfl | rfl | rfl | rfl | rfl | rfl | rfl | rfl | rfl | rfl | rfl
            all_goals (simp only [List.getElem?_toArray, List.getElem?_cons_succ, List.getElem?_cons_zero, Option.some.injEq] at ho; subst ho; simp [Region.binds] at hdep; (try go_split_ands))
            all_goals first
              | (go_simp; exact hK _ _ (fun u hu => Option.some.inj hu) hS)
              | (have h72 := (hold 4 (by kernel_rfl) _ rfl 72 rfl).1
                 have h67 := (hold 5 (by kernel_rfl) _ rfl 67 rfl).1
                 have h73 := (hold 6 (by kernel_rfl) _ rfl 73 rfl).1
                 go_simp
                 refine (HKP.out W hS.b).mono ?_
                 rintro e wk ⟨pp, cp, rfl, hsp, _, hBk⟩
                 have h := hS.below hBk
                 rw [h72, h67, h73] at h
                 have hfin := KpS.call (r := (pp, cp)) h rfl hsp
                 exact hK _ _ (fun u hu => by cases hu) (by
                   show KpS _ _ (d 9) (some _) (f 67) (f 73) (f 74) (f 11) (f 5) wk
                   rw [h67, h73]; exact hfin))
              | (obtain ⟨v, hv, hat⟩ : ∃ v, f 72 = some v ∧ a.tmps[72]? = some v := by assumption
                 have h := hS
                 rw [hv] at h
                 have hfin := h.move
                 go_simp
                 exact hK _ _ (fun u hu => by cases hu) (by
                   show KpS _ _ (d 9) (f 72) (some _) (f 73) (f 74) (f 11) (f 5) W
                   rw [hv]; exact hfin))
              | (obtain ⟨v, hv, hat⟩ : ∃ v, f 67 = some v ∧ a.tmps[67]? = some v := by assumption
                 have h72 := hS.m v hv
                 obtain ⟨r, rfl, _⟩ := hS.c v h72
                 have h := hS
                 rw [h72] at h
                 have hfin := h.ext0
                 have hfin1 := h.ext1
                 replace hat : a.tmps[67]? = some (.tuple #[(.agg #[.int .i64 P.q, .int .i64 P.n, .slice r.1 P.es.length r.2]), .int .i64 0]) := hat
                 go_simp
                 exact hK _ _ (fun u hu => by cases hu) (by
                   first
                     | (show KpS _ _ (d 9) (f 72) (f 67) (some _) (f 74) (f 11) (f 5) W
                        rw [h72]; exact hfin)
                     | (show KpS _ _ (d 9) (f 72) (f 67) (f 73) (some _) (f 11) (f 5) W
                        rw [h72]; exact hfin1)))
              | (have h11 := (hold 8 (by kernel_rfl) _ rfl 11 rfl).1
                 have e9 := hnd 9 (by kernel_rfl)
                 have h := hS
                 rw [e9, h11] at h
                 have hfin := h.alloc
                 go_simp
                 exact hK _ _ (fun u hu => by cases hu) (by
                   show KpS _ _ (d 9) (f 72) (f 67) (f 73) (f 74) (some _) (f 5) _
                   rw [e9]; exact hfin))
              | (obtain ⟨v, hv, hat⟩ : ∃ v, f 11 = some v ∧ a.tmps[11]? = some v := by assumption
                 obtain ⟨u, hu, hau⟩ : ∃ v, f 73 = some v ∧ a.tmps[73]? = some v := by assumption
                 have e9 : d 9 = false := hdi
                 have h := hS
                 rw [e9, hv, hu] at h
                 obtain ⟨b, rfl, hbl, hzr, _⟩ := h.a _ rfl
                 obtain ⟨r, _, rfl⟩ := h.x _ rfl
                 have hzr := hzr rfl
                 have k0 := hzr.at 0 rfl; have k1 := hzr.at 1 rfl; have k2 := hzr.at 2 rfl
                 have z0 := hzr.frozen 0; have z1 := hzr.frozen 1; have z2 := hzr.frozen 2
                 have hfin := h.store
                 have HV1 := hidI hv; have HU1 := hidI hu
                 clear hzr h hv hu
                 go_simp
                 exact hK undef _ (fun u hu => by cases hu) (by
                   show KpS _ _ true (f 72) (f 67) (f 73) (f 74) (f 11) (f 5) _
                   rw [HV1.out, HU1.out]; exact hfin))
              | (obtain ⟨v, hv, hat⟩ : ∃ v, f 74 = some v ∧ a.tmps[74]? = some v := by assumption
                 obtain rfl := hS.y v hv
                 have hfin := hS.asg
                 go_simp
                 exact hK _ _ (fun u hu => by cases hu) hfin)
              | fail
          intro d f W9 hS hall hf
          have e9 : d 9 = true := hall 9 (by decide)
          obtain ⟨v11, hv11, -⟩ := hf (some 11, none) (by simp) 11 rfl
          obtain ⟨v5, hv5, -⟩ := hf (some 5, none) (by simp) 5 rfl
          obtain ⟨b, rfl, hbl, _, h3⟩ := hS.a _ hv11
          obtain ⟨r, hrow, hsg⟩ := h3 e9
          obtain rfl := hS.z _ hv5
          have hBl := hS.b
          simp only [putsD, List.filterMap_cons, List.filterMap_nil, Option.map_some, Option.map_none, Option.getD_some, Option.getD_none, List.foldl_cons, List.foldl_nil, Act.put, List.setIfInBounds_toArray, List.set_cons_zero, List.set_cons_succ]
          rw [hv11, hv5]
          simp only [Option.getD_some]
          generalize (f 72).getD undef = v72
          generalize (f 67).getD undef = v67
          generalize (f 73).getD undef = v73
          generalize (f 74).getD undef = v74
          clear hf hv11 hv5 hS
          go_wp2_with fail
          go_meet
          exact ⟨b, r, rfl, rfl, hbl, hrow, hsg, hBl⟩
        case rest =>
          obtain ⟨b, ⟨pp, cp⟩, rfl, rfl, hbl, hrP, hsP, hB7⟩ := hcut
          change VRow wc b 24 [.int .i64 P.q, .int .i64 P.n, .slice pp P.es.length cp] at hrP
          change Sg 3 wc edE pp P.es at hsP
          have x7 := x6.trans (hB7.mono x6.size)
          have d7 := d6.below hB7 d6.lt
          clear g0 g1 g2 hM6 hsM6 d6 hsl1 hcl1 HKP hB7
          obtain ⟨N, hN⟩ : ∃ N : Nat, P.n = N := ⟨P.n.toNat, by have := hvP.n1; omega⟩
          obtain ⟨Q, hQ⟩ : ∃ Q : Nat, P.q = Q := ⟨P.q.toNat, by have := hvP.q1; omega⟩
          have hN64 : N ≤ 64 := by have := hvP.n2; omega
          have hQ256 : Q ≤ 256 := by have := hvP.q2; omega
          have hNT : P.n.toNat = N := by omega
          have hQT : P.q.toNat = Q := by omega
          have HMO := hidI (mof_any P pp cp Q wc hsP hvP huP (by omega) hQ256)
          rw [hNT, hQ, hN] at HMO
          have g0 := hrP.at 0 rfl; have g1 := hrP.at 1 rfl; have g2 := hrP.at 2 rfl
          rw [hQ] at g0
          rw [hN] at g1
          have HQ := hidI hQ; have HN := hidI hN; have HVP := hidI hvP; have HALL := hidI hall; have HNP := hidI hnP
          have HO0 : Hid (Ord P 0 [0]) := ⟨by simp, fun x hx => by obtain rfl := List.mem_singleton.1 hx; omega, by simp, by simp, fun j _ h => by omega⟩
          have HOA : Hid (ordGo P.es Q (N + 1) 0 [0] = ordA P) := by unfold Hid ordA; rw [hNT, hQT]
          have HRV := hidI (fun (i : Nat) (o : List Int) (s : Int) (h : Ord P i o) (hs : o[i]? = some s) => (by have := h.row hvP hs; rw [hQT] at this; exact this : Ord P (i + 1) (ordT P.es s o Q)))
          have HTB := hidI (fun (s a : Int) => tgt_bd hvP s a)
          have HTO := hidI (fun (i : Nat) (o : List Int) (s : Int) (h : Ord P i o) (a : Nat) => ordT_ok hvP (s := s) h a)
          clear hvP hall hnP huP hNT hQT hN hQ
          go_wp2_with fail
          refine HMO.out.mono ?_
          rintro e wT ⟨tb, tbs, rfl, hTab, hBT⟩
          have x8 := x7.trans (hBT.mono x7.size)
          have d8 := d7.below hBT d7.lt
          have hrT := hrP.below hBT hrP.lt
          have hsT := hsP.below hBT
          have ho0 := (own_oneI wT 0)
          obtain ⟨wO, hwO⟩ : ∃ wO, wO = wT.alloc (.cells #[.int .i64 0] 3) := ⟨_, rfl⟩
          have hBO : RowKit.Below wT.heap.size wT wO := by rw [hwO]; exact (RowKit.Below.refl _ _).alloc (Nat.le_refl _) _
          rw [← hwO] at ho0
          have HTab := hidI hTab
          have HD8 := hidI d8; have HRT := hidI hrT; have HST := hidI hsT
          clear g0 g1 g2 d7 hrP hsP HMO hTab hsT hrT d8
          obtain ⟨zt, hzt⟩ : ∃ zt, zt = wT.heap.size := ⟨_, rfl⟩
          rw [← hzt] at ho0
          have HZT := hidI hzt
          go_upto_region 20 with fail
          rw [← hwO, ← hzt]
          clear hwO hzt
          go_wp2_with fail
          go_loopw [13, 14] (fun ov iv wr => ∃ (i : Nat) (o : List Int), iv = .int .i64 i ∧ Hid (ordGo P.es Q (N + 1 - i) i o = ordA P) ∧ Hid (Ord P i o) ∧ wr.ownsRow zt 3 1 ov o.length (o.map (Value.int .i64)) ∧ RowKit.Below wT.heap.size wT wr) (fun _ iv _ => N + 1 - (intOf iv).toNat)
          case atStart => exact ⟨0, [0], rfl, HOA.out, HO0.out, ho0, hBO⟩
          case round =>
            clear ho0 hBO
            obtain ⟨i, o, rfl, hgo, hO, hown, hB⟩ := hrel
            have holen := hO.out.len
            have hole := hO.out.le
            have hNP := HN.out
            have hoN : o.length ≤ N := by omega
            by_cases hlt : i < o.length
            · have hltI : (i : Int) < (o.length : Int) := by omega
              have hgo2 : Hid (ordGo P.es Q (N + 1 - (i + 1)) (i + 1) (ordT P.es o[i] o Q) = ordA P) := by
                rw [Hid, ← hgo.out, show N + 1 - i = (N + 1 - (i + 1)) + 1 by omega]
                show _ = ordGo P.es Q ((N + 1 - (i + 1)) + 1) i o
                conv => rhs; unfold ordGo
                rw [List.getElem?_eq_getElem hlt]
              have hO2 := hidI (HRV.out i o o[i] hO.out (List.getElem?_eq_getElem hlt))
              have hbd := hO.out.bd _ (List.getElem_mem hlt)
              obtain ⟨ob, oc, rfl⟩ : ∃ g cap, u13 = .slice (some ⟨g, 0, none⟩) o.length cap := (own_forms hown).resolve_left (fun h => by omega)
              have e0 : wr.cell? ⟨ob, i, none⟩ = some (.int .i64 o[i]) := (hown.cellAt i (by omega)).trans (by simp [hlt])
              have HTL := hidI (fun a => HTO.out i o o[i] hO.out a)
              obtain ⟨s, hs⟩ : ∃ s : Nat, o[i] = s := ⟨o[i].toNat, by omega⟩
              rw [hs] at e0 hgo2 hO2 HTL
              have hsN : s < N := by omega
              have hsI : (s : Int) < (N : Int) := by omega
              have k1 := ((HTab.out.hd.below hB HTab.out.hd.lt).at s (map_range_get hsN))
              unfold hdV at k1
              have HRW := hidI (fun W (hW : RowKit.Below wT.heap.size wT W) (a : Nat) (ha : a < Q) => ((HTab.out.row s hsN).below hW (HTab.out.row s hsN).lt).at a (map_range_get ha))
              clear hs hbd hgo
              have hown0 : wr.ownsRow zt 3 1 (.slice (some ⟨ob, 0, none⟩) o.length oc) (ordT P.es s o 0).length ((ordT P.es s o 0).map (Value.int .i64)) := hown
              go_wp2_with fail
              clear e0 k1
              go_loopw [13, 16, 98] (fun ov _ av wx => ∃ a : Nat, a ≤ Q ∧ av = .int .i64 a ∧ wx.ownsRow zt 3 1 ov (ordT P.es s o a).length ((ordT P.es s o a).map (Value.int .i64)) ∧ RowKit.Below wT.heap.size wT wx) (fun _ _ av _ => Q - (intOf av).toNat)
              case atStart => exact ⟨0, by omega, rfl, hown0, hB⟩
              case round =>
                clear hown hown0 hB
                obtain ⟨a, ha, rfl, hown, hB⟩ := hrel
                have holen2 := (HTL.out a).len
                by_cases hlta : a < Q
                · have hltaI : (a : Int) < (Q : Int) := by omega
                  have k1 := HRW.out wr hB a hlta
                  simp only [rowV] at k1
                  have htb := HTB.out (s : Int) (a : Int)
                  have HS := hidI (ordT_succ P.es s o a)
                  have HOLD := hidI (@ord1_old P.es s (ordT P.es s o a) a)
                  have HNEW := hidI (@ord1_new P.es s (ordT P.es s o a) a)
                  have hoN2 : (ordT P.es s o a).length ≤ N := by omega
                  generalize ordT P.es s o a = oa at *
                  generalize tgt P.es s a = tv at *
                  by_cases hto : tv = -1
                  · have hb : (tv != -1) = false := by simp [hto]
                    have HX : Hid (ordT P.es s o (a + 1) = oa) := by rw [Hid, HS.out, HOLD.out (.inl hto)]
                    clear hto HOLD HNEW HS htb
                    go_wp2
                    go_roundw
                    case rel => exact ⟨a + 1, by omega, by go_num, by rw [HX.out]; exact hown, hB⟩
                    case measure => simp [intOf]; omega
                  · have hb : (tv != -1) = true := by simpa using hto
                    obtain ⟨pv, cv, rfl, hsl⟩ := own_sl hown
                    have HCN := hidI (containsI_any oa pv cv tv wr hsl (by omega))
                    by_cases hm : tv ∈ oa
                    · have HX : Hid (ordT P.es s o (a + 1) = oa) := by rw [Hid, HS.out, HOLD.out (.inr hm)]
                      rw [decide_eq_true hm] at HCN
                      clear hto HOLD HNEW HS htb hm hsl
                      go_wp2_with fail
                      refine HCN.out.mono ?_
                      rintro e wc2 ⟨rfl, hwc⟩
                      replace hwc := hwc.symm
                      subst hwc
                      go_wp2
                      go_roundw
                      case rel => exact ⟨a + 1, by omega, by go_num, by rw [HX.out]; exact hown, hB⟩
                      case measure => simp [intOf]; omega
                    · have HX : Hid (ordT P.es s o (a + 1) = oa ++ [tv]) := by rw [Hid, HS.out, HNEW.out hto hm]
                      rw [decide_eq_false hm] at HCN
                      have hl1 : (oa ++ [tv]).length = oa.length + 1 := by simp
                      have hnew := cell_one_at wr (.int .i64 tv) 3 wr.heap.size rfl
                      have hzz : zt ≤ wr.heap.size := by have := hB.size; have := HZT.out; omega
                      have hown3 := hown.alloc (.cells #[.int .i64 tv] 3)
                      clear hto HOLD HNEW HS htb hm hsl
                      go_wp2_with fail
                      refine HCN.out.mono ?_
                      rintro e wc2 ⟨rfl, hwc⟩
                      replace hwc := hwc.symm
                      subst hwc
                      go_wp2_with (at_builtin; refine wpList_append_own _ rfl _ _ 30 rfl zt 3 i0 (.int .i64 0) 1 8 Tryz.underlying30 hi0 hz0 hz1 hz3 rfl (by decide) _ _ _ rfl hown3 ⟨wr.heap.size, 0, none⟩ 1 1 [.int .i64 tv] rfl rfl hnew (by simp [Value.oneCell']) (by simp [maxLen]; omega) (by omega) (by simp; omega) ?_; intro v' w9 hown' hgrow _)
                      have hB9 : RowKit.Below wT.heap.size wT w9 := (hB.alloc hB.size _).grown hgrow (by have := hB.size; simp; omega) (fun j e => by have := (hown.lt j e).1; have := HZT.out; omega)
                      go_roundw
                      case rel => exact ⟨a + 1, by omega, by go_num, by rw [HX.out, hl1, List.map_append]; exact hown', hB9⟩
                      case measure => simp [intOf]; omega
                · obtain rfl : a = Q := by omega
                  have hltaI : ¬ (a : Int) < (a : Int) := by omega
                  go_wp2
                  go_roundw
                  case rel => exact ⟨i + 1, _, by go_num, hgo2, hO2, hown, hB⟩
                  case measure => simp [intOf]; omega
            · have hio : i = o.length := by omega
              subst hio
              rename World => wq
              have hoA : Hid (ordA P = o) := by
                have hn : o[o.length]? = none := List.getElem?_eq_none (Nat.le_refl _)
                rw [Hid, ← hgo.out, show N + 1 - o.length = (N - o.length) + 1 by omega]
                unfold ordGo
                simp only [hn]
              have hop : 0 < o.length := List.length_pos_of_mem hO.out.zero
              obtain ⟨ob, oc, rfl⟩ : ∃ g cap, u13 = .slice (some ⟨g, 0, none⟩) o.length cap := (own_forms hown).resolve_left (fun h => by omega)
              have hobl := (hown.lt ob rfl).2
              have hoc : ∀ j (h : j < o.length), wq.cell? ⟨ob, j, none⟩ = some (.int .i64 o[j]) := fun j h => (hown.cellAt j (by omega)).trans (by simp [h])
              have HIX := hidI (fun (x : Int) (hx : x ∈ o) (W : World) (hW : RowKit.Below wq.heap.size wq W) => index_any o ob oc x W hx (by omega) (fun j h => (hW.cell (p := ⟨ob, j, none⟩) hobl).trans (hoc j h)))
              have hBr := x8.trans (hB.mono x8.size)
              have hPr := HRT.out.below hB HRT.out.lt
              have HSR := hidI (HST.out.below hB)
              have d9 := HD8.out.below hB HD8.out.lt
              have HPR := hidI hPr
              have HD9 := hidI d9
              have hREN := ren_eq HVP.out HNP.out HALL.out
              rw [hoA.out, HQ.out, HN.out] at hREN
              have HREN := hidI hREN
              have HMEM : Hid (∀ x ∈ P.es, x.f ∈ o ∧ x.t ∈ o) := fun x hx => by
                have hb := HVP.out.ins x hx
                have h1 := HALL.out x.f hb.1 hb.2.2.2.1
                have h2 := HALL.out x.t hb.2.2.1 hb.2.2.2.2.1
                rw [hoA.out] at h1 h2
                exact ⟨h1, h2⟩
              have hpl := HVP.out.len
              have hltI : ¬ (o.length : Int) < (o.length : Int) := by omega
              have hRq : (renG P).q = Q := HQ.out
              have hRn : (renG P).n = N := HN.out
              have g0 := hPr.at 0 rfl; have g1 := hPr.at 1 rfl; have g2 := hPr.at 2 rfl
              rw [HQ.out] at g0
              rw [HN.out] at g1
              generalize renG P = R at *
              clear hNP hown hoc hB hgo hO hlt hole hoN hoA hREN hobl hPr d9
              have ho0 : wq.ownsRow wq.heap.size 44 3 (.slice none 0 0) 0 (cat []) := ⟨by simp [cat], .inl ⟨rfl, rfl⟩⟩
              go_wp2_with fail
              clear g0 g1 g2 hltI
              go_loopw [17, 118] (fun ov kv wx => ∃ k : Nat, k ≤ P.es.length ∧ kv = .int .i64 k ∧ wx.ownsRow wq.heap.size 44 3 ov k (cat ((P.es.take k).map (renE o))) ∧ RowKit.Below wq.heap.size wq wx) (fun _ kv _ => P.es.length - (intOf kv).toNat)
              case atStart => exact ⟨0, by omega, rfl, ho0, RowKit.Below.refl _ _⟩
              case round =>
                clear ho0
                obtain ⟨k, hk, rfl, hown, hB⟩ := hrel
                have hPr := HPR.out.below hB HPR.out.lt
                by_cases hlt : k < P.es.length
                · have hltI : (k : Int) < (P.es.length : Int) := by omega
                  obtain ⟨b3, o3, rfl, hb3, e0, e1, e2⟩ := (HSR.out.below hB).get3 k hlt rfl
                  have hme := HMEM.out _ (List.getElem_mem hlt)
                  have HNN : Hid ((P.es.take (k + 1)).map (renE o) = (P.es.take k).map (renE o) ++ [renE o P.es[k]]) := by rw [Hid, List.take_succ_eq_append_getElem hlt, List.map_append]; rfl
                  generalize (P.es.take k).map (renE o) = M2 at *
                  generalize P.es[k] = x at *
                  obtain ⟨y, hy⟩ : ∃ y, renE o x = y := ⟨_, rfl⟩
                  have hyf : ((o.idxOf x.f : Nat) : Int) = y.f := by rw [← hy]; rfl
                  have HYL : Hid (y.l = x.l) := by rw [Hid, ← hy]; rfl
                  have hyt : ((o.idxOf x.t : Nat) : Int) = y.t := by rw [← hy]; rfl
                  have HF := hidI (fun W hW => HIX.out x.f hme.1 W hW)
                  have HT := hidI (fun W hW => HIX.out x.t hme.2 W hW)
                  rw [hyf] at HF
                  rw [hyt] at HT
                  rw [hy] at HNN
                  obtain ⟨W0, hW0⟩ : ∃ W0, W0 = wr.alloc (.cells #[.int .i64 x.f, .int .i64 x.l, .int .i64 x.t] 44) := ⟨_, rfl⟩
                  have bx : VRow W0 wr.heap.size 44 [.int .i64 x.f, .int .i64 x.l, .int .i64 x.t] := by subst hW0; exact VRow.new wr _ _
                  have hBb : RowKit.Below wr.heap.size wr W0 := by subst hW0; exact (RowKit.Below.refl _ _).alloc (Nat.le_refl _) _
                  have hownb : W0.ownsRow wq.heap.size 44 3 u17 k (cat M2) := by subst hW0; exact hown.alloc _
                  have hBw := hB.trans (hBb.mono hB.size)
                  have hnx : some wr.heap.size ≠ u17.ownBlock := fun h => by have := (hown.lt _ h.symm).2; omega
                  have hzW : ∀ W, RowKit.Below wq.heap.size W0 W → wq.heap.size ≤ W.heap.size := fun W hW => by have := hW.size; have := hBw.size; omega
                  obtain ⟨xb, hxb⟩ : ∃ xb, xb = wr.heap.size := ⟨_, rfl⟩
                  rw [← hxb] at hnx bx
                  have HZW := hidI hzW; have HBW := hidI hBw
                  have hS0 : KpE wq.heap.size W0 u17 k M2 y xb x false none none none { W0 with drawn := W0.drawn + 1 } :=
                    ⟨below_dN (RowKit.Below.refl _ _) 1, bx.dr ⟨1, rfl⟩, (fun _ => hownb.dr ⟨1, rfl⟩), (fun _ _ e => by cases e), (fun e => by cases e), (fun _ e => by cases e)⟩
                  have e0 : wr.cell? ⟨b3, o3 + k * 3, none⟩ = some (.int .i64 x.f) := e0
                  have e1 : wr.cell? ⟨b3, o3 + k * 3 + 1, none⟩ = some (.int .i64 x.l) := e1
                  have e2 : wr.cell? ⟨b3, o3 + k * 3 + 2, none⟩ = some (.int .i64 x.t) := e2
                  clear hme hy hzW hBw hBb bx hPr
                  go_upto_region 33 with fail
                  rw [← hW0, ← hxb]
                  clear hW0 hxb e0 e1 e2 hyf hyt
                  refine region_detW (by kernel_rfl) 15 [(some 122, some u17), (some 123, some (.slice (some ⟨ob, 0, none⟩) o.length oc)), (some 124, some (.pointer (some ⟨xb, 0, none⟩))), (some 125, some (.int .i64 x.f)), (some 126, some (.int .i64 y.f)), (some 127, some (.pointer (some ⟨xb, 1, none⟩))), (some 128, some (.int .i64 x.l)), (some 129, some (.slice (some ⟨ob, 0, none⟩) o.length oc)), (some 130, some (.pointer (some ⟨xb, 2, none⟩))), (some 131, some (.int .i64 x.t)), (some 132, some (.int .i64 y.t)), (some 133, some (.agg #[.int .i64 y.f, .int .i64 x.l, .int .i64 y.t])), (some 134, none), (some 135, none), (some 17, none)]
                    (fun d f W => KpE wq.heap.size W0 u17 k M2 y xb x (d 13) (f 134) (f 135) (f 17) W) (by kernel_rfl) (by kernel_rfl) (by kernel_rfl) (by kernel_rfl) hS0 ?_ ?_
                  focus
                    intro i o' ho a d f W hS hdi hdn hnd hdep hout hold K hK
                    have hil : i < 15 := (Array.getElem?_eq_some_iff.1 ho).1
                    have hcases : i = 0 ∨ i = 1 ∨ i = 2 ∨ i = 3 ∨ i = 4 ∨ i = 5 ∨ i = 6 ∨ i = 7 ∨ i = 8 ∨ i = 9 ∨ i = 10 ∨ i = 11 ∨ i = 12 ∨ i = 13 ∨ i = 14 := by omega
                    clear hil
                    have u13' := hout 13 (by kernel_rfl)
                    have u19' := hout 19 (by kernel_rfl)
                    simp at u13' u19'
                    clear hout
                    have hc0 := hS.x.at 0 rfl
                    have hc1 := hS.x.at 1 rfl
                    have hc2 := hS.x.at 2 rfl
                    rcases hcases with rfl | rfl | rfl | rfl | rfl | rfl | rfl | rfl | rfl | rfl | rfl | rfl | rfl | rfl | rfl
                    · have h17 := (hold 14 (by kernel_rfl) _ rfl 17 rfl).2
                      simp at h17
                      (simp only [List.getElem?_toArray, List.getElem?_cons_succ, List.getElem?_cons_zero, Option.some.injEq] at ho; subst ho; simp [Region.binds] at hdep; (try go_split_ands)); go_simp; exact hK _ _ (fun u hu => Option.some.inj hu) hS
                    · (simp only [List.getElem?_toArray, List.getElem?_cons_succ, List.getElem?_cons_zero, Option.some.injEq] at ho; subst ho; simp [Region.binds] at hdep; (try go_split_ands)); go_simp; exact hK _ _ (fun u hu => Option.some.inj hu) hS
                    · (simp only [List.getElem?_toArray, List.getElem?_cons_succ, List.getElem?_cons_zero, Option.some.injEq] at ho; subst ho; simp [Region.binds] at hdep; (try go_split_ands)); go_simp; exact hK _ _ (fun u hu => Option.some.inj hu) hS
                    · (simp only [List.getElem?_toArray, List.getElem?_cons_succ, List.getElem?_cons_zero, Option.some.injEq] at ho; subst ho; simp [Region.binds] at hdep; (try go_split_ands)); go_simp; exact hK _ _ (fun u hu => Option.some.inj hu) hS
                    · (simp only [List.getElem?_toArray, List.getElem?_cons_succ, List.getElem?_cons_zero, Option.some.injEq] at ho; subst ho; simp [Region.binds] at hdep; (try go_split_ands))
                      go_simp
                      refine (HF.out W (HBW.out.trans hS.b)).mono ?_
                      rintro e wk ⟨rfl, hwk⟩
                      replace hwk := hwk.symm
                      subst hwk
                      exact hK _ _ (fun u hu => Option.some.inj hu) hS
                    · (simp only [List.getElem?_toArray, List.getElem?_cons_succ, List.getElem?_cons_zero, Option.some.injEq] at ho; subst ho; simp [Region.binds] at hdep; (try go_split_ands)); go_simp; exact hK _ _ (fun u hu => Option.some.inj hu) hS
                    · (simp only [List.getElem?_toArray, List.getElem?_cons_succ, List.getElem?_cons_zero, Option.some.injEq] at ho; subst ho; simp [Region.binds] at hdep; (try go_split_ands)); go_simp; exact hK _ _ (fun u hu => Option.some.inj hu) hS
                    · (simp only [List.getElem?_toArray, List.getElem?_cons_succ, List.getElem?_cons_zero, Option.some.injEq] at ho; subst ho; simp [Region.binds] at hdep; (try go_split_ands)); go_simp; exact hK _ _ (fun u hu => Option.some.inj hu) hS
                    · (simp only [List.getElem?_toArray, List.getElem?_cons_succ, List.getElem?_cons_zero, Option.some.injEq] at ho; subst ho; simp [Region.binds] at hdep; (try go_split_ands)); go_simp; exact hK _ _ (fun u hu => Option.some.inj hu) hS
                    · (simp only [List.getElem?_toArray, List.getElem?_cons_succ, List.getElem?_cons_zero, Option.some.injEq] at ho; subst ho; simp [Region.binds] at hdep; (try go_split_ands)); go_simp; exact hK _ _ (fun u hu => Option.some.inj hu) hS
                    · (simp only [List.getElem?_toArray, List.getElem?_cons_succ, List.getElem?_cons_zero, Option.some.injEq] at ho; subst ho; simp [Region.binds] at hdep; (try go_split_ands))
                      go_simp
                      refine (HT.out W (HBW.out.trans hS.b)).mono ?_
                      rintro e wk ⟨rfl, hwk⟩
                      replace hwk := hwk.symm
                      subst hwk
                      exact hK _ _ (fun u hu => Option.some.inj hu) hS
                    · (simp only [List.getElem?_toArray, List.getElem?_cons_succ, List.getElem?_cons_zero, Option.some.injEq] at ho; subst ho; simp [Region.binds] at hdep; (try go_split_ands)); go_simp; exact hK _ _ (fun u hu => Option.some.inj hu) hS
                    · have e13 := hnd 13 (by kernel_rfl)
                      have h134 := (hold 12 (by kernel_rfl) _ rfl 134 rfl).1
                      have h := hS
                      rw [e13, h134] at h
                      have hfin := h.alloc (HZW.out W hS.b)
                      rw [HYL.out] at hfin
                      clear h
                      (simp only [List.getElem?_toArray, List.getElem?_cons_succ, List.getElem?_cons_zero, Option.some.injEq] at ho; subst ho; simp [Region.binds] at hdep; (try go_split_ands))
                      go_simp
                      exact hK _ _ (fun u hu => by cases hu) (by
                        show KpE _ _ _ _ _ _ _ _ (d 13) (some _) (f 135) (f 17) _
                        rw [e13]; exact hfin)
                    · have h135 := (hold 13 (by kernel_rfl) _ rfl 135 rfl).1
                      have h17 := (hold 14 (by kernel_rfl) _ rfl 17 rfl).1
                      have e13 : d 13 = false := hdi
                      (simp only [List.getElem?_toArray, List.getElem?_cons_succ, List.getElem?_cons_zero, Option.some.injEq] at ho; subst ho; simp [Region.binds] at hdep; (try go_split_ands))
                      obtain ⟨v, hv, hat⟩ : ∃ v, f 134 = some v ∧ a.tmps[134]? = some v := by assumption
                      have h := hS
                      rw [e13, hv, h135, h17] at h
                      obtain ⟨c, rfl, hc⟩ := h.m rfl _ rfl
                      refine step_append_sg (by rfl) (.tmp 122) (.tmp 134) 22 (by rfl) u17 (some ⟨c, 0, none⟩) 1 1 (by simp [Act.eval, *]) (by simp [Act.eval, *]) wq.heap.size 44 i9 _ Tryz.underlying22 hi9 hx0 hx1 hx2 rfl M2 k [y] rfl (by omega) (h.o rfl) (Sg.of_row (l := [y]) hc) (HZW.out W h.b) ?_
                      intro v' w' hown' hg'
                      exact hK _ _ (fun u hu => by cases hu) (by
                        show KpE _ _ _ _ _ _ _ _ true (f 134) (some _) (f 17) _
                        rw [hv, h17]
                        exact h.app (HZW.out W h.b) hnx hown' hg')
                    · (simp only [List.getElem?_toArray, List.getElem?_cons_succ, List.getElem?_cons_zero, Option.some.injEq] at ho; subst ho; simp [Region.binds] at hdep; (try go_split_ands))
                      obtain ⟨v, hv, hat⟩ : ∃ v, f 135 = some v ∧ a.tmps[135]? = some v := by assumption
                      have h := hS
                      rw [hv] at h
                      have hfin := h.asg
                      go_simp
                      exact hK _ _ (fun u hu => by cases hu) (by
                        show KpE _ _ _ _ _ _ _ _ (d 13) (f 134) (f 135) (some _) W
                        rw [hv]; exact hfin)
                  intro d f W9 hS hall hf
                  have e13 : d 13 = true := hall 13 (by decide)
                  obtain ⟨v17, hv17, -⟩ := hf (some 17, none) (by simp) 17 rfl
                  obtain ⟨v, hv, hown9⟩ := hS.a e13
                  have hz17 := hS.z _ hv17
                  rw [hv] at hz17
                  cases hz17
                  have hB9 := HBW.out.trans hS.b
                  simp only [putsD, List.filterMap_cons, List.filterMap_nil, Option.map_some, Option.map_none, Option.getD_some, Option.getD_none, List.foldl_cons, List.foldl_nil, Act.put, List.setIfInBounds_toArray, List.set_cons_zero, List.set_cons_succ]
                  rw [hv17]
                  simp only [Option.getD_some]
                  generalize (f 134).getD undef = v134
                  generalize (f 135).getD undef = v135
                  clear hf hv17 hv hS hown hownb hB
                  go_wp2
                  go_roundw
                  case rel => exact ⟨k + 1, by omega, by go_num, by rw [HNN.out]; exact hown9, hB9⟩
                  case measure => simp [intOf]; omega
                · have hltI : ¬ (k : Int) < (P.es.length : Int) := by omega
                  obtain rfl : k = P.es.length := by omega
                  rw [List.take_length] at hown
                  obtain ⟨pv, cv, rfl, hsv, _, _⟩ := own_sg hown
                  have HM := hidI (gMake_own Q N (P.es.map (renE o)) pv cv wr hsv (by rw [List.length_map]; omega))
                  rw [HREN.out, List.length_map] at HM
                  have hBr2 := hBr.trans (hB.mono hBr.size)
                  have d9 := HD9.out.below hB HD9.out.lt
                  have g0 := hPr.at 0 rfl; have g1 := hPr.at 1 rfl
                  rw [HQ.out] at g0
                  rw [HN.out] at g1
                  clear hown hsv hPr hB
                  go_wp2_with fail
                  refine HM.out.mono ?_
                  rintro e w3 ⟨p3, m3, c3, rfl, hown3, hB3⟩
                  have x9 := hBr2.trans (hB3.mono hBr2.size)
                  have e1 := d9.below hB3 d9.lt
                  obtain ⟨p4, c4, he4, hs3, hl3, _⟩ := own_sg hown3
                  cases he4
                  have j0 := e1.at 0 rfl; have j1 := e1.at 1 rfl; have j2 := e1.at 2 rfl
                  have z0 := e1.frozen 0; have z1 := e1.frozen 1; have z2 := e1.frozen 2
                  have r1 := VRow.set (i := 0) (.int .i64 R.q) e1
                  have r2 := VRow.set (i := 1) (.int .i64 R.n) r1
                  have r3 := VRow.set (i := 2) (.slice p3 R.es.length c3) r2
                  have hs9 := sg_boxN r2 (sg_boxN r1 (sg_boxN e1 hs3 0 (.int .i64 R.q)) 1 (.int .i64 R.n)) 2 (.slice p3 R.es.length c3)
                  have x10 := ((x9.setCell (p := ⟨w.heap.size + 1, 0, none⟩) (by simp) (.int .i64 R.q)).setCell (p := ⟨w.heap.size + 1, 1, none⟩) (by simp) (.int .i64 R.n)).setCell (p := ⟨w.heap.size + 1, 2, none⟩) (by simp) (.slice p3 R.es.length c3)
                  have y0 := r3.at 0 rfl; have y1 := r3.at 1 rfl; have y2 := r3.at 2 rfl
                  clear g0 g1 hown3 hRq hRn
                  go_wp2
                  refine bodyPost_ret (v := .tuple #[.agg #[.int .i64 R.q, .int .i64 R.n, .slice p3 R.es.length c3], .int .i64 0]) (by simp [results, Tryz.results13, go_sem, y0, y1, y2]) rfl ?_
                  exact RetGr.of HK.out hs9 hl3 x10
end Go.Proofs.YtocbhlohcikapaaGreatDoor
