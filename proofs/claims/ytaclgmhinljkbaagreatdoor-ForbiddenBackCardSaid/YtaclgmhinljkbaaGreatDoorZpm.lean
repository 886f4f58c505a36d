/-
  Words, plain lemmas and walks, merged: Ey, Ek, Na, Nb, Nd, Ne, Nl, Nm, Nc, Nf.
-/
import Derived.Test.YtaclgmhinljkbaaGreatDoorZpl
import Derived.Test.YtaclgmhinljkbaaGreatDoorZpj
import Derived.Test.YtaclgmhinljkbaaGreatDoorZpf
import Derived.Test.YtaclgmhinljkbaaGreatDoorZpe
import Derived.Test.YtaclgmhinljkbaaGreatDoorZpb
import Derived.Laws.CopyOwn
import Derived.Deep.RegionLaw
import Derived.Deep.Quiet
import Derived.Test.YtaclgmhinljkbaaGreatDoorZpg
import Derived.DeepKeys4
import Derived.Laws.StructEq
import Derived.Shelf.SlicesE.Equal
set_option linter.unusedVariables false
set_option linter.unusedSimpArgs false
namespace Go.Proofs.YtaclgmhinljkbaaGreatDoor
open Go

/-! ### Words and their letters -/
theorem ltC_inv : ∀ c : Nat, c < 256 → 0 ≤ Chg.dig (c : Int) → Chg.dig (c : Int) < 16 → ltC (Chg.dig (c : Int)).toNat = UInt8.ofNat c := by decide +kernel
theorem bl_wdc (u : ByteArray) {a : Nat} (h : a < 16) : bl (wdA u a) = bl u ++ [ltC a] := by rw [bl_wd0, ltC_one a h]; rfl
theorem okw_bl (q : Int) (u : ByteArray) : Chg.okw q u.data.toList = (bl u).all (Chg.okc q) := rfl
/-- A word that is not empty is a word with a letter more. -/
theorem snoc_of {q : Int} (hq : q ≤ 16) {u : ByteArray} {k : Nat} (hs : u.size = k + 1) (ho : Chg.okw q u.data.toList = true) : ∃ (v : ByteArray) (a : Nat), a < q.toNat ∧ u = wdA v a ∧ v.size = k ∧ Chg.okw q v.data.toList = true ∧ bl v = (bl u).dropLast := by
  have hl : (bl u).length = k + 1 := by rw [bl_len, hs]
  have hne : bl u ≠ [] := fun e => by rw [e] at hl; simp at hl
  have he := List.dropLast_concat_getLast hne
  have hall : ∀ c ∈ bl u, Chg.okc q c = true := by rw [okw_bl, List.all_eq_true] at ho; exact ho
  have hc := hall _ (List.getLast_mem hne)
  generalize (bl u).getLast hne = c at *
  have hd : 0 ≤ Chg.dig (c.toNat : Int) ∧ Chg.dig (c.toNat : Int) < q := by
    unfold Chg.okc at hc
    rw [Bool.and_eq_true, decide_eq_true_eq, decide_eq_true_eq] at hc
    exact hc
  have hca : ltC (Chg.dig (c.toNat : Int)).toNat = c := by
    rw [ltC_inv c.toNat c.toNat_lt hd.1 (by omega), UInt8.ofNat_toNat]
  have hb : bl (lb (bl u).dropLast) = (bl u).dropLast := bl_lb _
  refine ⟨lb (bl u).dropLast, (Chg.dig (c.toNat : Int)).toNat, by omega, ?_, ?_, ?_, hb⟩
  · apply bl_inj
    rw [bl_wdc _ (by omega), hb, hca]
    exact he.symm
  · have := congrArg List.length hb
    rw [bl_len, List.length_dropLast, hl] at this
    omega
  · rw [okw_bl, hb, List.all_eq_true]
    exact fun x hx => hall x (List.dropLast_subset _ hx)
theorem size0 {u : ByteArray} (h : u.size = 0) : u = ⟨#[]⟩ := by
  apply bl_inj
  rw [show bl ⟨#[]⟩ = [] from rfl]
  exact List.eq_nil_of_length_eq_zero (by rw [bl_len, h])
/-- The words of one length: those that are accepted. -/
theorem mem_wk_iff {G : Gr} (hq : G.q ≤ 16) : ∀ {k : Nat} {u : ByteArray}, u ∈ wk G k ↔ u.size = k ∧ Chg.okw G.q u.data.toList = true ∧ accA G u = true
  | 0, u => by
    constructor
    · exact fun h => ⟨wk_size hq h, wk_okw hq h, wk_acc h⟩
    · rintro ⟨h1, _, h3⟩
      have hu := size0 h1
      subst hu
      rw [accA_en, enA_nil, upto_len, decide_eq_true_eq] at h3
      unfold wk
      rw [if_pos (by omega)]; simp
  | k + 1, u => by
    constructor
    · exact fun h => ⟨wk_size hq h, wk_okw hq h, wk_acc h⟩
    · rintro ⟨h1, h2, h3⟩
      obtain ⟨v, a, ha, rfl, hvs, hvo, _⟩ := snoc_of hq h1 h2
      exact mem_wk.2 ⟨v, (mem_wk_iff hq).2 ⟨hvs, hvo, acc_less (by omega) h3⟩, a, ha, h3, rfl⟩
/-! ### Parts of words -/
def acL (G : Gr) (l : List Int) : Bool := decide (0 < (endA G (upto G.n.toNat) l).length)
theorem next_mono {G : Gr} {st st' : List Int} (h : ∀ x ∈ st, x ∈ st') (b : Int) : ∀ x ∈ nextA G st b, x ∈ nextA G st' b := by
  intro x hx
  unfold nextA at hx ⊢
  obtain ⟨h1, h2⟩ := List.mem_filter.1 hx
  refine List.mem_filter.2 ⟨h1, ?_⟩
  unfold nxP at h2 ⊢
  obtain ⟨e, he, h3⟩ := List.any_eq_true.1 h2
  refine List.any_eq_true.2 ⟨e, he, ?_⟩
  unfold nxE at h3 ⊢
  simp only [Bool.and_eq_true, decide_eq_true_eq] at h3 ⊢
  exact ⟨h3.1, h3.2.1, h _ h3.2.2⟩
theorem end_mono {G : Gr} : ∀ (l : List Int) {st st' : List Int}, (∀ x ∈ st, x ∈ st') → ∀ x ∈ endA G st l, x ∈ endA G st' l
  | [], _, _, h => h
  | b :: l, _, _, h => end_mono l (next_mono h b)
theorem end_app (G : Gr) (st a b : List Int) : endA G st (a ++ b) = endA G (endA G st a) b := by unfold endA; rw [List.foldl_append]
theorem end_in {G : Gr} (hn : 0 ≤ G.n) (a : List Int) : ∀ x ∈ endA G (upto G.n.toNat) a, x ∈ upto G.n.toNat := by
  intro x hx
  have := (endA_st G _ (St.upto hn) a).2 x hx
  rw [mem_upto]; omega
theorem acL_right {G : Gr} (hn : 0 ≤ G.n) {a b : List Int} (h : acL G (a ++ b) = true) : acL G b = true := by
  unfold acL at h ⊢
  rw [decide_eq_true_eq] at h ⊢
  obtain ⟨x, hx⟩ := List.exists_mem_of_length_pos h
  rw [end_app] at hx
  exact List.length_pos_of_mem (end_mono b (end_in hn a) x hx)
theorem acL_left {G : Gr} {a b : List Int} (h : acL G (a ++ b) = true) : acL G a = true := by
  unfold acL at h ⊢
  rw [decide_eq_true_eq] at h ⊢
  rcases Nat.eq_zero_or_pos (endA G (upto G.n.toNat) a).length with h0 | h0
  · rw [end_app, List.eq_nil_of_length_eq_zero h0, endA_nil] at h
    simp at h
  · exact h0
def dgs (l : List UInt8) : List Int := l.map (fun c => Chg.dig c.toNat)
theorem acc_dgs (G : Gr) (u : ByteArray) : accA G u = acL G (dgs (bl u)) := rfl
theorem dgs_app (a b : List UInt8) : dgs (a ++ b) = dgs a ++ dgs b := List.map_append
theorem acL_inf {G : Gr} (hn : 0 ≤ G.n) {x l : List UInt8} (h : x <:+: l) (hl : acL G (dgs l) = true) : acL G (dgs x) = true := by
  obtain ⟨a, b, rfl⟩ := h
  rw [dgs_app, dgs_app] at hl
  exact acL_right hn (acL_left hl)
/-- In a word that is none lies a least one. -/
theorem least_in {G : Gr} (hn : 0 < G.n) : ∀ (m : Nat) (l : List UInt8), l.length = m → acL G (dgs l) = false → ∃ x : List UInt8, x ≠ [] ∧ x <:+: l ∧ acL G (dgs x) = false ∧ acL G (dgs x.tail) = true ∧ acL G (dgs x.dropLast) = true
  | 0, l, hm, h => by
    rw [List.eq_nil_of_length_eq_zero hm] at h
    have : acL G (dgs []) = true := by
      unfold acL
      rw [show endA G (upto G.n.toNat) (dgs []) = upto G.n.toNat from rfl, upto_len, decide_eq_true_eq]; omega
    rw [this] at h; cases h
  | m + 1, l, hm, h => by
    cases ht : acL G (dgs l.tail) with
    | false =>
      obtain ⟨x, h1, h2, h3⟩ := least_in hn m l.tail (by rw [List.length_tail]; omega) ht
      exact ⟨x, h1, h2.trans (List.tail_suffix l).isInfix, h3⟩
    | true =>
      cases hd : acL G (dgs l.dropLast) with
      | false =>
        obtain ⟨x, h1, h2, h3⟩ := least_in hn m l.dropLast (by rw [List.length_dropLast]; omega) hd
        exact ⟨x, h1, h2.trans (List.dropLast_prefix l).isInfix, h3⟩
      | true => exact ⟨l, fun e => by rw [e] at hm; simp at hm, List.infix_rfl, h, ht, hd⟩
/-! ### What is found -/
theorem mem_fdK {G : Gr} {k : Nat} {x : ByteArray} : x ∈ fdK G k ↔ ∃ u ∈ wk G k, ∃ a : Nat, a < G.q.toNat ∧ x = wdA u a ∧ accA G x = false ∧ x.extract 1 x.size ∈ wk G k := by
  unfold fdK
  rw [List.mem_flatMap]
  constructor
  · rintro ⟨u, hu, hx⟩
    unfold fdW at hx
    obtain ⟨a, ha, rfl⟩ := List.mem_map.1 hx
    obtain ⟨h1, h2⟩ := List.mem_filter.1 ha
    simp only [Bool.and_eq_true, Bool.not_eq_true', List.any_eq_true, decide_eq_true_eq] at h2
    obtain ⟨h3, y, hy, e⟩ := h2
    exact ⟨u, hu, a, List.mem_range.1 h1, rfl, h3, by rw [← e]; exact hy⟩
  · rintro ⟨u, hu, a, ha, rfl, h3, h4⟩
    refine ⟨u, hu, ?_⟩
    unfold fdW
    refine List.mem_map.2 ⟨a, List.mem_filter.2 ⟨List.mem_range.2 ha, ?_⟩, rfl⟩
    simp only [Bool.and_eq_true, Bool.not_eq_true', List.any_eq_true, decide_eq_true_eq]
    exact ⟨h3, _, h4, rfl⟩
theorem mem_fdN {G : Gr} {n : Nat} {x : ByteArray} : x ∈ fdN G n ↔ ∃ k, k < n ∧ x ∈ fdK G k := by
  unfold fdN
  rw [List.mem_flatMap]
  constructor
  · rintro ⟨k, hk, hx⟩; exact ⟨k, List.mem_range.1 hk, hx⟩
  · rintro ⟨k, hk, hx⟩; exact ⟨k, List.mem_range.2 hk, hx⟩
/-- What the law asks of each word that is found. -/
theorem fd_each {G : Gr} (hq : G.q ≤ 16) {n : Nat} {x : ByteArray} (h : x ∈ fdN G n) :
    1 ≤ x.size ∧ x.size ≤ n ∧ Chg.okw G.q x.data.toList = true ∧ accA G x = false ∧ accA G (x.extract 1 x.size) = true ∧ accA G (x.extract 0 (x.size - 1)) = true ∧ Chg.okw G.q (x.extract 1 x.size).data.toList = true ∧ Chg.okw G.q (x.extract 0 (x.size - 1)).data.toList = true := by
  obtain ⟨k, hk, hx⟩ := mem_fdN.1 h
  obtain ⟨u, hu, a, ha, rfl, h3, h4⟩ := mem_fdK.1 hx
  have hs := wd_sz u (a := a) (by omega)
  have hus := wk_size hq hu
  have hcut : (wdA u a).extract 0 ((wdA u a).size - 1) = u := by
    apply bl_inj
    rw [bl_ext, List.drop_zero, hs, bl_wdc u (by omega), Nat.add_sub_cancel, ← bl_len u, List.take_left]
  rw [hcut]
  exact ⟨by omega, by omega, okw_wd (wk_okw hq hu) (by omega) (by omega), h3, wk_acc h4, wk_acc hu, wk_okw hq h4, wk_okw hq hu⟩
def ordX (x y : ByteArray) : Prop := x.size < y.size ∨ (x.size = y.size ∧ bl x < bl y)
theorem fdK_ord {G : Gr} (hq : G.q ≤ 16) (k : Nat) : (fdK G k).Pairwise (fun x y => bl x < bl y) := by
  unfold fdK
  rw [List.pairwise_flatMap]
  refine ⟨fun u _ => ?_, List.Pairwise.imp_of_mem (fun {u v} hu hv h x hx y hy => ?_) (wk_sorted hq k)⟩
  · unfold fdW
    rw [List.pairwise_map]
    refine List.Pairwise.imp_of_mem (fun {a b} ha hb h => ?_) ((List.pairwise_lt_range (n := G.q.toNat)).filter _)
    have ha' := List.mem_range.1 (List.mem_filter.1 ha).1
    have hb' := List.mem_range.1 (List.mem_filter.1 hb).1
    rw [bl_wd0, bl_wd0]
    exact lt_app2 _ (letter_lt a (by omega) b (by omega) h)
  · unfold fdW at hx hy
    obtain ⟨a, _, rfl⟩ := List.mem_map.1 hx
    obtain ⟨b, _, rfl⟩ := List.mem_map.1 hy
    rw [bl_wd0, bl_wd0]
    exact lt_app _ _ (by rw [bl_len, bl_len, wk_size hq hu, wk_size hq hv]) h
theorem fdK_size {G : Gr} (hq : G.q ≤ 16) {k : Nat} {x : ByteArray} (h : x ∈ fdK G k) : x.size = k + 1 := by
  obtain ⟨u, hu, a, ha, rfl, _, _⟩ := mem_fdK.1 h
  rw [wd_sz u (a := a) (by omega), wk_size hq hu]
theorem fdN_ord {G : Gr} (hq : G.q ≤ 16) (n : Nat) : (fdN G n).Pairwise ordX := by
  unfold fdN
  rw [List.pairwise_flatMap]
  refine ⟨fun k _ => List.Pairwise.imp_of_mem (fun {x y} hx hy h => .inr ⟨by rw [fdK_size hq hx, fdK_size hq hy], h⟩) (fdK_ord hq k), ?_⟩
  refine List.Pairwise.imp (fun {k j} h x hx y hy => .inl ?_) (List.pairwise_lt_range (n := n))
  rw [fdK_size hq hx, fdK_size hq hy]; omega
/-- A word is one exactly if nothing that is found lies in it. -/
theorem fd_law {G : Gr} (hq : G.q ≤ 16) (hn : 0 < G.n) {w : ByteArray} (hw : Chg.okw G.q w.data.toList = true) : accA G w = !(fdN G w.size).any (fun x => Lib.contains w.data.toList x.data.toList) := by
  cases hacc : accA G w with
  | true =>
    rw [eq_comm, Bool.not_eq_true', List.any_eq_false]
    intro x hx hc
    have hi : bl x <:+: bl w := (contains_inf _ _).1 hc
    have h1 := acL_inf (G := G) (by omega) hi (by rw [← acc_dgs]; exact hacc)
    have h2 := (fd_each hq hx).2.2.2.1
    rw [acc_dgs, h1] at h2; cases h2
  | false =>
    rw [eq_comm, Bool.not_eq_false', List.any_eq_true]
    obtain ⟨x, h1, h2, h3, h4, h5⟩ := least_in hn _ (bl w) rfl (by rw [← acc_dgs]; exact hacc)
    have hle := h2.length_le
    rw [bl_len] at hle
    have hb : bl (lb x) = x := bl_lb x
    have hxs : (lb x).size = x.length := by rw [← bl_len, hb]
    have hxl : 1 ≤ x.length := List.length_pos_iff.2 h1
    have hall : ∀ c ∈ x, Chg.okc G.q c = true := by
      rw [okw_bl, List.all_eq_true] at hw
      exact fun c hc => hw c (h2.subset hc)
    have hxo : Chg.okw G.q (lb x).data.toList = true := by rw [okw_bl, hb, List.all_eq_true]; exact hall
    obtain ⟨v, a, ha, hxe, hvs, hvo, hvb⟩ := snoc_of hq (u := lb x) (k := x.length - 1) (by omega) hxo
    rw [hb] at hvb
    refine ⟨lb x, mem_fdN.2 ⟨x.length - 1, by omega, mem_fdK.2 ⟨v, (mem_wk_iff hq).2 ⟨hvs, hvo, by rw [acc_dgs, hvb]; exact h5⟩, a, ha, hxe, by rw [acc_dgs, hb]; exact h3, ?_⟩⟩, (contains_inf _ _).2 (by show bl (lb x) <:+: bl w; rw [hb]; exact h2)⟩
    have htb : bl ((lb x).extract 1 (lb x).size) = x.tail := by
      rw [bl_ext, hb, hxs, List.take_length, List.drop_one]
    refine (mem_wk_iff hq).2 ⟨?_, ?_, by rw [acc_dgs, htb]; exact h4⟩
    · rw [← bl_len, htb, List.length_tail]
    · rw [okw_bl, htb, List.all_eq_true]
      exact fun c hc => hall c (List.mem_of_mem_tail hc)
theorem fd_zero {G : Gr} (hn : G.n = 0) (n : Nat) : fdN G n = [] := by
  have h0 : wk G 0 = [] := by unfold wk; rw [if_neg (by omega)]
  unfold fdN
  rw [List.flatMap_eq_nil_iff]
  intro k _
  unfold fdK
  rw [wk_none h0 k (by omega)]; rfl
end Go.Proofs.YtaclgmhinljkbaaGreatDoor
namespace Go.Proofs.YtaclgmhinljkbaaGreatDoor

theorem Gd.farR {α : Type} {S : List α} {L : List (List α)} {w : List α} (h : Gd S L w) : ∀ n : Nat, ∃ y : List α, n ≤ y.length ∧ (∀ c ∈ y, c ∈ S) ∧ Gd S L (w ++ y)
  | 0 => ⟨[], by simp, by simp, by rw [List.append_nil]; exact h⟩
  | n + 1 => by
    obtain ⟨y, h1, h2, h3⟩ := Gd.farR h n
    obtain ⟨c, hc, h4⟩ := h3.right
    refine ⟨y ++ [c], by simp; omega, fun d hd => ?_, by rw [← List.append_assoc]; exact h4⟩
    rcases List.mem_append.1 hd with e | e
    · exact h2 d e
    · rw [List.mem_singleton.1 e]; exact hc
/-- Two lists of forbidden words with the same good words. -/
theorem back_gd {α : Type} {S : List α} {L M : List (List α)} {w : List α} (hM : ∀ v, (∀ c ∈ v, c ∈ S) → Gd S L v → Av M v) (hL : ∀ u ∈ L, ∃ x ∈ M, x <:+: u) (hw : ∀ c ∈ w, c ∈ S) : Gd S L w ↔ Gd S M w := by
  constructor
  · intro h n
    obtain ⟨x, h1, h2, h3⟩ := h.far n
    obtain ⟨y, h4, h5, h6⟩ := h3.farR n
    refine ⟨x, y, h1, h4, h2, h5, hM _ (fun c hc => ?_) h6⟩
    rcases List.mem_append.1 hc with e | e
    · rcases List.mem_append.1 e with e | e
      · exact h2 c e
      · exact hw c e
    · exact h5 c e
  · intro h n
    obtain ⟨x, y, h1, h2, h3, h4, h5⟩ := h n
    refine ⟨x, y, h1, h2, h3, h4, fun u hu hi => ?_⟩
    obtain ⟨v, hv, hvu⟩ := hL u hu
    exact h5 v hv (hvu.trans hi)
/-- What is found of up to fewer letters is found. -/
theorem fdN_mono {G : Gr} {n m : Nat} (h : n ≤ m) {x : ByteArray} (hx : x ∈ fdN G n) : x ∈ fdN G m := by
  obtain ⟨k, hk, h1⟩ := mem_fdN.1 hx
  exact mem_fdN.2 ⟨k, by omega, h1⟩
theorem sig_okw {q : Int} (hq : q ≤ 16) {v : List UInt8} (h : ∀ c ∈ v, c ∈ sigL q) : Chg.okw q v = true := by
  unfold Chg.okw
  rw [List.all_eq_true]
  intro c hc
  obtain ⟨a, ha, rfl⟩ := (mem_sig hq).1 (h c hc)
  have hd := lt_dg a (by omega)
  unfold dg at hd
  unfold Chg.okc
  rw [hd]
  simp; omega
theorem okw_sg {q : Int} (hq : q ≤ 16) {v : List UInt8} (h : Chg.okw q v = true) : ∀ c ∈ v, c ∈ sigL q := by
  intro c hc
  have h1 := List.all_eq_true.1 h c hc
  unfold Chg.okc at h1
  rw [Bool.and_eq_true, decide_eq_true_eq, decide_eq_true_eq] at h1
  exact (mem_sig hq).2 ⟨(Chg.dig (c.toNat : Int)).toNat, by omega, by
    have h2 := lt_of c h1.1
    unfold dg at h2
    rw [Int.toNat_of_nonneg h1.1]; exact h2⟩
theorem back_law {q : Int} {l : List ByteArray} {G : Gr} {N : Nat} (hq : q ≤ 16) (hgq : G.q = q) (hn : 0 < G.n) (hacc : ∀ w : ByteArray, Chg.okw q (bl w) = true → (accA G w = true ↔ Gd (sigL q) (Ls l) (bl w))) (hlo : ∀ u ∈ l, Chg.okw q (bl u) = true ∧ u.size ≤ N)
    {w : ByteArray} (hw : Chg.okw q (bl w) = true) : accA G w = true ↔ Gd (sigL q) (Ls (fdN G N)) (bl w) := by
  subst hgq
  rw [hacc w hw]
  refine back_gd (fun v hv hg u hu hi => ?_) (fun u hu => ?_) (okw_sg hq hw)
  · have hb : bl (lb v) = v := bl_lb v
    have h1 : accA G (lb v) = true := (hacc _ (by rw [hb]; exact sig_okw hq hv)).2 (by rw [hb]; exact hg)
    rw [acc_dgs, hb] at h1
    have h2 := acL_inf (G := G) (by omega) hi h1
    have h3 := (fd_each hq (mem_Ls.1 hu)).2.2.2.1
    rw [acc_dgs, bl_lb, h2] at h3; cases h3
  · have hx := mem_Ls.1 hu
    obtain ⟨h1, h2⟩ := hlo _ hx
    have h3 : accA G (lb u) = false := by
      cases h : accA G (lb u) with
      | false => rfl
      | true => exact absurd List.infix_rfl (((hacc _ h1).1 h).av _ (by rw [bl_lb]; exact hu))
    rw [fd_law hq hn h1] at h3
    rw [Bool.not_eq_false', List.any_eq_true] at h3
    obtain ⟨y, hy, hc⟩ := h3
    refine ⟨bl y, bl_Ls (fdN_mono h2 hy), ?_⟩
    have := (contains_inf _ _).1 hc
    rw [← bl_lb u]; exact this
end Go.Proofs.YtaclgmhinljkbaaGreatDoor
namespace Go.Proofs.YtaclgmhinljkbaaGreatDoor
open Go.RowKit

/-! ### Tables -/
/-- Where the edge of a state with a label leads; -1 if there is none. -/
def tgt (es : List Ed) (s a : Int) : Int := match es.find? (fun x => decide (x.f = s) && decide (x.l = a)) with
  | some x => x.t
  | none => -1
theorem tgt_nil (s a : Int) : tgt [] s a = -1 := rfl
theorem tgt_or (es : List Ed) (s a : Int) : (tgt es s a = -1 ∧ ∀ x ∈ es, ¬ (x.f = s ∧ x.l = a)) ∨ ∃ x ∈ es, x.f = s ∧ x.l = a ∧ tgt es s a = x.t := by
  cases h : es.find? (fun x => decide (x.f = s) && decide (x.l = a)) with
  | none =>
    refine .inl ⟨by simp [tgt, h], fun x hx => ?_⟩
    have := List.find?_eq_none.1 h x hx
    simpa using this
  | some x =>
    have h1 := List.find?_some h
    have h2 := List.mem_of_find?_eq_some h
    rw [Bool.and_eq_true, decide_eq_true_eq, decide_eq_true_eq] at h1
    exact .inr ⟨x, h2, h1.1, h1.2, by simp [tgt, h]⟩
theorem uq_eq {es : List Ed} (hu : Uq es) {x y : Ed} (hx : x ∈ es) (hy : y ∈ es) (hf : x.f = y.f) (hl : x.l = y.l) : x = y := by
  obtain ⟨i, hi, rfl⟩ := List.mem_iff_getElem.1 hx
  obtain ⟨j, hj, rfl⟩ := List.mem_iff_getElem.1 hy
  rcases Nat.lt_trichotomy i j with h | h | h
  · exact absurd ⟨hf, hl⟩ (List.pairwise_iff_getElem.1 hu i j hi hj h)
  · subst h; rfl
  · exact absurd ⟨hf.symm, hl.symm⟩ (List.pairwise_iff_getElem.1 hu j i hj hi h)
theorem tgt_at {es : List Ed} (hu : Uq es) {x : Ed} (hx : x ∈ es) : tgt es x.f x.l = x.t := by
  rcases tgt_or es x.f x.l with ⟨_, h⟩ | ⟨y, hy, h1, h2, h3⟩
  · exact absurd ⟨rfl, rfl⟩ (h x hx)
  · rw [h3, uq_eq hu hy hx h1 h2]
theorem tgt_snoc {es : List Ed} {x : Ed} (hu : Uq (es ++ [x])) (s a : Int) : tgt (es ++ [x]) s a = if x.f = s ∧ x.l = a then x.t else tgt es s a := by
  split
  · rename_i h; obtain ⟨rfl, rfl⟩ := h; exact tgt_at hu (by simp)
  · rename_i h
    unfold tgt
    rw [List.find?_append]
    have : (([x] : List Ed).find? (fun x => decide (x.f = s) && decide (x.l = a))) = none := by
      rw [List.find?_eq_none]
      intro y hy
      obtain rfl := List.mem_singleton.1 hy
      simpa using h
    rw [this, Option.or_none]
theorem tgt_bd {G : Gr} (hv : Vg G) (s a : Int) : -1 ≤ tgt G.es s a ∧ (0 ≤ tgt G.es s a → tgt G.es s a < G.n) := by
  rcases tgt_or G.es s a with ⟨h, _⟩ | ⟨x, hx, _, _, h⟩
  · rw [h]; omega
  · rw [h]; have := hv.ins x hx; omega
theorem tgt_mem {es : List Ed} {s a : Int} (h : tgt es s a ≠ -1) : ∃ x ∈ es, x.f = s ∧ x.l = a ∧ x.t = tgt es s a := by
  rcases tgt_or es s a with ⟨h1, _⟩ | ⟨x, hx, h1, h2, h3⟩
  · exact absurd h1 h
  · exact ⟨x, hx, h1, h2, h3.symm⟩
theorem uq_det {G : Gr} (hv : Vg G) (hd : detB G.es = true) : Uq G.es := uq_of_det hv.srt hd

/-! ### Numbers of the classes of an equivalence, in the order of their first elements -/
structure Eqv (R : Nat → Nat → Bool) : Prop where
  refl : ∀ s, R s s = true
  symm : ∀ s t, R s t = true → R t s = true
  trans : ∀ s t u, R s t = true → R t u = true → R s u = true
def fstR (R : Nat → Nat → Bool) (s : Nat) : Bool := (List.range s).all (fun t => !R t s)
def frsR (R : Nat → Nat → Bool) (n : Nat) : List Nat := (List.range n).filter (fstR R)
def repR (R : Nat → Nat → Bool) (s : Nat) : Nat := ((List.range s).find? (fun t => R t s)).getD s
def numR (R : Nat → Nat → Bool) (s : Nat) : Int := ((frsR R (repR R s)).length : Int)
theorem fstR_iff {R : Nat → Nat → Bool} {s : Nat} : fstR R s = true ↔ ∀ t, t < s → R t s = false := by
  simp [fstR]
theorem frsR_succ (R : Nat → Nat → Bool) (k : Nat) : frsR R (k + 1) = frsR R k ++ if fstR R k = true then [k] else [] := by
  unfold frsR
  rw [List.range_succ, List.filter_append]
  congr 1
  by_cases h : fstR R k = true
  · simp [h]
  · simp [h]
theorem frsR_go {R : Nat → Nat → Bool} {k : Nat} (h : fstR R k = true) : frsR R (k + 1) = frsR R k ++ [k] := by rw [frsR_succ, if_pos h]
theorem frsR_stay {R : Nat → Nat → Bool} {k : Nat} (h : fstR R k = false) : frsR R (k + 1) = frsR R k := by rw [frsR_succ, if_neg (by simp [h]), List.append_nil]
theorem frsR_len (R : Nat → Nat → Bool) (n : Nat) : (frsR R n).length ≤ n := by
  have := List.length_filter_le (fstR R) (List.range n)
  rw [List.length_range] at this; exact this
theorem mem_frsR {R : Nat → Nat → Bool} {n s : Nat} : s ∈ frsR R n ↔ s < n ∧ fstR R s = true := by simp [frsR]
theorem frsR_mono (R : Nat → Nat → Bool) {a b : Nat} (h : a ≤ b) : ∃ m, frsR R b = frsR R a ++ m ∧ ∀ x ∈ m, a ≤ x := by
  induction b with
  | zero => obtain rfl : a = 0 := by omega
            exact ⟨[], by simp, by simp⟩
  | succ b ih =>
    by_cases e : a = b + 1
    · subst e; exact ⟨[], by simp, by simp⟩
    · obtain ⟨m, hm, hx⟩ := ih (by omega)
      refine ⟨m ++ (if fstR R b = true then [b] else []), by rw [frsR_succ, hm, List.append_assoc], fun x h => ?_⟩
      rcases List.mem_append.1 h with h | h
      · exact hx x h
      · split at h
        · simp at h; omega
        · simp at h
theorem repR_or (R : Nat → Nat → Bool) (s : Nat) : (fstR R s = true ∧ repR R s = s) ∨ (repR R s < s ∧ R (repR R s) s = true ∧ ∀ t, t < repR R s → R t s = false) := by
  cases h : (List.range s).find? (fun t => R t s) with
  | none =>
    refine .inl ⟨fstR_iff.2 (fun t ht => ?_), by simp [repR, h]⟩
    have := List.find?_eq_none.1 h t (by simpa using ht)
    simpa using this
  | some t =>
    obtain ⟨h1, h2, h3⟩ := List.find?_range_eq_some.1 h
    have e : repR R s = t := by simp [repR, h]
    rw [e]
    refine .inr ⟨by simpa using h2, h1, fun j hj => ?_⟩
    simpa using h3 j hj
section
variable {R : Nat → Nat → Bool}
theorem repR_le (R : Nat → Nat → Bool) (s : Nat) : repR R s ≤ s := by rcases repR_or R s with h | h <;> omega
theorem repR_rel (hE : Eqv R) (s : Nat) : R (repR R s) s = true := by
  rcases repR_or R s with ⟨_, h⟩ | ⟨_, h, _⟩
  · rw [h]; exact hE.refl s
  · exact h
theorem repR_min {s t : Nat} (h : R t s = true) : repR R s ≤ t := by
  rcases repR_or R s with ⟨h1, h2⟩ | ⟨_, _, h3⟩
  · rw [h2]
    by_cases hlt : t < s
    · rw [fstR_iff.1 h1 t hlt] at h; cases h
    · omega
  · by_cases hlt : t < repR R s
    · rw [h3 t hlt] at h; cases h
    · omega
theorem repR_eq (hE : Eqv R) {r s : Nat} (h : R r s = true) : repR R r = repR R s := by
  have h1 := repR_min (hE.trans _ _ _ (repR_rel hE r) h)
  have h2 := repR_min (hE.trans _ _ _ (repR_rel hE s) (hE.symm _ _ h))
  omega
theorem repR_fst (hE : Eqv R) (s : Nat) : fstR R (repR R s) = true := by
  rw [fstR_iff]
  intro t ht
  cases h : R t (repR R s)
  · rfl
  · have := repR_min (hE.trans _ _ _ h (repR_rel hE s)); omega
theorem repR_self {s : Nat} (h : fstR R s = true) : repR R s = s := by
  rcases repR_or R s with h1 | ⟨h1, h2, _⟩
  · exact h1.2
  · rw [fstR_iff.1 h _ h1] at h2; cases h2
theorem numR_iff (hE : Eqv R) {r s : Nat} : numR R r = numR R s ↔ R r s = true := by
  constructor
  · intro h
    have key : ∀ a b : Nat, fstR R a = true → a < b → (frsR R a).length < (frsR R b).length := by
      intro a b ha hab
      obtain ⟨m, hm, _⟩ := frsR_mono R (show a + 1 ≤ b by omega)
      rw [hm, frsR_go ha, List.length_append, List.length_append, List.length_singleton]; omega
    have hl : (frsR R (repR R r)).length = (frsR R (repR R s)).length := by unfold numR at h; omega
    have e : repR R r = repR R s := by
      rcases Nat.lt_trichotomy (repR R r) (repR R s) with h1 | h1 | h1
      · have := key _ _ (repR_fst hE r) h1; omega
      · exact h1
      · have := key _ _ (repR_fst hE s) h1; omega
    exact hE.trans _ _ _ (hE.symm _ _ (repR_rel hE r)) (e ▸ repR_rel hE s)
  · intro h; unfold numR; rw [repR_eq hE h]
theorem numR_new {s : Nat} (h : fstR R s = true) : numR R s = ((frsR R s).length : Int) := by unfold numR; rw [repR_self h]
/-- The first of the first elements that is like s. -/
theorem numR_old (hE : Eqv R) {s k : Nat} (hk : k < (frsR R s).length) (h : R (frsR R s)[k] s = true) : fstR R s = false ∧ numR R s = k := by
  obtain ⟨h1, h2⟩ := mem_frsR.1 (List.getElem_mem hk)
  obtain ⟨m, hm, hx⟩ := frsR_mono R (Nat.le_of_lt h1)
  obtain ⟨m', hm', hx'⟩ := frsR_mono R (show (frsR R s)[k] + 1 ≤ s from h1)
  have hr : repR R s = (frsR R s)[k] := by rw [← repR_eq hE h, repR_self h2]
  refine ⟨?_, ?_⟩
  · cases hf : fstR R s
    · rfl
    · rw [fstR_iff.1 hf _ h1] at h; cases h
  · unfold numR
    rw [hr]
    -- the place of an element in a list that rises
    have hp : (frsR R s).Pairwise (· < ·) := List.Pairwise.filter _ List.pairwise_lt_range
    have e : frsR R s = (frsR R (frsR R s)[k] ++ [(frsR R s)[k]]) ++ m' := by rw [← frsR_go h2]; exact hm'
    generalize hg : (frsR R s)[k] = g at *
    have hj : (frsR R g).length < (frsR R s).length := by rw [e]; simp <;> omega
    have hv : (frsR R s)[(frsR R g).length]'hj = g := by
      have : (frsR R s)[(frsR R g).length]? = some g := by rw [e]; simp
      rw [List.getElem?_eq_getElem hj] at this
      exact Option.some.inj this
    rcases Nat.lt_trichotomy k (frsR R g).length with h3 | h3 | h3
    · have := List.pairwise_iff_getElem.1 hp k _ hk hj h3
      rw [hv, hg] at this; omega
    · omega
    · have := List.pairwise_iff_getElem.1 hp _ k hj hk h3
      rw [hv, hg] at this; omega
theorem numR_none (hE : Eqv R) {s : Nat} (h : ∀ k (hk : k < (frsR R s).length), R (frsR R s)[k] s = false) : fstR R s = true ∧ numR R s = ((frsR R s).length : Int) := by
  have hf : fstR R s = true := by
    rcases repR_or R s with h1 | ⟨h1, h2, _⟩
    · exact h1.1
    · have hm : repR R s ∈ frsR R s := mem_frsR.2 ⟨h1, repR_fst hE s⟩
      obtain ⟨k, hk, e⟩ := List.mem_iff_getElem.1 hm
      have := h k hk
      rw [e, h2] at this; cases this
  exact ⟨hf, numR_new hf⟩
/-- The first element that is like s. -/
theorem numR_like (hE : Eqv R) {s t : Nat} (h : R t s = true) : numR R s = numR R t := ((numR_iff hE).2 h).symm
theorem numR_bd (hE : Eqv R) (s n : Nat) (h : s < n) : 0 ≤ numR R s ∧ numR R s < ((frsR R n).length : Int) := by
  have h1 := repR_fst hE s
  obtain ⟨m, hm, _⟩ := frsR_mono R (show repR R s + 1 ≤ n by have := repR_le R s; omega)
  unfold numR
  rw [hm, frsR_go h1, List.length_append, List.length_append, List.length_singleton]
  omega
end
theorem find_congr {p q : Nat → Bool} : ∀ {l : List Nat}, (∀ x ∈ l, p x = q x) → l.find? p = l.find? q
  | [], _ => rfl
  | x :: l, h => by
    rw [List.find?_cons, List.find?_cons, h x (by simp), find_congr (fun y hy => h y (by simp [hy]))]
theorem fstR_congr {R R' : Nat → Nat → Bool} {s : Nat} (h : ∀ t, t < s → R t s = R' t s) : fstR R s = fstR R' s := by
  rw [Bool.eq_iff_iff, fstR_iff, fstR_iff]
  constructor
  · intro g t ht; rw [← h t ht]; exact g t ht
  · intro g t ht; rw [h t ht]; exact g t ht
theorem frsR_congr {R R' : Nat → Nat → Bool} {n : Nat} (h : ∀ s, s < n → ∀ t, t < s → R t s = R' t s) : frsR R n = frsR R' n := by
  unfold frsR
  apply List.filter_congr
  intro s hs
  exact fstR_congr (h s (by simpa using hs))
theorem repR_congr {R R' : Nat → Nat → Bool} {s : Nat} (h : ∀ t, t < s → R t s = R' t s) : repR R s = repR R' s := by
  unfold repR
  rw [find_congr (fun t ht => h t (by simpa using ht))]
theorem numR_congr {R R' : Nat → Nat → Bool} {n s : Nat} (hs : s < n) (h : ∀ s, s < n → ∀ t, t < s → R t s = R' t s) : numR R s = numR R' s := by
  unfold numR
  rw [← repR_congr (h s hs), frsR_congr (fun u hu t ht => h u (by have := repR_le R s; omega) t ht)]
/-- A finer equivalence with as many classes is the same one. -/
theorem same_of_count {R R' : Nat → Nat → Bool} (hE : Eqv R) (hE' : Eqv R') {n : Nat} (hsub : ∀ r s, r < n → s < n → R r s = true → R' r s = true) (hc : (frsR R n).length = (frsR R' n).length) :
    ∀ r s, r < n → s < n → R r s = R' r s := by
  have hm : ∀ s, s < n → fstR R' s = true → fstR R s = true := by
    intro s hs h
    rw [fstR_iff] at *
    intro t ht
    cases e : R t s
    · rfl
    · have := hsub t s (by omega) hs e; rw [h t ht] at this; cases this
  have hf : ∀ s, s < n → fstR R s = true → fstR R' s = true := by
    have he : frsR R' n = (frsR R n).filter (fstR R') := by
      unfold frsR
      rw [List.filter_filter]
      apply List.filter_congr
      intro s hs
      have := hm s (by simpa using hs)
      cases h1 : fstR R' s
      · simp
      · simp [this h1]
    have hl : ((frsR R n).filter (fstR R')).length = (frsR R n).length := by rw [← he, hc]
    intro s hs h
    have hall := List.filter_eq_self.1 (List.Sublist.eq_of_length List.filter_sublist hl)
    exact hall s (mem_frsR.2 ⟨hs, h⟩)
  intro r s hr hs
  cases e : R' r s
  · cases e2 : R r s
    · rfl
    · rw [hsub r s hr hs e2] at e; cases e
  · have a1 := repR_rel hE r
    have a2 := repR_rel hE s
    have l1 := repR_le R r
    have l2 := repR_le R s
    have b1 := hsub _ _ (by omega) hr a1
    have b2 := hsub _ _ (by omega) hs a2
    have g : R' (repR R r) (repR R s) = true := hE'.trans _ _ _ (hE'.trans _ _ _ b1 e) (hE'.symm _ _ b2)
    have f1 := hf _ (by omega) (repR_fst hE r)
    have f2 := hf _ (by omega) (repR_fst hE s)
    have e3 : repR R r = repR R s := by
      rcases Nat.lt_trichotomy (repR R r) (repR R s) with h | h | h
      · rw [fstR_iff.1 f2 _ h] at g; cases g
      · exact h
      · have g2 := hE'.symm _ _ g
        rw [fstR_iff.1 f1 _ h] at g2; cases g2
    exact hE.trans _ _ _ (hE.symm _ _ a1) (e3 ▸ a2)

/-! ### The classes of the states -/
def cg (c : List Int) (s : Int) : Int := c.getD s.toNat 0
def alkB (es : List Ed) (c : List Int) (r s : Nat) (a : Nat) : Bool :=
  decide ((tgt es r a < 0) ↔ (tgt es s a < 0)) && (decide (tgt es r a < 0) || decide (cg c (tgt es r a) = cg c (tgt es s a)))
def alkA (q : Nat) (es : List Ed) (c : List Int) (r s : Nat) : Bool := (List.range q).all (alkB es c r s)
def relA (q : Nat) (es : List Ed) (c : List Int) (r s : Nat) : Bool := decide (cg c r = cg c s) && alkA q es c r s
def eqA (c : List Int) (r s : Nat) : Bool := decide (cg c r = cg c s)
theorem alkB_iff {es : List Ed} {c : List Int} {r s a : Nat} : alkB es c r s a = true ↔ ((tgt es r a < 0 ↔ tgt es s a < 0) ∧ (0 ≤ tgt es r a → cg c (tgt es r a) = cg c (tgt es s a))) := by
  unfold alkB
  rw [Bool.and_eq_true, Bool.or_eq_true, decide_eq_true_eq, decide_eq_true_eq, decide_eq_true_eq]
  constructor
  · rintro ⟨h1, h2⟩; exact ⟨h1, fun h => h2.resolve_left (by omega)⟩
  · rintro ⟨h1, h2⟩
    refine ⟨h1, ?_⟩
    by_cases h : tgt es r a < 0
    · exact .inl h
    · exact .inr (h2 (by omega))
theorem alkA_iff {q : Nat} {es : List Ed} {c : List Int} {r s : Nat} : alkA q es c r s = true ↔ ∀ a, a < q → ((tgt es r a < 0 ↔ tgt es s a < 0) ∧ (0 ≤ tgt es r a → cg c (tgt es r a) = cg c (tgt es s a))) := by
  unfold alkA
  rw [List.all_eq_true]
  constructor
  · intro h a ha; exact alkB_iff.1 (h a (by simpa using ha))
  · intro h a ha; exact alkB_iff.2 (h a (by simpa using ha))
theorem relA_iff {q : Nat} {es : List Ed} {c : List Int} {r s : Nat} : relA q es c r s = true ↔ cg c r = cg c s ∧ ∀ a, a < q → ((tgt es r a < 0 ↔ tgt es s a < 0) ∧ (0 ≤ tgt es r a → cg c (tgt es r a) = cg c (tgt es s a))) := by
  unfold relA; rw [Bool.and_eq_true, decide_eq_true_eq, alkA_iff]
theorem relA_eqv (q : Nat) (es : List Ed) (c : List Int) : Eqv (relA q es c) where
  refl s := by rw [relA_iff]; exact ⟨rfl, fun a _ => ⟨Iff.rfl, fun _ => rfl⟩⟩
  symm s t h := by
    rw [relA_iff] at *
    refine ⟨h.1.symm, fun a ha => ?_⟩
    obtain ⟨h1, h2⟩ := h.2 a ha
    exact ⟨h1.symm, fun h => (h2 (by omega)).symm⟩
  trans s t u h k := by
    rw [relA_iff] at *
    refine ⟨h.1.trans k.1, fun a ha => ?_⟩
    obtain ⟨h1, h2⟩ := h.2 a ha
    obtain ⟨k1, k2⟩ := k.2 a ha
    exact ⟨h1.trans k1, fun h => (h2 h).trans (k2 (by omega))⟩
theorem eqA_eqv (c : List Int) : Eqv (eqA c) where
  refl s := by simp [eqA]
  symm s t h := by simp [eqA] at *; exact h.symm
  trans s t u h k := by simp [eqA] at *; exact h.trans k
/-- The classes behind so many rounds. -/
def clsN (q n : Nat) (es : List Ed) : Nat → List Int
  | 0 => List.replicate n 0
  | k + 1 => (List.range n).map (numR (relA q es (clsN q n es k)))
def clA (G : Gr) : List Int := clsN G.q.toNat G.n.toNat G.es G.n.toNat
def mcA (n : Nat) (c : List Int) : Nat := (frsR (eqA c) n).length
section
variable {q n : Nat} {es : List Ed}
theorem clsN_len (k : Nat) : (clsN q n es k).length = n := by cases k <;> simp [clsN]
theorem cg_map (f : Nat → Int) {s : Nat} (hs : s < n) : cg ((List.range n).map f) s = f s := by
  unfold cg
  rw [Int.toNat_natCast]
  simp [List.getD, hs]
theorem cg_succ (k : Nat) {s : Nat} (hs : s < n) : cg (clsN q n es (k + 1)) s = numR (relA q es (clsN q n es k)) s := by rw [clsN, cg_map _ hs]
theorem eqA_succ (k : Nat) {r s : Nat} (hr : r < n) (hs : s < n) : eqA (clsN q n es (k + 1)) r s = relA q es (clsN q n es k) r s := by
  unfold eqA
  rw [cg_succ k hr, cg_succ k hs, Bool.eq_iff_iff, decide_eq_true_eq]
  exact numR_iff (relA_eqv _ _ _)
theorem mcA_succ (k : Nat) : mcA n (clsN q n es (k + 1)) = (frsR (relA q es (clsN q n es k)) n).length := by
  unfold mcA
  rw [frsR_congr (fun s hs t ht => eqA_succ k (by omega) hs)]
theorem cg_zero (s : Int) : cg (clsN q n es 0) s = 0 := by
  unfold cg clsN
  rw [List.getD_eq_getElem?_getD, List.getElem?_replicate]
  split <;> rfl
theorem frs_one : ∀ m, frsR (fun _ _ => true) m = if m = 0 then [] else [0]
  | 0 => rfl
  | m + 1 => by
    rw [frsR_succ, frs_one m]
    cases m with
    | zero => rfl
    | succ m =>
      have : fstR (fun _ _ => true) (m + 1) = false := by
        rw [Bool.eq_false_iff]; intro h
        have := fstR_iff.1 h 0 (by omega)
        cases this
      simp [this]
theorem eqA_zero (r s : Nat) : eqA (clsN q n es 0) r s = true := by simp [eqA, cg_zero]
theorem mcA_zero : mcA n (clsN q n es 0) = min n 1 := by
  unfold mcA
  rw [frsR_congr (R' := fun _ _ => true) (fun s _ t _ => eqA_zero t s), frs_one]
  split
  · rename_i h; subst h; rfl
  · simp; omega
/-- Classes in the order of their first elements. -/
theorem canon (k : Nat) : clsN q n es k = (List.range n).map (numR (eqA (clsN q n es k))) := by
  cases k with
  | zero =>
    apply List.ext_getElem
    · simp [clsN]
    · intro i h1 h2
      have e0 : numR (eqA (clsN q n es 0)) i = 0 := by
        unfold numR
        have : repR (eqA (clsN q n es 0)) i = 0 := by
          have := repR_min (R := eqA (clsN q n es 0)) (eqA_zero 0 i)
          omega
        rw [this]; rfl
      rw [List.getElem_map, List.getElem_range, e0]
      simp [clsN]
  | succ k =>
    have h : ∀ s, s < n → numR (relA q es (clsN q n es k)) s = numR (eqA (clsN q n es (k + 1))) s := fun s hs =>
      numR_congr hs (fun u hu t ht => (eqA_succ k (by omega) hu).symm)
    show (List.range n).map (numR (relA q es (clsN q n es k))) = _
    apply List.map_congr_left
    intro s hs
    exact h s (by simpa using hs)
theorem relA_sub (c : List Int) (r s : Nat) (h : relA q es c r s = true) : eqA c r s = true := by
  rw [relA_iff] at h; simp [eqA, h.1]
/-- As many classes as before: the same classes. -/
theorem cls_same {k : Nat} : mcA n (clsN q n es (k + 1)) = mcA n (clsN q n es k) ↔ clsN q n es (k + 1) = clsN q n es k := by
  constructor
  · intro h
    rw [mcA_succ] at h
    have := same_of_count (relA_eqv q es (clsN q n es k)) (eqA_eqv (clsN q n es k)) (n := n) (fun r s _ _ => relA_sub _ r s) h
    rw [canon k]
    show (List.range n).map (numR (relA q es (clsN q n es k))) = _
    apply List.map_congr_left
    intro s hs
    exact numR_congr (by simpa using hs) (fun u hu t ht => this t u (by omega) hu)
  · intro h; rw [h]
theorem mcA_le (k : Nat) : mcA n (clsN q n es k) ≤ mcA n (clsN q n es (k + 1)) := by
  rw [mcA_succ]
  unfold mcA frsR
  have h : ∀ s, s ∈ List.range n → fstR (eqA (clsN q n es k)) s = true → fstR (relA q es (clsN q n es k)) s = true := by
    intro s _ h
    rw [fstR_iff] at *
    intro t ht
    cases e : relA q es (clsN q n es k) t s
    · rfl
    · have h2 := h t ht
      rw [relA_sub _ t s e] at h2; cases h2
  rw [← List.countP_eq_length_filter, ← List.countP_eq_length_filter]
  exact List.countP_mono_left h
theorem mcA_max (c : List Int) : mcA n c ≤ n := frsR_len _ _
theorem cls_stay {k : Nat} (h : clsN q n es (k + 1) = clsN q n es k) : ∀ m, k ≤ m → clsN q n es m = clsN q n es k := by
  intro m
  induction m with
  | zero => intro hm; obtain rfl : k = 0 := by omega
            rfl
  | succ m ih =>
    intro hm
    by_cases e : k = m + 1
    · subst e; rfl
    · have h1 := ih (by omega)
      rw [← h]
      show (List.range n).map (numR (relA q es (clsN q n es m))) = _
      rw [h1]; rfl
/-- The rounds end. -/
theorem cls_end {k : Nat} (hk : k ≤ mcA n (clsN q n es k)) (h : clsN q n es (k + 1) = clsN q n es k) : clsN q n es n = clsN q n es k :=
  cls_stay h n (Nat.le_trans hk (mcA_max _))
theorem cls_more {k : Nat} (hk : k ≤ mcA n (clsN q n es k)) (h : clsN q n es (k + 1) ≠ clsN q n es k) : k + 1 ≤ mcA n (clsN q n es (k + 1)) ∧ mcA n (clsN q n es k) < mcA n (clsN q n es (k + 1)) := by
  have h1 := mcA_le (q := q) (n := n) (es := es) k
  have h2 : mcA n (clsN q n es (k + 1)) ≠ mcA n (clsN q n es k) := fun e => h (cls_same.1 e)
  omega
/-- Behind n rounds nothing changes. -/
theorem cls_fix : clsN q n es (n + 1) = clsN q n es n := by
  have key : ∀ k, clsN q n es (k + 1) = clsN q n es k ∨ k + 1 ≤ mcA n (clsN q n es (k + 1)) := by
    intro k
    induction k with
    | zero =>
      by_cases e : clsN q n es 1 = clsN q n es 0
      · exact .inl e
      · exact .inr (cls_more (Nat.zero_le _) e).1
    | succ k ih =>
      by_cases e : clsN q n es (k + 1 + 1) = clsN q n es (k + 1)
      · exact .inl e
      · rcases ih with h | h
        · exfalso; apply e
          show (List.range n).map (numR (relA q es (clsN q n es (k + 1)))) = _
          rw [h]; exact h
        · exact .inr (cls_more h e).1
  rcases key n with h | h
  · exact h
  · have := mcA_max (n := n) (clsN q n es (n + 1)); omega
end
end Go.Proofs.YtaclgmhinljkbaaGreatDoor
namespace Go.Proofs.YtaclgmhinljkbaaGreatDoor
open Go.RowKit

/-- A pair of states, and a word that leads to it. -/
abbrev Pw := (Int × Int) × List Int
/-- One step of a state; none leads to none. -/
def nxt (es : List Ed) (s a : Int) : Int := if s < 0 then -1 else tgt es s a
theorem nxt_neg {es : List Ed} {s a : Int} (h : s < 0) : nxt es s a = -1 := if_pos h
theorem nxt_pos {es : List Ed} {s a : Int} (h : ¬ s < 0) : nxt es s a = tgt es s a := if_neg h
theorem nxt_bd {G : Gr} (hv : Vg G) (s a : Int) : -1 ≤ nxt G.es s a ∧ nxt G.es s a < G.n := by
  have hn := hv.n1
  unfold nxt; split
  · omega
  · have := tgt_bd hv s a; omega
def stp (f g : List Ed) (x : Int × Int) (a : Int) : Int × Int := (nxt f x.1 a, nxt g x.2 a)
def bAdd (f g : List Ed) (kp : Int × Int → Bool) (x : Pw) (l : List Pw) (a : Nat) : List Pw :=
  if kp (stp f g x.1 a) = true ∧ stp f g x.1 a ∉ l.map Prod.fst then l ++ [(stp f g x.1 a, x.2 ++ [(a : Int)])] else l
def bRow (f g : List Ed) (kp : Int × Int → Bool) (x : Pw) (l : List Pw) (L : Nat) : List Pw := (List.range L).foldl (bAdd f g kp x) l
theorem bRow_zero (f g : List Ed) (kp : Int × Int → Bool) (x : Pw) (l : List Pw) : bRow f g kp x l 0 = l := rfl
theorem bRow_succ (f g : List Ed) (kp : Int × Int → Bool) (x : Pw) (l : List Pw) (L : Nat) : bRow f g kp x l (L + 1) = bAdd f g kp x (bRow f g kp x l L) L := by
  unfold bRow; rw [List.range_succ, List.foldl_append]; rfl
theorem bAdd_go {f g : List Ed} {kp : Int × Int → Bool} {x : Pw} {l : List Pw} {a : Nat} (h1 : kp (stp f g x.1 a) = true) (h2 : stp f g x.1 a ∉ l.map Prod.fst) :
    bAdd f g kp x l a = l ++ [(stp f g x.1 a, x.2 ++ [(a : Int)])] := if_pos ⟨h1, h2⟩
theorem bAdd_stay {f g : List Ed} {kp : Int × Int → Bool} {x : Pw} {l : List Pw} {a : Nat} (h : kp (stp f g x.1 a) = false ∨ stp f g x.1 a ∈ l.map Prod.fst) : bAdd f g kp x l a = l := by
  unfold bAdd
  rw [if_neg]
  rintro ⟨h1, h2⟩
  rcases h with h | h
  · rw [h1] at h; cases h
  · exact h2 h
theorem bAdd_pre (f g : List Ed) (kp : Int × Int → Bool) (x : Pw) (l : List Pw) (a : Nat) : ∃ m, bAdd f g kp x l a = l ++ m := by
  unfold bAdd; split
  · exact ⟨_, rfl⟩
  · exact ⟨[], by simp⟩
theorem bRow_pre (f g : List Ed) (kp : Int × Int → Bool) (x : Pw) (l : List Pw) : ∀ L, ∃ m, bRow f g kp x l L = l ++ m
  | 0 => ⟨[], by simp [bRow]⟩
  | L + 1 => by
    obtain ⟨m, hm⟩ := bRow_pre f g kp x l L
    obtain ⟨m', hm'⟩ := bAdd_pre f g kp x (bRow f g kp x l L) L
    exact ⟨m ++ m', by rw [bRow_succ, hm', hm, List.append_assoc]⟩
theorem bRow_len (f g : List Ed) (kp : Int × Int → Bool) (x : Pw) (l : List Pw) (L : Nat) : l.length ≤ (bRow f g kp x l L).length := by
  obtain ⟨m, hm⟩ := bRow_pre f g kp x l L
  rw [hm, List.length_append]; omega
theorem bRow_get (f g : List Ed) (kp : Int × Int → Bool) (x : Pw) (l : List Pw) (L i : Nat) (h : i < l.length) : (bRow f g kp x l L)[i]? = some l[i] := by
  obtain ⟨m, hm⟩ := bRow_pre f g kp x l L
  rw [hm, List.getElem?_append_left h, List.getElem?_eq_getElem h]
/-- The first pair, from number i on, for which the property is true. -/
def bfs (f g : List Ed) (kp is : Int × Int → Bool) (L : Nat) : Nat → Nat → List Pw → Option (List Int)
  | 0, _, _ => none
  | m + 1, i, l => match l[i]? with
    | none => none
    | some x => if is x.1 = true then some x.2 else bfs f g kp is L m (i + 1) (bRow f g kp x l L)
theorem bfs_end {f g : List Ed} {kp is : Int × Int → Bool} {L m i : Nat} {l : List Pw} (h : l.length ≤ i) : bfs f g kp is L m i l = none := by
  cases m with
  | zero => rfl
  | succ m => rw [bfs, List.getElem?_eq_none h]
theorem bfs_hit {f g : List Ed} {kp is : Int × Int → Bool} {L m i : Nat} {l : List Pw} (h : i < l.length) (hx : is l[i].1 = true) : bfs f g kp is L (m + 1) i l = some l[i].2 := by
  rw [bfs, List.getElem?_eq_getElem h]
  exact if_pos hx
theorem bfs_next {f g : List Ed} {kp is : Int × Int → Bool} {L m i : Nat} {l : List Pw} (h : i < l.length) (hx : is l[i].1 = false) : bfs f g kp is L (m + 1) i l = bfs f g kp is L m (i + 1) (bRow f g kp l[i] l L) := by
  rw [bfs, List.getElem?_eq_getElem h]
  exact if_neg (by simp [hx])

/-! ### There are not too many pairs -/
theorem nodup_bd : ∀ (N : Nat) (l : List Nat), l.Nodup → (∀ x ∈ l, x < N) → l.length ≤ N
  | 0, l, _, h => by
    cases l with
    | nil => simp
    | cons x l => have := h x (by simp); omega
  | N + 1, l, hn, h => by
    by_cases hm : N ∈ l
    · have ih := nodup_bd N (l.erase N) (hn.erase _) (fun x hx => by
        have h1 := (hn.mem_erase_iff).1 hx
        have := h x h1.2
        have := h1.1
        omega)
      rw [List.length_erase_of_mem hm] at ih
      omega
    · have := nodup_bd N l hn (fun x hx => by
        have := h x hx
        have : x ≠ N := fun e => hm (e ▸ hx)
        omega)
      omega
/-- The queue of a search: each pair once, all of them in their ranges. -/
structure Bq (n m : Nat) (l : List Pw) : Prop where
  nd : (l.map Prod.fst).Nodup
  ins : ∀ x ∈ l, -1 ≤ x.1.1 ∧ x.1.1 < n ∧ -1 ≤ x.1.2 ∧ x.1.2 < m
theorem Bq.len {n m : Nat} {l : List Pw} (h : Bq n m l) : l.length ≤ (n + 1) * (m + 1) := by
  have h1 := nodup_bd ((n + 1) * (m + 1)) ((l.map Prod.fst).map (fun p => (p.1 + 1).toNat * (m + 1) + (p.2 + 1).toNat)) (by
    refine List.pairwise_map.2 ?_
    refine List.Pairwise.imp_of_mem (fun {a b} ha hb hne => ?_) h.nd
    obtain ⟨x, hx, rfl⟩ := List.mem_map.1 ha
    obtain ⟨y, hy, rfl⟩ := List.mem_map.1 hb
    have b1 := h.ins x hx
    have b2 := h.ins y hy
    intro e
    apply hne
    have e2 : (x.1.2 + 1).toNat = (y.1.2 + 1).toNat := by
      have e3 : ((x.1.2 + 1).toNat + (x.1.1 + 1).toNat * (m + 1)) % (m + 1) = ((y.1.2 + 1).toNat + (y.1.1 + 1).toNat * (m + 1)) % (m + 1) := by
        rw [Nat.add_comm, e, Nat.add_comm]
      rw [Nat.add_mul_mod_self_right, Nat.add_mul_mod_self_right, Nat.mod_eq_of_lt (by omega), Nat.mod_eq_of_lt (by omega)] at e3
      exact e3
    have e1 : (x.1.1 + 1).toNat = (y.1.1 + 1).toNat := by
      rw [e2] at e
      exact Nat.eq_of_mul_eq_mul_right (by omega) (Nat.add_right_cancel e)
    refine Prod.ext ?_ ?_ <;> omega) (fun z hz => by
    obtain ⟨p, hp, rfl⟩ := List.mem_map.1 hz
    obtain ⟨x, hx, rfl⟩ := List.mem_map.1 hp
    have b1 := h.ins x hx
    have c1 : (x.1.1 + 1).toNat ≤ n := by omega
    have c2 : (x.1.2 + 1).toNat < m + 1 := by omega
    calc (x.1.1 + 1).toNat * (m + 1) + (x.1.2 + 1).toNat < (x.1.1 + 1).toNat * (m + 1) + (m + 1) := by omega
      _ = ((x.1.1 + 1).toNat + 1) * (m + 1) := by rw [Nat.add_mul, Nat.one_mul]
      _ ≤ (n + 1) * (m + 1) := Nat.mul_le_mul_right _ (by omega))
  simpa using h1
theorem Bq.one {n m : Nat} {s t : Int} (h1 : -1 ≤ s) (h2 : s < n) (h3 : -1 ≤ t) (h4 : t < m) : Bq n m [((s, t), [])] :=
  ⟨by simp, fun x hx => by obtain rfl := List.mem_singleton.1 hx; exact ⟨h1, h2, h3, h4⟩⟩
theorem Bq.add {n m : Nat} {l : List Pw} {f g : List Ed} {kp : Int × Int → Bool} {x : Pw} {a : Nat} (h : Bq n m l) (hf : -1 ≤ nxt f x.1.1 a ∧ nxt f x.1.1 a < n) (hg : -1 ≤ nxt g x.1.2 a ∧ nxt g x.1.2 a < m) : Bq n m (bAdd f g kp x l a) := by
  unfold bAdd; split
  · rename_i hc
    refine ⟨?_, fun y hy => ?_⟩
    · rw [List.map_append, List.nodup_append]
      refine ⟨h.nd, by simp, fun p hp q hq => ?_⟩
      simp only [List.map_cons, List.map_nil, List.mem_singleton] at hq
      subst hq
      intro e; subst e
      exact hc.2 hp
    · rcases List.mem_append.1 hy with hy | hy
      · exact h.ins y hy
      · obtain rfl := List.mem_singleton.1 hy
        exact ⟨hf.1, hf.2, hg.1, hg.2⟩
  · exact h
theorem Bq.row {n m : Nat} {l : List Pw} {f g : List Ed} {kp : Int × Int → Bool} {x : Pw} (h : Bq n m l) (hf : ∀ s a, -1 ≤ nxt f s a ∧ nxt f s a < n) (hg : ∀ s a, -1 ≤ nxt g s a ∧ nxt g s a < m) : ∀ L, Bq n m (bRow f g kp x l L)
  | 0 => h
  | L + 1 => by rw [bRow_succ]; exact (h.row hf hg L).add (hf _ _) (hg _ _)
/-- What a search answers. -/
def bfsA (n m : Nat) (f g : List Ed) (kp is : Int × Int → Bool) (L : Nat) (s t : Int) : Option (List Int) := bfs f g kp is L ((n + 1) * (m + 1) + 1) 0 [((s, t), [])]
end Go.Proofs.YtaclgmhinljkbaaGreatDoor
namespace Go.Proofs.YtaclgmhinljkbaaGreatDoor
open Go.RowKit Go.Sort

theorem infoJ : (Tryz.prog.info? 3).map (fun i => (i.zero, i.size, i.bytes)) = some (some (.int .i64 0), 1, 8) := by kernel_rfl
theorem own_vrowJ {w : World} {B e g n : Nat} {xs : List Value} (h : w.ownsRow B e 1 (.slice (some ⟨g, 0, none⟩) n n) n xs) : VRow w g e xs := by
  rcases h.2 with ⟨e0, _⟩ | ⟨g', cap', cur, e0, hg, hh, hc, hm, hs, ht⟩
  · cases e0
  · cases e0
    have h1 : cur.toList.take (n * 1) = cur.toList := List.take_of_length_le (by simp [hs])
    rw [h1] at ht
    subst ht
    exact hh
theorem made_rowJ {w : World} {B e g n : Nat} (h : w.ownsRow B e 1 (.slice (some ⟨g, 0, none⟩) n n) n (madeCells (Value.int .i64 0).cells (n * 1)).toList) : VRow w g e (List.replicate n (.int .i64 0)) := by
  have := own_vrowJ h
  rw [show (Value.int .i64 0).cells = #[Value.int .i64 0] from rfl, toList_madeCells_one, Nat.mul_one] at this
  exact this

def RetRep (v : Value) (m : Nat) (w : World) (e : Ending) (w' : World) : Prop :=
  ∃ g, e = .returned (.slice (some ⟨g, 0, none⟩) m m) ∧ w.heap.size ≤ g ∧ VRow w' g 3 (List.replicate m v) ∧ RowKit.Below w.heap.size w w'
theorem rep_splice (v z : Value) (n m k : Nat) (_ : n + k ≤ m) : splice (List.replicate n v ++ List.replicate (m - n) z) n (List.replicate k v) = List.replicate (n + k) v ++ List.replicate (m - (n + k)) z := by
  unfold splice
  rw [List.take_append_of_le_length (by simp), List.take_of_length_le (by simp), List.drop_append, List.drop_of_length_le (by simp), List.nil_append, List.length_replicate, List.length_replicate, List.drop_replicate,
    ← List.append_assoc, List.replicate_append_replicate, show n + k - n = k by omega, show m - n - k = m - (n + k) by omega]

theorem one_src {w : World} {b o : Nat} {v : Value} (h : w.cell? ⟨b, o, none⟩ = some v) : ∀ (j : Nat) (u : Value), ([v] : List Value)[j]? = some u → w.cell? ((⟨b, o, none⟩ : Addr).add j) = some u := by
  intro j u hj
  cases j with
  | zero => simp at hj; subst hj; exact h
  | succ j => simp at hj
theorem step_copy_run {P : Program} {w : World} {ops : Array Oper} {o : Oper} {a : Act} {K : Act → World → Prop} {Q : Exit → Act → World → Prop} {E : Prop} (hgd : o.guard = none) (s x : Operand) (t t' : TypeId)
    (ho : o.op = .call { callee := .builtin .copy, args := #[s, x], argTypes := #[t, t'] }) (sv xv : Value) (hs : a.eval s = sv) (hx : a.eval x = xv) (v' : Value) (w' : World)
    (hrun : (Builtin.copy_ #[t, t'] o.type #[sv, xv]).run P w = .ok v' w') (h : K (a.put o.dst v') w') : if Region.wanted o (yielded ops a.tmps) = true then Oper.wp P o a w K Q else E := by
  have hw : Region.wanted o (yielded ops a.tmps) = true := by simp [Region.wanted, hgd]
  rw [if_pos hw]
  unfold Oper.wp execOp
  simp only [ho, resolve, invoke, builtin, Sem.run_bind, Sem.run_pure, Result.andThen_ok, List.map_toArray, List.map_cons, List.map_nil, hs, hx, hrun]
  exact h
theorem copy_to {w w1 : World} {B off n m c : Nat} {sp : Addr} {R cs : List Value} (hs : Option.map (fun x => x.size) (Tryz.prog.info? 3) = some 1) (hr : VRow w1 B 3 R) (hB : RowKit.Below w.heap.size w w1) (hb : w.heap.size ≤ B)
    (hn : cs.length = min m n) (hsrc : ∀ (j : Nat) (v : Value), cs[j]? = some v → w1.cell? (sp.add j) = some v) (hfit : off + cs.length ≤ R.length) (h1 : ∀ v ∈ cs, v.oneCell' = true) (d : Nat) :
    ∃ w2, (Builtin.copy_ #[34, 34] 3 #[.slice (some ⟨B, off, none⟩) n d, .slice (some sp) m c]).run Tryz.prog w1 = .ok (goInt cs.length) w2 ∧ VRow w2 B 3 (splice R off cs) ∧ RowKit.Below w.heap.size w w2 := by
  have h := run_copy_row Tryz.prog w1 34 34 3 3 B off n d sp m c R.toArray 3 cs Tryz.underlying34 hs hr hn hsrc (by simpa using hfit) h1
  refine ⟨_, h, ?_, below_setRow hB hb _⟩
  have hh := setRow_heap w1 B R.toArray (R.toArray.toList.take off ++ cs ++ R.toArray.toList.drop (off + cs.length)).toArray 3 (0, 0) hr
  unfold VRow
  refine hh.trans ?_
  unfold splice
  rw [List.append_assoc]
theorem rep_first (x : Int) (b o c m : Nat) (w w1 : World) (hs : Option.map (fun x => x.size) (Tryz.prog.info? 3) = some 1) (hx : w1.cell? ⟨b, o, none⟩ = some (.int .i64 x)) (hr : VRow w1 w.heap.size 3 (List.replicate m (.int .i64 0))) (hB : RowKit.Below w.heap.size w w1) (h1 : 1 ≤ m) :
    ∃ w2, (Builtin.copy_ #[34, 34] 3 #[.slice (some ⟨w.heap.size, 0, none⟩) m m, .slice (some ⟨b, o, none⟩) 1 c]).run Tryz.prog w1 = .ok (goInt 1) w2 ∧ VRow w2 w.heap.size 3 (List.replicate 1 (.int .i64 x) ++ List.replicate (m - 1) (.int .i64 0)) ∧ RowKit.Below w.heap.size w w2 := by
  obtain ⟨w2, h2, h3, h4⟩ := copy_to (c := c) (n := m) (m := 1) (off := 0) (cs := [.int .i64 x]) hs hr hB (Nat.le_refl _) (by rw [List.length_singleton]; omega) (one_src hx) (by rw [List.length_singleton, List.length_replicate]; omega) (by simp [Value.oneCell']) m
  refine ⟨w2, h2, ?_, h4⟩
  have e := rep_splice (.int .i64 x) (.int .i64 0) 0 m 1 (by omega)
  rw [Nat.zero_add, List.replicate_zero, List.nil_append, Nat.sub_zero] at e
  rw [← e]; exact h3
theorem rep_next (x : Int) (n m : Nat) (w w1 : World) (hs : Option.map (fun x => x.size) (Tryz.prog.info? 3) = some 1) (hr : VRow w1 w.heap.size 3 (List.replicate n (.int .i64 x) ++ List.replicate (m - n) (.int .i64 0))) (hB : RowKit.Below w.heap.size w w1) (h1 : 1 ≤ n) (h2 : n < m) :
    ∃ w2 k, 1 ≤ k ∧ n + k ≤ m ∧ (Builtin.copy_ #[34, 34] 3 #[.slice (some ⟨w.heap.size, n, none⟩) (m - n) (m - n), .slice (some ⟨w.heap.size, 0, none⟩) n m]).run Tryz.prog w1 = .ok (goInt k) w2 ∧ VRow w2 w.heap.size 3 (List.replicate (n + k) (.int .i64 x) ++ List.replicate (m - (n + k)) (.int .i64 0)) ∧ RowKit.Below w.heap.size w w2 := by
  obtain ⟨k, hk⟩ : ∃ k, k = min n (m - n) := ⟨_, rfl⟩
  have hk1 : 1 ≤ k ∧ n + k ≤ m ∧ k ≤ n := by omega
  obtain ⟨w2, h5, h3, h4⟩ := copy_to (c := m) (n := m - n) (m := n) (off := n) (sp := ⟨w.heap.size, 0, none⟩) (cs := List.replicate k (.int .i64 x)) hs hr hB (Nat.le_refl _) (by rw [List.length_replicate, hk]) (by
    intro j v hv
    rw [List.getElem?_replicate] at hv
    split at hv
    · cases hv
      rw [show (⟨w.heap.size, 0, none⟩ : Addr).add j = ⟨w.heap.size, 0 + j, none⟩ by unfold Addr.add; split <;> simp_all, Nat.zero_add, hr.cell, List.getElem?_append_left (by simp; omega), List.getElem?_replicate, if_pos (by omega)]
    · cases hv) (by simp; omega) (by intro v hv; rw [List.eq_of_mem_replicate hv]; rfl) (m - n)
  rw [List.length_replicate] at h5
  refine ⟨w2, k, hk1.1, hk1.2.1, h5, ?_, h4⟩
  rw [← rep_splice (.int .i64 x) (.int .i64 0) n m k hk1.2.1]; exact h3
set_option maxRecDepth 100000 in
set_option maxHeartbeats 1000000 in
theorem repeatI_any (x : Int) (b o c m : Nat) (w : World) (hx : w.cell? ⟨b, o, none⟩ = some (.int .i64 x)) (h1 : 1 ≤ m) (h2 : m ≤ 100000) :
    Calls Tryz.prog 93 #[.slice (some ⟨b, o, none⟩) 1 c, .int .i64 m] w (RetRep (.int .i64 x) m w) := by
  obtain ⟨i0, hi0, hz0, hz1, hz3⟩ := info_parts infoJ
  have hb : b < w.heap.size := World.block_lt_of_cell? w _ hx
  have hsz1 : Option.map (fun x => x.size) (Tryz.prog.info? 3) = some 1 := by rw [hi0]; simp [hz1]
  have hmn : ¬ (m : Int) < 0 := by omega
  have e1 : ((1 : Nat) * m / 18446744073709551616 : Nat) = 0 := by omega
  have e2 : ((1 : Nat) * m % 18446744073709551616 : Nat) = m := by omega
  have HM : Hid (∀ W, Calls Tryz.prog 122 #[.int .u64 1, .int .u64 m] W fun e w' => e = .returned (.tuple #[.int .u64 0, .int .u64 m]) ∧ w' = W) := fun W => by
    have := Tryz.bits_Mul 1 m (by omega) (by omega) W
    rw [e1, e2] at this
    exact this
  have hwi : IntKind.i64.wrap (m : Int) = m := by rw [IntKind.wrap_i64]; omega
  have hwu : IntKind.u64.wrap (m : Int) = m := by rw [IntKind.wrap_u64]; omega
  clear e1 e2
  go_enter Tryz.func93, Tryz.ntmps93
  go_wp2_with fail
  refine (HM.out _).mono ?_
  rintro e w2 ⟨rfl, hw2⟩
  have hw2 := hw2.symm
  subst hw2
  have hms : ¬ (9223372036854775807 : Int) < (m : Int) := by omega
  go_wp2_with (at_make; refine wpList_make_full _ rfl _ _ 34 rfl w.heap.size 3 i0 (.int .i64 0) 1 Tryz.underlying34 hi0 hz0 hz1 .i64 .i64 _ _ m rfl rfl (by omega) (by omega) (by rw [hz3]; omega) (by unfold maxLen; omega) (Nat.le_refl _) ?_; intro w1 hown hgrow)
  obtain ⟨w2, hrun, hr2, hB2⟩ := rep_first x b o c m w w1 hsz1 (hgrow.cell hx (by simp)) (made_rowJ hown) ((RowKit.Below.refl w.heap.size w).grown hgrow (Nat.le_refl _) (by simp)) h1
  rw [hrun]
  clear hown hgrow hrun hx
  go_wp2
  go_loopw [8] (fun iv wr => ∃ n : Nat, 1 ≤ n ∧ n ≤ m ∧ iv = .int .i64 n ∧ VRow wr w.heap.size 3 (List.replicate n (.int .i64 x) ++ List.replicate (m - n) (.int .i64 0)) ∧ RowKit.Below w.heap.size w wr) (fun iv _ => m - (intOf iv).toNat)
  case atStart => exact ⟨1, by omega, h1, rfl, hr2, hB2⟩
  case round =>
    clear hr2 hB2
    obtain ⟨n, hn1, hnm, rfl, hr, hB⟩ := hrel
    by_cases hlt : n < m
    · have hltI : (n : Int) < (m : Int) := by omega
      go_upto_region 9 with fail
      obtain ⟨w3, k, hk1, hk2, hrun, hr3, hB3⟩ := rep_next x n m w wr.drew hsz1 (hr.dr ⟨1, rfl⟩) (hB.trans ((show Dr wr wr.drew from ⟨1, rfl⟩).below _)) hn1 hlt
      clear hr hB
      have hwk : IntKind.i64.wrap ((n : Int) + (k : Int)) = (n : Int) + k := by rw [IntKind.wrap_i64]; omega
      have hle0 : (0 : Int) ≤ n := by omega
      have hmne : ¬ m = n := by omega
      have hle1 : (n : Int) ≤ m := by omega
      go_region_law (refine step_copy_run rfl (.tmp 41) (.tmp 44) 34 34 rfl (.slice (some ⟨w.heap.size, n, none⟩) (m - n) (m - n)) (.slice (some ⟨w.heap.size, 0, none⟩) n m) (by simp [Act.eval, Act.put, hmne]) (by simp [Act.eval, Act.put, hmne]) (.int .i64 (k : Int)) w3 hrun ?_)
      go_wp2
      go_roundw
      case rel => (repeat apply Exists.intro); exact ⟨⟨n + k, by omega, hk2, by go_num, hr3, hB3⟩, rfl⟩
      case measure => simp [intOf, Act.put]; omega
    · obtain rfl : n = m := by omega
      have hltI : ¬ (n : Int) < (n : Int) := by omega
      go_wp2
      go_ret
      rw [Nat.sub_self, List.replicate_zero, List.append_nil] at hr
      exact ⟨w.heap.size, rfl, Nat.le_refl _, hr, hB⟩
end Go.Proofs.YtaclgmhinljkbaaGreatDoor
namespace Go.Proofs.YtaclgmhinljkbaaGreatDoor
open Go.RowKit Go.Sort

/-! ### Tables in memory -/
def hdV (bs : Nat → Nat) (q : Nat) (s : Nat) : Value := .slice (some ⟨bs s, 0, none⟩) q q
def rowV (T : Nat → Nat → Int) (s : Nat) (a : Nat) : Value := .int .i64 (T s a)
structure Tab (w : World) (base B n q : Nat) (bs : Nat → Nat) (T : Nat → Nat → Int) : Prop where
  hd : VRow w B 34 ((List.range n).map (hdV bs q))
  row : ∀ s, s < n → VRow w (bs s) 3 ((List.range q).map (rowV T s))
  inj : ∀ s t, s < n → t < n → bs s = bs t → s = t
  lo : base ≤ B ∧ ∀ s, s < n → base ≤ bs s
  ne : ∀ s, s < n → bs s ≠ B
theorem map_range_get {f : Nat → Value} {n i : Nat} (h : i < n) : ((List.range n).map f)[i]? = some (f i) := by simp [h]
theorem map_range_set {f g : Nat → Value} {n i : Nat} {v : Value} (hi : i < n) (hv : g i = v) (hg : ∀ j, j < n → j ≠ i → g j = f j) : ((List.range n).map f).set i v = (List.range n).map g := by
  apply List.ext_getElem
  · simp
  · intro j h1 h2
    rw [List.getElem_set]
    split
    · rename_i e; subst e; rw [List.getElem_map, List.getElem_range, hv]
    · rename_i e
      rw [List.getElem_map, List.getElem_map, List.getElem_range]
      rw [hg j (by simpa using h2) (fun h => e h.symm)]
section
variable {w : World} {base B n q : Nat} {bs : Nat → Nat} {T : Nat → Nat → Int}
theorem Tab.below {w' : World} {b : Nat} (h : Tab w base B n q bs T) (hB : RowKit.Below b w w') (h1 : B < b) (h2 : ∀ s, s < n → bs s < b) : Tab w' base B n q bs T :=
  ⟨h.hd.below hB h1, fun s hs => (h.row s hs).below hB (h2 s hs), h.inj, h.lo, h.ne⟩
theorem Tab.later {w' : World} (h : Tab w base B n q bs T) (hB : RowKit.Below w.heap.size w w') : Tab w' base B n q bs T :=
  h.below hB h.hd.lt (fun s hs => (h.row s hs).lt)
theorem Tab.congr {T' : Nat → Nat → Int} (h : Tab w base B n q bs T) (e : ∀ s a, s < n → a < q → T s a = T' s a) : Tab w base B n q bs T' :=
  ⟨h.hd, fun s hs => by
    have := h.row s hs
    have e2 : (List.range q).map (rowV T s) = (List.range q).map (rowV T' s) := by
      apply List.map_congr_left
      intro a ha
      unfold rowV; rw [e s a hs (by simpa using ha)]
    rw [e2] at this; exact this, h.inj, h.lo, h.ne⟩
theorem Tab.set (h : Tab w base B n q bs T) (f l : Nat) (t : Int) (hf : f < n) (hl : l < q) :
    Tab (w.setCell ⟨bs f, l, none⟩ (.int .i64 t)) base B n q bs (fun s a => if s = f ∧ a = l then t else T s a) := by
  refine ⟨h.hd.other _ (fun e => h.ne f hf e.symm), fun s hs => ?_, h.inj, h.lo, h.ne⟩
  by_cases e : s = f
  · subst e
    have := (h.row s hs).set (i := l) (.int .i64 t)
    rw [map_range_set (g := rowV (fun s' a => if s' = s ∧ a = l then t else T s' a) s) hl (by simp [rowV]) (fun j _ hj => by simp [rowV, hj])] at this
    exact this
  · have := (h.row s hs).other (C := bs f) (i := l) (.int .i64 t) (fun e2 => e (h.inj s f hs hf e2))
    have e2 : rowV (fun s' a => if s' = f ∧ a = l then t else T s' a) s = rowV T s := by funext a; simp [rowV, e]
    rw [e2]; exact this
theorem Tab.mono {base' : Nat} (h : Tab w base B n q bs T) (hb : base' ≤ base) : Tab w base' B n q bs T :=
  ⟨h.hd, h.row, h.inj, ⟨Nat.le_trans hb h.lo.1, fun s hs => Nat.le_trans hb (h.lo.2 s hs)⟩, h.ne⟩
end
theorem infoS : (Tryz.prog.info? 34).map (fun i => (i.zero, i.size, i.bytes)) = some (some (.slice none 0 0), 1, 24) := by kernel_rfl
theorem made_rowS {w : World} {B e g n : Nat} (h : w.ownsRow B e 1 (.slice (some ⟨g, 0, none⟩) n n) n (madeCells (Value.slice none 0 0).cells (n * 1)).toList) : VRow w g e (List.replicate n (.slice none 0 0)) := by
  have := own_vrowJ h
  rw [show (Value.slice none 0 0).cells = #[Value.slice none 0 0] from rfl, toList_madeCells_one, Nat.mul_one] at this
  exact this
/-- A table of k rows, the others not made yet. -/
structure TabP (w : World) (base B n q k : Nat) (bs : Nat → Nat) : Prop where
  hd : VRow w B 34 ((List.range k).map (hdV bs q) ++ List.replicate (n - k) (.slice none 0 0))
  row : ∀ s, s < k → VRow w (bs s) 3 (List.replicate q (.int .i64 (-1)))
  inj : ∀ s t, s < k → t < k → bs s = bs t → s = t
  lo : base ≤ B ∧ ∀ s, s < k → base ≤ bs s
  ne : ∀ s, s < k → bs s ≠ B
theorem TabP.next {w w2 : World} {base B n q k g : Nat} {bs : Nat → Nat} (h : TabP w base B n q k bs) (hk : k < n) (hB : RowKit.Below w.heap.size w w2) (hg : w.heap.size ≤ g) (hr : VRow w2 g 3 (List.replicate q (.int .i64 (-1)))) (hb : base ≤ w.heap.size) :
    TabP (w2.setCell ⟨B, k, none⟩ (.slice (some ⟨g, 0, none⟩) q q)) base B n q (k + 1) (fun s => if s = k then g else bs s) := by
  have hlt := h.hd.lt
  have hne : ∀ s, s < k → bs s < g := fun s hs => Nat.lt_of_lt_of_le (h.row s hs).lt hg
  refine ⟨?_, fun s hs => ?_, fun s t hs ht => ?_, ⟨h.lo.1, fun s hs => ?_⟩, fun s hs => ?_⟩
  · have h1 := (h.hd.below hB hlt).set (i := k) (.slice (some ⟨g, 0, none⟩) q q)
    obtain ⟨m, hm⟩ : ∃ m, n - k = m + 1 := ⟨n - k - 1, by omega⟩
    rw [hm, List.replicate_succ, List.set_append_right _ _ (by simp), List.length_map, List.length_range, Nat.sub_self, List.set_cons_zero] at h1
    rw [show n - (k + 1) = m by omega, List.range_succ, List.map_append, List.append_assoc]
    have e : (List.range k).map (hdV (fun s => if s = k then g else bs s) q) = (List.range k).map (hdV bs q) := by
      apply List.map_congr_left
      intro s hs
      have : s ≠ k := by have := List.mem_range.1 hs; omega
      simp [hdV, this]
    rw [e]
    simpa [hdV] using h1
  · by_cases e : s = k
    · subst e
      rw [if_pos rfl]
      exact hr.other _ (by omega)
    · have hs' : s < k := by omega
      rw [if_neg e]
      exact ((h.row s hs').below hB (h.row s hs').lt).other _ (h.ne s hs')
  · have := hne s; have := hne t
    split <;> split
    · intro _; omega
    · intro e; have := hne t (by omega); omega
    · intro e; have := hne s (by omega); omega
    · intro e; exact h.inj s t (by omega) (by omega) e
  · split
    · omega
    · exact h.lo.2 s (by omega)
  · split
    · omega
    · exact h.ne s (by omega)
theorem TabP.tab {w : World} {base B n q : Nat} {bs : Nat → Nat} (h : TabP w base B n q n bs) : Tab w base B n q bs (fun _ _ => -1) := by
  refine ⟨by have := h.hd; rwa [Nat.sub_self, List.replicate_zero, List.append_nil] at this, fun s hs => ?_, h.inj, h.lo, h.ne⟩
  have := h.row s hs
  have e : (List.range q).map (rowV (fun _ _ => -1) s) = List.replicate q (.int .i64 (-1)) := by
    rw [List.eq_replicate_iff]
    simp [rowV]
  rw [e]; exact this
/-- A table in memory of the call's own. -/
def RetTab (n q : Nat) (T : Nat → Nat → Int) (w : World) (e : Ending) (w' : World) : Prop :=
  ∃ B bs, e = .returned (.slice (some ⟨B, 0, none⟩) n n) ∧ Tab w' w.heap.size B n q bs T ∧ RowKit.Below w.heap.size w w'

set_option maxRecDepth 100000 in
set_option maxHeartbeats 2000000 in
theorem mof_any (G : Gr) (p : Option Addr) (c : Nat) (L : Nat) (w : World) (hin : Sg 3 w edE p G.es) (hv : Vg G) (hu : Uq G.es) (hL : G.q ≤ L) (hL2 : L ≤ 256) :
    Calls Tryz.prog 62 #[(.agg #[.int .i64 G.q, .int .i64 G.n, .slice p G.es.length c]), .int .i64 L] w (RetTab G.n.toNat L (fun s a => tgt G.es s a) w) := by
  obtain ⟨i1, hi1, hy0, hy1, hy3⟩ := info_parts infoS
  have HV := hidI hv; have HU := hidI hu
  obtain ⟨N, hN⟩ : ∃ N : Nat, G.n = N := ⟨G.n.toNat, by have := hv.n1; omega⟩
  have HN : Hid (G.n.toNat = N) := by rw [Hid, hN]; rfl
  have HN2 := hidI hN
  have hN64 : N ≤ 64 := by have := hv.n2; omega
  have hL1 : 1 ≤ L := by have := hv.q1; omega
  have HL := hidI hL
  have hlen := hv.len
  rw [HN.out, hN]
  obtain ⟨w0, hw0⟩ : ∃ w0, w0 = w.alloc (.cells #[.int .i64 G.q, .int .i64 (N : Int), .slice p G.es.length c] 29) := ⟨_, rfl⟩
  have b0 : VRow w0 w.heap.size 29 [.int .i64 G.q, .int .i64 (N : Int), .slice p G.es.length c] := by subst hw0; exact VRow.new w _ _
  have hB0 : RowKit.Below w.heap.size w w0 := by subst hw0; exact (RowKit.Below.refl _ _).alloc (Nat.le_refl _) _
  have zb : w.heap.size < w0.heap.size := b0.lt
  have HIN := hidI (hin.below hB0)
  clear hin hv hu hN hL
  go_enter Tryz.func62, Tryz.ntmps62
  go_upto_region 1 with fail
  rw [← hw0]
  clear hw0
  have g1 := b0.at 1 rfl
  go_wp2_with (at_make; refine wpList_make_full _ rfl _ _ 101 rfl w0.heap.size 34 i1 (.slice none 0 0) 1 Tryz.underlying101 hi1 hy0 hy1 .i64 .i64 _ _ N rfl rfl (by omega) (by omega) (by rw [hy3]; omega) (by unfold maxLen; omega) (Nat.le_refl _) ?_; intro w1 hown hgrow)
  have hP : ∃ bs, TabP w1 w0.heap.size w0.heap.size N L 0 bs := ⟨fun _ => 0, by have := made_rowS hown; simpa using this, fun s hs => absurd hs (by omega), fun s t hs => absurd hs (by omega), ⟨Nat.le_refl _, fun s hs => absurd hs (by omega)⟩, fun s hs => absurd hs (by omega)⟩
  have hB1 : RowKit.Below w0.heap.size w0 w1 := (RowKit.Below.refl _ _).grown hgrow (Nat.le_refl _) (by simp)
  have hs1 := hown
  clear hown hgrow g1
  go_loopw [14] (fun iv wr => ∃ (k : Nat) (bs : Nat → Nat), k ≤ N ∧ iv = .int .i64 k ∧ TabP wr w0.heap.size w0.heap.size N L k bs ∧ RowKit.Below w0.heap.size w0 wr) (fun iv _ => N - (intOf iv).toNat)
  case atStart =>
    obtain ⟨bs, hP⟩ := hP
    exact ⟨0, bs, by omega, rfl, hP, hB1⟩
  case round =>
    clear hP hB1 hs1
    obtain ⟨k, bs, hk, rfl, hP, hB⟩ := hrel
    by_cases hlt : k < N
    · have hltN : (k : Int) < (N : Int) := by omega
      have HC := hidI (repeatI_any (-1) wr.heap.size 0 1 L (wr.alloc (.cells #[.int .i64 (-1)] 3)) ((VRow.new wr 3 [.int .i64 (-1)]).at 0 rfl) hL1 (by omega))
      obtain ⟨wn, hwn⟩ : ∃ wn, wn = wr.alloc (.cells #[.int .i64 (-1)] 3) := ⟨_, rfl⟩
      have hBn : RowKit.Below wr.heap.size wr wn := by subst hwn; exact (RowKit.Below.refl _ _).alloc (Nat.le_refl _) _
      rw [← hwn] at HC
      go_wp2_with fail
      rw [← hwn]
      clear hwn
      refine HC.out.mono ?_
      rintro e w2 ⟨g, rfl, hg, hr, hB2⟩
      have hBB := hBn.trans (hB2.mono hBn.size)
      have hsz := hB.size
      have hP2 := hP.next hlt hBB (Nat.le_trans hBn.size hg) hr hsz
      have hc := (hP.hd.below hBB hP.hd.lt).at k (v := .slice none 0 0) (by rw [List.getElem?_append_right (by simp), List.getElem?_replicate]; simp; omega)
      have hf := (hP.hd.below hBB hP.hd.lt).frozen k
      have hB3 := hB.trans (hBB.mono hsz)
      clear hP hr hBB hB2
      go_wp2
      go_roundw
      case rel => exact ⟨k + 1, _, by omega, by go_num, hP2, hB3.setCell (p := ⟨w0.heap.size, k, none⟩) (Nat.le_refl _) _⟩
      case measure => simp [intOf]; omega
    · obtain rfl : N = k := by omega
      have hltN : ¬ (N : Int) < (N : Int) := by omega
      have hT := hP.tab
      have g2 := (b0.below hB zb).at 2 rfl
      clear hP
      go_wp2
      clear g2
      go_loopw [27] (fun iv wr => ∃ k : Nat, k ≤ G.es.length ∧ iv = .int .i64 k ∧ Tab wr w0.heap.size w0.heap.size N L bs (fun s a => tgt (G.es.take k) s a) ∧ RowKit.Below w0.heap.size w0 wr) (fun iv _ => G.es.length - (intOf iv).toNat)
      case atStart => exact ⟨0, by omega, rfl, hT, hB⟩
      case round =>
        clear hT hB
        obtain ⟨k, hk, rfl, hT, hB⟩ := hrel
        by_cases hlt : k < G.es.length
        · have hltI : (k : Int) < (G.es.length : Int) := by omega
          obtain ⟨b1, o1, rfl, hb1, e0, e1, e2⟩ := (HIN.out.below hB).get3 k hlt rfl
          have hins := HV.out.ins _ (List.getElem_mem hlt)
          have HTS : Hid (∀ s a, tgt (G.es.take (k + 1)) s a = if G.es[k].f = s ∧ G.es[k].l = a then G.es[k].t else tgt (G.es.take k) s a) := fun s a => by
            rw [List.take_succ_eq_append_getElem hlt]
            exact tgt_snoc (by rw [← List.take_succ_eq_append_getElem hlt]; exact List.Pairwise.sublist (List.take_sublist _ _) HU.out) s a
          generalize hx : G.es[k] = x at *
          obtain ⟨xf, xl, xt⟩ := x
          have hins : 0 ≤ xf ∧ 0 ≤ xl ∧ 0 ≤ xt ∧ xf < G.n ∧ xt < G.n ∧ xl < G.q := hins
          have e0 : wr.cell? ⟨b1, o1 + k * 3, none⟩ = some (.int .i64 xf) := e0
          have e1 : wr.cell? ⟨b1, o1 + k * 3 + 1, none⟩ = some (.int .i64 xl) := e1
          have e2 : wr.cell? ⟨b1, o1 + k * 3 + 2, none⟩ = some (.int .i64 xt) := e2
          obtain ⟨F, rfl⟩ : ∃ F : Nat, xf = F := ⟨xf.toNat, by omega⟩
          obtain ⟨A, rfl⟩ : ∃ A : Nat, xl = A := ⟨xl.toNat, by omega⟩
          have hF : F < N := by have := HN2.out; omega
          have hA : A < L := by have := HL.out; omega
          have hFN : (F : Int) < (N : Int) := by omega
          have hAL : (A : Int) < (L : Int) := by omega
          have g2 := (b0.below hB zb).at 2 rfl
          clear hx hins
          go_wp2_with fail
          refine region_tail 10 (by kernel_rfl) (by kernel_rfl) fun W hD => ?_
          have hBa : RowKit.Below wr.heap.size wr W := ((RowKit.Below.refl wr.heap.size wr).alloc (Nat.le_refl _) _).trans (hD.below _)
          have bx : VRow W wr.heap.size 42 [.int .i64 F, .int .i64 A, .int .i64 xt] := (VRow.new wr 42 [.int .i64 (F : Int), .int .i64 (A : Int), .int .i64 xt]).dr hD
          have x0 := bx.at 0 rfl; have x1 := bx.at 1 rfl; have x2 := bx.at 2 rfl
          have hTW := hT.later hBa
          have hBW := hB.trans (hBa.mono hB.size)
          have hh := hTW.hd.at F (map_range_get hF)
          have hrw := (hTW.row F hF).at A (map_range_get hA)
          have hrf := (hTW.row F hF).frozen A
          have hT2 := hTW.set F A xt hF hA
          have hlo := hTW.lo.2 F hF
          unfold hdV at hh
          unfold rowV at hrw
          clear hT hTW hB hBa bx e0 e1 e2 g2 hb1 hD
          simp only [List.take_succ_cons, List.take_zero, List.drop_succ_cons, List.drop_zero]
          iterate 10 still_step
          refine wpStill_nil ?_
          go_wp2
          go_roundw
          case rel =>
            refine ⟨k + 1, by omega, by go_num, hT2.congr (fun s a hs ha => ?_), hBW.setCell (p := ⟨bs F, A, none⟩) hlo _⟩
            rw [HTS.out s a]
            simp only [Int.natCast_inj, eq_comm]
          case measure => simp [intOf]; omega
        · have hltI : ¬ (k : Int) < (G.es.length : Int) := by omega
          have hTf := hT.mono hB0.size
          rw [List.take_of_length_le (by omega)] at hTf
          go_wp2
          go_ret
          exact ⟨w0.heap.size, bs, rfl, hTf, hB0.trans (hB.mono hB0.size)⟩
end Go.Proofs.YtaclgmhinljkbaaGreatDoor
namespace Go.Proofs.YtaclgmhinljkbaaGreatDoor
open Go.RowKit Go.Sort

/-! ### Pairs as keys -/
def kP (x : Int × Int) : Value := .agg #[.int .i64 x.1, .int .i64 x.2]
def okP (x : Int × Int) : Prop := (Lit.int .i64 x.1).wf = true ∧ (Lit.int .i64 x.2).wf = true
theorem okP_of {x : Int × Int} (h1 : -1 ≤ x.1 ∧ x.1 ≤ 1000) (h2 : -1 ≤ x.2 ∧ x.2 ≤ 1000) : okP x := by
  unfold okP Lit.wf
  simp [IntKind.min, IntKind.max, IntKind.bits, IntKind.signed]
  omega
theorem pair_law : WideMaps.KeyLaw Tryz.prog 104 := deep_law (m := 5) (by decide) (by kernel_rfl) (by kernel_rfl) (by kernel_rfl)
theorem pair_reads {a b : Int} (wa : (Lit.int .i64 a).wf = true) (wb : (Lit.int .i64 b).wf = true) : ∃ l, keyOf Tryz.prog 104 (.agg #[.int .i64 a, .int .i64 b]) = some l := by
  obtain ⟨m, hm⟩ : ∃ m, Tryz.prog.types.size = m + 1 + 1 := ⟨Tryz.prog.types.size - 2, by kernel_rfl⟩
  have hk : Tryz.prog.keyType 104 = true := by kernel_rfl
  have hc : Tryz.prog.cellsOf 104 = 2 := by kernel_rfl
  have hci : Tryz.prog.cellsOf 3 = 1 := by kernel_rfl
  have hu := Tryz.underlying104
  have hi := Tryz.underlying3
  unfold keyOf
  simp only [hu]
  rw [if_pos (by simp [hk, Value.formed, hu, hc]), hm]
  unfold Program.keyLits
  simp only [hu, Value.cells]
  simp [hc, hci, Program.keyLits, hi, wa, wb]
theorem keyP : KeyBy Tryz.prog 104 kP okP where
  law := Maps.Keyed.of_law pair_law
  reads := fun a ha => pair_reads ha.1 ha.2
  inj := fun a b _ _ h => by
    obtain ⟨a1, a2⟩ := a; obtain ⟨b1, b2⟩ := b
    simp [kP] at h
    exact Prod.ext h.1 h.2

/-! ### Steps -/
set_option maxRecDepth 100000 in
theorem mnext_any (es : List Ed) (s : Int) (a base B n q : Nat) (bs : Nat → Nat) (w : World) (hT : Tab w base B n q bs (fun s a => tgt es s a)) (h0 : -1 ≤ s) (h1 : s < n) (ha : a < q) :
    Calls Tryz.prog 95 #[.slice (some ⟨B, 0, none⟩) n n, .int .i64 s, .int .i64 a] w fun e w' => e = .returned (.int .i64 (nxt es s a)) ∧ w = w' := by
  by_cases h : s < 0
  · have hs : s = -1 := by omega
    have HX : Hid (nxt es s a = -1) := nxt_neg h
    subst hs
    go_enter Tryz.func95, Tryz.ntmps95
    go_wp2
    go_ret
    exact ⟨ret_int HX.out.symm, rfl⟩
  · have HX : Hid (nxt es s a = tgt es s a) := nxt_pos h
    obtain ⟨S, rfl⟩ : ∃ S : Nat, s = S := ⟨s.toNat, by omega⟩
    have hS : S < n := by omega
    have d1 : ((S : Int) == -1) = false := by simp
    have hh := hT.hd.at S (map_range_get hS)
    have hr := (hT.row S hS).at a (map_range_get ha)
    unfold hdV at hh
    simp only [rowV] at hr
    have haI : (a : Int) < (q : Int) := by omega
    generalize tgt es (S : Int) a = t at *
    clear h hT
    go_enter Tryz.func95, Tryz.ntmps95
    go_wp2
    go_ret
    exact ⟨ret_int HX.out.symm, rfl⟩

def oneB (x : Int × Int) : Bool := decide (x.1 < 0) != decide (x.2 < 0)
theorem mone_any (s t : Int) (w : World) (hs : -1 ≤ s) (ht : -1 ≤ t) :
    Calls Tryz.prog 29 #[.agg #[.int .i64 s, .int .i64 t]] w fun e w' => e = .returned (.bool (oneB (s, t))) ∧ RowKit.Below w.heap.size w w' := by
  have hB0 : RowKit.Below w.heap.size w (w.alloc (.cells #[.int .i64 s, .int .i64 t] 104)) := (RowKit.Below.refl _ _).alloc (Nat.le_refl _) _
  have e1 : (s == -1) = decide (s < 0) := by rw [Bool.eq_iff_iff]; simp; omega
  have e2 : (t == -1) = decide (t < 0) := by rw [Bool.eq_iff_iff]; simp; omega
  have HO : Hid (oneB (s, t) = (decide (s < 0) != decide (t < 0))) := rfl
  go_enter Tryz.func29, Tryz.ntmps29
  go_wp2
  go_ret
  rw [HO.out]
  exact ⟨rfl, hB0⟩
end Go.Proofs.YtaclgmhinljkbaaGreatDoor
namespace Go.Proofs.YtaclgmhinljkbaaGreatDoor
open Go.RowKit Go.Sort

/-! ### Entries -/
structure Fd where
  s : Int
  t : Int
  b : Int
  l : Int
def fdE (x : Fd) : List Value := [.int .i64 x.s, .int .i64 x.t, .int .i64 x.b, .int .i64 x.l]
def catF (l : List Fd) : List Value := l.flatMap fdE
theorem catF_len (l : List Fd) : (catF l).length = l.length * 4 := by
  induction l with
  | nil => rfl
  | cons x l ih =>
    have e : catF (x :: l) = fdE x ++ catF l := rfl
    have e2 : (fdE x).length = 4 := rfl
    rw [e, List.length_append, ih, e2, List.length_cons]; omega
theorem catF_app (a b : List Fd) : catF (a ++ b) = catF a ++ catF b := List.flatMap_append
theorem catF_get : ∀ (l : List Fd) (k : Nat) (h : k < l.length) (j : Nat), j < 4 → (catF l)[k * 4 + j]? = (fdE l[k])[j]?
  | [], k, h, j, hj => by simp at h
  | x :: l, 0, h, j, hj => by
    show (fdE x ++ catF l)[0 * 4 + j]? = _
    rw [Nat.zero_mul, Nat.zero_add, List.getElem?_append_left (by show j < 4; exact hj)]; rfl
  | x :: l, k + 1, h, j, hj => by
    show (fdE x ++ catF l)[(k + 1) * 4 + j]? = _
    rw [List.getElem?_append_right (by show 4 ≤ _; omega), show (k + 1) * 4 + j - (fdE x).length = k * 4 + j by show (k + 1) * 4 + j - 4 = _; omega]
    exact catF_get l k (by simpa using h) j hj
theorem catF_one (l : List Fd) : ∀ v ∈ catF l, v.oneCell' = true := by
  intro v hv
  obtain ⟨x, _, hx⟩ := List.mem_flatMap.1 hv
  simp only [fdE, List.mem_cons, List.not_mem_nil, or_false] at hx
  rcases hx with rfl | rfl | rfl | rfl <;> rfl
theorem ownF_cell {w : World} {B e n cap g : Nat} {l : List Fd} (h : w.ownsRow B e 4 (.slice (some ⟨g, 0, none⟩) n cap) n (catF l)) (k : Nat) (hk : k < l.length) (j : Nat) (hj : j < 4) : w.cell? ⟨g, k * 4 + j, none⟩ = (fdE l[k])[j]? := by
  have hn : l.length = n := by have := h.1; rw [catF_len] at this; omega
  rcases h.2 with ⟨e0, _⟩ | ⟨g', cap', cur, e0, hg, hh, hc, hm, hs, ht⟩
  · cases e0
  · cases e0
    rw [← catF_get l k hk j hj, ← ht]
    have hlt : k * 4 + j < n * 4 := by omega
    simp only [World.cell?, hh]
    rw [List.getElem?_take, if_pos hlt, Array.getElem?_toList]
    simp
theorem infoF : (Tryz.prog.info? 133).map (fun i => (i.zero, i.size, i.bytes)) = some (some (.agg #[.int .i64 0, .int .i64 0, .int .i64 0, .int .i64 0]), 4, 32) := by kernel_rfl

/-! ### What a queue stands for -/
/-- The entries of a queue of pairs: each leads back to the one from which it was found. -/
def Lk (l : List Pw) (q : List Fd) : Prop :=
  q.length = l.length ∧ ∀ i (h : i < l.length) (h' : i < q.length), q[i].s = l[i].1.1 ∧ q[i].t = l[i].1.2 ∧ ((q[i].b = -1 ∧ l[i].2 = []) ∨ ∃ j, ∃ hj : j < i, q[i].b = j ∧ l[i].2 = (l[j]'(by omega)).2 ++ [q[i].l])
theorem Lk.first (s t : Int) : Lk [((s, t), [])] [⟨s, t, -1, -1⟩] := by
  refine ⟨rfl, fun i h h' => ?_⟩
  obtain rfl : i = 0 := by simp at h; exact h
  exact ⟨rfl, rfl, .inl ⟨rfl, rfl⟩⟩
theorem Lk.snoc {l : List Pw} {q : List Fd} (h : Lk l q) {i : Nat} (hi : i < l.length) (s t a : Int) : Lk (l ++ [((s, t), l[i].2 ++ [a])]) (q ++ [⟨s, t, i, a⟩]) := by
  obtain ⟨h1, h2⟩ := h
  refine ⟨by simp [h1], fun k hk hk' => ?_⟩
  by_cases e : k < l.length
  · have e' : k < q.length := by omega
    obtain ⟨g1, g2, g3⟩ := h2 k e e'
    simp only [List.getElem_append_left e, List.getElem_append_left e']
    refine ⟨g1, g2, g3.imp id (fun ⟨j, hj, x, y⟩ => ⟨j, hj, x, ?_⟩)⟩
    rw [List.getElem_append_left (by omega)]; exact y
  · have e2 : k = l.length := by simp at hk; omega
    subst e2
    have e3 : (q ++ [(⟨s, t, i, a⟩ : Fd)])[l.length]'hk' = ⟨s, t, i, a⟩ := by
      rw [List.getElem_append_right (by omega)]
      simp [h1]
    have e4 : (l ++ [((s, t), l[i].2 ++ [a])])[l.length]'hk = ((s, t), l[i].2 ++ [a]) := by
      rw [List.getElem_append_right (Nat.le_refl _)]
      simp
    rw [e3, e4]
    refine ⟨rfl, rfl, .inr ⟨i, hi, rfl, ?_⟩⟩
    simp only
    rw [List.getElem_append_left hi]
def seenF (l : List Pw) (p : Int × Int) : Option Bool := if p ∈ l.map Prod.fst then some true else none
theorem seenF_first (s t : Int) (p : Int × Int) : seenF [((s, t), [])] p = mset (fun _ => none) (s, t) true p := by
  unfold seenF mset
  simp
theorem seenF_snoc (l : List Pw) (x : Int × Int) (wd : List Int) (p : Int × Int) : seenF (l ++ [(x, wd)]) p = mset (seenF l) x true p := by
  unfold seenF mset
  by_cases h : p = x
  · subst h; simp
  · rw [if_neg h]
    simp only [List.map_append, List.mem_append, List.map_cons, List.map_nil, List.mem_singleton]
    by_cases h2 : p ∈ l.map Prod.fst
    · rw [if_pos h2, if_pos (.inl h2)]
    · rw [if_neg h2, if_neg (fun h3 => h3.elim h2 h)]

/-! ### Pairs, compared -/
theorem neqP (a b c d : Int) (w : World) : (binOp .neq 104 (.agg #[.int .i64 a, .int .i64 b]) (.agg #[.int .i64 c, .int .i64 d])).run Tryz.prog w = .ok (.bool (!decide ((a, b) = (c, d)))) w := by
  have hS : Tryz.prog.underlying 104 = some (.struct (Tryz.prog.fieldsOf 104)) := by kernel_rfl
  have hp : Tryz.prog.stoodInHeld 104 = false := by kernel_rfl
  have hr : (Op.eqFields 9999 #[.int .i64 a, .int .i64 b] #[.int .i64 c, .int .i64 d] (Tryz.prog.fieldsOf 104).toList).run Tryz.prog w = .ok (decide ((a, b) = (c, d))) w := by
    simp only [Program.fieldsOf, Tryz.underlying104]
    have u3 := Tryz.underlying3
    have a3 := Tryz.isAgg3
    have z3 := Tryz.sizeOf3
    go_simp
    by_cases h1 : a = c <;> by_cases h2 : b = d <;> simp [h1, h2]
  rw [run_neq_struct, show (10000 : Nat) = 9999 + 1 from rfl, run_equalIn_agg w 9999 104 _ _ hS hp, hr]
  rfl
theorem guardP (op : BinOp) (a b : Operand) (x y z u : Int) (w : World) : (eqGuard op 104 a b (.agg #[.int .i64 x, .int .i64 y]) (.agg #[.int .i64 z, .int .i64 u])).run Tryz.prog w = .ok () w :=
  GuardAt.agg (P := Tryz.prog) (T := 104) (fun x : Int × Int => #[.int .i64 x.1, .int .i64 x.2]) (by kernel_rfl) op a b (x, y) (z, u) w
theorem zeroB (w : World) : (zeroValue 4).run Tryz.prog w = .ok (.bool false) w := by kernel_rfl
end Go.Proofs.YtaclgmhinljkbaaGreatDoor
namespace Go.Proofs.YtaclgmhinljkbaaGreatDoor
open Go.RowKit Go.Sort

theorem tgt_drop_hit {es : List Ed} {s a : Int} {k : Nat} (hk : k < es.length) (h1 : es[k].f = s) (h2 : es[k].l = a) : tgt (es.drop k) s a = es[k].t := by
  rw [List.drop_eq_getElem_cons hk]; unfold tgt; rw [List.find?_cons_of_pos (by simp [h1, h2])]
theorem tgt_drop_next {es : List Ed} {s a : Int} {k : Nat} (hk : k < es.length) (h : ¬ (es[k].f = s ∧ es[k].l = a)) : tgt (es.drop k) s a = tgt (es.drop (k + 1)) s a := by
  rw [List.drop_eq_getElem_cons hk]; unfold tgt
  rw [List.find?_cons_of_neg (by simpa using h)]
theorem tgt_drop_end {es : List Ed} {s a : Int} {k : Nat} (hk : es.length ≤ k) : tgt (es.drop k) s a = -1 := by
  rw [List.drop_eq_nil_of_le hk]; rfl

def TwoI (w : World) (a b : Int) (u v : Value) (wx : World) : Prop := u = .int .i64 a ∧ v = .int .i64 b ∧ RowKit.Below w.heap.size w wx
theorem all_snoc {f : Nat → Bool} {k : Nat} (h1 : (List.range k).all f = true) (h2 : f k = true) : (List.range (k + 1)).all f = true := by
  rw [List.range_succ, List.all_append, h1, List.all_cons, h2]; rfl
theorem all_miss {f : Nat → Bool} {k n : Nat} (h : k < n) (h2 : f k = false) : (List.range n).all f = false := by
  rw [Bool.eq_false_iff]
  intro hc
  rw [List.all_eq_true.1 hc k (by simpa using h)] at h2; cases h2

end Go.Proofs.YtaclgmhinljkbaaGreatDoor
namespace Go.Proofs.YtaclgmhinljkbaaGreatDoor
open Go.RowKit Go.Sort

theorem Tab.dr {w w' : World} {base B n q : Nat} {bs : Nat → Nat} {T : Nat → Nat → Int} (h : Tab w base B n q bs T) (hD : Dr w w') : Tab w' base B n q bs T := h.later (hD.below _)
theorem cg_get {C : List Int} {s : Nat} (h : s < C.length) : cg C s = C[s] := by unfold cg; rw [Int.toNat_natCast, List.getD_eq_getElem?_getD, List.getElem?_eq_getElem h]; rfl
theorem Sl.at {α : Type} {w : World} {enc : α → Value} {b off : Nat} {l : List α} (h : Sl w enc (some ⟨b, off, none⟩) l) (k : Nat) (hk : k < l.length) : w.cell? ⟨b, off + k, none⟩ = some (enc l[k]) := by
  obtain ⟨b', o', e, _, hc⟩ := h.get k hk
  cases e
  exact hc k hk

end Go.Proofs.YtaclgmhinljkbaaGreatDoor
