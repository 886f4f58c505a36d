/-
  ForbiddenReduces: for every number, list of words and word the law returns true, and its arguments read as they did.
-/
import Derived.Test.YtkcapbdcmhdcmaaFreg
import Derived.HandedShaped
set_option linter.unusedVariables false
set_option linter.unusedSimpArgs false
namespace Go.Proofs.Ytkcapbdcmhdcmaa
open Go.ChangeShapes Go.WideShapes Go.ChangeAt Go.RowKit
open Go.ChangeMaps (open_string shut_string)

theorem cellsString : Try.prog.cellsOf 9 = 1 := by kernel_rfl
theorem readStrings : Try.prog.readableRec 22 = true ∧ 22 < Try.prog.types.size := ⟨by kernel_rfl, of_decide_eq_true (by kernel_rfl)⟩
theorem readString1 : Try.prog.readableRec 9 = true ∧ 9 < Try.prog.types.size := ⟨by kernel_rfl, of_decide_eq_true (by kernel_rfl)⟩
theorem readIntS : Try.prog.readableRec 3 = true ∧ 3 < Try.prog.types.size := ⟨by kernel_rfl, of_decide_eq_true (by kernel_rfl)⟩

set_option maxRecDepth 10000 in
/-- A list of strings that came in, as the walks take it. -/
theorem strings_in {H : Type} {enc : TypeId × Value → H} {W : World} {ps : List MemPlace} {v : Value} {d : DataW H} {base : Nat} (hval : Value.okWide Try.prog W .any base 22 v)
    (h : DataW.Trod enc Try.prog W 0 (fun _ => true) true 22 v d ps) (hlt : ∀ x ∈ ps, x.block < W.heap.size) :
    ∃ (p : Option Addr) (l : List ByteArray) (c : Nat), v = .slice p l.length c ∧ Sl W Value.string p l ∧ (∀ j (hj : j < l.length), l[j].size ≤ maxLen) ∧ l.length ≤ 9223372036854775807 := by
  obtain ⟨a0, len, cap, rfl⟩ := okWide_slice Try.underlying22 hval
  obtain ⟨fuel, hf⟩ := h
  rcases open_strings Try.underlying22 Try.underlying9 cellsString hf with ⟨hcs, hx⟩ | ⟨a, len', cap', ss, hcs, _, hl, hm, hz, hx, hcell, hws⟩
  · simp [Value.cells] at hcs
    obtain ⟨rfl, rfl, rfl⟩ := hcs
    exact ⟨none, [], 0, rfl, Sl.nil _ _ _, fun j hj => by simp at hj, by simp⟩
  · simp [Value.cells] at hcs
    obtain ⟨rfl, rfl, rfl⟩ := hcs
    simp only [Prod.mk.injEq] at hx
    obtain ⟨_, rfl⟩ := hx
    simp only [if_true] at hz
    have hlen : (ss.take len).length = len := by simp; omega
    refine ⟨some a, ss.take len, cap, by rw [hlen], ?_, ?_, by rw [hlen]; unfold maxLen at hm; omega⟩
    · by_cases h0 : len = 0
      · subst h0; exact .inl (by simp)
      · obtain ⟨b, off, spot⟩ := a
        have hspot : spot = none := by simpa [Addr.add] using World.cell?_spot (hcell 0 (by omega))
        subst hspot
        refine .inr ⟨b, off, rfl, hlt (.cell b off) (MemPlace.mem_row.2 ⟨0, by omega, by simp⟩), fun i hi => ?_⟩
        rw [← add_plain, hcell i (by omega)]
        have : i < ss.length := by omega
        simp [List.getD_eq_getElem?_getD, this]
    · intro j hj
      rw [List.getElem_take]
      exact hws _ (List.getElem_mem _)

set_option maxRecDepth 100000 in
theorem lists_lifted (os : Os) (started : os.Started) (H : Type) (enc : TypeId × Value → H) :
    ReturnsInHanded {} Try.checked os 3 .any (Rows.forbiddenListsSpec.pre6 enc Try.prog Try.f3 Rows.forbiddenListsRow.domain false) (Rows.forbiddenListsSpec.post enc Try.prog Try.f3 false true false false) := by
  refine returnsInHanded_of_change_shaped (C := Try.checked) own started (by kernel_rfl) Try.func3
    (ChangeSpec.witness6 (enc := enc) (C := Try.checked) false ⟨#[], #[.int .i64 0, .slice none 0 0, .string ⟨#[]⟩], []⟩ 8 (by kernel_rfl) (by kernel_rfl) (by kernel_rfl) (by kernel_rfl)) ?_
  intro W base args ds gs before hval0 hW hcnd _ hsh _
  have hval : ∀ (j : Nat) t v, Try.f3.params[j]? = some t → args[j]? = some v → Value.okWide Try.prog W .any base t v := hval0
  have hW' := hW
  obtain ⟨p, q, hA0, hV, rfl, hfz, hnd⟩ := hW
  have hA : DataW.TrodAll enc Try.prog W 0 (fun _ => true) true Try.f3.params.toList args.toList ds p := hA0
  rw [Try.params3] at hA hval
  obtain ⟨v0, v1, v2, d0, d1, d2, p0, p1, p2, rfl, rfl, rfl, h0, h1, h2⟩ := trodAll_three hA
  obtain ⟨rfl, rfl⟩ := trodVars_none hV
  have hlt : ∀ x ∈ p0 ++ (p1 ++ p2), x.block < W.heap.size := fun x hx => hW'.lt x (List.mem_append_left _ (by simpa using hx))
  obtain ⟨x, rfl, rfl, rfl, wx⟩ := open_int Try.underlying3 (hval 0 3 v0 rfl rfl) h0
  obtain ⟨pa, l, c, rfl, hsl, hz, hl⟩ := strings_in (hval 1 22 v1 rfl rfl) h1 (fun x hx => hlt x (List.mem_append_right _ (List.mem_append_left _ hx)))
  obtain ⟨a1, rfl, rfl, rfl, w1⟩ := open_string Try.underlying9 (hval 2 9 v2 rfl rfl) h2
  have hmx : Mx W := Try.laysM144.s1_3 W hsh
  refine (lawLists_any x l pa c a1 W hsl hl hmx).mono fun e W' ⟨he, hB⟩ => ?_
  subst he
  refine ⟨_, rfl, law_post hW' rfl (by kernel_rfl) ?_ rfl rfl rfl hB⟩
  rw [Try.params3]
  intro t ht
  simp only [List.mem_cons, List.not_mem_nil, or_false] at ht
  rcases ht with rfl | rfl | rfl
  · exact readIntS
  · exact readStrings
  · exact readString1

theorem forbiddenLists_holds : Rows.ForbiddenListsSaid :=
  OpenClaim.holds_of_wide 3 Try.f3 rfl rfl rfl rfl rfl rfl rfl ⟨rfl, rfl, rfl, rfl, rfl⟩ rfl rfl rfl rfl rfl (by kernel_rfl) Try.func3 (by kernel_rfl)
    (of_decide_eq_true (by kernel_rfl)) (by unfold Func.isWrapper; rw [if_neg (of_decide_eq_false (by kernel_rfl))]; exact ⟨rfl, rfl⟩)
    (fun os started H enc _ => lists_lifted os started H enc)
#print axioms forbiddenLists_holds
end Go.Proofs.Ytkcapbdcmhdcmaa
namespace Go.Proofs.Ytkcapbdcmhdcmaa
open Go.RowKit Go.Sort

theorem ext_ext (s : ByteArray) (i k a b : Nat) (hi : i ≤ k) (hb : b ≤ k - i) : (s.extract i k).extract a b = s.extract (i + a) (i + b) := by
  have h := ByteArray.extract_extract (a := s) (i := i) (j := k) (k := a) (l := b)
  rw [h, Nat.min_eq_left]
  omega
theorem fac_trans {s u v : ByteArray} (h1 : u ∈ facL s) (h2 : v ∈ facL u) : v ∈ facL s := by
  obtain ⟨i, k, a, b, rfl⟩ := mem_facL.1 h1
  obtain ⟨j, m, c, d, rfl⟩ := mem_facL.1 h2
  have hsz : (s.extract i k).size = k - i := by simp; omega
  rw [hsz] at d
  rw [ext_ext s i k j m (by omega) d]
  exact mem_facL.2 ⟨i + j, i + m, by omega, by omega, rfl⟩
theorem fac_self {s : ByteArray} (h : s ≠ (⟨#[]⟩ : ByteArray)) : s ∈ facL s := by
  have hp : 0 < s.size := by
    rcases Nat.eq_zero_or_pos s.size with h0 | h0
    · exfalso; apply h; cases s with
      | mk d => have hd : d.size = 0 := h0
                rw [Array.eq_empty_of_size_eq_zero hd]
    · exact h0
  exact mem_facL.2 ⟨0, s.size, hp, Nat.le_refl _, by simp⟩
theorem fac_lt {s u : ByteArray} (h : u ∈ facL s) (hne : u ≠ s) : u.size < s.size := by
  obtain ⟨i, k, a, b, rfl⟩ := mem_facL.1 h
  have hsz : (s.extract i k).size = k - i := by simp; omega
  rw [hsz]
  by_cases e : i = 0 ∧ k = s.size
  · exfalso; apply hne; rw [e.1, e.2]; simp
  · omega

/-- What the law knows of the list. -/
structure Okl (q : Int) (l : List ByteArray) : Prop where
  q1 : ¬ (q < 1 ∨ 16 < q)
  len : l.length ≤ 64
  one : ∀ u ∈ l, oneA q u = 0
theorem Okl.of {q : Int} {l : List ByteArray} (h : errA q l = 0) : Okl q l := ⟨(errA_ok h).1, (errA_ok h).2.1, (errA_ok h).2.2⟩
section
variable {q : Int} {l : List ByteArray}
def mOf (l : List ByteArray) : List ByteArray := redL l l.length
theorem mem_m {z : ByteArray} : z ∈ mOf l ↔ z ∈ l ∧ minB l z = true := by unfold mOf; rw [mem_redL (Nat.le_refl _), List.take_length]
theorem srt_m (l : List ByteArray) : SrtB (mOf l) := redL_srt l _
theorem Okl.ne (h : Okl q l) : ∀ u ∈ l, u ≠ (⟨#[]⟩ : ByteArray) := fun u hu => oneA_ne (h.one u hu)
theorem fst1_zero : ∀ {l : List ByteArray}, (∀ u ∈ l, oneA q u = 0) → fst1 q l = 0
  | [], _ => rfl
  | s :: l, h => by
    unfold fst1
    rw [if_neg (by simpa using h s (by simp))]
    exact fst1_zero (fun u hu => h u (by simp [hu]))
theorem m_err (h : Okl q l) : errA q (mOf l) = 0 := by
  unfold errA
  rw [if_neg h.q1, if_neg (by have := redL_len l l.length; have := h.len; unfold mOf; omega)]
  exact fst1_zero (fun u hu => h.one u (mem_m.1 hu).1)
theorem m_min {z : ByteArray} (hz : z ∈ mOf l) : minB (mOf l) z = true := by
  have := (mem_m.1 hz).2
  unfold minB at *
  rw [List.all_eq_true] at *
  exact fun u hu => this u (mem_m.1 hu).1
theorem m_again : mOf (mOf l) = mOf l :=
  SrtB.unique (srt_m _) (srt_m _) (fun z => by
    rw [mem_m]
    exact ⟨fun h => h.1, fun h => ⟨h, m_min h⟩⟩)
theorem m_red (h : Okl q l) : redA q (mOf l) = (mOf l, 0) := by
  unfold redA
  rw [m_err h, if_neg (by simp)]
  exact congrArg (·, 0) m_again
theorem chk2_srt : ∀ {l : List ByteArray} {pv : Option ByteArray}, (∀ u ∈ l, oneA q u = 0) → SrtB l → (∀ a, pv = some a → ∀ u ∈ l, ordB a u < 0) → chk2 q pv l = 0
  | [], _, _, _, _ => rfl
  | s :: l, pv, h1, h2, h3 => by
    have h2' := List.pairwise_cons.1 h2
    have ih := chk2_srt (l := l) (pv := some s) (fun u hu => h1 u (by simp [hu])) h2'.2 (fun a ha u hu => by cases ha; exact h2'.1 u hu)
    unfold chk2
    rw [if_neg (by simpa using h1 s (by simp))]
    cases pv with
    | none => simpa using ih
    | some a =>
      have h0 : ¬ 0 ≤ ordB a s := by have := h3 a rfl s (by simp); omega
      simpa [h0] using ih
theorem m_chk (h : Okl q l) : chkF q (mOf l) = 0 := by
  unfold chkF
  rw [if_neg h.q1, if_neg (by have := redL_len l l.length; have := h.len; unfold mOf; omega)]
  exact chk2_srt (fun u hu => h.one u (mem_m.1 hu).1) (srt_m l) (fun a ha => by cases ha)
theorem m_apart {i k : Nat} (hi : i < (mOf l).length) (hk : k < (mOf l).length) (hne : i ≠ k) : Lib.contains (mOf l)[i].data.toList (mOf l)[k].data.toList = false := by
  have h1 := mem_m.1 (List.getElem_mem hi); have h2 := mem_m.1 (List.getElem_mem hk)
  have hne' : (mOf l)[k] ≠ (mOf l)[i] := fun e => by
    have hs := List.pairwise_iff_getElem.1 (srt_m l)
    rcases Nat.lt_or_gt_of_ne hne with hlt | hlt
    · have := hs i k hi hk hlt; rw [e, ordB_refl] at this; omega
    · have := hs k i hk hi hlt; rw [e, ordB_refl] at this; omega
  have hm := h1.2
  unfold minB at hm
  have := List.all_eq_true.1 hm _ h2.1
  rw [okB_ne hne'] at this
  simpa using this
theorem m_covers (hl : ∀ u ∈ l, u ≠ (⟨#[]⟩ : ByteArray)) : ∀ (n : Nat) (x : ByteArray), x.size ≤ n → x ∈ l → ∃ y ∈ mOf l, y ∈ facL x
  | n, x, hn, hx => by
    by_cases hm : minB l x = true
    · exact ⟨x, mem_m.2 ⟨hx, hm⟩, fac_self (hl x hx)⟩
    · have : ∃ u ∈ l, okB x u = false := by
        unfold minB at hm
        rw [Bool.not_eq_true, List.all_eq_false] at hm
        obtain ⟨u, hu, h⟩ := hm
        exact ⟨u, hu, by simpa using h⟩
      obtain ⟨u, hu, ho⟩ := this
      have hne : u ≠ x := fun e => by rw [okB_eq e] at ho; cases ho
      rw [okB_ne hne] at ho
      have hc : Lib.contains x.data.toList u.data.toList = true := by simpa using ho
      have hf := (contains_iff (hl u hu)).1 hc
      have hlt := fac_lt hf hne
      match n, hn with
      | 0, hn => omega
      | n + 1, hn =>
        obtain ⟨y, hy, hyu⟩ := m_covers hl n u (by omega) hu
        exact ⟨y, hy, fac_trans hf hyu⟩
theorem m_cover (h : Okl q l) {x : ByteArray} (hx : x ∈ l) : (mOf l).any (fun y => Lib.contains x.data.toList y.data.toList) = true := by
  obtain ⟨y, hy, hf⟩ := m_covers h.ne x.size x (Nat.le_refl _) hx
  exact List.any_eq_true.2 ⟨y, hy, (contains_iff (h.ne y (mem_m.1 hy).1)).2 hf⟩
theorem m_alw (h : Okl q l) (w : ByteArray) : alwA (mOf l) w = alwA l w := by
  unfold alwA
  congr 1
  rw [Bool.eq_iff_iff, List.any_eq_true, List.any_eq_true]
  constructor
  · rintro ⟨y, hy, hc⟩; exact ⟨y, (mem_m.1 hy).1, hc⟩
  · rintro ⟨x, hx, hc⟩
    obtain ⟨y, hy, hf⟩ := m_covers h.ne x.size x (Nat.le_refl _) hx
    exact ⟨y, hy, (contains_iff (h.ne y (mem_m.1 hy).1)).2 (fac_trans ((contains_iff (h.ne x hx)).1 hc) hf)⟩
theorem m_alwR (h : Okl q l) {w : ByteArray} (hw : wchk q w.data.toList = 0) : alwR q (mOf l) w = (alwA l w, 0) := by
  unfold alwR
  rw [m_chk h, if_neg (by simp), if_neg (by simp [hw]), m_alw h]
end
end Go.Proofs.Ytkcapbdcmhdcmaa
namespace Go.Proofs.Ytkcapbdcmhdcmaa
open Go.RowKit Go.Sort Go.Shelf Go.Lib

theorem containsV_any (l : List ByteArray) (p : Option Addr) (c : Nat) (x : ByteArray) (w : World) (hin : Sl w Value.string p l) (hl : l.length ≤ 9223372036854775807) (hx : x ∈ l) :
    Calls Try.prog 16 #[.slice p l.length c, .string x] w fun e w' => e = .returned (.bool true) ∧ w' = w := by
  obtain ⟨b, o, rfl, _, hc⟩ := hin.get 0 (List.length_pos_of_mem hx)
  refine (Try.slices_Contains_string b o l.length c l x w (Nat.le_refl _) hl (fun j hj => by rw [hc j hj]; simp [List.getD, List.getElem?_eq_getElem hj])).mono ?_
  rintro e w' ⟨rfl, hw⟩
  rw [List.take_length, (Lib.containsS_iff l x).2 hx]
  exact ⟨rfl, hw⟩
theorem law1_any (s u : ByteArray) (b : Nat) (w : World) (hm : Mx w) (hs : s.size < 4294967281) (hb : w.cell? ⟨b, 0, none⟩ = some (.string s)) :
    Calls Try.prog 19 #[.string u, .pointer (some ⟨b, 0, none⟩)] w fun e w' => e = .returned (.bool (Lib.contains s.data.toList u.data.toList)) ∧ w' = w := by
  have HC := hidI (sContains_any s u w hm hs)
  generalize Lib.contains s.data.toList u.data.toList = r at *
  go_enter Try.func19, Try.ntmps19
  go_wp2_with fail
  refine HC.out.mono ?_
  rintro e w' ⟨rfl, hw⟩
  go_wp2
  go_ret
  first | exact ⟨rfl, hw⟩ | exact ⟨rfl, rfl⟩
theorem law2_any (s u : ByteArray) (b : Nat) (w : World) (hm : Mx w) (hs : s.size < 4294967281) (hb : w.cell? ⟨b, 0, none⟩ = some (.string s)) :
    Calls Try.prog 21 #[.string u, .pointer (some ⟨b, 0, none⟩)] w fun e w' => e = .returned (.bool (Lib.contains s.data.toList u.data.toList)) ∧ w' = w := by
  have HC := hidI (sContains_any s u w hm hs)
  generalize Lib.contains s.data.toList u.data.toList = r at *
  go_enter Try.func21, Try.ntmps21
  go_wp2_with fail
  refine HC.out.mono ?_
  rintro e w' ⟨rfl, hw⟩
  go_wp2
  go_ret
  first | exact ⟨rfl, hw⟩ | exact ⟨rfl, rfl⟩
/-- Does a word of a list lie in a word that a closure holds? -/
theorem cf_any (g : Nat) (eg : ∀ args w, (callFunc g args).run Try.prog w = .ok (.enter g args) w) (l : List ByteArray) (p : Option Addr) (c : Nat) (s : ByteArray) (b : Nat) (w : World)
    (hg : ∀ (u : ByteArray) (W : World), Mx W → W.cell? ⟨b, 0, none⟩ = some (.string s) → Calls Try.prog g #[.string u, .pointer (some ⟨b, 0, none⟩)] W fun e w' => e = .returned (.bool (Lib.contains s.data.toList u.data.toList)) ∧ w' = W)
    (hin : Sl w Value.string p l) (hl : l.length ≤ 9223372036854775807) (hm : Mx w) (hb : VRow w b 9 [.string s]) :
    Calls Try.prog 18 #[.slice p l.length c, .func (.func g) #[] #[.pointer (some ⟨b, 0, none⟩)]] w fun e w' => e = .returned (.bool (l.any (fun u => Lib.contains s.data.toList u.data.toList))) ∧ Dr w w' := by
  rcases Nat.eq_zero_or_pos l.length with h0 | h0
  · have : l = [] := List.length_eq_zero_iff.1 h0
    subst this
    refine (Try.slices_ContainsFunc_empty (α := ByteArray) p c _ w).mono ?_
    rintro e w' ⟨rfl, rfl⟩
    exact ⟨rfl, Dr.refl _⟩
  · obtain ⟨b1, off, rfl, hb1, hc⟩ := hin.get 0 h0
    refine (Try.slices_ContainsFunc Value.string (fun u => Lib.contains s.data.toList u.data.toList) g #[.pointer (some ⟨b, 0, none⟩)] eg b1 off l.length c l w ?_ (Nat.le_refl _) hl ?_).mono ?_
    · intro W x hW
      exact (hg x W (hm.below hW) ((hb.below hW hb.lt).at 0 rfl)).mono (fun e w' h => ⟨h.1, 0, h.2⟩)
    · intro j hj
      rw [hc j hj, getElem!_pos _ j hj]
    · rintro e w' ⟨rfl, q, rfl⟩
      rw [List.take_length]
      exact ⟨rfl, ⟨q, rfl⟩⟩

set_option maxRecDepth 100000 in
set_option maxHeartbeats 4000000 in
theorem lawReduces_any (q : Int) (l : List ByteArray) (p : Option Addr) (c : Nat) (s : ByteArray) (w : World) (hin : Sl w Value.string p l) (hl : l.length ≤ 9223372036854775807) (hm : Mx w) :
    Calls Try.prog 4 #[.int .i64 q, .slice p l.length c, .string s] w fun e w' => e = .returned (.bool true) ∧ RowKit.Below w.heap.size w w' := by
  obtain ⟨w0, hw0⟩ : ∃ w0, w0 = w.alloc (.cells #[.string s] 9) := ⟨_, rfl⟩
  have b0 : VRow w0 w.heap.size 9 [.string s] := by subst hw0; exact VRow.new w _ _
  have x0 : RowKit.Below w.heap.size w w0 := by subst hw0; exact (RowKit.Below.refl _ _).alloc (Nat.le_refl _) _
  have HIN := hidI (hin.below x0)
  have HMX := hidI (hm.below x0)
  have HGR := hidI (rGreat14_any l p c w0 HIN.out hl)
  have HAW := hidI (fun W (hW : RowKit.Below w0.heap.size w0 W) => awake14_any W (HMX.out.below hW))
  have hb0 := b0.lt
  have f5 := b0.at 0 rfl
  clear hin hm
  cases hg : gr14 l
  · obtain ⟨hlen, hsz⟩ := gr14_f hg
    have HZ := hidI hsz
    rw [hg] at HGR
    clear hg hsz
    by_cases hs : 40 < s.size
    · have hsI : (40 : Int) < (s.size : Int) := by omega
      go_enter Try.func4, Try.ntmps4
      go_wp2_with fail
      rw [← hw0]
      clear hw0
      refine HGR.out.mono ?_
      rintro e w1 ⟨rfl, hw⟩
      replace hw := hw.symm
      subst hw
      go_wp2_with fail
      refine (HAW.out w0 (RowKit.Below.refl _ _)).mono ?_
      rintro e w2 ⟨rfl, hB2⟩
      have hB3 := x0.trans (hB2.mono x0.size)
      go_wp2
      go_ret
      exact ⟨rfl, hB3⟩
    · have hsI : ¬ (40 : Int) < (s.size : Int) := by omega
      have HRA := hidI (fReduce_any q l p c w0 HIN.out hl HZ.out)
      obtain ⟨er, her⟩ : ∃ er, errA q l = er := ⟨_, rfl⟩
      by_cases he0 : er = 0
      · subst he0
        have HO := hidI (Okl.of her)
        have : redA q l = (mOf l, 0) := by unfold redA; rw [if_neg (by simp [her])]; rfl
        rw [this] at HRA
        clear her this
        go_enter Try.func4, Try.ntmps4
        go_wp2_with fail
        rw [← hw0]
        clear hw0
        refine HGR.out.mono ?_
        rintro e w1 ⟨rfl, hw⟩
        replace hw := hw.symm
        subst hw
        go_wp2_with fail
        refine HRA.out.mono ?_
        rintro e w2 ⟨q2, n2, c2, rfl, hn2, -, -, hs2, hB2⟩
        replace hn2 : n2 = (mOf l).length := hn2
        subst hn2
        have hml : (mOf l).length ≤ 64 := by have := redL_len l l.length; have := HO.out.len; unfold mOf; omega
        have HZM : Hid (Sz (mOf l)) := fun u hu => HZ.out u (mem_m.1 hu).1
        have HRB := hidI (fReduce_any q (mOf l) q2 c2 w2 hs2 (by omega) HZM.out)
        rw [m_red HO.out] at HRB
        have hs2 := hidI hs2
        clear f5 HGR HRA
        go_wp2_with fail
        refine HRB.out.mono ?_
        rintro e w3 ⟨q3, n3, c3, rfl, hn3, -, -, hs3, hB3⟩
        replace hn3 : n3 = (mOf l).length := hn3
        subst hn3
        have hB3' := hB2.trans (hB3.mono hB2.size)
        have hs23 := hidI (hs2.out.below hB3)
        have HE := hidI (equalW_any (mOf l) (mOf l) q3 q2 c3 c2 w3 hs3 hs23.out (by omega) (by omega))
        rw [show eqW (mOf l) (mOf l) = true from decide_eq_true rfl] at HE
        have HCK := hidI (fun W (hW : RowKit.Below w3.heap.size w3 W) => fCheck_any q (mOf l) q2 c2 W (hs23.out.below hW) (by omega) HZM.out)
        rw [m_chk HO.out] at HCK
        have H4 : Hid (∀ x ∈ mOf l, x ∈ l) := fun x hx => (mem_m.1 hx).1
        have H5 : Hid (∀ i k (hi : i < (mOf l).length) (hk : k < (mOf l).length), i ≠ k → Lib.contains (mOf l)[i].data.toList (mOf l)[k].data.toList = false) := fun i k hi hk hne => m_apart hi hk hne
        have H6 : Hid (∀ x ∈ l, (mOf l).any (fun y => Lib.contains x.data.toList y.data.toList) = true) := fun x hx => m_cover HO.out hx
        have H7 : Hid (∀ u : ByteArray, wchk q u.data.toList = 0 → alwR q (mOf l) u = (alwA l u, 0)) := fun u hu => m_alwR HO.out hu
        clear HRB hB2 hB3 hs2 hs3
        generalize mOf l = m at *
        go_wp2_with fail
        refine HE.out.mono ?_
        rintro e w4 ⟨rfl, hD4⟩
        have hB4 := hD4.below w3.heap.size
        clear HE hD4
        go_wp2_with fail
        refine (HCK.out w4 hB4).mono ?_
        rintro e w5 ⟨rfl, hB5⟩
        have hB35 := hB4.trans (hB5.mono hB4.size)
        have hs5 := hidI (hs23.out.below hB35)
        have hB05 := hB3'.trans (hB35.mono hB3'.size)
        have hl5 := hidI (HIN.out.below hB05)
        have hm5 := hidI (HMX.out.below hB05)
        have hb5 := b0.below hB05 hb0
        have HB05 := hidI hB05
        clear hs23 HCK hB4 hB5 hB35 hB3' hB05
        go_wp2_with fail
        go_loopw [64] (fun iv W => ∃ k : Nat, k ≤ m.length ∧ iv = .int .i64 k ∧ W = w5) (fun iv _ => m.length - (intOf iv).toNat)
        case atStart => exact ⟨0, by omega, rfl, rfl⟩
        case round =>
          obtain ⟨k, hk, rfl, hW⟩ := hrel
          replace hW := hW.symm
          subst hW
          by_cases hlt : k < m.length
          · have hltI : (k : Int) < (m.length : Int) := by omega
            obtain ⟨bb, oo, rfl, _, hc1⟩ := hs5.out.get k hlt
            have e0 := hc1 k hlt
            have HCC := hidI hc1
            have HCV := hidI (containsV_any l p c m[k] w5 hl5.out hl (H4.out _ (List.getElem_mem hlt)))
            have HAP := hidI (fun (j : Nat) (hj : j < m.length) (hne : k ≠ j) => H5.out k j hlt hj hne)
            have hzk := HZM.out _ (List.getElem_mem hlt)
            have HSC := hidI (fun (j : Nat) (hj : j < m.length) => sContains_any m[k] m[j] w5 hm5.out (by omega))
            generalize hx : m[k] = x at *
            clear hc1 hx
            go_wp2_with fail
            refine HCV.out.mono ?_
            rintro e w6 ⟨rfl, hw⟩
            replace hw := hw.symm
            subst hw
            go_wp2_with fail
            go_loopw [75] (fun iv W => ∃ j : Nat, j ≤ m.length ∧ iv = .int .i64 j ∧ W = w5) (fun iv _ => m.length - (intOf iv).toNat)
            case atStart => exact ⟨0, by omega, rfl, rfl⟩
            case round =>
              obtain ⟨j, hj, rfl, hW⟩ := hrel
              replace hW := hW.symm
              subst hW
              by_cases hlt2 : j < m.length
              · have hltI2 : (j : Int) < (m.length : Int) := by omega
                have e1 := HCC.out j hlt2
                have HSJ := hidI (HSC.out j hlt2)
                by_cases hkj : k = j
                · have hbn : ((k : Int) != (j : Int)) = false := by rw [hkj]; simp
                  have hbe : decide ((k : Int) = (j : Int)) = true := decide_eq_true (by rw [hkj])
                  subst hkj
                  go_wp2_with fail
                  go_roundw
                  case rel => exact ⟨k + 1, by omega, by go_num, by first | trivial | rfl⟩
                  case measure => simp [intOf]; omega
                · have hbn : ((k : Int) != (j : Int)) = true := by simp; omega
                  have hkI : ¬ (k : Int) = (j : Int) := by omega
                  have hap := HAP.out j hlt2 hkj
                  rw [hap] at HSJ
                  generalize m[j] = y at *
                  clear hap
                  go_wp2_with fail
                  refine HSJ.out.mono ?_
                  rintro e w7 ⟨rfl, hw⟩
                  replace hw := hw.symm
                  subst hw
                  go_wp2_with fail
                  go_roundw
                  case rel => exact ⟨j + 1, by omega, by go_num, by first | trivial | rfl⟩
                  case measure => simp [intOf]; omega
              · obtain rfl : j = m.length := by omega
                have hltI2 : ¬ (m.length : Int) < (m.length : Int) := by omega
                go_wp2_with fail
                go_roundw
                case rel => exact ⟨k + 1, by omega, by go_num, by first | trivial | rfl⟩
                case measure => simp [intOf]; omega
          · obtain rfl : k = m.length := by omega
            have hltI : ¬ (m.length : Int) < (m.length : Int) := by omega
            go_wp2_with fail
            go_loopw [92] (fun iv W => ∃ k : Nat, k ≤ l.length ∧ iv = .int .i64 k ∧ RowKit.Below w5.heap.size w5 W) (fun iv _ => l.length - (intOf iv).toNat)
            case atStart => exact ⟨0, by omega, rfl, RowKit.Below.refl _ _⟩
            case round =>
              obtain ⟨k, hk, rfl, hB⟩ := hrel
              by_cases hlt : k < l.length
              · have hltI2 : (k : Int) < (l.length : Int) := by omega
                obtain ⟨bb, oo, rfl, _, hc1⟩ := (hl5.out.below hB).get k hlt
                have e0 := hc1 k hlt
                have hzk := HZ.out _ (List.getElem_mem hlt)
                have H6k := hidI (H6.out _ (List.getElem_mem hlt))
                generalize l[k] = x at *
                have r16 : VRow (wr.alloc (.cells #[.string x] 9)) wr.heap.size 9 [.string x] := VRow.new wr _ _
                have hB1 := hB.alloc hB.size (.cells #[.string x] 9)
                have HCF := hidI (cf_any 19 (enters_of Try.func19 (by kernel_rfl) rfl) m q2 c2 x wr.heap.size (wr.alloc (.cells #[.string x] 9)) (fun u W hmW hbW => law1_any x u wr.heap.size W hmW (by omega) hbW) (hs5.out.below hB1) (by omega) (hm5.out.below hB1) r16)
                rw [H6k.out] at HCF
                clear hc1 r16
                go_wp2_with fail
                refine HCF.out.mono ?_
                rintro e w7 ⟨rfl, hD⟩
                have hB7 := hB1.trans (hD.below _)
                clear hB hB1 hD HCF
                go_wp2_with fail
                go_roundw
                case rel => exact ⟨k + 1, by omega, by go_num, hB7⟩
                case measure => simp [intOf]; omega
              · obtain rfl : k = l.length := by omega
                have hltI2 : ¬ (l.length : Int) < (l.length : Int) := by omega
                have b6 := hb5.below hB hb5.lt
                have d6 := b6.at 0 rfl
                have hB0w := HB05.out.trans (hB.mono HB05.out.size)
                have hBw := x0.trans (hB0w.mono x0.size)
                have HWC := hidI (wcheck_any q s wr (by unfold maxLen; omega))
                have H7s := hidI (H7.out s)
                obtain ⟨r, hr⟩ : ∃ r, r = l.any (fun u => Lib.contains s.data.toList u.data.toList) := ⟨_, rfl⟩
                have HAL : Hid (alwA l s = !r) := by rw [Hid, hr]; rfl
                have HR := hidI hr
                clear hr
                generalize wchk q s.data.toList = kc at *
                go_wp2_with fail
                refine HWC.out.mono ?_
                rintro e w8 ⟨rfl, hD8⟩
                have hB8 := hB.trans (hD8.below _)
                have hB08 := hB0w.trans (hD8.below _)
                have hBw8 := hBw.trans (hD8.below _)
                have b8 := b6.below (hD8.below _) b6.lt
                have d8 := b8.at 0 rfl
                clear d6 b6 hB hB0w hBw hD8 HWC
                by_cases hkc : kc = 0
                · have HFA := hidI (fAllowed_any q m q2 c2 s w8 (hs5.out.below hB8) (by omega) HZM.out (hm5.out.below hB8) (by omega))
                  rw [H7s.out hkc, HAL.out] at HFA
                  subst hkc
                  go_wp2_with fail
                  refine HFA.out.mono ?_
                  rintro e w9 ⟨rfl, hB9⟩
                  have hB59 := hB8.trans (hB9.mono hB8.size)
                  have hB09 := hB08.trans (hB9.mono hB08.size)
                  have hBw9 := hBw8.trans (hB9.mono hBw8.size)
                  have b9 := b8.below hB9 b8.lt
                  have HCF := hidI (cf_any 21 (enters_of Try.func21 (by kernel_rfl) rfl) l p c s w.heap.size w9 (fun u W hmW hbW => law2_any s u w.heap.size W hmW (by omega) hbW) (hl5.out.below hB59) hl (hm5.out.below hB59) b9)
                  rw [← HR.out] at HCF
                  clear d8 b8 hB8 hB08 hBw8 hB9 HFA
                  go_wp2_with fail
                  refine HCF.out.mono ?_
                  rintro e wA ⟨rfl, hDA⟩
                  have hB0A := hB09.trans (hDA.below _)
                  have hBwA := hBw9.trans (hDA.below _)
                  clear hB59 hB09 hBw9 b9 hDA HCF
                  cases r
                  all_goals
                    go_wp2_with fail
                    refine (HAW.out wA hB0A).mono ?_
                    rintro e wB ⟨rfl, hBB⟩
                    have hBwB := hBwA.trans (hBB.mono hBwA.size)
                    go_wp2
                    go_ret
                    exact ⟨rfl, hBwB⟩
                · have hkb : (kc != 0) = true := by simpa using hkc
                  clear hkc
                  go_wp2_with fail
                  refine (HAW.out w8 hB08).mono ?_
                  rintro e wB ⟨rfl, hBB⟩
                  have hBwB := hBw8.trans (hBB.mono hBw8.size)
                  go_wp2
                  go_ret
                  exact ⟨rfl, hBwB⟩
      · have : redA q l = ([], er) := by unfold redA; rw [if_pos (by rw [her]; exact he0), her]
        rw [this] at HRA
        have heb : (er != 0) = true := by simpa using he0
        clear her this he0
        go_enter Try.func4, Try.ntmps4
        go_wp2_with fail
        rw [← hw0]
        clear hw0
        refine HGR.out.mono ?_
        rintro e w1 ⟨rfl, hw⟩
        replace hw := hw.symm
        subst hw
        go_wp2_with fail
        refine HRA.out.mono ?_
        rintro e w2 ⟨q2, n2, c2, rfl, hn2, -, -, -, hB2⟩
        replace hn2 : n2 = 0 := hn2
        subst hn2
        have x2 := x0.trans (hB2.mono x0.size)
        clear f5
        go_wp2_with fail
        refine (HAW.out w2 hB2).mono ?_
        rintro e w3 ⟨rfl, hB3⟩
        have x3 := x2.trans (hB3.mono x2.size)
        go_wp2
        go_ret
        exact ⟨rfl, x3⟩
  · rw [hg] at HGR
    clear hg
    go_enter Try.func4, Try.ntmps4
    go_wp2_with fail
    rw [← hw0]
    clear hw0
    refine HGR.out.mono ?_
    rintro e w1 ⟨rfl, hw⟩
    replace hw := hw.symm
    subst hw
    go_wp2_with fail
    refine (HAW.out w0 (RowKit.Below.refl _ _)).mono ?_
    rintro e w2 ⟨rfl, hB2⟩
    have hB3 := x0.trans (hB2.mono x0.size)
    go_wp2
    go_ret
    exact ⟨rfl, hB3⟩
end Go.Proofs.Ytkcapbdcmhdcmaa
namespace Go.Proofs.Ytkcapbdcmhdcmaa
open Go.ChangeShapes Go.WideShapes Go.ChangeAt Go.RowKit
open Go.ChangeMaps (open_string shut_string)

set_option maxRecDepth 100000 in
theorem reduces_lifted (os : Os) (started : os.Started) (H : Type) (enc : TypeId × Value → H) :
    ReturnsInHanded {} Try.checked os 4 .any (Rows.forbiddenReducesSpec.pre6 enc Try.prog Try.f4 Rows.forbiddenReducesRow.domain false) (Rows.forbiddenReducesSpec.post enc Try.prog Try.f4 false true false false) := by
  refine returnsInHanded_of_change_shaped (C := Try.checked) own started (by kernel_rfl) Try.func4
    (ChangeSpec.witness6 (enc := enc) (C := Try.checked) false ⟨#[], #[.int .i64 0, .slice none 0 0, .string ⟨#[]⟩], []⟩ 8 (by kernel_rfl) (by kernel_rfl) (by kernel_rfl) (by kernel_rfl)) ?_
  intro W base args ds gs before hval0 hW hcnd _ hsh _
  have hval : ∀ (j : Nat) t v, Try.f4.params[j]? = some t → args[j]? = some v → Value.okWide Try.prog W .any base t v := hval0
  have hW' := hW
  obtain ⟨p, q, hA0, hV, rfl, hfz, hnd⟩ := hW
  have hA : DataW.TrodAll enc Try.prog W 0 (fun _ => true) true Try.f4.params.toList args.toList ds p := hA0
  rw [Try.params4] at hA hval
  obtain ⟨v0, v1, v2, d0, d1, d2, p0, p1, p2, rfl, rfl, rfl, h0, h1, h2⟩ := trodAll_three hA
  obtain ⟨rfl, rfl⟩ := trodVars_none hV
  have hlt : ∀ x ∈ p0 ++ (p1 ++ p2), x.block < W.heap.size := fun x hx => hW'.lt x (List.mem_append_left _ (by simpa using hx))
  obtain ⟨x, rfl, rfl, rfl, wx⟩ := open_int Try.underlying3 (hval 0 3 v0 rfl rfl) h0
  obtain ⟨pa, l, c, rfl, hsl, hz, hl⟩ := strings_in (hval 1 22 v1 rfl rfl) h1 (fun x hx => hlt x (List.mem_append_right _ (List.mem_append_left _ hx)))
  obtain ⟨a1, rfl, rfl, rfl, w1⟩ := open_string Try.underlying9 (hval 2 9 v2 rfl rfl) h2
  have hmx : Mx W := Try.laysM144.s1_3 W hsh
  refine (lawReduces_any x l pa c a1 W hsl hl hmx).mono fun e W' ⟨he, hB⟩ => ?_
  subst he
  refine ⟨_, rfl, law_post hW' rfl (by kernel_rfl) ?_ rfl rfl rfl hB⟩
  rw [Try.params4]
  intro t ht
  simp only [List.mem_cons, List.not_mem_nil, or_false] at ht
  rcases ht with rfl | rfl | rfl
  · exact readIntS
  · exact readStrings
  · exact readString1

theorem forbiddenReduces_holds : Rows.ForbiddenReducesSaid :=
  OpenClaim.holds_of_wide 4 Try.f4 rfl rfl rfl rfl rfl rfl rfl ⟨rfl, rfl, rfl, rfl, rfl⟩ rfl rfl rfl rfl rfl (by kernel_rfl) Try.func4 (by kernel_rfl)
    (of_decide_eq_true (by kernel_rfl)) (by unfold Func.isWrapper; rw [if_neg (of_decide_eq_false (by kernel_rfl))]; exact ⟨rfl, rfl⟩)
    (fun os started H enc _ => reduces_lifted os started H enc)
#print axioms forbiddenReduces_holds
end Go.Proofs.Ytkcapbdcmhdcmaa
