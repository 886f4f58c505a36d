/-
  LookaheadJoins: for every table and all picks the law returns true, and its arguments read as they did.
-/
import Derived.Test.YthfgdahooigifaaLkN
import Derived.Test.YthfgdahooigifaaLkW
namespace Go.Proofs.Ythfgdahooigifaa
open Go.Joins Go.ChangeShapes Go.WideShapes Go.ChangeAt Go.RowKit Go.Deep
open Go.ChangeMaps (open_string shut_string)

set_option maxRecDepth 100000 in
set_option maxHeartbeats 2000000 in
theorem lawLkJoins_any (T : Tb) (p1 p2 : Option Addr) (c1 c2 : Nat) (l m : List UInt8) (pl pm : Option Addr) (cl cm : Nat) (w : World) (hin : TbIn w T p1 p2 c1 c2) (hl : Sl w u8v pl l) (hm : Sl w u8v pm m) (hll : l.length ≤ 9223372036854775807) (hlm : m.length ≤ 9223372036854775807) :
    Calls Try.prog 4 #[.agg #[.int .i64 T.q, .int .i64 T.n, .slice p1 T.base.length c1, .slice p2 T.swaps.length c2], .slice pl l.length cl, .slice pm m.length cm] w fun e w' => e = .returned (.bool true) ∧ Below w.heap.size w w' := by
  have hB0 : Below w.heap.size w (w.alloc (.cells #[.int .i64 T.q, .int .i64 T.n, .slice p1 T.base.length c1, .slice p2 T.swaps.length c2] 25)) := (Below.refl _ _).alloc (Nat.le_refl _) _
  have b0 : VRow (w.alloc (.cells #[.int .i64 T.q, .int .i64 T.n, .slice p1 T.base.length c1, .slice p2 T.swaps.length c2] 25)) w.heap.size 25 [.int .i64 T.q, .int .i64 T.n, .slice p1 T.base.length c1, .slice p2 T.swaps.length c2] := VRow.new w _ _
  have h1 := hin.l1
  have h2 := hin.l2
  by_cases hall : greatT T = false ∧ l.length ≤ 8 ∧ m.length ≤ 8 ∧ 0 < T.base.length
  · exact lawLkJoins_ok T p1 p2 c1 c2 l m pl pm cl cm w hin hl hm hall.1 hall.2.1 hall.2.2.1 hall.2.2.2
  · clear hin hl hm
    have h1' := h1
    cases hg : greatT T
    · have hn : 8 < l.length ∨ (l.length ≤ 8 ∧ 8 < m.length) ∨ (l.length ≤ 8 ∧ m.length ≤ 8 ∧ T.base.length = 0) := by
        by_cases a : l.length ≤ 8
        · by_cases b : m.length ≤ 8
          · exact .inr (.inr ⟨a, b, by
              rcases Nat.eq_zero_or_pos T.base.length with h | h
              · exact h
              · exact absurd ⟨hg, a, b, h⟩ hall⟩)
          · exact .inr (.inl ⟨a, by omega⟩)
        · exact .inl (by omega)
      have HG := hidI hg
      clear hg hall
      rcases hn with ha | ⟨ha, hb⟩ | ⟨ha, hb, hc⟩
      · have hx : (8 : Int) < (l.length : Int) := by omega
        go_enter Try.func4, Try.ntmps4
        go_wp2_with fail
        refine (great_any T p1 p2 c1 c2 _ h1 h2).mono ?_
        rintro e w1 ⟨rfl, hB1⟩
        rw [HG.out]
        go_wp2_with fail
        refine (lkAwake_any _).mono ?_
        rintro e w7 ⟨rfl, hB7⟩
        go_wp2
        go_ret
        exact ⟨rfl, (hB0.trans (hB1.mono hB0.size)).trans (hB7.mono (hB0.trans (hB1.mono hB0.size)).size)⟩
      · have hx : ¬ ((8 : Int) < (l.length : Int)) := by omega
        have hy : (8 : Int) < (m.length : Int) := by omega
        go_enter Try.func4, Try.ntmps4
        go_wp2_with fail
        refine (great_any T p1 p2 c1 c2 _ h1 h2).mono ?_
        rintro e w1 ⟨rfl, hB1⟩
        rw [HG.out]
        go_wp2_with fail
        refine (lkAwake_any _).mono ?_
        rintro e w7 ⟨rfl, hB7⟩
        go_wp2
        go_ret
        exact ⟨rfl, (hB0.trans (hB1.mono hB0.size)).trans (hB7.mono (hB0.trans (hB1.mono hB0.size)).size)⟩
      · have hx : ¬ ((8 : Int) < (l.length : Int)) := by omega
        have hy : ¬ ((8 : Int) < (m.length : Int)) := by omega
        have hz : ((T.base.length : Int) == 0) = true := by rw [hc]; rfl
        clear hc
        go_enter Try.func4, Try.ntmps4
        go_wp2_with fail
        refine (great_any T p1 p2 c1 c2 _ h1 h2).mono ?_
        rintro e w1 ⟨rfl, hB1⟩
        rw [HG.out]
        have g2 := (b0.below hB1 (by simp)).at 2 rfl
        go_wp2_with fail
        refine (lkAwake_any _).mono ?_
        rintro e w7 ⟨rfl, hB7⟩
        go_wp2
        go_ret
        exact ⟨rfl, (hB0.trans (hB1.mono hB0.size)).trans (hB7.mono (hB0.trans (hB1.mono hB0.size)).size)⟩
    · have HG := hidI hg
      clear hg hall
      go_enter Try.func4, Try.ntmps4
      go_wp2_with fail
      refine (great_any T p1 p2 c1 c2 _ h1 h2).mono ?_
      rintro e w1 ⟨rfl, hB1⟩
      rw [HG.out]
      go_wp2_with fail
      refine (lkAwake_any _).mono ?_
      rintro e w7 ⟨rfl, hB7⟩
      go_wp2
      go_ret
      exact ⟨rfl, (hB0.trans (hB1.mono hB0.size)).trans (hB7.mono (hB0.trans (hB1.mono hB0.size)).size)⟩

theorem cellsU8 : Try.prog.cellsOf 5 = 1 := by kernel_rfl
theorem readU8s : Try.prog.readableRec 36 = true ∧ 36 < Try.prog.types.size := ⟨by kernel_rfl, of_decide_eq_true (by kernel_rfl)⟩
/-- A list of bytes inside what came in, as the walks take it. -/
theorem u8s_at {H : Type} {enc : TypeId × Value → H} {W : World} {fuel : Nat} {v : Value} {y : DataW H × List MemPlace}
    (h : DataW.trod enc Try.prog W 0 (fun _ => true) true fuel 36 [v] = some y) (hlt : ∀ x ∈ y.2, x.block < W.heap.size) :
    ∃ (p : Option Addr) (l : List UInt8) (c : Nat), v = .slice p l.length c ∧ Sl W u8v p l ∧ l.length ≤ 9223372036854775807 ∧ l.length ≤ c := by
  rcases open_ints Try.underlying36 Try.underlying5 cellsU8 h with ⟨hcs, hx⟩ | ⟨a, len, cap, zs, hcs, _, hl, hm, hz, hx, hcell, hwf⟩
  · simp at hcs
    subst hcs
    exact ⟨none, [], 0, rfl, Sl.nil _ _ _, by simp, by simp⟩
  · simp at hcs
    subst hcs hx
    simp only [if_true] at hz
    have hlen : ((zs.take len).map (fun n => UInt8.ofNat n.toNat)).length = len := by simp; omega
    refine ⟨some a, (zs.take len).map (fun n => UInt8.ofNat n.toNat), cap, by rw [hlen], ?_, by rw [hlen]; unfold maxLen at hm; omega, by rw [hlen]; exact hl⟩
    by_cases h0 : len = 0
    · subst h0; exact .inl (by simp)
    · obtain ⟨b, off, spot⟩ := a
      have hspot : spot = none := by simpa [Addr.add] using World.cell?_spot (hcell 0 (by omega))
      subst hspot
      refine .inr ⟨b, off, rfl, hlt (.cell b off) (MemPlace.mem_row.2 ⟨0, by omega, by simp⟩), fun i hi => ?_⟩
      have hi' : i < zs.length := by rw [hlen] at hi; omega
      have hw := hwf _ (List.getElem_mem hi')
      rw [← add_plain, hcell i hi']
      have hb : 0 ≤ zs[i] ∧ zs[i] < 256 := by
        have := hw
        simp [Lit.wf, show IntKind.u8.min = 0 from rfl, show IntKind.u8.max = 255 from rfl] at this
        omega
      simp [List.getD_eq_getElem?_getD, hi', u8v]
      omega

set_option maxRecDepth 100000 in
theorem joins_lifted (os : Os) (started : os.Started) (H : Type) (enc : TypeId × Value → H) :
    ReturnsInHanded {} Try.checked os 4 .any (Rows.lookaheadJoinsSpec.pre6 enc Try.prog Try.f4 Rows.lookaheadJoinsRow.domain false) (Rows.lookaheadJoinsSpec.post enc Try.prog Try.f4 false true false false) := by
  refine returnsInHanded_of_change (C := Try.checked) own started (by kernel_rfl) Try.func4
    (ChangeSpec.witness6 (enc := enc) (C := Try.checked) false ⟨#[], #[.agg #[.int .i64 0, .int .i64 0, .slice none 0 0, .slice none 0 0], .slice none 0 0, .slice none 0 0], []⟩ 8 (by kernel_rfl) (by kernel_rfl) (by kernel_rfl) (by kernel_rfl)) ?_
  intro W base args ds gs before hval0 hW hcnd _
  have hval : ∀ (j : Nat) t v, Try.f4.params[j]? = some t → args[j]? = some v → Value.okWide Try.prog W .any base t v := hval0
  have hW' := hW
  obtain ⟨p, q, hA0, hV, rfl, hfz, hnd⟩ := hW
  have hA : DataW.TrodAll enc Try.prog W 0 (fun _ => true) true Try.f4.params.toList args.toList ds p := hA0
  rw [Try.params4] at hA hval
  obtain ⟨v0, v1, v2, d0, d1, d2, p0, p1, p2, rfl, rfl, rfl, h0, h1, h2⟩ := trodAll_three hA
  obtain ⟨rfl, rfl⟩ := trodVars_none hV
  have hlt : ∀ x ∈ p0 ++ (p1 ++ p2), x.block < W.heap.size := fun x hx => hW'.lt x (List.mem_append_left _ (by simpa using hx))
  obtain ⟨T, q1, q2, c1, c2, rfl, hin⟩ := table_in (hval 0 25 v0 rfl rfl) h0 (fun x hx => hlt x (List.mem_append_left _ hx))
  obtain ⟨a1, len1, cap1, rfl⟩ := okWide_slice Try.underlying36 (hval 1 36 v1 rfl rfl)
  obtain ⟨a2, len2, cap2, rfl⟩ := okWide_slice Try.underlying36 (hval 2 36 v2 rfl rfl)
  obtain ⟨fuel, hf⟩ := h1
  obtain ⟨fuel2, hf2⟩ := h2
  simp only [Value.cells] at hf hf2
  obtain ⟨pl, l, cl, he, hl, hll, _⟩ := u8s_at hf (fun x hx => hlt x (List.mem_append_right _ (List.mem_append_left _ hx)))
  obtain ⟨pm, m, cm, he2, hm, hlm, _⟩ := u8s_at hf2 (fun x hx => hlt x (List.mem_append_right _ (List.mem_append_right _ hx)))
  rw [he, he2] at hval hW' ⊢
  refine (lawLkJoins_any T q1 q2 c1 c2 l m pl pm cl cm W hin hl hm hll hlm).mono fun e W' ⟨he, hB⟩ => ?_
  subst he
  refine ⟨_, rfl, law_post hW' rfl (by kernel_rfl) ?_ rfl rfl rfl hB⟩
  rw [Try.params4]
  intro t ht
  simp only [List.mem_cons, List.not_mem_nil, or_false] at ht
  rcases ht with rfl | rfl | rfl
  · exact readLook
  · exact readU8s
  · exact readU8s

theorem lookaheadJoins_holds : Rows.LookaheadJoinsSaid :=
  OpenClaim.holds_of_wide 4 Try.f4 rfl rfl rfl rfl rfl rfl rfl ⟨rfl, rfl, rfl, rfl, rfl⟩ rfl rfl rfl rfl rfl (by kernel_rfl) Try.func4 (by kernel_rfl)
    (of_decide_eq_true (by kernel_rfl)) (by unfold Func.isWrapper; rw [if_neg (of_decide_eq_false (by kernel_rfl))]; exact ⟨rfl, rfl⟩)
    (fun os started H enc _ => joins_lifted os started H enc)
#print axioms lookaheadJoins_holds
end Go.Proofs.Ythfgdahooigifaa
