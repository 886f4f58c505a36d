/-
  ChargeGraphs: for all numbers the law returns true, and its arguments read as they did.
-/
import Derived.Test.YtlgjhmenjfmpfaaCg
import Derived.Test.YtlgjhmenjfmpfaaGh
import Derived.Test.YtlgjhmenjfmpfaaChWr
import Derived.Test.YtlgjhmenjfmpfaaLaw
namespace Go.Proofs.Ytlgjhmenjfmpfaa
open Go.ChangeShapes Go.WideShapes Go.ChangeAt Go.RowKit

theorem essA_len (G : Gr) : (essA G).1.es.length ≤ G.es.length := by
  unfold essA partA
  split
  · exact List.length_filterMap_le _ _
  · exact Nat.zero_le _
theorem crgA_len (n : Int) : (crgA n).1.es.length ≤ 10000 := by
  unfold crgA
  split
  · have h1 := makeA_len 2 (n + 1) (crgE n.toNat)
    have h2 := crgE_len n.toNat
    omega
  · exact Nat.zero_le _
theorem nulA_len (n : Int) : (nulA n).1.es.length ≤ 10000 := by
  unfold nulA
  split
  · have h0 := essA_len (makeA 2 (2 * n + 2) (nulE n (n + 1).toNat)).1
    have h1 := makeA_len 2 (2 * n + 2) (nulE n (n + 1).toNat)
    have h2 := nulE_len n (n + 1).toNat
    show (essA (makeA 2 (2 * n + 2) (nulE n (n + 1).toNat)).1).1.es.length ≤ 10000
    omega
  · exact Nat.zero_le _
theorem secA_len (n m : Int) : (secA n m).1.es.length ≤ 10000 := by
  unfold secA
  split
  · rename_i h
    split
    · have h0 := essA_len (makeA 2 ((n + 1) * (m + 1)) (mdA (n + 1) (m + 1) (numS m) (nxS (n.tdiv 2)))).1
      have h1 := makeA_len 2 ((n + 1) * (m + 1)) (mdA (n + 1) (m + 1) (numS m) (nxS (n.tdiv 2)))
      have h2 := nxS_len (n := n) (m := m) (by omega) (by omega)
      show (essA (makeA 2 ((n + 1) * (m + 1)) (mdA (n + 1) (m + 1) (numS m) (nxS (n.tdiv 2)))).1).1.es.length ≤ 10000
      omega
    · exact Nat.zero_le _
  · exact Nat.zero_le _

set_option maxRecDepth 100000 in
set_option maxHeartbeats 4000000 in
theorem lawGraphs_any (n m : Int) (w : World) : Calls Try.prog 3 #[.int .i64 n, .int .i64 m] w fun e w' => e = .returned (.bool true) ∧ Below w.heap.size w w' := by
  have HC1 := fun W => cGraph_any n W; have HC2 := fun W => rcGraph_any n W
  have HC3 := fun W => cNull_any n W; have HC4 := fun W => rcNull_any n W
  have HC5 := fun W => cSecond_any n m W; have HC6 := fun W => rcSecond_any n m W
  have l1 := crgA_len n; have l3 := nulA_len n; have l5 := secA_len n m
  generalize crgA n = x1 at *
  generalize nulA n = x3 at *
  generalize secA n m = x5 at *
  obtain ⟨A, a⟩ := x1
  obtain ⟨B, b⟩ := x3
  obtain ⟨S, s⟩ := x5
  have HC1 := hidI HC1; have HC2 := hidI HC2; have HC3 := hidI HC3; have HC4 := hidI HC4; have HC5 := hidI HC5; have HC6 := hidI HC6
  have l1 := hidI l1; have l3 := hidI l3; have l5 := hidI l5
  have ea : (a == a) = true := by simp
  have eb : (b == b) = true := by simp
  have es : (s == s) = true := by simp
  go_enter Try.func3, Try.ntmps3
  go_wp2_with fail
  refine (HC1.out w).mono ?_
  rintro e u1 ⟨p1, c1, rfl, hs, _, hB⟩
  obtain ⟨v1, hv1⟩ : ∃ v, v = u1.alloc (.cells #[.int .i64 A.q, .int .i64 A.n, .slice p1 A.es.length c1] 24) := ⟨_, rfl⟩
  have hq : RowKit.Below u1.heap.size u1 v1 := by subst hv1; exact (RowKit.Below.refl _ _).alloc (Nat.le_refl _) _
  have hD : RowKit.Below w.heap.size w v1 := hB.trans (hq.mono hB.size)
  have r1 : VRow v1 u1.heap.size 24 [.int .i64 A.q, .int .i64 A.n, .slice p1 A.es.length c1] := by subst hv1; exact VRow.new u1 _ _
  have s1 : Sg 3 v1 edE p1 A.es := hs.below hq
  have hX : RowKit.Below w.heap.size w v1 := hD
  clear hs hq hD hB
  go_wp2_with fail
  rw [← hv1]
  clear hv1
  refine (HC2.out v1).mono ?_
  rintro e u2 ⟨p2, c2, rfl, hs, _, hB⟩
  obtain ⟨v2, hv2⟩ : ∃ v, v = u2.alloc (.cells #[.int .i64 A.q, .int .i64 A.n, .slice p2 A.es.length c2] 24) := ⟨_, rfl⟩
  have hq : RowKit.Below u2.heap.size u2 v2 := by subst hv2; exact (RowKit.Below.refl _ _).alloc (Nat.le_refl _) _
  have hD : RowKit.Below v1.heap.size v1 v2 := hB.trans (hq.mono hB.size)
  have r2 : VRow v2 u2.heap.size 24 [.int .i64 A.q, .int .i64 A.n, .slice p2 A.es.length c2] := by subst hv2; exact VRow.new u2 _ _
  have s2 : Sg 3 v2 edE p2 A.es := hs.below hq
  have r1 := r1.below hD r1.lt
  have s1 := s1.below hD
  have hX : RowKit.Below w.heap.size w v2 := hX.trans (hD.mono hX.size)
  clear hs hq hD hB
  go_wp2_with fail
  rw [← hv2]
  clear hv2
  refine (HC3.out v2).mono ?_
  rintro e u3 ⟨p3, c3, rfl, hs, _, hB⟩
  obtain ⟨v3, hv3⟩ : ∃ v, v = u3.alloc (.cells #[.int .i64 B.q, .int .i64 B.n, .slice p3 B.es.length c3] 24) := ⟨_, rfl⟩
  have hq : RowKit.Below u3.heap.size u3 v3 := by subst hv3; exact (RowKit.Below.refl _ _).alloc (Nat.le_refl _) _
  have hD : RowKit.Below v2.heap.size v2 v3 := hB.trans (hq.mono hB.size)
  have r3 : VRow v3 u3.heap.size 24 [.int .i64 B.q, .int .i64 B.n, .slice p3 B.es.length c3] := by subst hv3; exact VRow.new u3 _ _
  have s3 : Sg 3 v3 edE p3 B.es := hs.below hq
  have r1 := r1.below hD r1.lt
  have s1 := s1.below hD
  have r2 := r2.below hD r2.lt
  have s2 := s2.below hD
  have hX : RowKit.Below w.heap.size w v3 := hX.trans (hD.mono hX.size)
  clear hs hq hD hB
  go_wp2_with fail
  rw [← hv3]
  clear hv3
  refine (HC4.out v3).mono ?_
  rintro e u4 ⟨p4, c4, rfl, hs, _, hB⟩
  obtain ⟨v4, hv4⟩ : ∃ v, v = u4.alloc (.cells #[.int .i64 B.q, .int .i64 B.n, .slice p4 B.es.length c4] 24) := ⟨_, rfl⟩
  have hq : RowKit.Below u4.heap.size u4 v4 := by subst hv4; exact (RowKit.Below.refl _ _).alloc (Nat.le_refl _) _
  have hD : RowKit.Below v3.heap.size v3 v4 := hB.trans (hq.mono hB.size)
  have r4 : VRow v4 u4.heap.size 24 [.int .i64 B.q, .int .i64 B.n, .slice p4 B.es.length c4] := by subst hv4; exact VRow.new u4 _ _
  have s4 : Sg 3 v4 edE p4 B.es := hs.below hq
  have r1 := r1.below hD r1.lt
  have s1 := s1.below hD
  have r2 := r2.below hD r2.lt
  have s2 := s2.below hD
  have r3 := r3.below hD r3.lt
  have s3 := s3.below hD
  have hX : RowKit.Below w.heap.size w v4 := hX.trans (hD.mono hX.size)
  clear hs hq hD hB
  go_wp2_with fail
  rw [← hv4]
  clear hv4
  refine (HC5.out v4).mono ?_
  rintro e u5 ⟨p5, c5, rfl, hs, _, hB⟩
  obtain ⟨v5, hv5⟩ : ∃ v, v = u5.alloc (.cells #[.int .i64 S.q, .int .i64 S.n, .slice p5 S.es.length c5] 24) := ⟨_, rfl⟩
  have hq : RowKit.Below u5.heap.size u5 v5 := by subst hv5; exact (RowKit.Below.refl _ _).alloc (Nat.le_refl _) _
  have hD : RowKit.Below v4.heap.size v4 v5 := hB.trans (hq.mono hB.size)
  have r5 : VRow v5 u5.heap.size 24 [.int .i64 S.q, .int .i64 S.n, .slice p5 S.es.length c5] := by subst hv5; exact VRow.new u5 _ _
  have s5 : Sg 3 v5 edE p5 S.es := hs.below hq
  have r1 := r1.below hD r1.lt
  have s1 := s1.below hD
  have r2 := r2.below hD r2.lt
  have s2 := s2.below hD
  have r3 := r3.below hD r3.lt
  have s3 := s3.below hD
  have r4 := r4.below hD r4.lt
  have s4 := s4.below hD
  have hX : RowKit.Below w.heap.size w v5 := hX.trans (hD.mono hX.size)
  clear hs hq hD hB
  go_wp2_with fail
  rw [← hv5]
  clear hv5
  refine (HC6.out v5).mono ?_
  rintro e u6 ⟨p6, c6, rfl, hs, _, hB⟩
  obtain ⟨v6, hv6⟩ : ∃ v, v = u6.alloc (.cells #[.int .i64 S.q, .int .i64 S.n, .slice p6 S.es.length c6] 24) := ⟨_, rfl⟩
  have hq : RowKit.Below u6.heap.size u6 v6 := by subst hv6; exact (RowKit.Below.refl _ _).alloc (Nat.le_refl _) _
  have hD : RowKit.Below v5.heap.size v5 v6 := hB.trans (hq.mono hB.size)
  have r6 : VRow v6 u6.heap.size 24 [.int .i64 S.q, .int .i64 S.n, .slice p6 S.es.length c6] := by subst hv6; exact VRow.new u6 _ _
  have s6 : Sg 3 v6 edE p6 S.es := hs.below hq
  have r1 := r1.below hD r1.lt
  have s1 := s1.below hD
  have r2 := r2.below hD r2.lt
  have s2 := s2.below hD
  have r3 := r3.below hD r3.lt
  have s3 := s3.below hD
  have r4 := r4.below hD r4.lt
  have s4 := s4.below hD
  have r5 := r5.below hD r5.lt
  have s5 := s5.below hD
  have hX : RowKit.Below w.heap.size w v6 := hX.trans (hD.mono hX.size)
  clear hs hq hD hB
  have f0 := r1.at 0 rfl; have f1 := r1.at 1 rfl; have f2 := r1.at 2 rfl
  have g0 := r2.at 0 rfl; have g1 := r2.at 1 rfl; have g2 := r2.at 2 rfl
  rw [hv6] at f0 f1 f2 g0 g1 g2
  go_wp2_with fail
  rw [← hv6]
  clear hv6
  refine (rSame_any A A p1 p2 c1 c2 v6 s1 s2 (by have := l1.out; omega) (by have := l1.out; omega)).mono ?_
  rw [sameG_refl]
  rintro e y0 ⟨rfl, hD⟩
  have hX : RowKit.Below w.heap.size w y0 := hX.trans (hD.mono hX.size)
  have r3 := r3.below hD r3.lt
  have s3 := s3.below hD
  have r4 := r4.below hD r4.lt
  have s4 := s4.below hD
  have r5 := r5.below hD r5.lt
  have s5 := s5.below hD
  have r6 := r6.below hD r6.lt
  have s6 := s6.below hD
  clear hD f0 f1 f2 g0 g1 g2
  have f0 := r3.at 0 rfl; have f1 := r3.at 1 rfl; have f2 := r3.at 2 rfl
  have g0 := r4.at 0 rfl; have g1 := r4.at 1 rfl; have g2 := r4.at 2 rfl
  go_wp2_with fail
  refine (rSame_any B B p3 p4 c3 c4 y0 s3 s4 (by have := l3.out; omega) (by have := l3.out; omega)).mono ?_
  rw [sameG_refl]
  rintro e y1 ⟨rfl, hD⟩
  have hX : RowKit.Below w.heap.size w y1 := hX.trans (hD.mono hX.size)
  have r5 := r5.below hD r5.lt
  have s5 := s5.below hD
  have r6 := r6.below hD r6.lt
  have s6 := s6.below hD
  clear hD f0 f1 f2 g0 g1 g2
  have f0 := r5.at 0 rfl; have f1 := r5.at 1 rfl; have f2 := r5.at 2 rfl
  have g0 := r6.at 0 rfl; have g1 := r6.at 1 rfl; have g2 := r6.at 2 rfl
  go_wp2_with fail
  refine (rSame_any S S p5 p6 c5 c6 y1 s5 s6 (by have := l5.out; omega) (by have := l5.out; omega)).mono ?_
  rw [sameG_refl]
  rintro e y2 ⟨rfl, hD⟩
  have hX : RowKit.Below w.heap.size w y2 := hX.trans (hD.mono hX.size)
  clear hD f0 f1 f2 g0 g1 g2
  go_wp2_with fail
  refine (Chg.awake_any y2).mono ?_
  rintro e z ⟨rfl, hD⟩
  go_wp2
  go_ret
  exact ⟨rfl, hX.trans (hD.mono hX.size)⟩
theorem readInt' : Try.prog.readableRec 3 = true ∧ 3 < Try.prog.types.size := ⟨by kernel_rfl, of_decide_eq_true (by kernel_rfl)⟩

set_option maxRecDepth 100000 in
theorem graphs_lifted (os : Os) (started : os.Started) (H : Type) (enc : TypeId × Value → H) :
    ReturnsInHanded {} Try.checked os 3 .any (Rows.chargeGraphsSpec.pre6 enc Try.prog Try.f3 Rows.chargeGraphsRow.domain false) (Rows.chargeGraphsSpec.post enc Try.prog Try.f3 false true false false) := by
  refine returnsInHanded_of_change (C := Try.checked) own started (by kernel_rfl) Try.func3
    (ChangeSpec.witness6 (enc := enc) (C := Try.checked) false ⟨#[], #[.int .i64 0, .int .i64 0], []⟩ 8 (by kernel_rfl) (by kernel_rfl) (by kernel_rfl) (by kernel_rfl)) ?_
  intro W base args ds gs before hval0 hW hcnd _
  have hval : ∀ (j : Nat) t v, Try.f3.params[j]? = some t → args[j]? = some v → Value.okWide Try.prog W .any base t v := hval0
  have hW' := hW
  obtain ⟨p, q, hA0, hV, rfl, hfz, hnd⟩ := hW
  have hA : DataW.TrodAll enc Try.prog W 0 (fun _ => true) true Try.f3.params.toList args.toList ds p := hA0
  rw [Try.params3] at hA hval
  obtain ⟨v0, v1, d0, d1, p0, p1, rfl, rfl, rfl, h0, h1⟩ := trodAll_two hA
  obtain ⟨rfl, rfl⟩ := trodVars_none hV
  obtain ⟨a0, rfl, rfl, rfl, w0⟩ := open_int Try.underlying3 (hval 0 3 v0 rfl rfl) h0
  obtain ⟨a1, rfl, rfl, rfl, w1⟩ := open_int Try.underlying3 (hval 1 3 v1 rfl rfl) h1
  refine (lawGraphs_any a0 a1 W).mono fun e W' ⟨he, hB⟩ => ?_
  subst he
  refine ⟨_, rfl, law_post hW' rfl (by kernel_rfl) ?_ rfl rfl rfl hB⟩
  rw [Try.params3]
  intro t ht
  simp only [List.mem_cons, List.not_mem_nil, or_false] at ht
  rcases ht with rfl | rfl
  · exact readInt'
  · exact readInt'

theorem chargeGraphs_holds : Rows.ChargeGraphsSaid :=
  OpenClaim.holds_of_wide 3 Try.f3 rfl rfl rfl rfl rfl rfl rfl ⟨rfl, rfl, rfl, rfl, rfl⟩ rfl rfl rfl rfl rfl (by kernel_rfl) Try.func3 (by kernel_rfl)
    (of_decide_eq_true (by kernel_rfl)) (by unfold Func.isWrapper; rw [if_neg (of_decide_eq_false (by kernel_rfl))]; exact ⟨rfl, rfl⟩)
    (fun os started H enc _ => graphs_lifted os started H enc)
#print axioms chargeGraphs_holds
end Go.Proofs.Ytlgjhmenjfmpfaa
