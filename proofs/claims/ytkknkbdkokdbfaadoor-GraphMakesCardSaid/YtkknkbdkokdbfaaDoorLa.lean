/-
  Walks: the statement GraphChecks (door seat).
-/
import Derived.Test.YtkknkbdkokdbfaaDoorHx
import Derived.Test.YtkknkbdkokdbfaaDoorGk
import Derived.Test.YtkknkbdkokdbfaaDoorGf
namespace Go.Proofs.YtkknkbdkokdbfaaDoor
open Go.RowKit Go.Sort Go.Shelf Go.Lib

theorem great_small {G : Gr} (h : greatG G = false) : G.es.length ≤ 30 ∧ (G.n ≤ 10 ∨ 64 < G.n) := by
  unfold greatG at h
  simp only [Bool.or_eq_false_iff, Bool.and_eq_false_iff, decide_eq_false_iff_not] at h
  omega
theorem rows3 {W w' : World} {b : Nat} {G : Gr} {p : Option Addr} {c : Nat} (h : VRow W b 24 [.int .i64 G.q, .int .i64 G.n, .slice p G.es.length c]) (hB : RowKit.Below W.heap.size W w') : (w'.cell? ⟨b, 0, none⟩ = some (.int .i64 G.q) ∧ w'.cell? ⟨b, 1, none⟩ = some (.int .i64 G.n) ∧ w'.cell? ⟨b, 2, none⟩ = some (.slice p G.es.length c)) := by
  have h' := h.below hB h.lt
  exact ⟨h'.at 0 rfl, h'.at 1 rfl, h'.at 2 rfl⟩
theorem gSame_s (G H : Gr) (p p' : Option Addr) (c c' : Nat) (s : Bool) (w : World) (hs : sameG G H = s) (hG : Sg 3 w edE p G.es) (hH : Sg 3 w edE p' H.es) (lG : G.es.length ≤ 9223372036854775807) (lH : H.es.length ≤ 9223372036854775807) :
    Calls Tryd.prog 15 #[(.agg #[.int .i64 G.q, .int .i64 G.n, .slice p G.es.length c]), (.agg #[.int .i64 H.q, .int .i64 H.n, .slice p' H.es.length c'])] w fun e w' => e = .returned (.bool s) ∧ RowKit.Below w.heap.size w w' := by
  subst hs; exact gSame_any G H p p' c c' w hG hH lG lH
theorem rSame_s (G H : Gr) (p p' : Option Addr) (c c' : Nat) (s : Bool) (w : World) (hs : sameG G H = s) (hG : Sg 3 w edE p G.es) (hH : Sg 3 w edE p' H.es) (lG : G.es.length ≤ 9223372036854775807) (lH : H.es.length ≤ 9223372036854775807) :
    Calls Tryd.prog 16 #[(.agg #[.int .i64 G.q, .int .i64 G.n, .slice p G.es.length c]), (.agg #[.int .i64 H.q, .int .i64 H.n, .slice p' H.es.length c'])] w fun e w' => e = .returned (.bool s) ∧ RowKit.Below w.heap.size w w' := by
  subst hs; exact rSame_any G H p p' c c' w hG hH lG lH
theorem makeA_len (q n : Int) (l : List Ed) : (makeA q n l).1.es.length ≤ l.length := by
  unfold makeA
  split
  · exact norm_le l
  · simp

set_option maxRecDepth 100000 in
set_option maxHeartbeats 4000000 in
theorem lawGChecks_any (A B : Gr) (p p' : Option Addr) (c c' : Nat) (w : World) (hA : Sg 3 w edE p A.es) (hB : Sg 3 w edE p' B.es) (lA : A.es.length ≤ 9223372036854775807) (lB : B.es.length ≤ 9223372036854775807) :
    Calls Tryd.prog 3 #[(.agg #[.int .i64 A.q, .int .i64 A.n, .slice p A.es.length c]), (.agg #[.int .i64 B.q, .int .i64 B.n, .slice p' B.es.length c'])] w fun e w' => e = .returned (.bool true) ∧ RowKit.Below w.heap.size w w' := by
  have HA := hidI hA; have HB := hidI hB
  clear hA hB
  obtain ⟨w0, hw0⟩ : ∃ w0, w0 = (w.alloc (.cells #[.int .i64 A.q, .int .i64 A.n, .slice p A.es.length c] 24)).alloc (.cells #[.int .i64 B.q, .int .i64 B.n, .slice p' B.es.length c'] 24) := ⟨_, rfl⟩
  have b0 : VRow w0 w.heap.size 24 [.int .i64 A.q, .int .i64 A.n, .slice p A.es.length c] := by subst hw0; exact (VRow.new w _ _).alloc _
  have b1 : VRow w0 (w.heap.size + 1) 24 [.int .i64 B.q, .int .i64 B.n, .slice p' B.es.length c'] := by subst hw0; exact VRow.new1 w _ _ _
  have hB0 : RowKit.Below w.heap.size w w0 := by subst hw0; exact ((RowKit.Below.refl _ _).alloc (Nat.le_refl _) _).alloc (by simp) _
  cases hgA : greatG A
  · have HGA := hidI hgA
    have hsA := (great_small hgA).1
    clear hgA
    go_enter Tryd.func3, Tryd.ntmps3
    go_wp2_with fail
    rw [← hw0]
    clear hw0
    refine (rGreat_any A p c w0 lA).mono ?_
    rw [HGA.out]
    rintro e w1 ⟨rfl, hB1⟩
    have x1 := hB0.trans (hB1.mono hB0.size)
    have c0 := b0.below hB1 b0.lt
    have c1 := b1.below hB1 b1.lt
    clear hB1 b0 b1 hB0
    have f0 := c1.at 0 rfl; have f1 := c1.at 1 rfl; have f2 := c1.at 2 rfl
    go_wp2_with fail
    refine (rGreat_any B p' c' w1 lB).mono ?_
    cases hgB : greatG B
    · have hsB := (great_small hgB).1
      clear hgB
      rintro e w2 ⟨rfl, hB2⟩
      have x2 := x1.trans (hB2.mono x1.size)
      have d0 := c0.below hB2 c0.lt
      have d1 := c1.below hB2 c1.lt
      clear hB2 c0 c1 x1 f0 f1 f2
      have e0 := d0.at 0 rfl; have e1 := d0.at 1 rfl
      have f2 := d1.at 2 rfl
      have HML := hidI (makeA_len A.q A.n B.es)
      go_wp2_with fail
      refine (gMake_any A.q A.n B.es p' c' w2 (HB.out.below x2) (by omega)).mono ?_
      have HR := hidI (rMake_any A.q A.n B.es p' c')
      generalize makeA A.q A.n B.es = R at *
      rintro e w3 ⟨p3, c3, rfl, hs3, _, hB3⟩
      have x3 := x2.trans (hB3.mono x2.size)
      have g0 := (d0.below hB3 d0.lt).alloc (.cells #[.int .i64 R.1.q, .int .i64 R.1.n, .slice p3 R.1.es.length c3] 24)
      have g1 := (d1.below hB3 d1.lt).alloc (.cells #[.int .i64 R.1.q, .int .i64 R.1.n, .slice p3 R.1.es.length c3] 24)
      have g3 : VRow (w3.alloc (.cells #[.int .i64 R.1.q, .int .i64 R.1.n, .slice p3 R.1.es.length c3] 24)) w3.heap.size 24 [.int .i64 R.1.q, .int .i64 R.1.n, .slice p3 R.1.es.length c3] := VRow.new w3 _ _
      have s3 := hs3.below ((RowKit.Below.refl _ w3).alloc (Nat.le_refl _) (.cells #[.int .i64 R.1.q, .int .i64 R.1.n, .slice p3 R.1.es.length c3] 24))
      have x3' := x3.alloc x3.size (.cells #[.int .i64 R.1.q, .int .i64 R.1.n, .slice p3 R.1.es.length c3] 24)
      clear hs3 hB3 d0 d1 x2 e0 e1 f2 x3
      go_upto_region 4 with fail
      generalize w3.alloc (.cells #[.int .i64 R.1.q, .int .i64 R.1.n, .slice p3 R.1.es.length c3] 24) = w4 at *
      generalize w3.heap.size = B3 at *
      have e0 := g0.at 0 rfl; have e1 := g0.at 1 rfl
      have f2 := g1.at 2 rfl
      go_wp2_with fail
      refine (HR.out w4 (HB.out.below x3') (by omega)).mono ?_
      rintro e w5 ⟨p5, c5, rfl, hs5, _, hB5⟩
      have x5 := x3'.trans (hB5.mono x3'.size)
      have k0 := (g0.below hB5 g0.lt).alloc (.cells #[.int .i64 R.1.q, .int .i64 R.1.n, .slice p5 R.1.es.length c5] 24)
      have k1 := (g1.below hB5 g1.lt).alloc (.cells #[.int .i64 R.1.q, .int .i64 R.1.n, .slice p5 R.1.es.length c5] 24)
      have k3 := (g3.below hB5 g3.lt).alloc (.cells #[.int .i64 R.1.q, .int .i64 R.1.n, .slice p5 R.1.es.length c5] 24)
      have k5 : VRow (w5.alloc (.cells #[.int .i64 R.1.q, .int .i64 R.1.n, .slice p5 R.1.es.length c5] 24)) w5.heap.size 24 [.int .i64 R.1.q, .int .i64 R.1.n, .slice p5 R.1.es.length c5] := VRow.new w5 _ _
      have s3' := s3.below (hB5.alloc hB5.size (.cells #[.int .i64 R.1.q, .int .i64 R.1.n, .slice p5 R.1.es.length c5] 24))
      have s5 := hs5.below ((RowKit.Below.refl _ w5).alloc (Nat.le_refl _) (.cells #[.int .i64 R.1.q, .int .i64 R.1.n, .slice p5 R.1.es.length c5] 24))
      have x6 := x5.alloc x5.size (.cells #[.int .i64 R.1.q, .int .i64 R.1.n, .slice p5 R.1.es.length c5] 24)
      clear hs5 hB5 g0 g1 g3 x3' e0 e1 f2 s3 x5
      go_upto_region 5 with fail
      generalize w5.alloc (.cells #[.int .i64 R.1.q, .int .i64 R.1.n, .slice p5 R.1.es.length c5] 24) = W at *
      generalize w5.heap.size = B5 at *
      have hRl : R.1.es.length ≤ 30 := Nat.le_trans HML.out hsB
      obtain ⟨ra, hra⟩ : ∃ ra, chkG A = ra := ⟨_, rfl⟩
      obtain ⟨sb, hsb⟩ : ∃ sb, sameG A B = sb := ⟨_, rfl⟩
      have HRA := hidI hra; have HSB := hidI hsb
      have HAX : Hid (∀ V, RowKit.Below W.heap.size W V → Sg 3 V edE p A.es) := fun V h => HA.out.below (x6.trans (h.mono x6.size))
      have HBX : Hid (∀ V, RowKit.Below W.heap.size W V → Sg 3 V edE p' B.es) := fun V h => HB.out.below (x6.trans (h.mono x6.size))
      have HXX : Hid (∀ V, RowKit.Below W.heap.size W V → Sg 3 V edE p3 R.1.es) := fun V h => s3'.below h
      have HYX : Hid (∀ V, RowKit.Below W.heap.size W V → Sg 3 V edE p5 R.1.es) := fun V h => s5.below h
      have HX6 := hidI x6
      clear hra hsb HML HR
      have q0 := rows3 k0 (RowKit.Below.refl _ W); have q1 := rows3 k1 (RowKit.Below.refl _ W); have q3 := rows3 k3 (RowKit.Below.refl _ W); have q5 := rows3 k5 (RowKit.Below.refl _ W)
      have HK : Hid (∀ V, RowKit.Below W.heap.size W V → (V.cell? ⟨w.heap.size, 0, none⟩ = some (.int .i64 A.q) ∧ V.cell? ⟨w.heap.size, 1, none⟩ = some (.int .i64 A.n) ∧ V.cell? ⟨w.heap.size, 2, none⟩ = some (.slice p A.es.length c)) ∧ (V.cell? ⟨(w.heap.size + 1), 0, none⟩ = some (.int .i64 B.q) ∧ V.cell? ⟨(w.heap.size + 1), 1, none⟩ = some (.int .i64 B.n) ∧ V.cell? ⟨(w.heap.size + 1), 2, none⟩ = some (.slice p' B.es.length c')) ∧ (V.cell? ⟨B3, 0, none⟩ = some (.int .i64 R.1.q) ∧ V.cell? ⟨B3, 1, none⟩ = some (.int .i64 R.1.n) ∧ V.cell? ⟨B3, 2, none⟩ = some (.slice p3 R.1.es.length c3)) ∧ (V.cell? ⟨B5, 0, none⟩ = some (.int .i64 R.1.q) ∧ V.cell? ⟨B5, 1, none⟩ = some (.int .i64 R.1.n) ∧ V.cell? ⟨B5, 2, none⟩ = some (.slice p5 R.1.es.length c5)) ∧ RowKit.Below W.heap.size W V) := fun V h => ⟨rows3 k0 h, rows3 k1 h, rows3 k3 h, rows3 k5 h, h⟩
      obtain ⟨q00, q01, q02⟩ := q0
      obtain ⟨q10, q11, q12⟩ := q1
      obtain ⟨q30, q31, q32⟩ := q3
      obtain ⟨q50, q51, q52⟩ := q5
      clear k0 k1 k3 k5 s3' s5 x6
      go_region_held3 (fun V => (V.cell? ⟨w.heap.size, 0, none⟩ = some (.int .i64 A.q) ∧ V.cell? ⟨w.heap.size, 1, none⟩ = some (.int .i64 A.n) ∧ V.cell? ⟨w.heap.size, 2, none⟩ = some (.slice p A.es.length c)) ∧ (V.cell? ⟨(w.heap.size + 1), 0, none⟩ = some (.int .i64 B.q) ∧ V.cell? ⟨(w.heap.size + 1), 1, none⟩ = some (.int .i64 B.n) ∧ V.cell? ⟨(w.heap.size + 1), 2, none⟩ = some (.slice p' B.es.length c')) ∧ (V.cell? ⟨B3, 0, none⟩ = some (.int .i64 R.1.q) ∧ V.cell? ⟨B3, 1, none⟩ = some (.int .i64 R.1.n) ∧ V.cell? ⟨B3, 2, none⟩ = some (.slice p3 R.1.es.length c3)) ∧ (V.cell? ⟨B5, 0, none⟩ = some (.int .i64 R.1.q) ∧ V.cell? ⟨B5, 1, none⟩ = some (.int .i64 R.1.n) ∧ V.cell? ⟨B5, 2, none⟩ = some (.slice p5 R.1.es.length c5)) ∧ RowKit.Below W.heap.size W V)
        ((go_split_ands; refine HK.out _ ?_; first
          | assumption
          | exact (RowKit.Below.refl _ _).drew
          | exact RowKit.Below.trans (by assumption) (hCa.mono (RowKit.Below.size (by assumption)))
          | exact RowKit.Below.trans (by assumption) (hCb.mono (RowKit.Below.size (by assumption)))
          | exact RowKit.Below.trans (by assumption) (hCc.mono (RowKit.Below.size (by assumption)))
          | exact RowKit.Below.trans (by assumption) (hCd.mono (RowKit.Below.size (by assumption)))
          | exact RowKit.Below.trans (by assumption) (hCe.mono (RowKit.Below.size (by assumption)))
          | exact RowKit.Below.trans (by assumption) (hCf.mono (RowKit.Below.size (by assumption)))
          | fail))
        (first
          | (go_at_call 13; go_split_ands; refine (gCheck_r A p c _ ra HRA.out (HAX.out _ (by assumption)) (by omega)).mono ?_; rintro e wa ⟨rfl, hCa⟩)
          | (go_at_call 14; go_split_ands; refine (rCheck_r A p c _ ra HRA.out (HAX.out _ (by assumption)) (by omega)).mono ?_; rintro e wb ⟨rfl, hCb⟩)
          | (go_at_call 15; go_split_ands; refine (gSame_s A B p p' c c' sb _ HSB.out (HAX.out _ (by assumption)) (HBX.out _ (by assumption)) (by omega) (by omega)).mono ?_; rintro e wc ⟨rfl, hCc⟩)
          | (go_at_call_of 16 (Value.slice p A.es.length c); go_split_ands; refine (rSame_s A B p p' c c' sb _ HSB.out (HAX.out _ (by assumption)) (HBX.out _ (by assumption)) (by omega) (by omega)).mono ?_; rintro e wd ⟨rfl, hCd⟩)
          | (go_at_call_of 16 (Value.slice p3 R.1.es.length c3); go_split_ands; refine (rSame_s R.1 R.1 p3 p5 c3 c5 true _ (sameG_refl _) (HXX.out _ (by assumption)) (HYX.out _ (by assumption)) (by omega) (by omega)).mono ?_; rintro e we ⟨rfl, hCe⟩)
          | (go_at_call 10; go_split_ands; refine (awake_any _).mono ?_; rintro e wf ⟨rfl, hCf⟩)
          | fail)
      go_wp2
      go_ret
      exact ⟨rfl, HX6.out.trans (RowKit.Below.mono (RowKit.Below.trans (by assumption) (hCf.mono (RowKit.Below.size (by assumption)))) HX6.out.size)⟩
    · rintro e w2 ⟨rfl, hB2⟩
      have x2 := x1.trans (hB2.mono x1.size)
      clear f0 f1 f2
      go_wp2_with fail
      refine (awake_any w2).mono ?_
      rintro e w3 ⟨rfl, hB3⟩
      go_wp2
      go_ret
      exact ⟨rfl, x2.trans (hB3.mono x2.size)⟩
  · have HGA := hidI hgA
    clear hgA
    go_enter Tryd.func3, Tryd.ntmps3
    go_wp2_with fail
    rw [← hw0]
    clear hw0
    refine (rGreat_any A p c w0 lA).mono ?_
    rw [HGA.out]
    rintro e w1 ⟨rfl, hB1⟩
    have x1 := hB0.trans (hB1.mono hB0.size)
    go_wp2_with fail
    refine (awake_any w1).mono ?_
    rintro e w3 ⟨rfl, hB3⟩
    go_wp2
    go_ret
    exact ⟨rfl, x1.trans (hB3.mono x1.size)⟩
end Go.Proofs.YtkknkbdkokdbfaaDoor
