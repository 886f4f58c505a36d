/-
  MinimalCompares: whatever two graphs come in, the law returns true, and its arguments read as they did; the tables of the library that its row lists are tied to the program's text.
-/
import Derived.Test.YtocbhlohcikapaaGreatDoorZqp
import Derived.Test.YtocbhlohcikapaaGreatDoorZqi
import Derived.Test.YtocbhlohcikapaaGreatDoorZqn
import Derived.Test.YtocbhlohcikapaaGreatDoorZqr
import Derived.Test.YtocbhlohcikapaaGreatDoorZqj
set_option linter.unusedVariables false
set_option linter.unusedSimpArgs false
namespace Go.Proofs.YtocbhlohcikapaaGreatDoor
open Go.RowKit Go.Sort Go.Shelf Go.Lib

def isO (both : Bool) (x : Int × Int) : Bool := if both = true then oneB x else incB x
theorem isR_same (both : Bool) (x : Int × Int) : isR both x = isO both x := by
  cases both
  · show isR false x = incB x
    unfold isR incB; simp
  · exact isR_true x
theorem dead_kpR (f g : List Ed) (both : Bool) : Dead f g (kpR both) (isR both) := by
  intro p a hk w
  generalize stp f g p a = q at *
  obtain ⟨s, t⟩ := q
  rw [runP_run1]
  unfold kpR at hk
  unfold isR
  rw [Bool.or_eq_false_iff] at hk
  have hs : s < 0 := by have := hk.1; simp at this; omega
  have h1 := run1_neg (es := f) w hs
  cases both
  · simp; omega
  · have ht : t < 0 := by have := hk.2; simp at this; omega
    have h2 := run1_neg (es := g) w ht
    simp; omega
def rcO (G H : Gr) (both : Bool) : Option (List Int) := bfsA (sbA G).1.n.toNat (sbA H).1.n.toNat (sbA G).1.es (sbA H).1.es (kpR both) (isR both) (max G.q H.q).toNat (st0 G) (st0 H)
def rcA (G H : Gr) (both : Bool) : List Int × Bool × Int :=
  if chkG G ≠ 0 ∨ chkG H ≠ 0 then ([], false, 1)
  else if (sbA G).2.2 ≠ 0 ∨ (sbA H).2.2 ≠ 0 then ([], false, 4)
  else ((fwA (rcO G H both)).1, !(fwA (rcO G H both)).2, 0)
theorem rcA_eq (G H : Gr) (both : Bool) : rcA G H both = srA G H (isO both) := by
  by_cases hc : chkG G ≠ 0 ∨ chkG H ≠ 0
  · rw [srA_arg hc]; exact if_pos hc
  · have hG : chkG G = 0 := Decidable.byContradiction fun h => hc (.inl h)
    have hH : chkG H = 0 := Decidable.byContradiction fun h => hc (.inr h)
    unfold rcA
    rw [if_neg hc]
    by_cases kG : (sbA G).2.2 = 0
    · by_cases kH : (sbA H).2.2 = 0
      · rw [if_neg (by simp [kG, kH])]
        obtain ⟨b1, b2, b3⟩ := sb_bd0 kG
        obtain ⟨c1, c2, c3⟩ := sb_bd0 kH
        by_cases h0 : st0 G = -1 ∧ st0 H = -1
        · rw [srA_no hG hH kG kH h0]
          have : rcO G H both = none := by
            cases e : rcO G H both with
            | none => rfl
            | some w =>
              exfalso
              obtain ⟨_, h2, _⟩ := bfsA_some (dead_kpR _ _ both) e
              rw [h0.1, h0.2, runP_run1] at h2
              have e1 := run1_neg (es := (sbA G).1.es) w (s := -1) (by omega)
              have e2 := run1_neg (es := (sbA H).1.es) w (s := -1) (by omega)
              unfold isR at h2
              cases both <;> simp at h2 <;> omega
          rw [this]; rfl
        · rw [srA_go hG hH kG kH h0]
          have : rcO G H both = srO G H (isO both) := by
            refine bfsA_same (dead_kpR _ _ both) ?_ b1 c1 b1 c1 b2 b3 c2 c3 b3 c3 (isR_same both)
            cases both
            · exact dead_inc _ _
            · exact dead_one2 _ _
          rw [this]
      · have := (sbA_err H hH).resolve_left kH
        rw [if_pos (.inr kH), srA_e2 hG hH kG kH, this]
    · have := (sbA_err G hG).resolve_left kG
      rw [if_pos (.inl kG), srA_e1 hG hH kG, this]

set_option maxRecDepth 100000 in
set_option maxHeartbeats 4000000 in
theorem rmcompare_any (G H : Gr) (p p' : Option Addr) (c c' : Nat) (both : Bool) (w : World) (hin : Sg 3 w edE p G.es) (hin' : Sg 3 w edE p' H.es) (hl : G.es.length ≤ 9223372036854775807) (hl' : H.es.length ≤ 9223372036854775807) :
    Calls Tryz.prog 68 #[(.agg #[.int .i64 G.q, .int .i64 G.n, .slice p G.es.length c]), (.agg #[.int .i64 H.q, .int .i64 H.n, .slice p' H.es.length c']), .bool both] w (RetSp (srA G H (isO both)).1 (srA G H (isO both)).2.1 (srA G H (isO both)).2.2 w) := by
  rw [← rcA_eq]
  obtain ⟨w0, hw0⟩ : ∃ w0, w0 = (w.alloc (.cells #[.int .i64 G.q, .int .i64 G.n, .slice p G.es.length c] 24)).alloc (.cells #[.int .i64 H.q, .int .i64 H.n, .slice p' H.es.length c'] 24) := ⟨_, rfl⟩
  have b0 : VRow w0 w.heap.size 24 [.int .i64 G.q, .int .i64 G.n, .slice p G.es.length c] := by subst hw0; exact (VRow.new w _ _).alloc _
  have b1 : VRow w0 (w.heap.size + 1) 24 [.int .i64 H.q, .int .i64 H.n, .slice p' H.es.length c'] := by subst hw0; exact VRow.new1 w _ _ _
  have hB0 : RowKit.Below w.heap.size w w0 := by subst hw0; exact ((RowKit.Below.refl _ _).alloc (Nat.le_refl _) _).alloc (by simp) _
  have HIN := hidI (hin.below hB0); have HIN' := hidI (hin'.below hB0)
  have g0 := b0.at 0 rfl; have g1 := b0.at 1 rfl; have g2 := b0.at 2 rfl
  obtain ⟨r, hr⟩ : ∃ r, chkG G = r := ⟨_, rfl⟩
  obtain ⟨r', hr'⟩ : ∃ r', chkG H = r' := ⟨_, rfl⟩
  have HC := hidI (rCheck_r G p c w0 r hr HIN.out hl)
  have HC' := hidI (fun W (hW : RowKit.Below w0.heap.size w0 W) => rCheck_r H p' c' W r' hr' (HIN'.out.below hW) hl')
  clear hin hin'
  by_cases hr0 : r = 0
  · subst hr0
    by_cases hr0' : r' = 0
    · subst hr0'
      have HSG := hidI (fun W (hW : RowKit.Below w0.heap.size w0 W) => r12Build_any G p c W (HIN.out.below hW) hl)
      have HSH := hidI (fun W (hW : RowKit.Below w0.heap.size w0 W) => r12Build_any H p' c' W (HIN'.out.below hW) hl')
      have HE1 := hidI (sbA_err G hr); have HE2 := hidI (sbA_err H hr')
      have HRC : Hid (rcA G H both = if (sbA G).2.2 ≠ 0 ∨ (sbA H).2.2 ≠ 0 then ([], false, 4) else ((fwA (rcO G H both)).1, !(fwA (rcO G H both)).2, 0)) := by unfold Hid rcA; rw [if_neg (by simp [hr, hr'])]
      have HFI : Hid ((sbA G).2.2 = 0 → (sbA H).2.2 = 0 → ∀ p1 p2 c1 c2 W, Sg 3 W edE p1 (sbA G).1.es → Sg 3 W edE p2 (sbA H).1.es →
          Calls Tryz.prog 138 #[(.agg #[.int .i64 (sbA G).1.q, .int .i64 (sbA G).1.n, .slice p1 (sbA G).1.es.length c1]), (.agg #[.int .i64 (sbA H).1.q, .int .i64 (sbA H).1.n, .slice p2 (sbA H).1.es.length c2]), .int .i64 (st0 G), .int .i64 (st0 H), .bool both] W (RetFw (rcO G H both) W)) := fun k1 k2 p1 p2 c1 c2 W s1 s2 => by
        obtain ⟨b1, b2, b3⟩ := sb_bd0 k1
        obtain ⟨d1, d2, d3⟩ := sb_bd0 k2
        have v1 := (sbA_ok k1).1; have v2 := (sbA_ok k2).1
        have q1 := sbA_q k1; have q2 := sbA_q k2
        have a1 := v1.q1; have a2 := v1.q2; have a3 := v2.q1; have a4 := v2.q2; have a5 := v1.n2; have a6 := v2.n2; have a7 := v1.len; have a8 := v2.len
        exact rmfirst_any (sbA G).1 (sbA H).1 p1 p2 c1 c2 _ _ (max G.q H.q).toNat (st0 G) (st0 H) both W s1 s2 (by omega) (by omega) b1 d1 (by omega) (by omega) (by omega) (by omega) b2 b3 d2 d3
      have HT1 : Hid ((sbA G).2.2 = 0 → st0 G = if (sbA G).1.n = 0 then -1 else 0) := fun k => by have := (sbA_ok k).1.n1; unfold st0; split <;> split <;> omega
      have HT2 : Hid ((sbA H).2.2 = 0 → st0 H = if (sbA H).1.n = 0 then -1 else 0) := fun k => by have := (sbA_ok k).1.n1; unfold st0; split <;> split <;> omega
      generalize rcO G H both = O at *
      generalize rcA G H both = X at *
      generalize st0 G = s0 at *
      generalize st0 H = t0 at *
      generalize sbA G = sb at *
      generalize sbA H = sc at *
      obtain ⟨D, S1, kd⟩ := sb
      obtain ⟨E, S2, ke⟩ := sc
      replace HE1 : Hid (kd = 0 ∨ kd = 4) := HE1
      replace HE2 : Hid (ke = 0 ∨ ke = 4) := HE2
      replace HRC : Hid (X = if kd ≠ 0 ∨ ke ≠ 0 then ([], false, 4) else ((fwA O).1, !(fwA O).2, 0)) := HRC
      replace HT1 : Hid (kd = 0 → s0 = if D.n = 0 then -1 else 0) := HT1
      replace HT2 : Hid (ke = 0 → t0 = if E.n = 0 then -1 else 0) := HT2
      clear hr hr'
      go_enter Tryz.func68, Tryz.ntmps68
      go_upto_region 1 with fail
      rw [← hw0]
      clear hw0
      go_wp2_with fail
      refine HC.out.mono ?_
      rintro e w1 ⟨rfl, hB1⟩
      have c1 := b1.below hB1 b1.lt
      have c0 := b0.below hB1 b0.lt
      clear g0 g1 g2 b0 b1
      have h0 := c1.at 0 rfl; have h1 := c1.at 1 rfl; have h2 := c1.at 2 rfl
      go_wp2_with fail
      refine (HC'.out w1 hB1).mono ?_
      rintro e w2 ⟨rfl, hB2⟩
      have hB02 := hB1.trans (hB2.mono hB1.size)
      have d0 := c0.below hB2 c0.lt; have d1 := c1.below hB2 c1.lt
      clear h0 h1 h2 c0 c1 hB1 hB2 HC HC'
      have g0 := d0.at 0 rfl; have g1 := d0.at 1 rfl; have g2 := d0.at 2 rfl
      go_wp2_with fail
      refine (HSG.out w2 hB02).mono ?_
      rintro e w3 ⟨pd, cd, ps, ms, cs, rfl, hod, hB3⟩
      replace hod : w3.ownsRow w2.heap.size 44 3 (.slice pd D.es.length cd) D.es.length (cat D.es) := hod
      have hB03 := hB02.trans (hB3.mono hB02.size)
      have e1 := d1.below hB3 d1.lt
      clear g0 g1 g2 d0 d1 hB3 hB02
      obtain ⟨w4, hw4⟩ : ∃ w4, w4 = w3.alloc (.cells #[.int .i64 D.q, .int .i64 D.n, .slice pd D.es.length cd] 24) := ⟨_, rfl⟩
      have hrD : VRow w4 w3.heap.size 24 [.int .i64 D.q, .int .i64 D.n, .slice pd D.es.length cd] := by subst hw4; exact VRow.new w3 _ _
      have hbD : RowKit.Below w3.heap.size w3 w4 := by subst hw4; exact (RowKit.Below.refl _ _).alloc (Nat.le_refl _) _
      have hB04 := hB03.trans (hbD.mono hB03.size)
      have e4 := e1.below hbD e1.lt
      obtain ⟨pd', cd', hpe, hsD, _, _⟩ := own_sg hod
      cases hpe
      have hsD4 := hsD.below hbD
      obtain ⟨bD, hbDe⟩ : ∃ bD, bD = w3.heap.size := ⟨_, rfl⟩
      rw [← hbDe] at hrD
      clear hsD hod e1 hB03
      have h0 := e4.at 0 rfl; have h1 := e4.at 1 rfl; have h2 := e4.at 2 rfl
      go_upto_region 4 with fail
      rw [← hw4, ← hbDe]
      clear hw4 hbDe hbD
      go_wp2_with fail
      refine (HSH.out w4 hB04).mono ?_
      rintro e w5 ⟨pe, ce, ps', ms', cs', rfl, hoe, hB5⟩
      replace hoe : w5.ownsRow w4.heap.size 44 3 (.slice pe E.es.length ce) E.es.length (cat E.es) := hoe
      have hB05 := hB04.trans (hB5.mono hB04.size)
      have hrD5 := hrD.below hB5 hrD.lt
      have hsD5 := hsD4.below hB5
      clear h0 h1 h2 e4 hB5 hrD hsD4
      obtain ⟨w6, hw6⟩ : ∃ w6, w6 = w5.alloc (.cells #[.int .i64 E.q, .int .i64 E.n, .slice pe E.es.length ce] 24) := ⟨_, rfl⟩
      have hrE : VRow w6 w5.heap.size 24 [.int .i64 E.q, .int .i64 E.n, .slice pe E.es.length ce] := by subst hw6; exact VRow.new w5 _ _
      have hbE : RowKit.Below w5.heap.size w5 w6 := by subst hw6; exact (RowKit.Below.refl _ _).alloc (Nat.le_refl _) _
      have hB06 := hB05.trans (hbE.mono hB05.size)
      have x6 := hB0.trans (hB06.mono hB0.size)
      have hrD6 := hrD5.below hbE hrD5.lt
      have hsD6 := hsD5.below hbE
      obtain ⟨pe', ce', hpe, hsE, _, _⟩ := own_sg hoe
      cases hpe
      have hsE6 := hsE.below hbE
      obtain ⟨bE, hbEe⟩ : ∃ bE, bE = w5.heap.size := ⟨_, rfl⟩
      rw [← hbEe] at hrE
      clear hsE hoe hsD5 hrD5 hB05 hB04
      go_upto_region 5 with fail
      rw [← hw6, ← hbEe]
      clear hw6 hbEe hbE
      by_cases hk : kd = 0
      · subst hk
        by_cases hk2 : ke = 0
        · subst hk2
          have HX : Hid (X = ((fwA O).1, !(fwA O).2, 0)) := by rw [Hid, HRC.out, if_neg (by simp)]
          have HF := hidI (HFI.out rfl rfl pd pe cd ce w6 hsD6 hsE6)
          have m0 := hrD6.at 0 rfl; have m1 := hrD6.at 1 rfl; have m2 := hrD6.at 2 rfl
          have n0 := hrE.at 0 rfl; have n1 := hrE.at 1 rfl; have n2 := hrE.at 2 rfl
          have hs0 := HT1.out (by trivial)
          have ht0 := HT2.out (by trivial)
          by_cases hn1 : D.n = 0
          · rw [if_pos hn1] at hs0
            subst hs0
            have hb1 : (D.n == 0) = true := by simpa using hn1
            clear hn1
            by_cases hn2 : E.n = 0
            · rw [if_pos hn2] at ht0
              subst ht0
              have hb2 : (E.n == 0) = true := by simpa using hn2
              clear hn2 HT1 HT2 HRC HFI
              (go_wp2_with fail; refine HF.out.mono ?_; rintro e w7 ⟨qf, df, rfl, hsf, hB7⟩; have x7 := x6.trans (hB7.mono x6.size); clear m0 m1 m2 n0 n1 n2; go_wp2; go_ret3; exact RetSp.of HX.out hsf x7)
            · rw [if_neg hn2] at ht0
              subst ht0
              have hb2 : (E.n == 0) = false := by simpa using hn2
              clear hn2 HT1 HT2 HRC HFI
              (go_wp2_with fail; refine HF.out.mono ?_; rintro e w7 ⟨qf, df, rfl, hsf, hB7⟩; have x7 := x6.trans (hB7.mono x6.size); clear m0 m1 m2 n0 n1 n2; go_wp2; go_ret3; exact RetSp.of HX.out hsf x7)
          · rw [if_neg hn1] at hs0
            subst hs0
            have hb1 : (D.n == 0) = false := by simpa using hn1
            clear hn1
            by_cases hn2 : E.n = 0
            · rw [if_pos hn2] at ht0
              subst ht0
              have hb2 : (E.n == 0) = true := by simpa using hn2
              clear hn2 HT1 HT2 HRC HFI
              (go_wp2_with fail; refine HF.out.mono ?_; rintro e w7 ⟨qf, df, rfl, hsf, hB7⟩; have x7 := x6.trans (hB7.mono x6.size); clear m0 m1 m2 n0 n1 n2; go_wp2; go_ret3; exact RetSp.of HX.out hsf x7)
            · rw [if_neg hn2] at ht0
              subst ht0
              have hb2 : (E.n == 0) = false := by simpa using hn2
              clear hn2 HT1 HT2 HRC HFI
              (go_wp2_with fail; refine HF.out.mono ?_; rintro e w7 ⟨qf, df, rfl, hsf, hB7⟩; have x7 := x6.trans (hB7.mono x6.size); clear m0 m1 m2 n0 n1 n2; go_wp2; go_ret3; exact RetSp.of HX.out hsf x7)
        · have HX : Hid (X = ([], false, 4)) := by rw [Hid, HRC.out, if_pos (.inr hk2)]
          have hkb : (ke != 0) = true := by simpa using hk2
          clear HT1 HT2 HRC HFI hk2 hrD6 hrE
          go_wp2
          go_ret3
          exact RetSp.of HX.out (Sl.nil _ _ _) x6
      · have HX : Hid (X = ([], false, 4)) := by rw [Hid, HRC.out, if_pos (.inl hk)]
        have hkb : (kd != 0) = true := by simpa using hk
        clear HT1 HT2 HRC HFI hk hrD6 hrE
        go_wp2
        go_ret3
        exact RetSp.of HX.out (Sl.nil _ _ _) x6
    · have HX : Hid (rcA G H both = ([], false, 1)) := if_pos (.inr (by rw [hr']; exact hr0'))
      have hrb : (r' != 0) = true := by simpa using hr0'
      clear hr hr' hr0'
      go_enter Tryz.func68, Tryz.ntmps68
      go_upto_region 1 with fail
      rw [← hw0]
      clear hw0
      go_wp2_with fail
      refine HC.out.mono ?_
      rintro e w1 ⟨rfl, hB1⟩
      have c1 := b1.below hB1 b1.lt
      clear g0 g1 g2
      have h0 := c1.at 0 rfl; have h1 := c1.at 1 rfl; have h2 := c1.at 2 rfl
      go_wp2_with fail
      refine (HC'.out w1 hB1).mono ?_
      rintro e w2 ⟨rfl, hB2⟩
      have hB02 := hB1.trans (hB2.mono hB1.size)
      have x2 := hB0.trans (hB02.mono hB0.size)
      go_wp2
      go_ret3
      exact RetSp.of HX.out (Sl.nil _ _ _) x2
  · have HX : Hid (rcA G H both = ([], false, 1)) := if_pos (.inl (by rw [hr]; exact hr0))
    have hrb : (r != 0) = true := by simpa using hr0
    clear hr hr' hr0
    go_enter Tryz.func68, Tryz.ntmps68
    go_upto_region 1 with fail
    rw [← hw0]
    clear hw0
    go_wp2_with fail
    refine HC.out.mono ?_
    rintro e w1 ⟨rfl, hB1⟩
    have x1 := hB0.trans (hB1.mono hB0.size)
    go_wp2
    go_ret3
    exact RetSp.of HX.out (Sl.nil _ _ _) x1

set_option maxRecDepth 100000 in
set_option maxHeartbeats 1000000 in
theorem rmIncluded_any (G H : Gr) (p p' : Option Addr) (c c' : Nat) (w : World) (hin : Sg 3 w edE p G.es) (hin' : Sg 3 w edE p' H.es) (hl : G.es.length ≤ 9223372036854775807) (hl' : H.es.length ≤ 9223372036854775807) :
    Calls Tryz.prog 16 #[(.agg #[.int .i64 G.q, .int .i64 G.n, .slice p G.es.length c]), (.agg #[.int .i64 H.q, .int .i64 H.n, .slice p' H.es.length c'])] w (RetSp (srA G H incB).1 (srA G H incB).2.1 (srA G H incB).2.2 w) := by
  obtain ⟨w0, hw0⟩ : ∃ w0, w0 = (w.alloc (.cells #[.int .i64 G.q, .int .i64 G.n, .slice p G.es.length c] 24)).alloc (.cells #[.int .i64 H.q, .int .i64 H.n, .slice p' H.es.length c'] 24) := ⟨_, rfl⟩
  have b0 : VRow w0 w.heap.size 24 [.int .i64 G.q, .int .i64 G.n, .slice p G.es.length c] := by subst hw0; exact (VRow.new w _ _).alloc _
  have b1 : VRow w0 (w.heap.size + 1) 24 [.int .i64 H.q, .int .i64 H.n, .slice p' H.es.length c'] := by subst hw0; exact VRow.new1 w _ _ _
  have hB0 : RowKit.Below w.heap.size w w0 := by subst hw0; exact ((RowKit.Below.refl _ _).alloc (Nat.le_refl _) _).alloc (by simp) _
  have HM := hidI (rmcompare_any G H p p' c c' false w0 (hin.below hB0) (hin'.below hB0) hl hl')
  have e : isO false = incB := rfl
  rw [e] at HM
  have g0 := b0.at 0 rfl; have g1 := b0.at 1 rfl; have g2 := b0.at 2 rfl
  have h0 := b1.at 0 rfl; have h1 := b1.at 1 rfl; have h2 := b1.at 2 rfl
  clear hin hin' e
  generalize srA G H incB = r at *
  go_enter Tryz.func16, Tryz.ntmps16
  go_upto_region 1 with fail
  rw [← hw0]
  clear hw0
  go_wp2_with fail
  refine HM.out.mono ?_
  rintro e w1 ⟨q, d, rfl, hs, hB1⟩
  go_wp2
  go_ret3
  exact ⟨q, d, rfl, hs, hB0.trans (hB1.mono hB0.size)⟩
set_option maxRecDepth 100000 in
set_option maxHeartbeats 1000000 in
theorem rmEqual_any (G H : Gr) (p p' : Option Addr) (c c' : Nat) (w : World) (hin : Sg 3 w edE p G.es) (hin' : Sg 3 w edE p' H.es) (hl : G.es.length ≤ 9223372036854775807) (hl' : H.es.length ≤ 9223372036854775807) :
    Calls Tryz.prog 18 #[(.agg #[.int .i64 G.q, .int .i64 G.n, .slice p G.es.length c]), (.agg #[.int .i64 H.q, .int .i64 H.n, .slice p' H.es.length c'])] w (RetSp (srA G H oneB).1 (srA G H oneB).2.1 (srA G H oneB).2.2 w) := by
  obtain ⟨w0, hw0⟩ : ∃ w0, w0 = (w.alloc (.cells #[.int .i64 G.q, .int .i64 G.n, .slice p G.es.length c] 24)).alloc (.cells #[.int .i64 H.q, .int .i64 H.n, .slice p' H.es.length c'] 24) := ⟨_, rfl⟩
  have b0 : VRow w0 w.heap.size 24 [.int .i64 G.q, .int .i64 G.n, .slice p G.es.length c] := by subst hw0; exact (VRow.new w _ _).alloc _
  have b1 : VRow w0 (w.heap.size + 1) 24 [.int .i64 H.q, .int .i64 H.n, .slice p' H.es.length c'] := by subst hw0; exact VRow.new1 w _ _ _
  have hB0 : RowKit.Below w.heap.size w w0 := by subst hw0; exact ((RowKit.Below.refl _ _).alloc (Nat.le_refl _) _).alloc (by simp) _
  have HM := hidI (rmcompare_any G H p p' c c' true w0 (hin.below hB0) (hin'.below hB0) hl hl')
  have e : isO true = oneB := rfl
  rw [e] at HM
  have g0 := b0.at 0 rfl; have g1 := b0.at 1 rfl; have g2 := b0.at 2 rfl
  have h0 := b1.at 0 rfl; have h1 := b1.at 1 rfl; have h2 := b1.at 2 rfl
  clear hin hin' e
  generalize srA G H oneB = r at *
  go_enter Tryz.func18, Tryz.ntmps18
  go_upto_region 1 with fail
  rw [← hw0]
  clear hw0
  go_wp2_with fail
  refine HM.out.mono ?_
  rintro e w1 ⟨q, d, rfl, hs, hB1⟩
  go_wp2
  go_ret3
  exact ⟨q, d, rfl, hs, hB0.trans (hB1.mono hB0.size)⟩
end Go.Proofs.YtocbhlohcikapaaGreatDoor
namespace Go.Proofs.YtocbhlohcikapaaGreatDoor
open Go.RowKit Go.Sort Go.Shelf Go.Lib

end Go.Proofs.YtocbhlohcikapaaGreatDoor
namespace Go.Proofs.YtocbhlohcikapaaGreatDoor
open Go.RowKit

def wordA (G : Gr) (w : List Int) : Bool := decide (leadsA G (upto G.n.toNat) w ≠ [])
theorem includes_plain (G H : Gr) : ((srA G H incB).2.2 ≠ 0 → (srA G H incB).1 = [] ∧ (srA G H incB).2.1 = false) ∧
    ((srA G H incB).2.2 = 0 → (srA G H incB).2.1 = false → wordA G (srA G H incB).1 = true ∧ wordA H (srA G H incB).1 = false) ∧
    ((srA G H incB).2.2 = 0 → (srA G H incB).2.1 = true → (srA G H incB).1 = [] ∧ ∀ w, Lab G.q.toNat w → wordA G w = true → wordA H w = true) := by
  by_cases hc : chkG G ≠ 0 ∨ chkG H ≠ 0
  · have e1 : srA G H incB = ([], false, 1) := by unfold srA; rw [if_pos hc]
    rw [e1]
    exact ⟨fun _ => ⟨rfl, rfl⟩, (fun h => by cases h), (fun h => by cases h)⟩
  · have hG : chkG G = 0 := Decidable.byContradiction fun h => hc (.inl h)
    have hH : chkG H = 0 := Decidable.byContradiction fun h => hc (.inr h)
    by_cases kG : (sbA G).2.2 = 0
    · by_cases kH : (sbA H).2.2 = 0
      · have wG := word_iff hG kG
        have wH := word_iff hH kH
        by_cases h0 : st0 G = -1 ∧ st0 H = -1
        · have e1 : srA G H incB = ([], true, 0) := by unfold srA; rw [if_neg hc, if_neg (by simp [kG]), if_neg (by simp [kH]), if_pos h0]
          rw [e1]
          refine ⟨fun h => absurd rfl h, (fun _ h => by cases h), fun _ _ => ⟨rfl, fun w _ h => ?_⟩⟩
          have h2 := (wG w).1 (of_decide_eq_true h)
          rw [h0.1] at h2
          have := run1_neg (es := (sbA G).1.es) w (s := -1) (by omega)
          omega
        · have e1 : srA G H incB = ((fwA (srO G H incB)).1, !(fwA (srO G H incB)).2, 0) := by unfold srA; rw [if_neg hc, if_neg (by simp [kG]), if_neg (by simp [kH]), if_neg h0]
          rw [e1]
          obtain ⟨b1, b2, b3⟩ := sb_bd0 kG
          obtain ⟨c1, c2, c3⟩ := sb_bd0 kH
          have L1 := include_laws (L := (max G.q H.q).toNat) b1 c1 b2 b3 c2 c3
          change (match srO G H incB with | some w => Lab (max G.q H.q).toNat w ∧ 0 ≤ run1 (sbA G).1.es (st0 G) w ∧ run1 (sbA H).1.es (st0 H) w < 0 | none => ∀ v, Lab (max G.q H.q).toNat v → 0 ≤ run1 (sbA G).1.es (st0 G) v → 0 ≤ run1 (sbA H).1.es (st0 H) v) at L1
          cases ho : srO G H incB with
          | none =>
            rw [ho] at L1
            refine ⟨fun h => absurd rfl h, (fun _ h => by cases h), fun _ _ => ⟨rfl, fun w hl h => ?_⟩⟩
            have h2 := (wG w).1 (of_decide_eq_true h)
            have h3 := L1 w (fun x hx => by have := hl x hx; omega) h2
            exact decide_eq_true ((wH w).2 h3)
          | some v =>
            rw [ho] at L1
            obtain ⟨k1, k2, k3⟩ := L1
            refine ⟨fun h => absurd rfl h, fun _ _ => ⟨decide_eq_true ((wG v).2 k2), decide_eq_false (fun h => ?_)⟩, (fun _ h => by cases h)⟩
            have := (wH v).1 h
            omega
      · have e1 : srA G H incB = ([], false, (sbA H).2.2) := by unfold srA; rw [if_neg hc, if_neg (by simp [kG]), if_pos kH]
        rw [e1]
        exact ⟨fun _ => ⟨rfl, rfl⟩, fun h => absurd h kH, fun h => absurd h kH⟩
    · have e1 : srA G H incB = ([], false, (sbA G).2.2) := by unfold srA; rw [if_neg hc, if_pos kG]
      rw [e1]
      exact ⟨fun _ => ⟨rfl, rfl⟩, fun h => absurd h kG, fun h => absurd h kG⟩
end Go.Proofs.YtocbhlohcikapaaGreatDoor
namespace Go.Proofs.YtocbhlohcikapaaGreatDoor
open Go.RowKit Go.Sort Go.Shelf Go.Lib

theorem minc_any (s t : Int) (w : World) (hs : -1 ≤ s) (ht : -1 ≤ t) :
    Calls Tryz.prog 67 #[.agg #[.int .i64 s, .int .i64 t]] w fun e w' => e = .returned (.bool (incB (s, t))) ∧ RowKit.Below w.heap.size w w' := by
  have hB0 : RowKit.Below w.heap.size w (w.alloc (.cells #[.int .i64 s, .int .i64 t] 82)) := (RowKit.Below.refl _ _).alloc (Nat.le_refl _) _
  have HO : Hid (incB (s, t) = (decide (0 ≤ s) && decide (t < 0))) := rfl
  by_cases h1 : s < 0
  · have e1 : (s == -1) = true := by simp; omega
    have e1' : (s != -1) = false := by simp; omega
    have hd : decide (0 ≤ s) = false := decide_eq_false (by omega)
    have HX : Hid (incB (s, t) = false) := by rw [Hid, HO.out, hd]; rfl
    clear h1 hd HO
    go_enter Tryz.func67, Tryz.ntmps67
    go_wp2
    go_ret
    exact ⟨ret_bool HX.out.symm, hB0⟩
  · have e1 : (s == -1) = false := by simp; omega
    have e1' : (s != -1) = true := by simp; omega
    have hd : decide (0 ≤ s) = true := decide_eq_true (by omega)
    have e2 : (t == -1) = decide (t < 0) := by rw [Bool.eq_iff_iff]; simp; omega
    have HX : Hid (incB (s, t) = decide (t < 0)) := by rw [Hid, HO.out, hd]; rfl
    clear h1 hd HO
    go_enter Tryz.func67, Tryz.ntmps67
    go_wp2
    go_ret
    exact ⟨ret_bool HX.out.symm, hB0⟩
theorem inc_at (n m : Nat) (w : World) : IsAt n m incB 67 #[] w := fun W s t _ h1 _ h2 _ => by
  show Calls Tryz.prog 67 #[.agg #[.int .i64 s, .int .i64 t]] W _
  exact minc_any s t W h1 h2

set_option maxRecDepth 100000 in
set_option maxHeartbeats 1000000 in
theorem mIncluded_any (G H : Gr) (p p' : Option Addr) (c c' : Nat) (w : World) (hin : Sg 3 w edE p G.es) (hin' : Sg 3 w edE p' H.es) (hl : G.es.length ≤ 9223372036854775807) (hl' : H.es.length ≤ 9223372036854775807) :
    Calls Tryz.prog 15 #[(.agg #[.int .i64 G.q, .int .i64 G.n, .slice p G.es.length c]), (.agg #[.int .i64 H.q, .int .i64 H.n, .slice p' H.es.length c'])] w (RetSp (srA G H incB).1 (srA G H incB).2.1 (srA G H incB).2.2 w) := by
  obtain ⟨w0, hw0⟩ : ∃ w0, w0 = (w.alloc (.cells #[.int .i64 G.q, .int .i64 G.n, .slice p G.es.length c] 24)).alloc (.cells #[.int .i64 H.q, .int .i64 H.n, .slice p' H.es.length c'] 24) := ⟨_, rfl⟩
  have hB0 : RowKit.Below w.heap.size w w0 := by subst hw0; exact ((RowKit.Below.refl _ _).alloc (Nat.le_refl _) _).alloc (by simp) _
  have HM := hidI (msearch_any G H p p' c c' incB 67 #[] w0 (hin.below hB0) (hin'.below hB0) hl hl' (enters_of Tryz.func67 (by kernel_rfl) rfl) inc_at)
  clear hin hin'
  generalize srA G H incB = r at *
  go_enter Tryz.func15, Tryz.ntmps15
  go_wp2_with fail
  rw [← hw0]
  clear hw0
  refine HM.out.mono ?_
  rintro e w1 ⟨q, d, rfl, hs, hB1⟩
  go_wp2
  go_ret3
  exact ⟨q, d, rfl, hs, hB0.trans (hB1.mono hB0.size)⟩

set_option maxRecDepth 100000 in
set_option maxHeartbeats 1000000 in
theorem mEqual_any (G H : Gr) (p p' : Option Addr) (c c' : Nat) (w : World) (hin : Sg 3 w edE p G.es) (hin' : Sg 3 w edE p' H.es) (hl : G.es.length ≤ 9223372036854775807) (hl' : H.es.length ≤ 9223372036854775807) :
    Calls Tryz.prog 17 #[(.agg #[.int .i64 G.q, .int .i64 G.n, .slice p G.es.length c]), (.agg #[.int .i64 H.q, .int .i64 H.n, .slice p' H.es.length c'])] w (RetSp (srA G H oneB).1 (srA G H oneB).2.1 (srA G H oneB).2.2 w) := by
  obtain ⟨w0, hw0⟩ : ∃ w0, w0 = (w.alloc (.cells #[.int .i64 G.q, .int .i64 G.n, .slice p G.es.length c] 24)).alloc (.cells #[.int .i64 H.q, .int .i64 H.n, .slice p' H.es.length c'] 24) := ⟨_, rfl⟩
  have hB0 : RowKit.Below w.heap.size w w0 := by subst hw0; exact ((RowKit.Below.refl _ _).alloc (Nat.le_refl _) _).alloc (by simp) _
  have HM := hidI (msearch_any G H p p' c c' oneB 69 #[] w0 (hin.below hB0) (hin'.below hB0) hl hl' (enters_of Tryz.func69 (by kernel_rfl) rfl) one_at)
  clear hin hin'
  generalize srA G H oneB = r at *
  go_enter Tryz.func17, Tryz.ntmps17
  go_wp2_with fail
  rw [← hw0]
  clear hw0
  refine HM.out.mono ?_
  rintro e w1 ⟨q, d, rfl, hs, hB1⟩
  go_wp2
  go_ret3
  exact ⟨q, d, rfl, hs, hB0.trans (hB1.mono hB0.size)⟩

/-! ### Words -/
theorem wordA_len (G : Gr) (ws : List Int) : decide (0 < (leadsA G (upto G.n.toNat) ws).length) = wordA G ws := by
  unfold wordA
  cases leadsA G (upto G.n.toNat) ws with
  | nil => simp
  | cons a l => simp
/-! ### Which word comes first -/
def lessA (a b : List Int) : Bool := if a.length = b.length then decide (cmpL a b < 0) else decide (a.length < b.length)
theorem cmpL_lxt : ∀ {a b : List Int}, a.length = b.length → (cmpL a b < 0 ↔ lxt a b)
  | [], [], _ => by simp [cmpL, lxt]
  | x :: a, y :: b, h => by
    have h2 : a.length = b.length := by simpa using h
    have ih := cmpL_lxt h2
    unfold cmpL lxt
    by_cases e : c3 x y = 0
    · rw [if_pos e]
      have := c3_zero.1 e
      subst this
      rw [ih]
      constructor
      · intro h; exact .inr ⟨rfl, h⟩
      · rintro (h | ⟨_, h⟩)
        · omega
        · exact h
    · rw [if_neg e, c3_neg]
      constructor
      · exact .inl
      · rintro (h | ⟨h, _⟩)
        · exact h
        · exact absurd (c3_zero.2 h) e
  | [], _ :: _, h => by simp at h
  | _ :: _, [], h => by simp at h
theorem lessA_iff {a b : List Int} : lessA a b = true ↔ slt a b := by
  unfold lessA slt
  by_cases h : a.length = b.length
  · rw [if_pos h, decide_eq_true_eq, cmpL_lxt h]
    constructor
    · intro h2; exact .inr ⟨h, h2⟩
    · rintro (h2 | ⟨_, h2⟩)
      · omega
      · exact h2
  · rw [if_neg h, decide_eq_true_eq]
    constructor
    · exact .inl
    · rintro (h2 | ⟨h2, _⟩)
      · exact h2
      · exact absurd h2 h
/-! ### Lengths; two graphs in one list -/
theorem srA_len (G H : Gr) (is : Int × Int → Bool) : (srA G H is).1.length ≤ 5000 := by
  unfold srA
  split
  · simp
  · rename_i hc
    split
    · simp
    · rename_i h1
      split
      · simp
      · rename_i h2
        split
        · simp
        · simp only
          have n1 := (sbA_ok (Decidable.not_not.1 h1)).1.n2
          have n2 := (sbA_ok (Decidable.not_not.1 h2)).1.n2
          cases ho : srO G H is with
          | none => simp [fwA]
          | some w =>
            unfold srO bfsA at ho
            have := bfs_len _ 0 _ w (fun y hy => by obtain rfl := List.mem_singleton.1 hy; simp) ho
            have hm := Nat.mul_le_mul (show (sbA G).1.n.toNat + 1 ≤ 65 by omega) (show (sbA H).1.n.toNat + 1 ≤ 65 by omega)
            simp only [fwA]
            omega
theorem great13_two (G H : Gr) (p p' : Option Addr) (c c' b d : Nat) (w : World) (hl : G.es.length ≤ 9223372036854775807) (hl' : H.es.length ≤ 9223372036854775807) (r : VRow w b 24 [.int .i64 G.q, .int .i64 G.n, .slice p G.es.length c, .int .i64 H.q, .int .i64 H.n, .slice p' H.es.length c']) :
    Calls Tryz.prog 11 #[.slice (some ⟨b, 0, none⟩) 2 d] w fun e w' => e = .returned (.bool (gr13 G || gr13 H)) ∧ RowKit.Below w.heap.size w w' := by
  refine (great13_any b 2 d [⟨(G, p, c), hl⟩, ⟨(H, p', c'), hl'⟩] rfl (by omega) w r.lt ?_).mono ?_
  · intro j hj i v hv
    rw [show 0 + j * 3 + i = j * 3 + i by omega, r.cell]
    have hj2 : j = 0 ∨ j = 1 := by simp at hj; omega
    rcases hj2 with rfl | rfl
    · match i, hv with
      | 0, hv => exact hv
      | 1, hv => exact hv
      | 2, hv => exact hv
      | i + 3, hv => simp [gE] at hv
    · match i, hv with
      | 0, hv => exact hv
      | 1, hv => exact hv
      | 2, hv => exact hv
      | i + 3, hv => simp [gE] at hv
  · rintro e w' ⟨rfl, h⟩
    exact ⟨by simp, h⟩
end Go.Proofs.YtocbhlohcikapaaGreatDoor
namespace Go.Proofs.YtocbhlohcikapaaGreatDoor
open Go.RowKit Go.Sort Go.Shelf Go.Lib

theorem covA_len (G : Gr) : (covA G).1.es.length ≤ 5000 := by
  unfold covA
  split
  · simp
  · rename_i hc
    split
    · simp
    · rename_i hi
      split
      · simp
      · rename_i hk
        have hcc : chkG G = 0 := Decidable.byContradiction hc
        have hir : irrA G = true := by simpa using hi
        have hk0 : (sbA G).2.2 = 0 := Decidable.byContradiction hk
        obtain ⟨hvD, huD⟩ := sbA_ok hk0
        have hnD := sb_pos (chkG_ok.1 hcc) hir hk0
        obtain ⟨l, ls, _, _, hvP, _, hnP, hall, hcv⟩ := cov4_ok (mg_vg hvD) (mg_uq' hvD huD) (by have e := cl_lt (G := (sbA G).1) (s := 0) (by omega); show 0 < mxC (clA (sbA G).1); omega)
        show (cov4 (mgG (sbA G).1)).es.length ≤ 5000
        rw [hcv]
        have := (ren_vg hvP hnP hall).len
        omega

set_option maxRecDepth 100000 in
set_option maxHeartbeats 4000000 in
theorem lawCompares_any (G H : Gr) (p p' : Option Addr) (c c' : Nat) (w : World) (hin : Sg 3 w edE p G.es) (hin' : Sg 3 w edE p' H.es) (hl : G.es.length ≤ 9223372036854775807) (hl' : H.es.length ≤ 9223372036854775807) :
    Calls Tryz.prog 3 #[(.agg #[.int .i64 G.q, .int .i64 G.n, .slice p G.es.length c]), (.agg #[.int .i64 H.q, .int .i64 H.n, .slice p' H.es.length c'])] w fun e w' => e = .returned (.bool true) ∧ RowKit.Below w.heap.size w w' := by
  obtain ⟨w0, hw0⟩ : ∃ w0, w0 = (w.alloc (.cells #[.int .i64 G.q, .int .i64 G.n, .slice p G.es.length c] 24)).alloc (.cells #[.int .i64 H.q, .int .i64 H.n, .slice p' H.es.length c'] 24) := ⟨_, rfl⟩
  have b0 : VRow w0 w.heap.size 24 [.int .i64 G.q, .int .i64 G.n, .slice p G.es.length c] := by subst hw0; exact (VRow.new w _ _).alloc _
  have b1 : VRow w0 (w.heap.size + 1) 24 [.int .i64 H.q, .int .i64 H.n, .slice p' H.es.length c'] := by subst hw0; exact VRow.new1 w _ _ _
  have hB0 : RowKit.Below w.heap.size w w0 := by subst hw0; exact ((RowKit.Below.refl _ _).alloc (Nat.le_refl _) _).alloc (by simp) _
  obtain ⟨v0, hv0⟩ : ∃ v0, v0 = w0.alloc (.cells #[.int .i64 G.q, .int .i64 G.n, .slice p G.es.length c, .int .i64 H.q, .int .i64 H.n, .slice p' H.es.length c'] 24) := ⟨_, rfl⟩
  have r0 : VRow v0 w0.heap.size 24 [.int .i64 G.q, .int .i64 G.n, .slice p G.es.length c, .int .i64 H.q, .int .i64 H.n, .slice p' H.es.length c'] := by subst hv0; exact VRow.new w0 _ _
  have hBv : RowKit.Below w0.heap.size w0 v0 := by subst hv0; exact (RowKit.Below.refl _ _).alloc (Nat.le_refl _) _
  have HAW := hidI awake13_any
  have HG := hidI (great13_two G H p p' c c' w0.heap.size 2 v0 hl hl' r0)
  have HIN := hidI (hin.below hB0); have HIN' := hidI (hin'.below hB0)
  have l1 := srA_len G H oneB; have l2 := srA_len G H incB; have l3 := covA_len G
  have HC1 := hidI (fun W (hW : RowKit.Below w0.heap.size w0 W) => mCover_any G p c W (HIN.out.below hW) hl)
  have HC2 := hidI (fun W (hW : RowKit.Below w0.heap.size w0 W) => rmCover_any G p c W (HIN.out.below hW) hl)
  have HM1 := hidI (fun W (hW : RowKit.Below w0.heap.size w0 W) => mIncluded_any G H p p' c c' W (HIN.out.below hW) (HIN'.out.below hW) hl hl')
  have HM2 := hidI (fun W (hW : RowKit.Below w0.heap.size w0 W) => rmIncluded_any G H p p' c c' W (HIN.out.below hW) (HIN'.out.below hW) hl hl')
  have HM3 := hidI (fun W (hW : RowKit.Below w0.heap.size w0 W) => mEqual_any G H p p' c c' W (HIN.out.below hW) (HIN'.out.below hW) hl hl')
  have HM4 := hidI (fun W (hW : RowKit.Below w0.heap.size w0 W) => rmEqual_any G H p p' c c' W (HIN.out.below hW) (HIN'.out.below hW) hl hl')
  generalize srA G H oneB = r1 at *
  generalize srA G H incB = r2 at *
  generalize covA G = r3 at *
  obtain ⟨x, sm, k1⟩ := r1
  obtain ⟨u, is, k2⟩ := r2
  obtain ⟨A, k3⟩ := r3
  change x.length ≤ 5000 at l1
  change u.length ≤ 5000 at l2
  change A.es.length ≤ 5000 at l3
  have HC1 : Hid (∀ W, RowKit.Below w0.heap.size w0 W → Calls Tryz.prog 13 #[(.agg #[.int .i64 G.q, .int .i64 G.n, .slice p G.es.length c])] W (RetGr A k3 W)) := HC1
  have HC2 : Hid (∀ W, RowKit.Below w0.heap.size w0 W → Calls Tryz.prog 14 #[(.agg #[.int .i64 G.q, .int .i64 G.n, .slice p G.es.length c])] W (RetGr A k3 W)) := HC2
  have HM1 : Hid (∀ W, RowKit.Below w0.heap.size w0 W → Calls Tryz.prog 15 #[(.agg #[.int .i64 G.q, .int .i64 G.n, .slice p G.es.length c]), (.agg #[.int .i64 H.q, .int .i64 H.n, .slice p' H.es.length c'])] W (RetSp u is k2 W)) := HM1
  have HM2 : Hid (∀ W, RowKit.Below w0.heap.size w0 W → Calls Tryz.prog 16 #[(.agg #[.int .i64 G.q, .int .i64 G.n, .slice p G.es.length c]), (.agg #[.int .i64 H.q, .int .i64 H.n, .slice p' H.es.length c'])] W (RetSp u is k2 W)) := HM2
  have HM3 : Hid (∀ W, RowKit.Below w0.heap.size w0 W → Calls Tryz.prog 17 #[(.agg #[.int .i64 G.q, .int .i64 G.n, .slice p G.es.length c]), (.agg #[.int .i64 H.q, .int .i64 H.n, .slice p' H.es.length c'])] W (RetSp x sm k1 W)) := HM3
  have HM4 : Hid (∀ W, RowKit.Below w0.heap.size w0 W → Calls Tryz.prog 18 #[(.agg #[.int .i64 G.q, .int .i64 G.n, .slice p G.es.length c]), (.agg #[.int .i64 H.q, .int .i64 H.n, .slice p' H.es.length c'])] W (RetSp x sm k1 W)) := HM4
  have g0 := b0.at 0 rfl; have g1 := b0.at 1 rfl; have g2 := b0.at 2 rfl
  have h0 := b1.at 0 rfl; have h1 := b1.at 1 rfl; have h2 := b1.at 2 rfl
  generalize (gr13 G || gr13 H) = gb at *
  clear hin hin' r0
  go_enter Tryz.func3, Tryz.ntmps3
  go_upto_region 1 with fail
  rw [← hw0]
  clear hw0
  go_wp2_with fail
  rw [← hv0]
  clear hv0
  refine HG.out.mono ?_
  rintro e w1 ⟨rfl, hB1⟩
  have x1 := hBv.trans (hB1.mono hBv.size)
  clear hB1 HG hBv
  cases gb
  · (clear g0 g1 g2 h0 h1 h2; have c0 := b0.below x1 b0.lt; have c1 := b1.below x1 b1.lt; have g0 := c0.at 0 rfl; have g1 := c0.at 1 rfl; have g2 := c0.at 2 rfl; have h0 := c1.at 0 rfl; have h1 := c1.at 1 rfl; have h2 := c1.at 2 rfl; clear c0 c1)
    go_wp2_with fail
    refine (HC1.out w1 x1).mono ?_
    rintro e w2 ⟨pa, ca, rfl, sa, _, hB2⟩
    have x2 := x1.trans (hB2.mono x1.size)
    obtain ⟨w3, hw3⟩ : ∃ w3, w3 = w2.alloc (.cells #[.int .i64 A.q, .int .i64 A.n, .slice pa A.es.length ca] 24) := ⟨_, rfl⟩
    have ra : VRow w3 w2.heap.size 24 [.int .i64 A.q, .int .i64 A.n, .slice pa A.es.length ca] := by subst hw3; exact VRow.new w2 _ _
    have hB3 : RowKit.Below w2.heap.size w2 w3 := by subst hw3; exact (RowKit.Below.refl _ _).alloc (Nat.le_refl _) _
    have x3 := x2.trans (hB3.mono x2.size)
    have sa := sa.below hB3
    obtain ⟨ba, hba⟩ : ∃ ba, ba = w2.heap.size := ⟨_, rfl⟩
    rw [← hba] at ra
    (clear g0 g1 g2 h0 h1 h2; have c0 := b0.below x3 b0.lt; have c1 := b1.below x3 b1.lt; have g0 := c0.at 0 rfl; have g1 := c0.at 1 rfl; have g2 := c0.at 2 rfl; have h0 := c1.at 0 rfl; have h1 := c1.at 1 rfl; have h2 := c1.at 2 rfl; clear c0 c1)
    go_upto_region 4 with fail
    rw [← hw3, ← hba]
    clear hw3 hba hB2 hB3
    go_wp2_with fail
    refine (HC2.out w3 x3).mono ?_
    rintro e w4 ⟨pb, cb, rfl, sb, _, hB4⟩
    have x4 := x3.trans (hB4.mono x3.size)
    have ra4 := ra.below hB4 ra.lt
    have sa := sa.below hB4
    obtain ⟨w5, hw5⟩ : ∃ w5, w5 = w4.alloc (.cells #[.int .i64 A.q, .int .i64 A.n, .slice pb A.es.length cb] 24) := ⟨_, rfl⟩
    have rb : VRow w5 w4.heap.size 24 [.int .i64 A.q, .int .i64 A.n, .slice pb A.es.length cb] := by subst hw5; exact VRow.new w4 _ _
    have hB5 : RowKit.Below w4.heap.size w4 w5 := by subst hw5; exact (RowKit.Below.refl _ _).alloc (Nat.le_refl _) _
    have x5 := x4.trans (hB5.mono x4.size)
    have ra5 := ra4.below hB5 ra4.lt
    have sa := sa.below hB5; have sb := sb.below hB5
    obtain ⟨bb, hbb⟩ : ∃ bb, bb = w4.heap.size := ⟨_, rfl⟩
    rw [← hbb] at rb
    clear ra ra4
    (clear g0 g1 g2 h0 h1 h2; have c0 := b0.below x5 b0.lt; have c1 := b1.below x5 b1.lt; have g0 := c0.at 0 rfl; have g1 := c0.at 1 rfl; have g2 := c0.at 2 rfl; have h0 := c1.at 0 rfl; have h1 := c1.at 1 rfl; have h2 := c1.at 2 rfl; clear c0 c1)
    go_upto_region 5 with fail
    rw [← hw5, ← hbb]
    clear hw5 hbb hB4 hB5
    go_wp2_with fail
    refine (HM1.out w5 x5).mono ?_
    rintro e w6 ⟨q1, d1, rfl, s1, hB6⟩
    have x6 := x5.trans (hB6.mono x5.size)
    have ra6 := ra5.below hB6 ra5.lt; have rb6 := rb.below hB6 rb.lt
    have sa := sa.below hB6; have sb := sb.below hB6
    (clear g0 g1 g2 h0 h1 h2; have c0 := b0.below x6 b0.lt; have c1 := b1.below x6 b1.lt; have g0 := c0.at 0 rfl; have g1 := c0.at 1 rfl; have g2 := c0.at 2 rfl; have h0 := c1.at 0 rfl; have h1 := c1.at 1 rfl; have h2 := c1.at 2 rfl; clear c0 c1)
    clear ra5 rb
    go_wp2_with fail
    refine (HM2.out w6 x6).mono ?_
    rintro e w7 ⟨q2, d2, rfl, s2, hB7⟩
    have x7 := x6.trans (hB7.mono x6.size)
    have ra7 := ra6.below hB7 ra6.lt; have rb7 := rb6.below hB7 rb6.lt
    have sa := sa.below hB7; have sb := sb.below hB7; have s1 := s1.below hB7
    (clear g0 g1 g2 h0 h1 h2; have c0 := b0.below x7 b0.lt; have c1 := b1.below x7 b1.lt; have g0 := c0.at 0 rfl; have g1 := c0.at 1 rfl; have g2 := c0.at 2 rfl; have h0 := c1.at 0 rfl; have h1 := c1.at 1 rfl; have h2 := c1.at 2 rfl; clear c0 c1)
    clear ra6 rb6
    go_wp2_with fail
    refine (HM3.out w7 x7).mono ?_
    rintro e w8 ⟨q3, d3, rfl, s3, hB8⟩
    have x8 := x7.trans (hB8.mono x7.size)
    have ra8 := ra7.below hB8 ra7.lt; have rb8 := rb7.below hB8 rb7.lt
    have sa := sa.below hB8; have sb := sb.below hB8; have s1 := s1.below hB8; have s2 := s2.below hB8
    (clear g0 g1 g2 h0 h1 h2; have c0 := b0.below x8 b0.lt; have c1 := b1.below x8 b1.lt; have g0 := c0.at 0 rfl; have g1 := c0.at 1 rfl; have g2 := c0.at 2 rfl; have h0 := c1.at 0 rfl; have h1 := c1.at 1 rfl; have h2 := c1.at 2 rfl; clear c0 c1)
    clear ra7 rb7
    go_wp2_with fail
    refine (HM4.out w8 x8).mono ?_
    rintro e w9 ⟨q4, d4, rfl, s4, hB9⟩
    have x9 := x8.trans (hB9.mono x8.size)
    have ra9 := ra8.below hB9 ra8.lt; have rb9 := rb8.below hB9 rb8.lt
    have sa := sa.below hB9; have sb := sb.below hB9; have s1 := s1.below hB9; have s2 := s2.below hB9; have s3 := s3.below hB9
    clear ra8 rb8 g0 g1 g2 h0 h1 h2 HC1 HC2 HM1 HM2 HM3 HM4 hB6 hB7 hB8 hB9
    have m0 := ra9.at 0 rfl; have m1 := ra9.at 1 rfl; have m2 := ra9.at 2 rfl
    have n0 := rb9.at 0 rfl; have n1 := rb9.at 1 rfl; have n2 := rb9.at 2 rfl
    have hSA := rSame_any A A pa pb ca cb w9 sa sb (by omega) (by omega)
    rw [sameG_refl] at hSA
    have e1 : (k1 == k1) = true := by simp
    have e2 : (k2 == k2) = true := by simp
    have e3 : (k3 == k3) = true := by simp
    have e4 : (sm == sm) = true := by simp
    have e5 : (is == is) = true := by simp
    go_wp2_with fail
    refine hSA.mono ?_
    rintro e w10 ⟨rfl, hB10⟩
    have x10 := x9.trans (hB10.mono x9.size)
    have s1 := s1.below hB10; have s2 := s2.below hB10; have s3 := s3.below hB10; have s4 := s4.below hB10
    clear m0 m1 m2 n0 n1 n2 sa sb hSA ra9 rb9
    go_wp2_with fail
    have hEQ := equalI_n u u q1 q2 d1 d2 w10 s1 s2 (by omega) (by omega)
    rw [decide_eq_true (rfl : u = u)] at hEQ
    refine hEQ.mono ?_
    rintro e w11 ⟨rfl, hD11⟩
    have x11 := x10.trans (hD11.below _)
    have s3 := s3.dr hD11; have s4 := s4.dr hD11
    clear hEQ
    go_wp2_with fail
    have hEQ := equalI_n x x q3 q4 d3 d4 w11 s3 s4 (by omega) (by omega)
    rw [decide_eq_true (rfl : x = x)] at hEQ
    refine hEQ.mono ?_
    rintro e w12 ⟨rfl, hD12⟩
    have x12 := x11.trans (hD12.below _)
    clear hEQ
    go_wp2_with fail
    refine (HAW.out w12).mono ?_
    rintro e w13 ⟨rfl, hB13⟩
    have x13 := x12.trans (hB13.mono x12.size)
    go_wp2
    go_ret
    exact ⟨rfl, hB0.trans (x13.mono hB0.size)⟩
  · clear g0 g1 g2 h0 h1 h2
    go_wp2_with fail
    refine (HAW.out w1).mono ?_
    rintro e w2 ⟨rfl, hB2⟩
    have x2 := x1.trans (hB2.mono x1.size)
    go_wp2
    go_ret
    exact ⟨rfl, hB0.trans (x2.mono hB0.size)⟩
end Go.Proofs.YtocbhlohcikapaaGreatDoor
namespace Go.Proofs.YtocbhlohcikapaaGreatDoor
open Go.Joins Go.ChangeShapes Go.WideShapes Go.ChangeAt Go.RowKit Go.Deep

set_option maxRecDepth 100000 in
theorem minimalCompares_lifted (os : Os) (started : os.Started) (H : Type) (enc : TypeId × Value → H) :
    ReturnsInHanded {} Tryz.checked os 3 .any (fun w args => (Rows.minimalComparesSpec.pre enc Tryz.prog Tryz.f3 [] false w args ∧ laidMetH Tryz.prog Rows.minimalComparesRow.laid w) ∧ sizedMet enc Tryz.prog Tryz.f3 (OpenSpec.ofChange Rows.minimalComparesSpec) false w args)
      (Rows.minimalComparesSpec.post enc Tryz.prog Tryz.f3 false true false false) := by
  refine returnsInHanded_of_change_and (C := Tryz.checked) (X := fun w _ => laidMetH Tryz.prog Rows.minimalComparesRow.laid w) (fun _ _ _ hh h => h.of_heap hh) own started (by kernel_rfl) Tryz.func3
    (ChangeSpec.witness_shaped (enc := enc) (C := Tryz.checked) (os := os) (X := fun w _ => laidMetH Tryz.prog Rows.minimalComparesRow.laid w) false (World.doorLaid Tryz.prog 24 os) #[.agg #[.int .i64 0, .int .i64 0, .slice none 0 0], .agg #[.int .i64 0, .int .i64 0, .slice none 0 0]] 8 rfl (World.shaped_of_RefB (by kernel_rfl) (by kernel_rfl)) (by kernel_rfl) (by kernel_rfl) (by kernel_rfl) (door_metN os _)) ?_
  intro W base args ds gs before hval0 hW _ _ _ _
  have hval : ∀ (j : Nat) t v, Tryz.f3.params[j]? = some t → args[j]? = some v → Value.okWide Tryz.prog W .any base t v := hval0
  have hW' := hW
  obtain ⟨p, q, hA0, hV, rfl, hfz, hnd⟩ := hW
  have hA : DataW.TrodAll enc Tryz.prog W 0 (fun _ => true) true Tryz.f3.params.toList args.toList ds p := hA0
  rw [Tryz.params3] at hA hval
  obtain ⟨v0, v1, d0, d1, p0, p1, rfl, rfl, rfl, h0, h1⟩ := trodAll_two hA
  obtain ⟨rfl, rfl⟩ := trodVars_none hV
  have hlt : ∀ x ∈ p0 ++ p1, x.block < W.heap.size := fun x hx => hW'.lt x (List.mem_append_left _ (by simpa using hx))
  obtain ⟨G0, q0, c0, rfl, s0, l0⟩ := graph_in (hval 0 24 v0 rfl rfl) h0 (fun x hx => hlt x (by simp only [List.mem_append]; simp [hx]))
  obtain ⟨G1, q1, c1, rfl, s1, l1⟩ := graph_in (hval 1 24 v1 rfl rfl) h1 (fun x hx => hlt x (by simp only [List.mem_append]; simp [hx]))
  refine (lawCompares_any G0 G1 q0 q1 c0 c1 W s0 s1 l0 l1).mono fun e W' ⟨he, hB⟩ => ?_
  subst he
  refine ⟨_, rfl, law_post hW' rfl (by kernel_rfl) ?_ rfl rfl rfl hB⟩
  rw [Tryz.params3]
  intro t ht
  simp only [List.mem_cons, List.not_mem_nil, or_false] at ht
  rcases ht with rfl | rfl
  · exact readGraph
  · exact readGraph

theorem minimalCompares_holds : Rows.MinimalComparesSaid :=
  OpenClaim.holds_of_wide 3 Tryz.f3 rfl rfl rfl rfl rfl rfl rfl ⟨rfl, rfl, rfl, rfl, rfl⟩ rfl rfl rfl rfl rfl (by kernel_rfl) Tryz.func3 (by kernel_rfl)
    (of_decide_eq_true (by kernel_rfl)) (by unfold Func.isWrapper; rw [if_neg (of_decide_eq_false (by kernel_rfl))]; exact ⟨rfl, rfl⟩)
    (fun os started H enc _ => minimalCompares_lifted os started H enc)

theorem minimalCompares_card : Rows.MinimalComparesCardSaid :=
  Claim7.holds_tied_plain_at .later [] [.data, .data, .data] true _ false
    minimalCompares_holds (fun _ h => by cases h) (by kernel_rfl) (fun _ h => by cases h) minimalCompares_row_tie rfl ⟨rfl, rfl⟩ (by kernel_rfl) rfl
    (fun f fn hf hfn => by
      obtain rfl : f = 3 := Option.some.inj ((show Tryz.prog.funcNamed "groove/groovelaw13.MinimalCompares" = some 3 by kernel_rfl).symm.trans hf) |>.symm
      obtain rfl : fn = Tryz.f3 := (Option.some.inj (Tryz.func3.symm.trans hfn)).symm
      exact ⟨by kernel_rfl, fun j t ht => by
        rw [Tryz.params3] at ht
        rcases j with _ | _ | j
        · obtain rfl : t = 24 := by simpa using ht.symm
          exact (show Tryz.prog.wantsStandIn 24 = false by kernel_rfl)
        · obtain rfl : t = 24 := by simpa using ht.symm
          exact (show Tryz.prog.wantsStandIn 24 = false by kernel_rfl)
        · simp at ht⟩)
    (by kernel_rfl)
#print axioms minimalCompares_card
end Go.Proofs.YtocbhlohcikapaaGreatDoor
