/-
  Walks: the statement GraphMakes (door seat).
-/
import Derived.Test.YtkknkbdkokdbfaaDoorLb
import Derived.Test.YtkknkbdkokdbfaaDoorHc
import Derived.Test.YtkknkbdkokdbfaaDoorHr
import Derived.Test.YtkknkbdkokdbfaaDoorHf
namespace Go.Proofs.YtkknkbdkokdbfaaDoor
open Go.RowKit Go.Sort Go.Shelf Go.Lib

/-- The list that is made a second time: turned, and one edge twice. -/
def turnE (es : List Ed) (k : Nat) (x : Ed) : List Ed := es.drop k ++ es.take k ++ [x]
theorem mem_turn {es : List Ed} {k : Nat} {x y : Ed} (hx : x ∈ es) : y ∈ turnE es k x ↔ y ∈ es := by
  have h : y ∈ es ↔ y ∈ es.take k ∨ y ∈ es.drop k := by
    constructor
    · intro h; rw [← List.take_append_drop k es] at h; exact List.mem_append.1 h
    · rintro (h | h)
      · exact List.mem_of_mem_take h
      · exact List.mem_of_mem_drop h
  simp only [turnE, List.mem_append, List.mem_singleton]
  rw [h]
  constructor
  · rintro ((h | h) | rfl)
    · exact .inr h
    · exact .inl h
    · exact h.1 hx
  · rintro (h | h)
    · exact .inl (.inr h)
    · exact .inl (.inl h)
theorem make_turn (q n : Int) {es : List Ed} {k : Nat} {x : Ed} (hx : x ∈ es) : makeA q n (turnE es k x) = makeA q n es := by
  unfold makeA
  rw [norm_congr (fun y => mem_turn (y := y) hx)]
theorem turn_len (es : List Ed) (k : Nat) (x : Ed) : (turnE es k x).length = es.length + 1 := by
  simp only [turnE, List.length_append, List.length_drop, List.length_take, List.length_singleton]; omega
theorem norm_pos {es : List Ed} (h : 0 < es.length) : 0 < (norm es).length := by
  have : es[0] ∈ norm es := mem_norm.2 (List.getElem_mem h)
  exact List.length_pos_of_mem this

set_option maxRecDepth 100000 in
set_option maxHeartbeats 1000000 in
theorem lawGMakes_any (G : Gr) (p : Option Addr) (c : Nat) (a b : Int) (w : World) (hin : Sg 3 w edE p G.es) (hl : G.es.length ≤ 9223372036854775807) (hcap : G.es.length ≤ c) (ha : 0 ≤ a ∧ a ≤ 255) (hb : 0 ≤ b ∧ b ≤ 255) :
    Calls Tryd.prog 4 #[(.agg #[.int .i64 G.q, .int .i64 G.n, .slice p G.es.length c]), .int .u8 a, .int .u8 b] w fun e w' => e = .returned (.bool true) ∧ RowKit.Below w.heap.size w w' := by
  have HIN := hidI hin
  clear hin
  have b0 : VRow (w.alloc (.cells #[.int .i64 G.q, .int .i64 G.n, .slice p G.es.length c] 24)) w.heap.size 24 [.int .i64 G.q, .int .i64 G.n, .slice p G.es.length c] := VRow.new w _ _
  have x0 : RowKit.Below w.heap.size w (w.alloc (.cells #[.int .i64 G.q, .int .i64 G.n, .slice p G.es.length c] 24)) := (RowKit.Below.refl _ _).alloc (Nat.le_refl _) _
  cases hg : greatG G
  · have HG := hidI hg
    have hs := (great_small hg).1
    clear hg
    by_cases h0 : G.es.length = 0
    · have H0 := hidI h0
      clear h0
      go_enter Tryd.func4, Tryd.ntmps4
      go_wp2_with fail
      refine (rGreat_any G p c _ hl).mono ?_
      rw [HG.out]
      rintro e w1 ⟨rfl, hB1⟩
      have b1 := b0.below hB1 b0.lt
      have x1 := x0.trans (hB1.mono x0.size)
      have f2 := b1.at 2 rfl
      have h0' : decide ((G.es.length : Int) = 0) = true := decide_eq_true (by have := H0.out; omega)
      have h0'' : ((G.es.length : Int) == 0) = true := by simpa using h0'
      go_wp2_with fail
      refine (awake_any w1).mono ?_
      rintro e w2 ⟨rfl, hB2⟩
      go_wp2
      go_ret
      exact ⟨rfl, x1.trans (hB2.mono x1.size)⟩
    · obtain ⟨B, off, rfl, _, _⟩ := HIN.out.get 0 (by omega)
      have hne : ¬ ((G.es.length : Int) = 0) := by omega
      go_enter Tryd.func4, Tryd.ntmps4
      go_wp2_with fail
      refine (rGreat_any G _ c _ hl).mono ?_
      rw [HG.out]
      rintro e w1 ⟨rfl, hB1⟩
      have b1 := b0.below hB1 b0.lt
      have x1 := x0.trans (hB1.mono x0.size)
      have f0 := b1.at 0 rfl; have f1 := b1.at 1 rfl; have f2 := b1.at 2 rfl
      clear b0 hB1 x0
      go_wp2_with fail
      have HML := hidI (makeA_len G.q G.n G.es)
      have HMT : Hid (∀ (k : Nat) (x : Ed), x ∈ G.es → makeA G.q G.n (turnE G.es k x) = makeA G.q G.n G.es) := fun k x hx => make_turn _ _ hx
      have HOK : Hid ((∃ r, makeA G.q G.n G.es = (⟨0, 0, []⟩, r) ∧ r ≠ 0) ∨ (makeA G.q G.n G.es = (⟨G.q, G.n, norm G.es⟩, 0) ∧ chkG ⟨G.q, G.n, norm G.es⟩ = 0)) := by
        unfold Hid
        by_cases hc : chkG ⟨G.q, G.n, norm G.es⟩ = 0
        · exact .inr ⟨makeA_ok hc, hc⟩
        · exact .inl ⟨_, makeA_bad hc, hc⟩
      refine (gMake_any G.q G.n G.es _ c w1 (HIN.out.below x1) (by omega)).mono ?_
      generalize makeA G.q G.n G.es = R at *
      rintro e v2 ⟨p2, c2, rfl, s2, _, hB2⟩
      have hA2 : RowKit.Below w1.heap.size w1 (v2.alloc (.cells #[.int .i64 R.1.q, .int .i64 R.1.n, .slice p2 R.1.es.length c2] 24)) := hB2.alloc hB2.size _
      have b2 := b1.below hA2 b1.lt
      have x2 := x1.trans (hA2.mono x1.size)
      have s2' := s2.below ((RowKit.Below.refl _ v2).alloc (Nat.le_refl _) (.cells #[.int .i64 R.1.q, .int .i64 R.1.n, .slice p2 R.1.es.length c2] 24))
      have y2 : VRow (v2.alloc (.cells #[.int .i64 R.1.q, .int .i64 R.1.n, .slice p2 R.1.es.length c2] 24)) v2.heap.size 24 [.int .i64 R.1.q, .int .i64 R.1.n, .slice p2 R.1.es.length c2] := VRow.new v2 _ _
      clear hA2 hB2 b1 x1 f0 f1 f2 s2
      go_upto_region 4 with fail
      generalize v2.alloc (.cells #[.int .i64 R.1.q, .int .i64 R.1.n, .slice p2 R.1.es.length c2] 24) = w2 at *
      generalize v2.heap.size = B2 at *
      have f0 := b2.at 0 rfl; have f1 := b2.at 1 rfl; have f2 := b2.at 2 rfl
      have hk : 0 ≤ a % (G.es.length : Int) ∧ a % (G.es.length : Int) < (G.es.length : Int) := ⟨Int.emod_nonneg _ hne, Int.emod_lt_of_pos _ (by omega)⟩
      have hj : 0 ≤ b % (G.es.length : Int) ∧ b % (G.es.length : Int) < (G.es.length : Int) := ⟨Int.emod_nonneg _ hne, Int.emod_lt_of_pos _ (by omega)⟩
      go_upto_region 5 with fail
      obtain ⟨k, hke⟩ : ∃ k : Nat, a % (G.es.length : Int) = (k : Int) := ⟨(a % (G.es.length : Int)).toNat, by omega⟩
      rw [hke] at hk
      obtain ⟨hj0, hj1⟩ := hj
      have hjl : (b % (G.es.length : Int)).toNat < G.es.length := by omega
      have hin2 := HIN.out.below x2
      obtain ⟨b4, o4, hx4, _, q0, q1, q2⟩ := hin2.get3 _ hjl rfl
      cases hx4
      have HX : Hid (G.es[(b % (G.es.length : Int)).toNat] ∈ G.es) := List.getElem_mem hjl
      generalize G.es[(b % (G.es.length : Int)).toNat] = X at *
      have hw1 : IntKind.i64.wrap (b % (G.es.length : Int)) = b % (G.es.length : Int) := by rw [IntKind.wrap_i64]; omega
      have hw2 : IntKind.i64.wrap b = b := by rw [IntKind.wrap_i64]; omega
      have hw3 : b.tmod (G.es.length : Int) = b % (G.es.length : Int) := Int.tmod_eq_emod_of_nonneg hb.1
      have hb0 := hb.1
      have hsl : (G.es.length : Int) ≤ (c : Int) := by omega
      have hkc : (k : Int) ≤ (c : Int) := by omega
      have hkl : (k : Int) ≤ (G.es.length : Int) := by omega
      have hk0 : (0 : Int) ≤ (k : Int) := by omega
      have hck : ¬ c = k := by omega
      rw [hke]
      clear hke
      have HKS : Hid (∀ V, RowKit.Below w2.heap.size w2 V → V.cell? ⟨w.heap.size, 2, none⟩ = some (.slice (some ⟨B, off, none⟩) G.es.length c) ∧ V.cell? ⟨B, off + (b % (G.es.length : Int)).toNat * 3, none⟩ = some (.int .i64 X.f) ∧ V.cell? ⟨B, off + (b % (G.es.length : Int)).toNat * 3 + 1, none⟩ = some (.int .i64 X.l) ∧ V.cell? ⟨B, off + (b % (G.es.length : Int)).toNat * 3 + 2, none⟩ = some (.int .i64 X.t) ∧ RowKit.Below w2.heap.size w2 V) := fun V h =>
        ⟨(b2.below h b2.lt).at 2 rfl, (h.cell (p := ⟨B, off + (b % (G.es.length : Int)).toNat * 3, none⟩) (by assumption)).trans q0, (h.cell (p := ⟨B, off + (b % (G.es.length : Int)).toNat * 3 + 1, none⟩) (by assumption)).trans q1, (h.cell (p := ⟨B, off + (b % (G.es.length : Int)).toNat * 3 + 2, none⟩) (by assumption)).trans q2, h⟩
      have HCC : Hid (∀ W, W = (w2.alloc (.cells #[.int .i64 X.f, .int .i64 X.l, .int .i64 X.t] 34)).alloc (.cells #[.slice (some ⟨B, off + k * 3, none⟩) (G.es.length - k) (c - k), .slice (some ⟨B, off, none⟩) k c, .slice (some ⟨w2.heap.size, 0, none⟩) 1 1] 22) →
          Calls Tryd.prog 17 #[.slice (some ⟨w2.heap.size + 1, 0, none⟩) 3 3] W.drew (RetOwnE (turnE G.es k X) W.drew) ∧ RowKit.Below w2.heap.size w2 W.drew) := fun W hW => by
        have hr : VRow W (w2.heap.size + 1) 22 [.slice (some ⟨B, off + k * 3, none⟩) (G.es.length - k) (c - k), .slice (some ⟨B, off, none⟩) k c, .slice (some ⟨w2.heap.size, 0, none⟩) 1 1] := by subst hW; exact VRow.new1 w2 _ _ _
        have hx : VRow W w2.heap.size 34 (cat [X]) := by subst hW; exact (VRow.new w2 34 (edE X)).alloc _
        have hB : RowKit.Below w2.heap.size w2 W := by subst hW; exact ((RowKit.Below.refl _ _).alloc (Nat.le_refl _) _).alloc (by simp) _
        have hdw : RowKit.Below W.heap.size W W.drew := (RowKit.Below.refl _ _).drew
        have hBd := hB.trans (hdw.mono hB.size)
        have hsg := HIN.out.below (x2.trans (hBd.mono x2.size))
        exact ⟨concatE_n (G.es.drop k) (G.es.take k) [X] _ _ _ (List.length_drop ..) (show (G.es.take k).length = k by rw [List.length_take]; omega) (show [X].length = 1 from rfl) _ _ _ _ _ _ _ _ (hr.below hdw hr.lt) (hsg.drop k) (hsg.take k) (Sg.of_row (hx.below hdw hx.lt)) (by omega) (by omega) (by omega), hBd⟩
      go_region_held3 (fun V => V.cell? ⟨w.heap.size, 2, none⟩ = some (.slice (some ⟨B, off, none⟩) G.es.length c) ∧ V.cell? ⟨B, off + (b % (G.es.length : Int)).toNat * 3, none⟩ = some (.int .i64 X.f) ∧ V.cell? ⟨B, off + (b % (G.es.length : Int)).toNat * 3 + 1, none⟩ = some (.int .i64 X.l) ∧ V.cell? ⟨B, off + (b % (G.es.length : Int)).toNat * 3 + 2, none⟩ = some (.int .i64 X.t) ∧ RowKit.Below w2.heap.size w2 V)
        ((go_split_ands; refine HKS.out _ ?_; first
          | assumption
          | exact (RowKit.Below.refl _ _).drew
          | exact RowKit.Below.alloc (by assumption) (RowKit.Below.size (by assumption)) _
          | exact RowKit.Below.trans hCb (hCa.mono hCb.size)
          | fail))
        (first
          | (go_at_call 17; go_split_ands; refine Calls.mono (HCC.out _ rfl).1 ?_; rintro e wa ⟨vC, rfl, hoC, hCa⟩; have hCb := (HCC.out _ rfl).2)
          | fail)
      have hCC := hCb.trans (hCa.mono hCb.size)
      have b3 := b2.below hCC b2.lt
      have x3 := x2.trans (hCC.mono x2.size)
      have s3 := s2'.below hCC; have y3 := y2.below hCC y2.lt
      have HTL := hidI (turn_len G.es k X)
      have HM2 := hidI (HMT.out k X HX.out)
      obtain ⟨p4, c4, rfl, s4, _, _⟩ := own_sg hoC
      clear hCC hCa hCb hoC b2 x2 s2' y2 HCC HKS q0 q1 q2 f0 f1 f2 HX HMT
      generalize turnE G.es k X = L at *
      have f0 := b3.at 0 rfl; have f1 := b3.at 1 rfl; have f2 := b3.at 2 rfl
      go_wp2_with fail
      have hmk := gMake_any G.q G.n L p4 c4 wa s4 (by have := HTL.out; omega)
      rw [HM2.out] at hmk
      have HMK := hidI hmk
      clear hmk
      refine HMK.out.mono ?_
      rintro e v5 ⟨p5, c5, rfl, s5, _, hB5⟩
      have hA5 : RowKit.Below wa.heap.size wa (v5.alloc (.cells #[.int .i64 R.1.q, .int .i64 R.1.n, .slice p5 R.1.es.length c5] 24)) := hB5.alloc hB5.size _
      have b5 := b3.below hA5 b3.lt
      have x5 := x3.trans (hA5.mono x3.size)
      have s35 := s3.below hA5; have y35 := y3.below hA5 y3.lt
      have s5' := s5.below ((RowKit.Below.refl _ v5).alloc (Nat.le_refl _) (.cells #[.int .i64 R.1.q, .int .i64 R.1.n, .slice p5 R.1.es.length c5] 24))
      have y5 : VRow (v5.alloc (.cells #[.int .i64 R.1.q, .int .i64 R.1.n, .slice p5 R.1.es.length c5] 24)) v5.heap.size 24 [.int .i64 R.1.q, .int .i64 R.1.n, .slice p5 R.1.es.length c5] := VRow.new v5 _ _
      clear hA5 hB5 b3 x3 s3 y3 HMK HM2 s4 s5 f0 f1 f2
      go_upto_region 7 with fail
      generalize v5.alloc (.cells #[.int .i64 R.1.q, .int .i64 R.1.n, .slice p5 R.1.es.length c5] 24) = w5 at *
      generalize v5.heap.size = B5 at *
      have f0 := y35.at 0 rfl; have f1 := y35.at 1 rfl; have f2 := y35.at 2 rfl
      have g0 := y5.at 0 rfl; have g1 := y5.at 1 rfl; have g2 := y5.at 2 rfl
      have hRl : R.1.es.length ≤ 30 := Nat.le_trans HML.out hs
      go_wp2_with fail
      refine (gSame_s R.1 R.1 p2 p5 c2 c5 true w5 (sameG_refl _) s35 s5' (by omega) (by omega)).mono ?_
      rintro e w6 ⟨rfl, hB6⟩
      have b6 := b5.below hB6 b5.lt
      have x6 := x5.trans (hB6.mono x5.size)
      have s36 := s35.below hB6; have y36 := y35.below hB6 y35.lt
      clear hB6 b5 x5 s35 y35 s5' y5 f0 f1 f2 g0 g1 g2
      rcases HOK.out with ⟨r, hR, hr0⟩ | ⟨hR, hck2⟩
      · subst hR
        have f0 := y36.at 0 rfl; have f1 := y36.at 1 rfl; have f2 := y36.at 2 rfl
        clear HOK HML
        go_wp2_with fail
        refine (gSame_s ⟨0, 0, []⟩ ⟨0, 0, []⟩ p2 none c2 0 true w6 (sameG_refl _) s36 (Sg.nil _ _ _ _) (by simp) (by simp)).mono ?_
        rintro e w7 ⟨rfl, hB7⟩
        have x7 := x6.trans (hB7.mono x6.size)
        go_wp2_with fail
        refine (awake_any w7).mono ?_
        rintro e w8 ⟨rfl, hB8⟩
        go_wp2
        go_ret
        exact ⟨rfl, x7.trans (hB8.mono x7.size)⟩
      · subst hR
        have HNM : Hid (∀ x, x ∈ norm G.es ↔ x ∈ G.es) := fun x => mem_norm
        have hnp := norm_pos (es := G.es) (by omega)
        generalize norm G.es = N at *
        have HCK := hidI hck2
        clear HOK HML hck2
        have f2 := b6.at 2 rfl
        go_wp2
        go_loopw [92] (fun iv wr => ∃ m : Nat, m ≤ G.es.length ∧ iv = .int .i64 m ∧ RowKit.Below w6.heap.size w6 wr) (fun iv _ => G.es.length - (intOf iv).toNat)
        case atStart => exact ⟨0, by omega, rfl, RowKit.Below.refl _ _⟩
        case round =>
          obtain ⟨m, hm, rfl, hB⟩ := hrel
          by_cases hlt : m < G.es.length
          · have hsg := HIN.out.below (x6.trans (hB.mono x6.size))
            obtain ⟨b4, o4, hx4, _, q0, q1, q2⟩ := hsg.get3 m hlt rfl
            cases hx4
            have HX : Hid (decide (G.es[m] ∈ N) = true) := decide_eq_true ((HNM.out _).2 (List.getElem_mem hlt))
            generalize G.es[m] = X at *
            have hml : (m : Int) < (G.es.length : Int) := by omega
            have hA : RowKit.Below w6.heap.size w6 (wr.alloc (.cells #[.int .i64 X.f, .int .i64 X.l, .int .i64 X.t] 34)) := hB.alloc hB.size _
            have yx : VRow (wr.alloc (.cells #[.int .i64 X.f, .int .i64 X.l, .int .i64 X.t] 34)) wr.heap.size 34 [.int .i64 X.f, .int .i64 X.l, .int .i64 X.t] := VRow.new _ _ _
            go_upto_region 14 with fail
            generalize wr.alloc (.cells #[.int .i64 X.f, .int .i64 X.l, .int .i64 X.t] 34) = W at *
            generalize wr.heap.size = BX at *
            have g0 := yx.at 0 rfl; have g1 := yx.at 1 rfl; have g2 := yx.at 2 rfl
            have f3 := (y36.below hA y36.lt).at 2 rfl
            go_wp2_with fail
            refine (containsE_any N p2 c2 X W (s36.below hA) hnp (by omega)).mono ?_
            rw [HX.out]
            rintro e wb ⟨rfl, hBb⟩
            go_wp2
            go_roundw
            case rel => exact ⟨m + 1, by omega, by go_num, hA.trans (hBb.mono hA.size)⟩
            case measure => simp [intOf]; omega
          · obtain rfl : G.es.length = m := by omega
            have b7 := b6.below hB b6.lt
            have x7 := x6.trans (hB.mono x6.size)
            have s37 := s36.below hB; have y37 := y36.below hB y36.lt
            obtain ⟨w7, rfl⟩ : ∃ w7 : World, w7 = wr := ⟨_, rfl⟩
            clear hB b6 x6 s36 y36 f2
            have f2 := y37.at 2 rfl
            go_wp2
            go_loopw [105] (fun iv wr => ∃ m : Nat, m ≤ N.length ∧ iv = .int .i64 m ∧ RowKit.Below w7.heap.size w7 wr) (fun iv _ => N.length - (intOf iv).toNat)
            case atStart => exact ⟨0, by omega, rfl, RowKit.Below.refl _ _⟩
            case round =>
              obtain ⟨m, hm, rfl, hB⟩ := hrel
              by_cases hlt : m < N.length
              · have hsg := s37.below hB
                obtain ⟨b4, o4, rfl, _, q0, q1, q2⟩ := hsg.get3 m hlt rfl
                have HX : Hid (decide (N[m] ∈ G.es) = true) := decide_eq_true ((HNM.out _).1 (List.getElem_mem hlt))
                generalize N[m] = X at *
                have hml : (m : Int) < (N.length : Int) := by omega
                have hA : RowKit.Below w7.heap.size w7 (wr.alloc (.cells #[.int .i64 X.f, .int .i64 X.l, .int .i64 X.t] 34)) := hB.alloc hB.size _
                have yx : VRow (wr.alloc (.cells #[.int .i64 X.f, .int .i64 X.l, .int .i64 X.t] 34)) wr.heap.size 34 [.int .i64 X.f, .int .i64 X.l, .int .i64 X.t] := VRow.new _ _ _
                go_upto_region 20 with fail
                generalize wr.alloc (.cells #[.int .i64 X.f, .int .i64 X.l, .int .i64 X.t] 34) = W at *
                generalize wr.heap.size = BX at *
                have g0 := yx.at 0 rfl; have g1 := yx.at 1 rfl; have g2 := yx.at 2 rfl
                have f3 := (b7.below hA b7.lt).at 2 rfl
                go_wp2_with fail
                refine (containsE_any G.es _ c X W (HIN.out.below (x7.trans (hA.mono x7.size))) (by omega) (by omega)).mono ?_
                rw [HX.out]
                rintro e wb ⟨rfl, hBb⟩
                go_wp2
                go_roundw
                case rel => exact ⟨m + 1, by omega, by go_num, hA.trans (hBb.mono hA.size)⟩
                case measure => simp [intOf]; omega
              · obtain rfl : N.length = m := by omega
                have b8 := b7.below hB b7.lt
                have x8 := x7.trans (hB.mono x7.size)
                have s38 := s37.below hB; have y38 := y37.below hB y37.lt
                clear hB b7 x7 s37 y37 f2
                have f0 := y38.at 0 rfl; have f1 := y38.at 1 rfl; have f2 := y38.at 2 rfl
                go_wp2_with fail
                refine (gCheck_r ⟨G.q, G.n, N⟩ p2 c2 wr 0 HCK.out s38 (show N.length ≤ 9223372036854775807 by omega)).mono ?_
                rintro e w9 ⟨rfl, hB9⟩
                have b9 := b8.below hB9 b8.lt
                have x9 := x8.trans (hB9.mono x8.size)
                have y39 := y38.below hB9 y38.lt
                clear f0 f1 f2
                have f0 := y39.at 0 rfl; have f1 := y39.at 1 rfl
                have g0 := b9.at 0 rfl; have g1 := b9.at 1 rfl
                go_wp2_with fail
                refine (awake_any w9).mono ?_
                rintro e w10 ⟨rfl, hB10⟩
                go_wp2
                go_ret
                exact ⟨rfl, x9.trans (hB10.mono x9.size)⟩
  · have HG := hidI hg
    clear hg
    go_enter Tryd.func4, Tryd.ntmps4
    go_wp2_with fail
    refine (rGreat_any G p c _ hl).mono ?_
    rw [HG.out]
    rintro e w1 ⟨rfl, hB1⟩
    have x1 := x0.trans (hB1.mono x0.size)
    go_wp2_with fail
    refine (awake_any w1).mono ?_
    rintro e w2 ⟨rfl, hB2⟩
    go_wp2
    go_ret
    exact ⟨rfl, x1.trans (hB2.mono x1.size)⟩
end Go.Proofs.YtkknkbdkokdbfaaDoor
