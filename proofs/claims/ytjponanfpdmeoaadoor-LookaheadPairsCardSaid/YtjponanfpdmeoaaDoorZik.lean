/-
  LookaheadInverse and LookaheadPairs, side by side: the two statements' proofs lie in the texts that this one imports.
-/
import Derived.Test.YtjponanfpdmeoaaDoorZij
import Derived.Test.YtjponanfpdmeoaaDoorZid
import Derived.Test.YtjponanfpdmeoaaDoorZih
set_option linter.unusedVariables false
set_option linter.unusedSimpArgs false
namespace Go.Proofs.YtjponanfpdmeoaaDoor
open Go.RowKit Go.Sort Go.Shelf Go.Lib

theorem badN_rows {T : Tb} {G : Gr} {k : Nat} : ∀ x ∈ badN T G k, x.length ≤ 100000 := fun x hx => by rw [badN_two x hx]; omega

set_option maxRecDepth 100000 in
set_option maxHeartbeats 4000000 in
theorem lawPairs_any (T : Tb) (p1 p2 : Option Addr) (c1 c2 : Nat) (G : Gr) (p : Option Addr) (c : Nat) (w : World) (hin : TbIn w T p1 p2 c1 c2) (hG : Sg 3 w edE p G.es) (hGl : G.es.length ≤ 9223372036854775807) (ht : T10 w) :
    Calls Tryd.prog 4 #[(.agg #[.int .i64 T.q, .int .i64 T.n, .slice p1 T.base.length c1, .slice p2 T.swaps.length c2]), (.agg #[.int .i64 G.q, .int .i64 G.n, .slice p G.es.length c])] w fun e w' => e = .returned (.bool true) ∧ RowKit.Below w.heap.size w w' := by
  obtain ⟨i0, hi0, hz0, hz1, hz3⟩ := info_parts infoSI
  obtain ⟨w0, hw0⟩ : ∃ w0, w0 = (w.alloc (.cells #[.int .i64 T.q, .int .i64 T.n, .slice p1 T.base.length c1, .slice p2 T.swaps.length c2] 25)).alloc (.cells #[.int .i64 G.q, .int .i64 G.n, .slice p G.es.length c] 28) := ⟨_, rfl⟩
  have b0 : VRow w0 w.heap.size 25 [.int .i64 T.q, .int .i64 T.n, .slice p1 T.base.length c1, .slice p2 T.swaps.length c2] := by subst hw0; exact (VRow.new w _ _).alloc _
  have d0 : VRow w0 (w.heap.size + 1) 28 [.int .i64 G.q, .int .i64 G.n, .slice p G.es.length c] := by subst hw0; exact VRow.new1 w _ _ _
  have hB0 : RowKit.Below w.heap.size w w0 := by subst hw0; exact ((RowKit.Below.refl _ _).alloc (Nat.le_refl _) _).alloc (by simp) _
  have h1 := hin.l1; have h2 := hin.l2
  have a0 := b0.at 0 rfl; have a1 := b0.at 1 rfl; have a2 := b0.at 2 rfl; have a3 := b0.at 3 rfl
  have HGT := hidI (fun W => great_any T p1 p2 c1 c2 W h1 h2)
  have HCK := hidI (fun W (hB : RowKit.Below w.heap.size w W) => lkCheck_any T p1 p2 c1 c2 G p c W (hin.below hB) (hG.below hB) hGl (ht.below hB))
  have HBD := hidI (fun W (hB : RowKit.Below w.heap.size w W) => lkBad_any T p1 p2 c1 c2 G p c W (hin.below hB) (hG.below hB) hGl)
  have HFZ := hidI (@fit_zero T G)
  have HX1 : Hid (fitA T G = 0 → badA T G = (badL T G, 0)) := fun h => by unfold badA; rw [if_pos h]
  have HX2 : Hid (fitA T G ≠ 0 → badA T G = ([], fitA T G)) := fun h => by unfold badA; rw [if_neg h]
  have HBS := hidI (fun W (hB : RowKit.Below w.heap.size w W) => (hin.below hB).base)
  have HAC := hidI (fun (s : ByteArray) (W : World) (hB : RowKit.Below w.heap.size w W) (hv : Vg G) (hq16 : G.q ≤ 16) (h1 : Chg.wchk G.q s.data.toList = 0) (h2 : s.size ≤ 16) => lAccepts_any G p c s W (hG.below hB) hv hq16 (by unfold maxLen; omega) h1 (by omega))
  clear hin hG ht
  go_enter Tryd.func4, Tryd.ntmps4
  go_upto_region 1 with fail
  rw [← hw0]
  clear hw0
  go_wp2_with fail
  refine (HGT.out w0).mono ?_
  rintro e w1 ⟨rfl, hB1⟩
  have x1 := hB0.trans (hB1.mono hB0.size)
  have t1 := b0.below hB1 b0.lt
  have g1 := d0.below hB1 d0.lt
  have e0 := g1.at 0 rfl; have e1 := g1.at 1 rfl; have e2 := g1.at 2 rfl
  clear a0 a1 a2 a3 b0 d0 hB0 hB1 HGT
  have a0 := t1.at 0 rfl; have a1 := t1.at 1 rfl; have a2 := t1.at 2 rfl; have a3 := t1.at 3 rfl
  generalize greatT T = gt at *
  cases gt
  rotate_left
  · (go_wp2_with fail; refine (lkAwake_any _).mono ?_; rintro e w99 ⟨rfl, hB99⟩; go_wp2; go_ret; exact ⟨rfl, x1.trans (hB99.mono (x1).size)⟩)
  go_wp2_with fail
  refine (rGreat_any G p c w1 hGl).mono ?_
  rintro e w2 ⟨rfl, hB2⟩
  have x2 := x1.trans (hB2.mono x1.size)
  (have tb := t1.below hB2 t1.lt; have gb := g1.below hB2 g1.lt; clear a0 a1 a2 a3 e0 e1 e2 t1 g1; have t1 := tb; have g1 := gb; have a0 := tb.at 0 rfl; have a1 := tb.at 1 rfl; have a2 := tb.at 2 rfl; have a3 := tb.at 3 rfl; have e0 := gb.at 0 rfl; have e1 := gb.at 1 rfl; have e2 := gb.at 2 rfl; clear tb gb)
  clear hB2 x1
  generalize greatG G = gt at *
  cases gt
  rotate_left
  · (go_wp2_with fail; refine (lkAwake_any _).mono ?_; rintro e w99 ⟨rfl, hB99⟩; go_wp2; go_ret; exact ⟨rfl, x2.trans (hB99.mono (x2).size)⟩)
  go_wp2_with fail
  refine (HBD.out w2 x2).mono ?_
  rintro e w3 ⟨q, d, X, rfl, hr3, hB3⟩
  have x3 := x2.trans (hB3.mono x2.size)
  (have tb := t1.below hB3 t1.lt; have gb := g1.below hB3 g1.lt; clear a0 a1 a2 a3 e0 e1 e2 t1 g1; have t1 := tb; have g1 := gb; have a0 := tb.at 0 rfl; have a1 := tb.at 1 rfl; have a2 := tb.at 2 rfl; have a3 := tb.at 3 rfl; have e0 := gb.at 0 rfl; have e1 := gb.at 1 rfl; have e2 := gb.at 2 rfl; clear tb gb)
  clear hB3 x2 HBD
  by_cases hk : fitA T G = 0
  rotate_left
  · have hR := HX2.out hk
    rw [hR] at hr3
    rw [hR]
    have hkn : (fitA T G != 0) = true := by simpa using hk
    clear HX1 HX2 HFZ HCK hk hR hr3
    generalize fitA T G = kk at *
    (go_wp2_with fail; refine (lkAwake_any _).mono ?_; rintro e w99 ⟨rfl, hB99⟩; go_wp2; go_ret; exact ⟨rfl, x3.trans (hB99.mono (x3).size)⟩)
  obtain ⟨hf, hv, hqq⟩ := HFZ.out hk
  have hR := HX1.out hk
  rw [hR] at hr3 ⊢
  have hN := pre_all (fmd_split hf).1
  have hN16 : T.base.length ≤ 16 := by omega
  have hq16 : G.q ≤ 16 := by rw [hqq]; omega
  have HWD := hidI (fun (i j : Nat) (hi : i < T.base.length) (hj : j < T.base.length) => wdP (G := G) hf hqq hi hj)
  have HAC := hidI (fun (s : ByteArray) (W : World) (hB : RowKit.Below w.heap.size w W) (h1 : Chg.wchk G.q s.data.toList = 0) (h2 : s.size ≤ 16) => HAC.out s W hB hv hq16 h1 h2)
  have HBG := hidI (fun (k : Nat) (hk : k < T.base.length) => bget_eq T.base k hk)
  have HLN : Hid (badL T G = badN T G T.base.length) := rfl
  have HRB2 : Hid (∀ x ∈ badL T G, x.length ≤ 100000) := badN_rows
  have HNB := hidI (fun (h : chkL T G = 0) (h0 : T.swaps = []) => @badL_nil T G h h0)
  have hll : (badL T G).length ≤ 256 := by have := badN_len T G T.base.length; have h2 : T.base.length * T.base.length ≤ 16 * 16 := Nat.mul_le_mul hN16 hN16; rw [HLN.out]; omega
  have HO := hidI (LLo.nil w3 w3.heap.size)
  have HX3 := hidI x3; have HB := hidI t1; have HD := hidI g1; have HR3 := hidI hr3
  clear HX1 HX2 HFZ hf hv hqq hR hN hk x3 t1 g1 a0 a1 a3 e0 e1 e2 hr3
  generalize badL T G = R at *
  go_wp2_with fail
  clear a2
  go_loopw [7, 38] (fun v7 iv W => ∃ (k : Nat) (X : List LE), k ≤ T.base.length ∧ iv = .int .i64 k ∧ LLo W w3.heap.size v7 (badN T G k) X ∧ RowKit.Below w3.heap.size w3 W) (fun _ iv _ => T.base.length - (intOf iv).toNat)
  case atStart => exact ⟨0, [], by omega, rfl, HO.out, RowKit.Below.refl _ _⟩
  case round =>
    obtain ⟨k, X', hk, rfl, ho, hB⟩ := hrel
    by_cases hlt : k < T.base.length
    · have hltI : (k : Int) < (T.base.length : Int) := by omega
      have f2 := (HB.out.below hB HB.out.lt).at 2 rfl
      obtain ⟨bb, oo, rfl, hb1, hc1⟩ := (HBS.out wr (HX3.out.trans (hB.mono HX3.out.size))).get k hlt
      have e0 := hc1 k hlt
      have hle := badN_len T G k
      have HNS := hidI (badN_succ T G k)
      have HRZ := hidI (badR_zero T G k)
      rw [← HBG.out k hlt] at e0
      have hkn : k * T.base.length ≤ 16 * 16 := Nat.mul_le_mul (by omega) hN16
      generalize badN T G k = L at *
      clear hc1
      obtain ⟨wo, hwo⟩ : ∃ wo : World, wo = wr := ⟨_, rfl⟩
      go_wp2_with fail
      clear f2 e0
      go_loopw [7, 46] (fun v7 iv W => ∃ (j : Nat) (Y : List LE), j ≤ T.base.length ∧ iv = .int .i64 j ∧ LLo W w3.heap.size v7 (L ++ badR T G k j) Y ∧ RowKit.Below w3.heap.size w3 W) (fun _ iv _ => T.base.length - (intOf iv).toNat)
      case atStart => exact ⟨0, X', by omega, rfl, by rw [HRZ.out, List.append_nil]; exact ho, hB⟩
      case round =>
        clear ho hB hwo
        obtain ⟨j, Y, hj, rfl, ho, hB⟩ := hrel
        have hrl := badR_len T G k j
        have x4 := HX3.out.trans (hB.mono HX3.out.size)
        by_cases hlt2 : j < T.base.length
        · have hltJ : (j : Int) < (T.base.length : Int) := by omega
          have hD := HD.out.below hB HD.out.lt
          have g0 := hD.at 0 rfl; have g1 := hD.at 1 rfl; have g2 := hD.at 2 rfl
          obtain ⟨bb', oo', hp', hb2, hc2⟩ := (HBS.out wr x4).get j hlt2
          cases hp'
          have e1 := hc2 j hlt2
          rw [← HBG.out j hlt2] at e1
          have hwd := HWD.out k j hlt hlt2
          have HRA := hidI (fun h => @badR_acc T G k j h)
          have HRB := hidI (fun h => @badR_bad T G k j h)
          have hs1 := hwd.s1; have hs2 := hwd.s2
          have hml : (bget T.base k).size + (bget T.base j).size ≤ maxLen := by unfold maxLen; omega
          have HC := hidI (HAC.out (bget T.base k ++ bget T.base j) wr x4 hwd.chk (app_le hs1 hs2))
          generalize accA G (bget T.base k ++ bget T.base j) = r at *
          generalize bget T.base k = ba at *
          generalize bget T.base j = bj at *
          clear hc2 hwd
          go_wp2_with fail
          refine HC.out.mono ?_
          rintro e w4 ⟨rfl, hB4⟩
          have ho2 := ho.below hB4
          have hB3 := hB.trans (hB4.mono hB.size)
          clear hD g0 g1 g2 e1 hb2 HC ho hB hB4 x4
          cases r
          · have HQ := hidI (HRB.out rfl)
            have hz2 := hB3.size
            have hlw := ho2.lt
            clear HRA HRB HNS
            have hMl : (L ++ badR T G k j).length ≤ 272 := by rw [List.length_append]; omega
            have HQ : Hid (L ++ badR T G k (j + 1) = L ++ badR T G k j ++ [[(k : Int), (j : Int)]]) := by rw [Hid, HQ.out, List.append_assoc]
            generalize L ++ badR T G k j = M at *
            have hnew := cell_one_at (w4.alloc (.cells #[.int .i64 k, .int .i64 j] 3)) (.slice (some ⟨w4.heap.size, 0, none⟩) 2 2) 35 (w4.heap.size + 1) (by simp)
            have hownA := (ho2.own.alloc (.cells #[.int .i64 k, .int .i64 j] 3)).alloc (.cells #[.slice (some ⟨w4.heap.size, 0, none⟩) 2 2] 35)
            have n3 : VRow ((w4.alloc (.cells #[.int .i64 k, .int .i64 j] 3)).alloc (.cells #[.slice (some ⟨w4.heap.size, 0, none⟩) 2 2] 35)) w4.heap.size 3 ([(k : Int), (j : Int)].map (Value.int .i64)) := (VRow.new w4 _ _).alloc _
            have hBa : RowKit.Below w4.heap.size w4 ((w4.alloc (.cells #[.int .i64 k, .int .i64 j] 3)).alloc (.cells #[.slice (some ⟨w4.heap.size, 0, none⟩) 2 2] 35)) := ((RowKit.Below.refl _ _).alloc (Nat.le_refl _) _).alloc (by simp) _
            go_wp2_with (at_builtin; refine wpList_append_own _ rfl _ _ 45 rfl w3.heap.size 35 i0 (.slice none 0 0) 1 24 Tryd.underlying45 hi0 hz0 hz1 hz3 rfl (by decide) _ _ _ rfl hownA ⟨w4.heap.size + 1, 0, none⟩ 1 1 [.slice (some ⟨w4.heap.size, 0, none⟩) 2 2] rfl rfl hnew (by simp [Value.oneCell']) (by simp [maxLen]; omega) (by omega) (by simp only [World.size_alloc]; omega) ?_; intro v' w6 hown' hgrow _)
            have hlw2 := hownA.lt
            have hk4 : KX0 3 w4 w6 := (KX0.below hBa).trans (KX0.grown hgrow (own_typed hownA) (by decide))
            have hl4 : SlT w6 (some ⟨w4.heap.size, 0, none⟩) [(k : Int), (j : Int)] := (slT_row n3).keep (KX0.grown hgrow (own_typed hownA) (by decide))
            have ho4 := ho2.snoc hown' hk4 hl4
            have hB4 : RowKit.Below w3.heap.size w3 w6 := (hB3.trans (hBa.mono hz2)).grown hgrow (by simp; omega) (fun j e => by have := (hlw2 j e).1; omega)
            go_roundw
            case rel => exact ⟨j + 1, _, by omega, by go_num, by rw [HQ.out]; exact ho4, hB4⟩
            case measure => simp [intOf]; omega
          · have HQ := hidI (HRA.out rfl)
            clear HRA HRB
            go_wp2_with fail
            go_roundw
            case rel => exact ⟨j + 1, Y, by omega, by go_num, by rw [HQ.out]; exact ho2, hB3⟩
            case measure => simp [intOf]; omega
        · obtain rfl : j = T.base.length := by omega
          have hltJ : ¬ (T.base.length : Int) < (T.base.length : Int) := by omega
          clear x4
          go_wp2_with fail
          go_roundw
          case rel => exact ⟨k + 1, Y, by omega, by go_num, by rw [HNS.out]; exact ho, hB⟩
          case measure => simp [intOf]; omega
    · obtain rfl : k = T.base.length := by omega
      have hltI : ¬ (T.base.length : Int) < (T.base.length : Int) := by omega
      obtain ⟨q', d', rfl, hr⟩ := ho.read
      rw [← HLN.out] at hr ⊢
      have x4 := HX3.out.trans (hB.mono HX3.out.size)
      have t1 := HB.out.below hB HB.out.lt
      have g1 := HD.out.below hB HD.out.lt
      have hr3 := HR3.out.below hB
      have a0 := t1.at 0 rfl; have a1 := t1.at 1 rfl; have a2 := t1.at 2 rfl; have a3 := t1.at 3 rfl
      have e0 := g1.at 0 rfl; have e1 := g1.at 1 rfl; have e2 := g1.at 2 rfl
      have HSS := hidI (fun (W : World) (h1 : LLr W q R X) (h2 : LLr W q' R X') => rSameSets12_any R R X X' q q' d d' W h1 h2 (by omega) (by omega) HRB2.out HRB2.out)
      simp only [decide_true] at HSS
      clear HLN HAC HBG HWD HO ho hB HX3 HB HD HR3 t1 g1
      by_cases h0 : T.swaps.length = 0
      · have hz : ((T.swaps.length : Int) == 0) = true := by rw [h0]; rfl
        have HN2 := hidI (fun h : chkL T G = 0 => HNB.out h (List.length_eq_zero_iff.1 h0))
        clear HNB h0
        go_wp2_with fail
        refine (HCK.out wr x4).mono ?_
        rintro e w5 ⟨rfl, hB5⟩
        have x5 := x4.trans (hB5.mono x4.size)
        have hr' := hr.below hB5
        have hr3' := hr3.below hB5
        clear HCK x4 hB5 hr hr3 a0 a1 a2 a3 e0 e1 e2
        by_cases hk : chkL T G = 0
        · have hR0 : decide ((0 : Int) < (R.length : Int)) = false := decide_eq_false (by rw [HN2.out hk]; decide)
          have hR1 : decide (0 < R.length) = false := decide_eq_false (by rw [HN2.out hk]; decide)
          have hkb : (chkL T G == 0) = true := by rw [hk]; rfl
          clear HN2
          generalize chkL T G = kk at *
          clear hk
          (have HS := hidI (HSS.out w5 hr3' hr'); clear HSS; go_wp2_with fail; refine HS.out.mono ?_; rintro e w8 ⟨rfl, hD8⟩; have x8 := (x5).trans (hD8.below _); go_wp2_with fail; refine (lkAwake_any _).mono ?_; rintro e w9 ⟨rfl, hB9⟩; go_wp2; go_ret; exact ⟨rfl, x8.trans (hB9.mono x8.size)⟩)
        · have hkb : (chkL T G == 0) = false := by simpa using hk
          clear HN2
          generalize chkL T G = kk at *
          clear hk
          (have HS := hidI (HSS.out w5 hr3' hr'); clear HSS; go_wp2_with fail; refine HS.out.mono ?_; rintro e w8 ⟨rfl, hD8⟩; have x8 := (x5).trans (hD8.below _); go_wp2_with fail; refine (lkAwake_any _).mono ?_; rintro e w9 ⟨rfl, hB9⟩; go_wp2; go_ret; exact ⟨rfl, x8.trans (hB9.mono x8.size)⟩)
      · have hz : ((T.swaps.length : Int) == 0) = false := by simpa using (by omega : ¬ T.swaps.length = 0)
        clear HNB h0 HCK
        (have HS := hidI (HSS.out wr hr3 hr); clear HSS; go_wp2_with fail; refine HS.out.mono ?_; rintro e w8 ⟨rfl, hD8⟩; have x8 := (x4).trans (hD8.below _); go_wp2_with fail; refine (lkAwake_any _).mono ?_; rintro e w9 ⟨rfl, hB9⟩; go_wp2; go_ret; exact ⟨rfl, x8.trans (hB9.mono x8.size)⟩)
end Go.Proofs.YtjponanfpdmeoaaDoor
namespace Go.Proofs.YtjponanfpdmeoaaDoor
open Go.Joins Go.ChangeShapes Go.WideShapes Go.ChangeAt Go.RowKit Go.Deep

set_option maxRecDepth 100000 in
theorem lookaheadPairs_lifted (os : Os) (started : os.Started) (H : Type) (enc : TypeId × Value → H) :
    ReturnsInHanded {} Tryd.checked os 4 .any (fun w args => (Rows.lookaheadPairsSpec.pre enc Tryd.prog Tryd.f4 [] false w args ∧ laidMetH Tryd.prog Rows.lookaheadPairsRow.laid w) ∧ sizedMet enc Tryd.prog Tryd.f4 (OpenSpec.ofChange Rows.lookaheadPairsSpec) false w args)
      (Rows.lookaheadPairsSpec.post enc Tryd.prog Tryd.f4 false true false false) := by
  refine returnsInHanded_of_change_and (C := Tryd.checked) (X := fun w _ => laidMetH Tryd.prog Rows.lookaheadPairsRow.laid w) (fun _ _ _ hh h => h.of_heap hh) own started (by kernel_rfl) Tryd.func4
    (ChangeSpec.witness_shaped (enc := enc) (C := Tryd.checked) (os := os) (X := fun w _ => laidMetH Tryd.prog Rows.lookaheadPairsRow.laid w) false (World.doorLaid Tryd.prog 24 os) #[.agg #[.int .i64 0, .int .i64 0, .slice none 0 0, .slice none 0 0], .agg #[.int .i64 0, .int .i64 0, .slice none 0 0]] 8 rfl (World.shaped_of_RefB (by kernel_rfl) (by kernel_rfl)) (by kernel_rfl) (by kernel_rfl) (by kernel_rfl) (door_metN os _)) ?_
  intro W base args ds gs before hval0 hW _ _ hL _
  have hval : ∀ (j : Nat) t v, Tryd.f4.params[j]? = some t → args[j]? = some v → Value.okWide Tryd.prog W .any base t v := hval0
  have hW' := hW
  obtain ⟨p, q, hA0, hV, rfl, hfz, hnd⟩ := hW
  have hA : DataW.TrodAll enc Tryd.prog W 0 (fun _ => true) true Tryd.f4.params.toList args.toList ds p := hA0
  rw [Tryd.params4] at hA hval
  obtain ⟨v0, v1, d0, d1, p0, p1, rfl, rfl, rfl, h0, h1⟩ := trodAll_two hA
  obtain ⟨rfl, rfl⟩ := trodVars_none hV
  have hlt : ∀ x ∈ p0 ++ p1, x.block < W.heap.size := fun x hx => hW'.lt x (List.mem_append_left _ (by simpa using hx))
  obtain ⟨T0, q0, r0, c0, e0, rfl, hin0⟩ := table_in (hval 0 25 v0 rfl rfl) h0 (fun x hx => hlt x (by simp only [List.mem_append]; simp [hx]))
  obtain ⟨G1, q1, c1, rfl, s1, l1⟩ := graph_in (hval 1 28 v1 rfl rfl) h1 (fun x hx => hlt x (by simp only [List.mem_append]; simp [hx]))
  refine (lawPairs_any T0 q0 r0 c0 e0 G1 q1 c1 W hin0 s1 l1 (pow10_in hL)).mono fun e W' ⟨he, hB⟩ => ?_
  subst he
  refine ⟨_, rfl, law_post hW' rfl (by kernel_rfl) ?_ rfl rfl rfl hB⟩
  rw [Tryd.params4]
  intro t ht
  simp only [List.mem_cons, List.not_mem_nil, or_false] at ht
  rcases ht with rfl | rfl
  · exact readLook
  · exact readGraph

theorem lookaheadPairs_holds : Rows.LookaheadPairsSaid :=
  OpenClaim.holds_of_wide 4 Tryd.f4 rfl rfl rfl rfl rfl rfl rfl ⟨rfl, rfl, rfl, rfl, rfl⟩ rfl rfl rfl rfl rfl (by kernel_rfl) Tryd.func4 (by kernel_rfl)
    (of_decide_eq_true (by kernel_rfl)) (by unfold Func.isWrapper; rw [if_neg (of_decide_eq_false (by kernel_rfl))]; exact ⟨rfl, rfl⟩)
    (fun os started H enc _ => lookaheadPairs_lifted os started H enc)

theorem lookaheadPairs_card : Rows.LookaheadPairsCardSaid :=
  Claim7.holds_tied_plain_at .later [] [.data, .data, .data] true _ false
    lookaheadPairs_holds (fun _ h => by cases h) (by kernel_rfl) (fun _ h => by cases h) lookaheadPairs_row_tie rfl ⟨rfl, rfl⟩ (by kernel_rfl) rfl
    (fun f fn hf hfn => by
      obtain rfl : f = 4 := Option.some.inj ((show Tryd.prog.funcNamed "groove/groovelaw32.LookaheadPairs" = some 4 by kernel_rfl).symm.trans hf) |>.symm
      obtain rfl : fn = Tryd.f4 := (Option.some.inj (Tryd.func4.symm.trans hfn)).symm
      exact ⟨by kernel_rfl, fun j t ht => by
        rw [Tryd.params4] at ht
        rcases j with _ | _ | j
        · obtain rfl : t = 25 := by simpa using ht.symm
          exact (show Tryd.prog.wantsStandIn 25 = false by kernel_rfl)
        · obtain rfl : t = 28 := by simpa using ht.symm
          exact (show Tryd.prog.wantsStandIn 28 = false by kernel_rfl)
        · simp at ht⟩)
    (by kernel_rfl)
#print axioms lookaheadPairs_card
end Go.Proofs.YtjponanfpdmeoaaDoor
namespace Go.Proofs.YtjponanfpdmeoaaDoor
end Go.Proofs.YtjponanfpdmeoaaDoor
