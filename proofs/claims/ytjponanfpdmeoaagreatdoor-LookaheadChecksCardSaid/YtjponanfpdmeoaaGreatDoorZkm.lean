/-
  LookaheadChecks: whatever comes in, the law returns true, and its arguments read as they did; the tables of the library that its row lists are tied to the program's text.
-/
import Derived.Test.YtjponanfpdmeoaaGreatDoorZkl
import Derived.Test.YtjponanfpdmeoaaGreatDoorZkk
import Derived.Deep.RegionHeld3
import Derived.Test.YtjponanfpdmeoaaGreatDoorZkj
import Derived.Test.YtjponanfpdmeoaaGreatDoorZkd
import Derived.Test.YtjponanfpdmeoaaGreatDoorZkh
set_option linter.unusedVariables false
set_option linter.unusedSimpArgs false
namespace Go.Proofs.YtjponanfpdmeoaaGreatDoor
open Go.RowKit Go.Sort Go.Shelf Go.Lib

def badA (T : Tb) (G : Gr) : List (List Int) × Int := if fitA T G = 0 then (badL T G, 0) else ([], fitA T G)
set_option maxRecDepth 100000 in
set_option maxHeartbeats 1000000 in
theorem lkBad_any (T : Tb) (p1 p2 : Option Addr) (c1 c2 : Nat) (G : Gr) (p : Option Addr) (c : Nat) (w : World) (hin : TbIn w T p1 p2 c1 c2) (hG : Sg 3 w edE p G.es) (hl : G.es.length ≤ 9223372036854775807) :
    Calls Tryz.prog 7 #[(.agg #[.int .i64 T.q, .int .i64 T.n, .slice p1 T.base.length c1, .slice p2 T.swaps.length c2]), (.agg #[.int .i64 G.q, .int .i64 G.n, .slice p G.es.length c])] w (RetLLI (badA T G).1 (badA T G).2 w) := by
  obtain ⟨w0, hw0⟩ : ∃ w0, w0 = (w.alloc (.cells #[.int .i64 T.q, .int .i64 T.n, .slice p1 T.base.length c1, .slice p2 T.swaps.length c2] 25)).alloc (.cells #[.int .i64 G.q, .int .i64 G.n, .slice p G.es.length c] 28) := ⟨_, rfl⟩
  have b0 : VRow w0 w.heap.size 25 [.int .i64 T.q, .int .i64 T.n, .slice p1 T.base.length c1, .slice p2 T.swaps.length c2] := by subst hw0; exact (VRow.new w _ _).alloc _
  have d0 : VRow w0 (w.heap.size + 1) 28 [.int .i64 G.q, .int .i64 G.n, .slice p G.es.length c] := by subst hw0; exact VRow.new1 w _ _ _
  have hB0 : RowKit.Below w.heap.size w w0 := by subst hw0; exact ((RowKit.Below.refl _ _).alloc (Nat.le_refl _) _).alloc (by simp) _
  have HC := hidI (lkCheck0_any T p1 p2 c1 c2 G p c w0 (hin.below hB0) (hG.below hB0) hl)
  have HFZ := hidI (@fit_zero T G)
  have HB := hidI (fun W (hB : RowKit.Below w.heap.size w W) (h1 : fmd T = true) (h2 : Vg G) (h3 : G.q = T.q) => lkbad_any T p1 p2 c1 c2 G p c W (hin.below hB) (hG.below hB) h1 h2 h3)
  have HX1 : Hid (fitA T G = 0 → badA T G = (badL T G, 0)) := fun h => by unfold badA; rw [if_pos h]
  have HX2 : Hid (fitA T G ≠ 0 → badA T G = ([], fitA T G)) := fun h => by unfold badA; rw [if_neg h]
  have a0 := b0.at 0 rfl; have a1 := b0.at 1 rfl; have a2 := b0.at 2 rfl; have a3 := b0.at 3 rfl
  have e0 := d0.at 0 rfl; have e1 := d0.at 1 rfl; have e2 := d0.at 2 rfl
  clear hin hG
  generalize fitA T G = k at *
  generalize badA T G = R at *
  go_enter Tryz.func7, Tryz.ntmps7
  go_upto_region 1 with fail
  rw [← hw0]
  clear hw0
  go_wp2_with fail
  refine HC.out.mono ?_
  rintro e w1 ⟨rfl, hB1⟩
  have x1 := hB0.trans (hB1.mono hB0.size)
  have t1 := b0.below hB1 b0.lt
  have g1 := d0.below hB1 d0.lt
  clear a0 a1 a2 a3 e0 e1 e2 b0 d0 hB1 HC
  by_cases hk : k = 0
  · obtain ⟨h1, h2, h3⟩ := HFZ.out hk
    have HR := hidI (HX1.out hk)
    have HBB := hidI (HB.out w1 x1 h1 h2 h3)
    clear h1 h2 h3 HFZ HX1 HX2 HB
    subst hk
    have a0 := t1.at 0 rfl; have a1 := t1.at 1 rfl; have a2 := t1.at 2 rfl; have a3 := t1.at 3 rfl
    have e0 := g1.at 0 rfl; have e1 := g1.at 1 rfl; have e2 := g1.at 2 rfl
    go_wp2_with fail
    refine HBB.out.mono ?_
    rintro e w2 ⟨q, d, X, rfl, hr, hB2⟩
    go_wp2
    go_ret2
    exact ⟨q, d, X, by rw [HR.out]; rfl, by rw [HR.out]; exact hr, x1.trans (hB2.mono x1.size)⟩
  · have HR := hidI (HX2.out hk)
    have hkn : (k != 0) = true := by simpa using hk
    clear hk HFZ HX1 HX2 HB t1 g1
    go_wp2
    go_ret2
    exact ⟨none, 0, [], by rw [HR.out]; rfl, by rw [HR.out]; exact LLr.nil _ _, x1⟩

theorem lists_ne {L M : List (List Int)} {k : Nat} (h1 : k < L.length) (h2 : k < M.length) (h : L[k] ≠ M[k]) : L ≠ M := fun e => by subst e; exact h rfl
theorem lists_eq {L M : List (List Int)} (hl : L.length = M.length) (h : ∀ j (h1 : j < L.length) (h2 : j < M.length), j < L.length → L[j] = M[j]) : L = M :=
  List.ext_getElem hl (fun j h1 h2 => h j h1 h2 h1)
set_option maxRecDepth 100000 in
set_option maxHeartbeats 1000000 in
theorem rSameSets12_any (L M : List (List Int)) (X Y : List LE) (p q : Option Addr) (c d : Nat) (w : World) (hp : LLr w p L X) (hq : LLr w q M Y) (hL : L.length ≤ 100000) (hM : M.length ≤ 100000) (h1 : ∀ x ∈ L, x.length ≤ 100000) (h2 : ∀ x ∈ M, x.length ≤ 100000) :
    Calls Tryz.prog 11 #[.slice p L.length c, .slice q M.length d] w fun e w' => e = .returned (.bool (decide (L = M))) ∧ Dr w w' := by
  by_cases hle : L.length = M.length
  · have HL := hidI hle
    have HEQ := hidI (@lists_eq L M hle)
    have HNE := hidI (fun (k : Nat) => @lists_ne L M k)
    have H1 := hidI h1; have H2 := hidI h2
    have hne : ((L.length : Int) != (M.length : Int)) = false := by rw [hle]; simp
    clear hle h1 h2
    go_enter Tryz.func11, Tryz.ntmps11
    go_wp2
    clear hne
    go_loopw [5] (fun iv wr => ∃ k : Nat, k ≤ L.length ∧ iv = .int .i64 k ∧ Hid (∀ j (h1 : j < L.length) (h2 : j < M.length), j < k → L[j] = M[j]) ∧ Dr w wr) (fun iv _ => L.length - (intOf iv).toNat)
    case atStart => exact ⟨0, by omega, rfl, fun j _ _ h => absurd h (by omega), Dr.refl _⟩
    case round =>
      obtain ⟨k, hk, rfl, hj, hD⟩ := hrel
      by_cases hlt : k < L.length
      · have hltI : (k : Int) < (L.length : Int) := by omega
        have hlb : k < M.length := by rw [← HL.out]; exact hlt
        have hltJ : (k : Int) < (M.length : Int) := by omega
        obtain ⟨b1, o1, q1, d1, rfl, hb1, e1, s1⟩ := (hp.below (hD.below _)).get k hlt
        obtain ⟨b2, o2, q2, d2, rfl, hb2, e2, s2⟩ := (hq.below (hD.below _)).get k hlb
        have n1 := H1.out _ (List.getElem_mem hlt)
        have n2 := H2.out _ (List.getElem_mem hlb)
        have HJ : Hid (L[k] = M[k] → ∀ j (h1 : j < L.length) (h2 : j < M.length), j < k + 1 → L[j] = M[j]) := fun he j h1 h2 h => by
          by_cases e : j = k
          · subst e; exact he
          · exact hj.out j h1 h2 (by omega)
        have HN := hidI (HNE.out k hlt hlb)
        have HC := hidI (fun n : Nat => quiet_Dr (n := n) (r12Same_any L[k] M[k] q1 q2 d1 d2 (wr.drewN n) s1.1 s2.1 (by omega) (by omega)))
        generalize L[k] = x at *
        generalize M[k] = y at *
        clear hj
        by_cases he : x = y
        · subst he
          have HC : Hid (∀ n : Nat, Calls Tryz.prog 30 #[.slice q1 x.length d1, .slice q2 x.length d2] (wr.drewN n) fun e w'' => e = .returned (.bool true) ∧ ∃ m, w'' = wr.drewN m) := by
            have := HC.out; simp only [decide_true] at this; exact this
          have HJ := hidI (HJ.out rfl)
          clear HN
          go_upto_region 6 with fail
          (refine wp_region_quiet_lit (by kernel_rfl) (by kernel_rfl) ?_; (repeat (first | go_big_quiet_step ((go_at_call 30; with_reducible exact HC.out _)) | quiet_step ((go_at_call 30; with_reducible exact HC.out _)))); refine wpQuiet_nil ?_; intro _ hwq; obtain ⟨nq, hwq2⟩ := hwq; subst hwq2)
          go_wp2
          go_roundw
          case rel => exact ⟨k + 1, by omega, by go_num, HJ, hD.one _⟩
          case measure => simp [intOf]; omega
        · have HC : Hid (∀ n : Nat, Calls Tryz.prog 30 #[.slice q1 x.length d1, .slice q2 y.length d2] (wr.drewN n) fun e w'' => e = .returned (.bool false) ∧ ∃ m, w'' = wr.drewN m) := by
            have := HC.out; simp only [decide_eq_false he] at this; exact this
          have HX : Hid (decide (L = M) = false) := decide_eq_false (HN.out he)
          clear HN HJ he
          go_upto_region 6 with fail
          (refine wp_region_quiet_lit (by kernel_rfl) (by kernel_rfl) ?_; (repeat (first | go_big_quiet_step ((go_at_call 30; with_reducible exact HC.out _)) | quiet_step ((go_at_call 30; with_reducible exact HC.out _)))); refine wpQuiet_nil ?_; intro _ hwq; obtain ⟨nq, hwq2⟩ := hwq; subst hwq2)
          go_wp2
          go_ret
          exact ⟨ret_bool HX.out.symm, hD.one _⟩
      · obtain rfl : k = L.length := by omega
        have hltI : ¬ (L.length : Int) < (L.length : Int) := by omega
        have HX : Hid (decide (L = M) = true) := decide_eq_true (HEQ.out hj.out)
        clear hj
        go_wp2
        go_ret
        exact ⟨ret_bool HX.out.symm, hD⟩
  · have HX : Hid (decide (L = M) = false) := decide_eq_false (fun e => hle (by rw [e]))
    have hne : ((L.length : Int) != (M.length : Int)) = true := bne_iff_ne.2 (fun e => hle (by omega))
    clear hle
    go_enter Tryz.func11, Tryz.ntmps11
    go_wp2
    go_ret
    exact ⟨ret_bool HX.out.symm, Dr.refl _⟩
end Go.Proofs.YtjponanfpdmeoaaGreatDoor
namespace Go.Proofs.YtjponanfpdmeoaaGreatDoor
open Go.RowKit Go.Sort Go.Shelf Go.Lib

set_option maxRecDepth 100000 in
set_option maxHeartbeats 1000000 in
theorem rlkTable_any (w : World) : Calls Tryz.prog 14 #[] w (RetTb w) := by
  go_enter Tryz.func14, Tryz.ntmps14
  go_wp2
  refine bodyPost_ret (v := .agg #[.int .i64 2, .int .i64 3, .slice (some ⟨w.heap.size + 1, 0, none⟩) 4 4, .slice (some ⟨w.heap.size + 1 + 1, 0, none⟩) 4 4]) (by simp [results, Tryz.results14, go_sem]) rfl ?_
  have h1 := (VRow.new1 w (.cells #[.int .i64 2, .int .i64 3, .slice (some ⟨w.heap.size + 1, 0, none⟩) 4 4, .slice (some ⟨w.heap.size + 1 + 1, 0, none⟩) 4 4] 25) 9 (exT.base.map Value.string)).alloc (.cells (exT.swaps.flatMap swE).toArray 62)
  have h2 := VRow.new2 w (.cells #[.int .i64 2, .int .i64 3, .slice (some ⟨w.heap.size + 1, 0, none⟩) 4 4, .slice (some ⟨w.heap.size + 1 + 1, 0, none⟩) 4 4] 25) (.cells (exT.base.map Value.string).toArray 9) 62 (exT.swaps.flatMap swE)
  exact ⟨_, _, rfl, ⟨Sl.of_vrow h1, Sg.of_vrow (m := 3) (fun _ => rfl) h2, by decide, by decide, by decide, by decide +kernel, by decide +kernel⟩, (((RowKit.Below.refl _ _).alloc (Nat.le_refl _) _).alloc (by simp) _).alloc (by simp; omega) _⟩

set_option maxRecDepth 100000 in
set_option maxHeartbeats 4000000 in
theorem rlkBad1_any (T : Tb) (p1 p2 : Option Addr) (c1 c2 : Nat) (G : Gr) (p : Option Addr) (c : Nat) (i j : Nat) (w : World) (hin : TbIn w T p1 p2 c1 c2) (hG : Sg 3 w edE p G.es) (hf : fmd T = true) (hv : Vg G) (hq : G.q = T.q) (hi : i < T.base.length) (hj : j < T.base.length) :
    Calls Tryz.prog 21 #[(.agg #[.int .i64 T.q, .int .i64 T.n, .slice p1 T.base.length c1, .slice p2 T.swaps.length c2]), (.agg #[.int .i64 G.q, .int .i64 G.n, .slice p G.es.length c]), .int .i64 i, .int .i64 j] w fun e w' => e = .returned (.bool (!accA G (bget T.base i ++ bget T.base j))) ∧ RowKit.Below w.heap.size w w' := by
  obtain ⟨w0, hw0⟩ : ∃ w0, w0 = (w.alloc (.cells #[.int .i64 T.q, .int .i64 T.n, .slice p1 T.base.length c1, .slice p2 T.swaps.length c2] 25)).alloc (.cells #[.int .i64 G.q, .int .i64 G.n, .slice p G.es.length c] 28) := ⟨_, rfl⟩
  have b0 : VRow w0 w.heap.size 25 [.int .i64 T.q, .int .i64 T.n, .slice p1 T.base.length c1, .slice p2 T.swaps.length c2] := by subst hw0; exact (VRow.new w _ _).alloc _
  have d0 : VRow w0 (w.heap.size + 1) 28 [.int .i64 G.q, .int .i64 G.n, .slice p G.es.length c] := by subst hw0; exact VRow.new1 w _ _ _
  have hB0 : RowKit.Below w.heap.size w w0 := by subst hw0; exact ((RowKit.Below.refl _ _).alloc (Nat.le_refl _) _).alloc (by simp) _
  have hN := pre_all (fmd_split hf).1
  have hwd := wdP (G := G) hf hq hi hj
  have hs1 := hwd.s1; have hs2 := hwd.s2
  have HAC := hidI (fun (W : World) (hB : RowKit.Below w0.heap.size w0 W) => r11Accepts_any G p c (bget T.base i ++ bget T.base j) W (hG.below (hB0.trans (hB.mono hB0.size))) hv (by omega) hwd.chk (by rw [ByteArray.size_append]; omega))
  obtain ⟨bb, oo, rfl, hbb, hc⟩ := (hin.base.below hB0).get i hi
  have e0 := hc i hi
  have e1 := hc j hj
  rw [← bget_eq T.base i hi] at e0
  rw [← bget_eq T.base j hj] at e1
  have hml : (bget T.base i).size + (bget T.base j).size ≤ maxLen := by unfold maxLen; omega
  have hml2 : ¬ 9223372036854775807 < (bget T.base i).size + (bget T.base j).size := by omega
  have hiI : (i : Int) < (T.base.length : Int) := by omega
  have hjI : (j : Int) < (T.base.length : Int) := by omega
  have f2 := b0.at 2 rfl
  have g0 := d0.at 0 rfl; have g1 := d0.at 1 rfl; have g2 := d0.at 2 rfl
  have z0 := b0.lt; have z1 := d0.lt
  clear hin hG hf hv hq hN hwd hc b0 d0
  generalize bget T.base i = ba at *
  generalize bget T.base j = bj at *
  generalize accA G (ba ++ bj) = r at *
  go_enter Tryz.func21, Tryz.ntmps21
  go_upto_region 1 with fail
  rw [← hw0]
  clear hw0
  go_region_held3 (fun w' => w'.cell? ⟨w.heap.size, 2, none⟩ = some (.slice (some ⟨bb, oo, none⟩) T.base.length c1) ∧ w'.cell? ⟨w.heap.size + 1, 0, none⟩ = some (.int .i64 G.q) ∧ w'.cell? ⟨w.heap.size + 1, 1, none⟩ = some (.int .i64 G.n) ∧ w'.cell? ⟨w.heap.size + 1, 2, none⟩ = some (.slice p G.es.length c) ∧ w'.cell? ⟨bb, oo + i, none⟩ = some (.string ba) ∧ w'.cell? ⟨bb, oo + j, none⟩ = some (.string bj) ∧ RowKit.Below w0.heap.size w0 w')
    (first | (go_split_ands; refine ⟨?_, ?_, ?_, ?_, ?_, ?_, ?_⟩ <;> first | assumption | exact (hBa.cell (Nat.lt_of_lt_of_le z0 (RowKit.Below.size (by assumption)))).trans (by assumption) | exact (hBa.cell (Nat.lt_of_lt_of_le z1 (RowKit.Below.size (by assumption)))).trans (by assumption) | exact (hBa.cell (Nat.lt_of_lt_of_le hbb (RowKit.Below.size (by assumption)))).trans (by assumption) | exact RowKit.Below.trans (by assumption) (hBa.mono (RowKit.Below.size (by assumption))) | exact below_drewN (RowKit.Below.refl _ _) 1 | (go_keep; done)))
    (first
      | (go_at_call 41; go_split_ands; (with_reducible refine (HAC.out _ (by assumption)).mono ?_); rintro e wA ⟨rfl, hBa⟩)
      | fail)
  all_goals
    go_split_ands
    have hB9 : RowKit.Below w0.heap.size w0 wA := by assumption
    go_wp2_with fail
    go_ret
    exact ⟨rfl, hB0.trans (hB9.mono hB0.size)⟩
#print axioms rlkBad1_any

set_option maxRecDepth 100000 in
set_option maxHeartbeats 4000000 in
theorem rlkBad_any (T : Tb) (p1 p2 : Option Addr) (c1 c2 : Nat) (G : Gr) (p : Option Addr) (c : Nat) (w : World) (hin : TbIn w T p1 p2 c1 c2) (hG : Sg 3 w edE p G.es) (hl : G.es.length ≤ 9223372036854775807) :
    Calls Tryz.prog 8 #[(.agg #[.int .i64 T.q, .int .i64 T.n, .slice p1 T.base.length c1, .slice p2 T.swaps.length c2]), (.agg #[.int .i64 G.q, .int .i64 G.n, .slice p G.es.length c])] w (RetLLI (badA T G).1 (badA T G).2 w) := by
  obtain ⟨i0, hi0, hz0, hz1, hz3⟩ := info_parts infoSI
  obtain ⟨w0, hw0⟩ : ∃ w0, w0 = (w.alloc (.cells #[.int .i64 T.q, .int .i64 T.n, .slice p1 T.base.length c1, .slice p2 T.swaps.length c2] 25)).alloc (.cells #[.int .i64 G.q, .int .i64 G.n, .slice p G.es.length c] 28) := ⟨_, rfl⟩
  have b0 : VRow w0 w.heap.size 25 [.int .i64 T.q, .int .i64 T.n, .slice p1 T.base.length c1, .slice p2 T.swaps.length c2] := by subst hw0; exact (VRow.new w _ _).alloc _
  have d0 : VRow w0 (w.heap.size + 1) 28 [.int .i64 G.q, .int .i64 G.n, .slice p G.es.length c] := by subst hw0; exact VRow.new1 w _ _ _
  have hB0 : RowKit.Below w.heap.size w w0 := by subst hw0; exact ((RowKit.Below.refl _ _).alloc (Nat.le_refl _) _).alloc (by simp) _
  have HC := hidI (rlkFits_any T p1 p2 c1 c2 G p c w0 (hin.below hB0) (hG.below hB0) hl)
  have HFZ := hidI (@fit_zero T G)
  have HX1 : Hid (fitA T G = 0 → badA T G = (badL T G, 0)) := fun h => by unfold badA; rw [if_pos h]
  have HX2 : Hid (fitA T G ≠ 0 → badA T G = ([], fitA T G)) := fun h => by unfold badA; rw [if_neg h]
  have HB1 := hidI (fun (i j : Nat) (W : World) (hB : RowKit.Below w.heap.size w W) (hf : fmd T = true) (hv : Vg G) (hq : G.q = T.q) (hi : i < T.base.length) (hj : j < T.base.length) => rlkBad1_any T p1 p2 c1 c2 G p c i j W (hin.below hB) (hG.below hB) hf hv hq hi hj)
  have HLN : Hid (badL T G = badN T G T.base.length) := rfl
  have a0 := b0.at 0 rfl; have a1 := b0.at 1 rfl; have a2 := b0.at 2 rfl; have a3 := b0.at 3 rfl
  have e0 := d0.at 0 rfl; have e1 := d0.at 1 rfl; have e2 := d0.at 2 rfl
  clear hin hG
  generalize fitA T G = kf at *
  generalize badA T G = R at *
  generalize badL T G = BL at *
  go_enter Tryz.func8, Tryz.ntmps8
  go_upto_region 1 with fail
  rw [← hw0]
  clear hw0
  go_wp2_with fail
  refine HC.out.mono ?_
  rintro e w1 ⟨rfl, hB1⟩
  have x1 := hB0.trans (hB1.mono hB0.size)
  have t1 := b0.below hB1 b0.lt
  have g1 := d0.below hB1 d0.lt
  clear a0 a1 a2 a3 e0 e1 e2 b0 d0 hB1 HC
  by_cases hk : kf = 0
  rotate_left
  · have HR := hidI (HX2.out hk)
    have hkn : (kf != 0) = true := by simpa using hk
    clear hk HFZ HX1 HX2 HB1 t1 g1
    go_wp2
    go_ret2
    exact ⟨none, 0, [], by rw [HR.out]; rfl, by rw [HR.out]; exact LLr.nil _ _, x1⟩
  obtain ⟨h1, h2, h3⟩ := HFZ.out hk
  have HR := hidI (HX1.out hk)
  have hN := pre_all (fmd_split h1).1
  have hN16 : T.base.length ≤ 16 := by omega
  have HB2 := hidI (fun (i j : Nat) (W : World) (hB : RowKit.Below w.heap.size w W) (hi : i < T.base.length) (hj : j < T.base.length) => HB1.out i j W hB h1 h2 h3 hi hj)
  clear h1 h2 h3 HFZ HX1 HX2 HB1 hN
  subst hk
  obtain ⟨w2, hw2⟩ : ∃ w2, w2 = w1.alloc (.cells #[] 43) := ⟨_, rfl⟩
  have hB2 : RowKit.Below w1.heap.size w1 w2 := by subst hw2; exact (RowKit.Below.refl _ _).alloc (Nat.le_refl _) _
  have o2 : LLo w2 w1.heap.size (.slice (some ⟨w1.heap.size, 0, none⟩) 0 0) [] [] := by
    refine ⟨?_, rfl, fun _ h => by cases h⟩
    subst hw2
    exact own_new w1 w1.heap.size [] 43 (Nat.le_refl _) (by simp [maxLen])
  have x2 := x1.trans (hB2.mono x1.size)
  have t2 := t1.below hB2 t1.lt
  have g2 := g1.below hB2 g1.lt
  have z1 := t1.lt; have z2 := g1.lt
  have HT := hidI t2; have HG := hidI g2; have HX := hidI x2; have HO := hidI o2
  have hs2 := hB2.size
  generalize hbw : w1.heap.size = bw at *
  clear t1 g1 x1 hB2 o2
  go_upto_region 5 with fail
  rw [← hw2]
  clear hw2
  have f2 := t2.at 2 rfl
  clear t2 g2 x2
  go_wp2_with fail
  clear f2
  go_loopw [7, 8] (fun v7 iv W => ∃ (k : Nat) (X : List LE), k ≤ T.base.length ∧ iv = .int .i64 k ∧ LLo W bw v7 (badN T G k) X ∧ RowKit.Below bw w2 W ∧ w2.heap.size ≤ W.heap.size) (fun _ iv _ => T.base.length - (intOf iv).toNat)
  case atStart => exact ⟨0, [], by omega, rfl, HO.out, RowKit.Below.refl _ _, Nat.le_refl _⟩
  case round =>
    obtain ⟨k, X, hk, rfl, ho, hB, hzr⟩ := hrel
    have hT := HT.out.below hB (by omega)
    have f2 := hT.at 2 rfl
    by_cases hlt : k < T.base.length
    · have hltI : (k : Int) < (T.base.length : Int) := by omega
      have hle := badN_len T G k
      have HNS := hidI (badN_succ T G k)
      have HRZ := hidI (badR_zero T G k)
      have hkn : k * T.base.length ≤ 16 * 16 := Nat.mul_le_mul (by omega) hN16
      generalize badN T G k = L at *
      obtain ⟨wo, hwo⟩ : ∃ wo : World, wo = wr := ⟨_, rfl⟩
      go_wp2_with fail
      go_loopw [7, 9] (fun v7 iv W => ∃ (j : Nat) (Y : List LE), j ≤ T.base.length ∧ iv = .int .i64 j ∧ LLo W bw v7 (L ++ badR T G k j) Y ∧ RowKit.Below bw w2 W ∧ w2.heap.size ≤ W.heap.size) (fun _ iv _ => T.base.length - (intOf iv).toNat)
      case atStart => exact ⟨0, X, by omega, rfl, by rw [HRZ.out, List.append_nil]; exact ho, hB, hzr⟩
      case round =>
        clear ho hB hwo hT f2 hzr
        obtain ⟨j, Y, hj, rfl, ho, hB, hzr⟩ := hrel
        have hrl := badR_len T G k j
        have hT := HT.out.below hB (by omega)
        have hG := HG.out.below hB (by omega)
        have x4 : RowKit.Below w.heap.size w wr := HX.out.trans (hB.mono (by omega))
        have f0 := hT.at 0 rfl; have f1 := hT.at 1 rfl; have f2 := hT.at 2 rfl; have f3 := hT.at 3 rfl
        by_cases hlt2 : j < T.base.length
        · have hltJ : (j : Int) < (T.base.length : Int) := by omega
          have u0 := hG.at 0 rfl; have u1 := hG.at 1 rfl; have u2 := hG.at 2 rfl
          have HRA := hidI (fun h => @badR_acc T G k j h)
          have HRB := hidI (fun h => @badR_bad T G k j h)
          have HC := hidI (HB2.out k j wr x4 hlt hlt2)
          generalize accA G (bget T.base k ++ bget T.base j) = r at *
          clear hT hG
          cases r
          · have HQ := hidI (HRB.out rfl)
            go_wp2_with fail
            refine HC.out.mono ?_
            rintro e w4 ⟨rfl, hB4⟩
            have ho2 := ho.below hB4
            have hB3 := hB.trans (hB4.mono (by omega))
            have hs4 := hB4.size
            have hlw := ho2.lt
            clear HC ho hB hB4 x4 f0 f1 f2 f3 u0 u1 u2 HRA HRB HNS
            have hMl : (L ++ badR T G k j).length ≤ 272 := by rw [List.length_append]; omega
            have HQ : Hid (L ++ badR T G k (j + 1) = L ++ badR T G k j ++ [[(k : Int), (j : Int)]]) := by rw [Hid, HQ.out, List.append_assoc]
            generalize L ++ badR T G k j = M at *
            have hnew := cell_one_at (w4.alloc (.cells #[.int .i64 k, .int .i64 j] 3)) (.slice (some ⟨w4.heap.size, 0, none⟩) 2 2) 43 (w4.heap.size + 1) (by simp)
            have hownA := (ho2.own.alloc (.cells #[.int .i64 k, .int .i64 j] 3)).alloc (.cells #[.slice (some ⟨w4.heap.size, 0, none⟩) 2 2] 43)
            have n3 : VRow ((w4.alloc (.cells #[.int .i64 k, .int .i64 j] 3)).alloc (.cells #[.slice (some ⟨w4.heap.size, 0, none⟩) 2 2] 43)) w4.heap.size 3 ([(k : Int), (j : Int)].map (Value.int .i64)) := (VRow.new w4 _ _).alloc _
            have hBa : RowKit.Below w4.heap.size w4 ((w4.alloc (.cells #[.int .i64 k, .int .i64 j] 3)).alloc (.cells #[.slice (some ⟨w4.heap.size, 0, none⟩) 2 2] 43)) := ((RowKit.Below.refl _ _).alloc (Nat.le_refl _) _).alloc (by simp) _
            go_wp2_with (at_builtin; refine wpList_append_own _ rfl _ _ 32 rfl bw 43 i0 (.slice none 0 0) 1 24 Tryz.underlying32 hi0 hz0 hz1 hz3 rfl (by decide) _ _ _ rfl hownA ⟨w4.heap.size + 1, 0, none⟩ 1 1 [.slice (some ⟨w4.heap.size, 0, none⟩) 2 2] rfl rfl hnew (by simp [Value.oneCell']) (by simp [maxLen]; omega) (by omega) (by simp only [World.size_alloc]; omega) ?_; intro v' w6 hown' hgrow _)
            have hlw2 := hownA.lt
            have hk4 : KX0 3 w4 w6 := (KX0.below hBa).trans (KX0.grown hgrow (own_typed hownA) (by decide))
            have hl4 : SlT w6 (some ⟨w4.heap.size, 0, none⟩) [(k : Int), (j : Int)] := (slT_row n3).keep (KX0.grown hgrow (own_typed hownA) (by decide))
            have ho4 := ho2.snoc hown' hk4 hl4
            have hB6 : RowKit.Below bw w2 w6 := (hB3.trans (hBa.mono (by omega))).grown hgrow (by simp; omega) (fun j e => (hlw2 j e).1)
            have hs6 : w2.heap.size ≤ w6.heap.size := hB6.size
            go_roundw
            case rel => exact ⟨j + 1, _, by omega, by go_num, by rw [HQ.out]; exact ho4, hB6, hs6⟩
            case measure => simp [intOf]; omega
          · have HQ := hidI (HRA.out rfl)
            go_wp2_with fail
            refine HC.out.mono ?_
            rintro e w4 ⟨rfl, hB4⟩
            have ho2 := ho.below hB4
            have hB3 := hB.trans (hB4.mono (by omega))
            have hs4 := hB4.size
            clear HC ho hB hB4 x4 f0 f1 f2 f3 u0 u1 u2 HRA HRB HNS
            go_wp2_with fail
            go_roundw
            case rel => exact ⟨j + 1, Y, by omega, by go_num, by rw [HQ.out]; exact ho2, hB3, by omega⟩
            case measure => simp [intOf]; omega
        · obtain rfl : j = T.base.length := by omega
          have hltJ : ¬ (T.base.length : Int) < (T.base.length : Int) := by omega
          clear x4 hT hG
          go_wp2_with fail
          go_roundw
          case rel => exact ⟨k + 1, Y, by omega, by go_num, by rw [HNS.out]; exact ho, hB, hzr⟩
          case measure => simp [intOf]; omega
    · obtain rfl : k = T.base.length := by omega
      have hltI : ¬ (T.base.length : Int) < (T.base.length : Int) := by omega
      obtain ⟨q, d, rfl, hr⟩ := ho.read
      rw [← HLN.out] at hr
      have HRR := hidI hr
      have HL2 : Hid ((badN T G T.base.length).length = BL.length) := by rw [Hid, HLN.out]
      clear hT
      go_wp2_with fail
      go_ret2
      exact ⟨q, d, X, by show Ending.returned (.tuple #[.slice q (badN T G T.base.length).length d, .int .i64 0]) = _; rw [HL2.out, HR.out], by rw [HR.out]; exact HRR.out, HX.out.trans (hB.mono (by omega))⟩
#print axioms rlkBad_any
end Go.Proofs.YtjponanfpdmeoaaGreatDoor
namespace Go.Proofs.YtjponanfpdmeoaaGreatDoor
open Go.RowKit Go.Sort Go.Shelf Go.Lib

set_option maxRecDepth 100000 in
set_option maxHeartbeats 4000000 in
theorem rlkSame_eq (T : Tb) (p1 p2 q1 q2 : Option Addr) (c1 c2 d1 d2 : Nat) (w : World) (hin : TbIn w T p1 p2 c1 c2) (hin' : TbIn w T q1 q2 d1 d2) :
    Calls Tryz.prog 12 #[(.agg #[.int .i64 T.q, .int .i64 T.n, .slice p1 T.base.length c1, .slice p2 T.swaps.length c2]), .agg #[.int .i64 T.q, .int .i64 T.n, .slice q1 T.base.length d1, .slice q2 T.swaps.length d2]] w fun e w' => e = .returned (.bool true) ∧ RowKit.Below w.heap.size w w' := by
  obtain ⟨w0, hw0⟩ : ∃ w0, w0 = (w.alloc (.cells #[.int .i64 T.q, .int .i64 T.n, .slice p1 T.base.length c1, .slice p2 T.swaps.length c2] 25)).alloc (.cells #[.int .i64 T.q, .int .i64 T.n, .slice q1 T.base.length d1, .slice q2 T.swaps.length d2] 25) := ⟨_, rfl⟩
  have b0 : VRow w0 w.heap.size 25 [.int .i64 T.q, .int .i64 T.n, .slice p1 T.base.length c1, .slice p2 T.swaps.length c2] := by subst hw0; exact (VRow.new w _ _).alloc _
  have b1 : VRow w0 (w.heap.size + 1) 25 [.int .i64 T.q, .int .i64 T.n, .slice q1 T.base.length d1, .slice q2 T.swaps.length d2] := by subst hw0; exact VRow.new1 w _ _ _
  have hB0 : RowKit.Below w.heap.size w w0 := by subst hw0; exact ((RowKit.Below.refl _ _).alloc (Nat.le_refl _) _).alloc (by simp) _
  have HA := hidI (hin.below hB0); have HB := hidI (hin'.below hB0)
  have HB0 := hidI hB0; have HR := hidI b0; have HS := hidI b1
  have h1 := hin.l1; have h2 := hin.l2
  have k1 : (T.q != T.q) = false := by simp
  have k2 : (T.n != T.n) = false := by simp
  have k3 : ((T.base.length : Int) != (T.base.length : Int)) = false := by simp
  have k4 : ((T.swaps.length : Int) != (T.swaps.length : Int)) = false := by simp
  have f0 := b0.at 0 rfl; have f1 := b0.at 1 rfl; have f2 := b0.at 2 rfl; have f3 := b0.at 3 rfl
  have g0 := b1.at 0 rfl; have g1 := b1.at 1 rfl; have g2 := b1.at 2 rfl; have g3 := b1.at 3 rfl
  clear hin hin' hB0 b0 b1
  go_enter Tryz.func12, Tryz.ntmps12
  go_upto_region 1 with fail
  rw [← hw0]
  clear hw0
  go_wp2_with fail
  clear k1 k2 k3 k4 f0 f1 f2 f3 g0 g1 g2 g3
  go_loopw [5] (fun iv wr => ∃ k : Nat, k ≤ T.base.length ∧ iv = .int .i64 k ∧ Dr w0 wr) (fun iv _ => T.base.length - (intOf iv).toNat)
  case atStart => exact ⟨0, by omega, rfl, Dr.refl _⟩
  case round =>
    obtain ⟨k, hk, rfl, hD⟩ := hrel
    have ha := HR.out.dr hD; have hb := HS.out.dr hD
    have f2 := ha.at 2 rfl; have g2 := hb.at 2 rfl
    by_cases hlt : k < T.base.length
    · have hltI : (k : Int) < (T.base.length : Int) := by omega
      obtain ⟨bb, oo, rfl, hbb, hc⟩ := (HA.out.base.dr hD).get k hlt
      obtain ⟨bb', oo', rfl, hbb', hc'⟩ := (HB.out.base.dr hD).get k hlt
      have e0 := hc k hlt
      have e1 := hc' k hlt
      have hbt := bts_t (rfl : T.base[k] = T.base[k])
      have hbn : (T.base[k].toList != T.base[k].toList) = false := by simp
      clear hc hc' ha hb
      generalize T.base[k] = s at *
      go_wp2_with fail
      (refine wp_region_quiet_lit (by kernel_rfl) (by kernel_rfl) ?_; (repeat (first | go_big_quiet_step (fail) | quiet_step (fail))); refine wpQuiet_nil ?_; intro _ hwq; obtain ⟨nq, hwq2⟩ := hwq; subst hwq2)
      go_wp2_with fail
      go_roundw
      case rel => exact ⟨k + 1, by omega, by go_num, hD.one _⟩
      case measure => simp [intOf]; omega
    · obtain rfl : k = T.base.length := by omega
      have hltI : ¬ (T.base.length : Int) < (T.base.length : Int) := by omega
      obtain ⟨wo, hwo⟩ : ∃ wo, wo = wr := ⟨_, rfl⟩
      clear ha hb
      go_wp2_with fail
      clear f2 g2
      go_loopw [6] (fun iv wr => ∃ k : Nat, k ≤ T.swaps.length ∧ iv = .int .i64 k ∧ Dr w0 wr) (fun iv _ => T.swaps.length - (intOf iv).toNat)
      case atStart => exact ⟨0, by omega, rfl, hD⟩
      case round =>
        clear hD hwo
        obtain ⟨k, hk, rfl, hD⟩ := hrel
        have ha := HR.out.dr hD; have hb := HS.out.dr hD
        have f3 := ha.at 3 rfl; have g3 := hb.at 3 rfl
        by_cases hlt : k < T.swaps.length
        · have hltI : (k : Int) < (T.swaps.length : Int) := by omega
          obtain ⟨bb, oo, rfl, hbb, e0, e1, e2⟩ := (HA.out.swaps.below (hD.below _)).get3 k hlt rfl
          obtain ⟨bb', oo', rfl, hbb', n0, n1, n2⟩ := (HB.out.swaps.below (hD.below _)).get3 k hlt rfl
          generalize T.swaps[k] = s at *
          obtain ⟨si, sj, sw⟩ := s
          have hbt := bts_t (rfl : sw = sw)
          have hi1 : (si == si) = true := by simp
          have hj1 : (sj == sj) = true := by simp
          clear ha hb
          go_wp2_with fail
          (refine wp_region_quiet_lit (by kernel_rfl) (by kernel_rfl) ?_; (repeat (first | go_big_quiet_step (fail) | quiet_step (fail))); refine wpQuiet_nil ?_; intro _ hwq; obtain ⟨nq, hwq2⟩ := hwq; subst hwq2)
          go_wp2_with fail
          go_roundw
          case rel => exact ⟨k + 1, by omega, by go_num, hD.one _⟩
          case measure => simp [intOf]; omega
        · obtain rfl : k = T.swaps.length := by omega
          have hltI : ¬ (T.swaps.length : Int) < (T.swaps.length : Int) := by omega
          go_wp2_with fail
          go_ret
          exact ⟨rfl, HB0.out.trans (hD.below _)⟩
end Go.Proofs.YtjponanfpdmeoaaGreatDoor
namespace Go.Proofs.YtjponanfpdmeoaaGreatDoor
open Go.RowKit Go.Sort Go.Shelf Go.Lib

theorem badN_rows {T : Tb} {G : Gr} {k : Nat} : ∀ x ∈ badN T G k, x.length ≤ 100000 := fun x hx => by rw [badN_two x hx]; omega
theorem badA_rows {T : Tb} {G : Gr} : (∀ x ∈ (badA T G).1, x.length ≤ 100000) ∧ (badA T G).1.length ≤ 1000 := by
  unfold badA
  split
  · rename_i h
    obtain ⟨hf, _, _⟩ := fit_zero h
    have hN := pre_all (fmd_split hf).1
    have h1 := badN_len T G T.base.length
    have h2 : T.base.length * T.base.length ≤ 16 * 16 := Nat.mul_le_mul (by omega) (by omega)
    exact ⟨badN_rows, by show (badN T G T.base.length).length ≤ 1000; omega⟩
  · exact ⟨fun x hx => (by cases hx), by simp⟩

theorem rlkSame_ex (pa pb pc pd : Option Addr) (w : World) (h1 : TbIn w exT pa pb 4 4) (h2 : TbIn w exT pc pd 4 4) :
    Calls Tryz.prog 12 #[.agg #[.int .i64 2, .int .i64 3, .slice pa 4 4, .slice pb 4 4], .agg #[.int .i64 2, .int .i64 3, .slice pc 4 4, .slice pd 4 4]] w fun e w' => e = .returned (.bool true) ∧ RowKit.Below w.heap.size w w' := rlkSame_eq exT pa pb pc pd 4 4 4 4 w h1 h2

set_option maxRecDepth 100000 in
set_option maxHeartbeats 8000000 in
theorem lawChecks_any (T : Tb) (p1 p2 : Option Addr) (c1 c2 : Nat) (G : Gr) (p : Option Addr) (c : Nat) (w : World) (hin : TbIn w T p1 p2 c1 c2) (hG : Sg 3 w edE p G.es) (hGl : G.es.length ≤ 9223372036854775807) (ht : T10 w) :
    Calls Tryz.prog 3 #[(.agg #[.int .i64 T.q, .int .i64 T.n, .slice p1 T.base.length c1, .slice p2 T.swaps.length c2]), (.agg #[.int .i64 G.q, .int .i64 G.n, .slice p G.es.length c])] w fun e w' => e = .returned (.bool true) ∧ RowKit.Below w.heap.size w w' := by
  obtain ⟨w0, hw0⟩ : ∃ w0, w0 = (w.alloc (.cells #[.int .i64 T.q, .int .i64 T.n, .slice p1 T.base.length c1, .slice p2 T.swaps.length c2] 25)).alloc (.cells #[.int .i64 G.q, .int .i64 G.n, .slice p G.es.length c] 28) := ⟨_, rfl⟩
  have b0 : VRow w0 w.heap.size 25 [.int .i64 T.q, .int .i64 T.n, .slice p1 T.base.length c1, .slice p2 T.swaps.length c2] := by subst hw0; exact (VRow.new w _ _).alloc _
  have d0 : VRow w0 (w.heap.size + 1) 28 [.int .i64 G.q, .int .i64 G.n, .slice p G.es.length c] := by subst hw0; exact VRow.new1 w _ _ _
  have hB0 : RowKit.Below w.heap.size w w0 := by subst hw0; exact ((RowKit.Below.refl _ _).alloc (Nat.le_refl _) _).alloc (by simp) _
  have h1 := hin.l1; have h2 := hin.l2
  have a0 := b0.at 0 rfl; have a1 := b0.at 1 rfl; have a2 := b0.at 2 rfl; have a3 := b0.at 3 rfl
  have HGT := hidI (fun W => great_any T p1 p2 c1 c2 W h1 h2)
  have HCK0 := hidI (fun W (hB : RowKit.Below w.heap.size w W) => lkCheck_any T p1 p2 c1 c2 G p c W (hin.below hB) (hG.below hB) hGl (ht.below hB))
  have HRK0 := hidI (fun W (hB : RowKit.Below w.heap.size w W) => rlkCheck_any T p1 p2 c1 c2 G p c W (hin.below hB) (hG.below hB) hGl)
  have HBD := hidI (fun W (hB : RowKit.Below w.heap.size w W) => lkBad_any T p1 p2 c1 c2 G p c W (hin.below hB) (hG.below hB) hGl)
  have HRB := hidI (fun W (hB : RowKit.Below w.heap.size w W) => rlkBad_any T p1 p2 c1 c2 G p c W (hin.below hB) (hG.below hB) hGl)
  have HRW := hidI (@badA_rows T G)
  clear hin hG ht
  go_enter Tryz.func3, Tryz.ntmps3
  go_upto_region 1 with fail
  rw [← hw0]
  clear hw0
  go_wp2_with fail
  refine (HGT.out w0).mono ?_
  rintro e w1 ⟨rfl, hB1⟩
  have x1 := hB0.trans (hB1.mono hB0.size)
  have t1 := b0.below hB1 b0.lt
  have g1 := d0.below hB1 d0.lt
  have e0 := g1.at 0 rfl; have e1 := g1.at 1 rfl; have e2 := g1.at 2 rfl
  clear a0 a1 a2 a3 b0 d0 hB0 hB1 HGT
  have a0 := t1.at 0 rfl; have a1 := t1.at 1 rfl; have a2 := t1.at 2 rfl; have a3 := t1.at 3 rfl
  generalize greatT T = gt at *
  cases gt
  rotate_left
  · (go_wp2_with fail; refine (lkAwake_any _).mono ?_; rintro e w99 ⟨rfl, hB99⟩; go_wp2; go_ret; exact ⟨rfl, x1.trans (hB99.mono (x1).size)⟩)
  go_wp2_with fail
  refine (rGreat_any G p c w1 hGl).mono ?_
  rintro e w2 ⟨rfl, hB2⟩
  have x2 := x1.trans (hB2.mono x1.size)
  (have tb := t1.below hB2 t1.lt; have gb := g1.below hB2 g1.lt; clear a0 a1 a2 a3 e0 e1 e2 t1 g1; have t1 := tb; have g1 := gb; have a0 := tb.at 0 rfl; have a1 := tb.at 1 rfl; have a2 := tb.at 2 rfl; have a3 := tb.at 3 rfl; have e0 := gb.at 0 rfl; have e1 := gb.at 1 rfl; have e2 := gb.at 2 rfl; clear tb gb)
  clear hB2 x1
  generalize greatG G = gt at *
  cases gt
  rotate_left
  · (go_wp2_with fail; refine (lkAwake_any _).mono ?_; rintro e w99 ⟨rfl, hB99⟩; go_wp2; go_ret; exact ⟨rfl, x2.trans (hB99.mono (x2).size)⟩)
  generalize badA T G = BA at *
  obtain ⟨L, k⟩ := BA
  have hLr := HRW.out.2
  go_wp2_with fail
  refine (HBD.out w2 x2).mono ?_
  rintro e w3 ⟨q3, d3, X3, rfl, hr3, hB3⟩
  have x3 := x2.trans (hB3.mono x2.size)
  (have tb := t1.below hB3 t1.lt; have gb := g1.below hB3 g1.lt; clear a0 a1 a2 a3 e0 e1 e2 t1 g1; have t1 := tb; have g1 := gb; have a0 := tb.at 0 rfl; have a1 := tb.at 1 rfl; have a2 := tb.at 2 rfl; have a3 := tb.at 3 rfl; have e0 := gb.at 0 rfl; have e1 := gb.at 1 rfl; have e2 := gb.at 2 rfl; clear tb gb)
  clear hB3 x2 HBD
  go_wp2_with fail
  refine (HRB.out w3 x3).mono ?_
  rintro e w4 ⟨q4, d4, X4, rfl, hr4, hB4⟩
  have x4 := x3.trans (hB4.mono x3.size)
  have hr3 := hr3.below hB4
  (have tb := t1.below hB4 t1.lt; have gb := g1.below hB4 g1.lt; clear a0 a1 a2 a3 e0 e1 e2 t1 g1; have t1 := tb; have g1 := gb; have a0 := tb.at 0 rfl; have a1 := tb.at 1 rfl; have a2 := tb.at 2 rfl; have a3 := tb.at 3 rfl; have e0 := gb.at 0 rfl; have e1 := gb.at 1 rfl; have e2 := gb.at 2 rfl; clear tb gb)
  clear hB4 x3 HRB
  have HCK := hidI (fun W (hB : RowKit.Below w4.heap.size w4 W) => HCK0.out W (x4.trans (hB.mono x4.size)))
  have HRK := hidI (fun W (hB : RowKit.Below w4.heap.size w4 W) => HRK0.out W (x4.trans (hB.mono x4.size)))
  have HSS := hidI (fun W (hB : RowKit.Below w4.heap.size w4 W) => (rSameSets12_any L L X3 X4 q3 q4 d3 d4 W (hr3.below hB) (hr4.below hB) (by omega) (by omega) HRW.out.1 HRW.out.1).mono (fun e w' (h : e = .returned (.bool (decide (L = L))) ∧ Dr W w') => (show e = .returned (.bool true) ∧ RowKit.Below W.heap.size W w' from ⟨by rw [h.1, decide_eq_true (rfl : L = L)], h.2.below _⟩)))
  have z0 := t1.lt; have z1 := g1.lt
  have X4' := hidI x4
  clear hr3 hr4 HRW t1 g1 HCK0 HRK0 x4
  change L.length ≤ 1000 at hLr
  generalize chkL T G = kk at *
  have c1' : (kk == kk) = true := by simp
  have c2' : (k == k) = true := by simp
  go_wp2_with fail
  go_region_held3 (fun w' => w'.cell? ⟨w.heap.size, 0, none⟩ = some (.int .i64 T.q) ∧ w'.cell? ⟨w.heap.size, 1, none⟩ = some (.int .i64 T.n) ∧ w'.cell? ⟨w.heap.size, 2, none⟩ = some (.slice p1 T.base.length c1) ∧ w'.cell? ⟨w.heap.size, 3, none⟩ = some (.slice p2 T.swaps.length c2) ∧ w'.cell? ⟨w.heap.size + 1, 0, none⟩ = some (.int .i64 G.q) ∧ w'.cell? ⟨w.heap.size + 1, 1, none⟩ = some (.int .i64 G.n) ∧ w'.cell? ⟨w.heap.size + 1, 2, none⟩ = some (.slice p G.es.length c) ∧ RowKit.Below w4.heap.size w4 w')
    (first | (go_split_ands; exact ⟨(by first | assumption | exact (hBa.cell (Nat.lt_of_lt_of_le z0 (RowKit.Below.size (by assumption)))).trans (by assumption) | exact (hBb.cell (Nat.lt_of_lt_of_le z0 (RowKit.Below.size (by assumption)))).trans (by assumption) | exact (hBc.cell (Nat.lt_of_lt_of_le z0 (RowKit.Below.size (by assumption)))).trans (by assumption) | exact (hBd.cell (Nat.lt_of_lt_of_le z0 (RowKit.Below.size (by assumption)))).trans (by assumption) | exact (hBe.cell (Nat.lt_of_lt_of_le z0 (RowKit.Below.size (by assumption)))).trans (by assumption) | exact (hBf.cell (Nat.lt_of_lt_of_le z0 (RowKit.Below.size (by assumption)))).trans (by assumption) | exact (hBg.cell (Nat.lt_of_lt_of_le z0 (RowKit.Below.size (by assumption)))).trans (by assumption)), (by first | assumption | exact (hBa.cell (Nat.lt_of_lt_of_le z0 (RowKit.Below.size (by assumption)))).trans (by assumption) | exact (hBb.cell (Nat.lt_of_lt_of_le z0 (RowKit.Below.size (by assumption)))).trans (by assumption) | exact (hBc.cell (Nat.lt_of_lt_of_le z0 (RowKit.Below.size (by assumption)))).trans (by assumption) | exact (hBd.cell (Nat.lt_of_lt_of_le z0 (RowKit.Below.size (by assumption)))).trans (by assumption) | exact (hBe.cell (Nat.lt_of_lt_of_le z0 (RowKit.Below.size (by assumption)))).trans (by assumption) | exact (hBf.cell (Nat.lt_of_lt_of_le z0 (RowKit.Below.size (by assumption)))).trans (by assumption) | exact (hBg.cell (Nat.lt_of_lt_of_le z0 (RowKit.Below.size (by assumption)))).trans (by assumption)), (by first | assumption | exact (hBa.cell (Nat.lt_of_lt_of_le z0 (RowKit.Below.size (by assumption)))).trans (by assumption) | exact (hBb.cell (Nat.lt_of_lt_of_le z0 (RowKit.Below.size (by assumption)))).trans (by assumption) | exact (hBc.cell (Nat.lt_of_lt_of_le z0 (RowKit.Below.size (by assumption)))).trans (by assumption) | exact (hBd.cell (Nat.lt_of_lt_of_le z0 (RowKit.Below.size (by assumption)))).trans (by assumption) | exact (hBe.cell (Nat.lt_of_lt_of_le z0 (RowKit.Below.size (by assumption)))).trans (by assumption) | exact (hBf.cell (Nat.lt_of_lt_of_le z0 (RowKit.Below.size (by assumption)))).trans (by assumption) | exact (hBg.cell (Nat.lt_of_lt_of_le z0 (RowKit.Below.size (by assumption)))).trans (by assumption)), (by first | assumption | exact (hBa.cell (Nat.lt_of_lt_of_le z0 (RowKit.Below.size (by assumption)))).trans (by assumption) | exact (hBb.cell (Nat.lt_of_lt_of_le z0 (RowKit.Below.size (by assumption)))).trans (by assumption) | exact (hBc.cell (Nat.lt_of_lt_of_le z0 (RowKit.Below.size (by assumption)))).trans (by assumption) | exact (hBd.cell (Nat.lt_of_lt_of_le z0 (RowKit.Below.size (by assumption)))).trans (by assumption) | exact (hBe.cell (Nat.lt_of_lt_of_le z0 (RowKit.Below.size (by assumption)))).trans (by assumption) | exact (hBf.cell (Nat.lt_of_lt_of_le z0 (RowKit.Below.size (by assumption)))).trans (by assumption) | exact (hBg.cell (Nat.lt_of_lt_of_le z0 (RowKit.Below.size (by assumption)))).trans (by assumption)), (by first | assumption | exact (hBa.cell (Nat.lt_of_lt_of_le z1 (RowKit.Below.size (by assumption)))).trans (by assumption) | exact (hBb.cell (Nat.lt_of_lt_of_le z1 (RowKit.Below.size (by assumption)))).trans (by assumption) | exact (hBc.cell (Nat.lt_of_lt_of_le z1 (RowKit.Below.size (by assumption)))).trans (by assumption) | exact (hBd.cell (Nat.lt_of_lt_of_le z1 (RowKit.Below.size (by assumption)))).trans (by assumption) | exact (hBe.cell (Nat.lt_of_lt_of_le z1 (RowKit.Below.size (by assumption)))).trans (by assumption) | exact (hBf.cell (Nat.lt_of_lt_of_le z1 (RowKit.Below.size (by assumption)))).trans (by assumption) | exact (hBg.cell (Nat.lt_of_lt_of_le z1 (RowKit.Below.size (by assumption)))).trans (by assumption)), (by first | assumption | exact (hBa.cell (Nat.lt_of_lt_of_le z1 (RowKit.Below.size (by assumption)))).trans (by assumption) | exact (hBb.cell (Nat.lt_of_lt_of_le z1 (RowKit.Below.size (by assumption)))).trans (by assumption) | exact (hBc.cell (Nat.lt_of_lt_of_le z1 (RowKit.Below.size (by assumption)))).trans (by assumption) | exact (hBd.cell (Nat.lt_of_lt_of_le z1 (RowKit.Below.size (by assumption)))).trans (by assumption) | exact (hBe.cell (Nat.lt_of_lt_of_le z1 (RowKit.Below.size (by assumption)))).trans (by assumption) | exact (hBf.cell (Nat.lt_of_lt_of_le z1 (RowKit.Below.size (by assumption)))).trans (by assumption) | exact (hBg.cell (Nat.lt_of_lt_of_le z1 (RowKit.Below.size (by assumption)))).trans (by assumption)), (by first | assumption | exact (hBa.cell (Nat.lt_of_lt_of_le z1 (RowKit.Below.size (by assumption)))).trans (by assumption) | exact (hBb.cell (Nat.lt_of_lt_of_le z1 (RowKit.Below.size (by assumption)))).trans (by assumption) | exact (hBc.cell (Nat.lt_of_lt_of_le z1 (RowKit.Below.size (by assumption)))).trans (by assumption) | exact (hBd.cell (Nat.lt_of_lt_of_le z1 (RowKit.Below.size (by assumption)))).trans (by assumption) | exact (hBe.cell (Nat.lt_of_lt_of_le z1 (RowKit.Below.size (by assumption)))).trans (by assumption) | exact (hBf.cell (Nat.lt_of_lt_of_le z1 (RowKit.Below.size (by assumption)))).trans (by assumption) | exact (hBg.cell (Nat.lt_of_lt_of_le z1 (RowKit.Below.size (by assumption)))).trans (by assumption)), (by first | assumption | exact below_drewN (RowKit.Below.refl _ _) 1 | exact RowKit.Below.trans (by assumption) (hBa.mono (RowKit.Below.size (by assumption))) | exact RowKit.Below.trans (by assumption) (hBb.mono (RowKit.Below.size (by assumption))) | exact RowKit.Below.trans (by assumption) (hBc.mono (RowKit.Below.size (by assumption))) | exact RowKit.Below.trans (by assumption) (hBd.mono (RowKit.Below.size (by assumption))) | exact RowKit.Below.trans (by assumption) (hBe.mono (RowKit.Below.size (by assumption))) | exact RowKit.Below.trans (by assumption) (hBf.mono (RowKit.Below.size (by assumption))) | exact RowKit.Below.trans (by assumption) (hBg.mono (RowKit.Below.size (by assumption))))⟩) | (go_split_ands; refine ⟨?_, ?_, ?_, ?_, ?_, ?_, ?_, ?_⟩ <;> first | assumption | exact below_drewN (RowKit.Below.refl _ _) 1 | (go_keep; done)) | fail)
    (first
      | (go_at_call 9; go_split_ands; (with_reducible refine (HCK.out _ (by assumption)).mono ?_); rintro e wa ⟨rfl, hBa⟩)
      | (go_at_call 10; go_split_ands; (with_reducible refine (HRK.out _ (by assumption)).mono ?_); rintro e wb ⟨rfl, hBb⟩)
      | (go_at_call 11; go_split_ands; (with_reducible refine (HSS.out _ (by assumption)).mono ?_); rintro e wc ⟨rfl, hBc⟩)
      | (go_at_call 13; (with_reducible refine (lkTable_any _).mono ?_); rintro e wd ⟨pa, pb, rfl, hTa, hBd⟩)
      | (go_at_call 14; (with_reducible refine (rlkTable_any _).mono ?_); rintro e we ⟨pc, pd, rfl, hTb, hBe⟩)
      | (go_at_call 12; (with_reducible refine (rlkSame_ex pa pb pc pd _ ?_ ?_).mono ?_); (first | exact hTa.below hBe | exact hTa); (first | exact hTb | exact hTb.below hBd); rintro e wf ⟨rfl, hBf⟩)
      | (go_at_call 6; (with_reducible refine (lkAwake_any _).mono ?_); rintro e wg ⟨rfl, hBg⟩)
      | fail)
  all_goals
    go_split_ands
    have hB9 : RowKit.Below w4.heap.size w4 wg := by assumption
    go_wp2_with fail
    go_ret
    exact ⟨rfl, X4'.out.trans (hB9.mono X4'.out.size)⟩
#print axioms lawChecks_any
end Go.Proofs.YtjponanfpdmeoaaGreatDoor
namespace Go.Proofs.YtjponanfpdmeoaaGreatDoor
open Go.Joins Go.ChangeShapes Go.WideShapes Go.ChangeAt Go.RowKit Go.Deep

set_option maxRecDepth 100000 in
theorem lookaheadChecks_lifted (os : Os) (started : os.Started) (H : Type) (enc : TypeId × Value → H) :
    ReturnsInHanded {} Tryz.checked os 3 .any (fun w args => (Rows.lookaheadChecksSpec.pre enc Tryz.prog Tryz.f3 [] false w args ∧ laidMetH Tryz.prog Rows.lookaheadChecksRow.laid w) ∧ sizedMet enc Tryz.prog Tryz.f3 (OpenSpec.ofChange Rows.lookaheadChecksSpec) false w args)
      (Rows.lookaheadChecksSpec.post enc Tryz.prog Tryz.f3 false true false false) := by
  refine returnsInHanded_of_change_and (C := Tryz.checked) (X := fun w _ => laidMetH Tryz.prog Rows.lookaheadChecksRow.laid w) (fun _ _ _ hh h => h.of_heap hh) own started (by kernel_rfl) Tryz.func3
    (ChangeSpec.witness_shaped (enc := enc) (C := Tryz.checked) (os := os) (X := fun w _ => laidMetH Tryz.prog Rows.lookaheadChecksRow.laid w) false (World.doorLaid Tryz.prog 24 os) #[.agg #[.int .i64 0, .int .i64 0, .slice none 0 0, .slice none 0 0], .agg #[.int .i64 0, .int .i64 0, .slice none 0 0]] 8 rfl (World.shaped_of_RefB (by kernel_rfl) (by kernel_rfl)) (by kernel_rfl) (by kernel_rfl) (by kernel_rfl) (door_metN os _)) ?_
  intro W base args ds gs before hval0 hW _ _ hL _
  have hval : ∀ (j : Nat) t v, Tryz.f3.params[j]? = some t → args[j]? = some v → Value.okWide Tryz.prog W .any base t v := hval0
  have hW' := hW
  obtain ⟨p, q, hA0, hV, rfl, hfz, hnd⟩ := hW
  have hA : DataW.TrodAll enc Tryz.prog W 0 (fun _ => true) true Tryz.f3.params.toList args.toList ds p := hA0
  rw [Tryz.params3] at hA hval
  obtain ⟨v0, v1, d0, d1, p0, p1, rfl, rfl, rfl, h0, h1⟩ := trodAll_two hA
  obtain ⟨rfl, rfl⟩ := trodVars_none hV
  have hlt : ∀ x ∈ p0 ++ p1, x.block < W.heap.size := fun x hx => hW'.lt x (List.mem_append_left _ (by simpa using hx))
  obtain ⟨T0, q0, r0, c0, e0, rfl, hin0⟩ := table_in (hval 0 25 v0 rfl rfl) h0 (fun x hx => hlt x (by simp only [List.mem_append]; simp [hx]))
  obtain ⟨G1, q1, c1, rfl, s1, l1⟩ := graph_in (hval 1 28 v1 rfl rfl) h1 (fun x hx => hlt x (by simp only [List.mem_append]; simp [hx]))
  refine (lawChecks_any T0 q0 r0 c0 e0 G1 q1 c1 W hin0 s1 l1 (pow10_in hL)).mono fun e W' ⟨he, hB⟩ => ?_
  subst he
  refine ⟨_, rfl, law_post hW' rfl (by kernel_rfl) ?_ rfl rfl rfl hB⟩
  rw [Tryz.params3]
  intro t ht
  simp only [List.mem_cons, List.not_mem_nil, or_false] at ht
  rcases ht with rfl | rfl
  · exact readLook
  · exact readGraph

theorem lookaheadChecks_holds : Rows.LookaheadChecksSaid :=
  OpenClaim.holds_of_wide 3 Tryz.f3 rfl rfl rfl rfl rfl rfl rfl ⟨rfl, rfl, rfl, rfl, rfl⟩ rfl rfl rfl rfl rfl (by kernel_rfl) Tryz.func3 (by kernel_rfl)
    (of_decide_eq_true (by kernel_rfl)) (by unfold Func.isWrapper; rw [if_neg (of_decide_eq_false (by kernel_rfl))]; exact ⟨rfl, rfl⟩)
    (fun os started H enc _ => lookaheadChecks_lifted os started H enc)

theorem lookaheadChecks_card : Rows.LookaheadChecksCardSaid :=
  Claim7.holds_tied_plain_at .later [] [.data, .data, .data] true _ false
    lookaheadChecks_holds (fun _ h => by cases h) (by kernel_rfl) (fun _ h => by cases h) lookaheadChecks_row_tie rfl ⟨rfl, rfl⟩ (by kernel_rfl) rfl
    (fun f fn hf hfn => by
      obtain rfl : f = 3 := Option.some.inj ((show Tryz.prog.funcNamed "groove/groovelaw32.LookaheadChecks" = some 3 by kernel_rfl).symm.trans hf) |>.symm
      obtain rfl : fn = Tryz.f3 := (Option.some.inj (Tryz.func3.symm.trans hfn)).symm
      exact ⟨by kernel_rfl, fun j t ht => by
        rw [Tryz.params3] at ht
        rcases j with _ | _ | j
        · obtain rfl : t = 25 := by simpa using ht.symm
          exact (show Tryz.prog.wantsStandIn 25 = false by kernel_rfl)
        · obtain rfl : t = 28 := by simpa using ht.symm
          exact (show Tryz.prog.wantsStandIn 28 = false by kernel_rfl)
        · simp at ht⟩)
    (by kernel_rfl)
#print axioms lookaheadChecks_card
end Go.Proofs.YtjponanfpdmeoaaGreatDoor
