/-
  Words, plain lemmas and walks, merged: Rh, Qd, Cj, Sk, Ub, Sp, Sq, Sr.
-/
import Derived.Test.YtjponanfpdmeoaaDoorZii
import Derived.Test.YtjponanfpdmeoaaDoorZig
import Derived.Test.YtjponanfpdmeoaaDoorZie
import Derived.Test.YtjponanfpdmeoaaDoorZid
import Derived.Test.YtjponanfpdmeoaaDoorZih
set_option linter.unusedVariables false
set_option linter.unusedSimpArgs false
namespace Go.Proofs.YtjponanfpdmeoaaDoor
open Go.RowKit Go.Sort Go.Shelf Go.Lib

set_option maxRecDepth 100000 in
set_option maxHeartbeats 4000000 in
theorem lkCheck_any (T : Tb) (p1 p2 : Option Addr) (c1 c2 : Nat) (G : Gr) (p : Option Addr) (c : Nat) (w : World) (hT : TbIn w T p1 p2 c1 c2) (hG : Sg 3 w edE p G.es) (hl : G.es.length ≤ 9223372036854775807) (ht : T10 w) :
    Calls Tryd.prog 7 #[.agg #[.int .i64 T.q, .int .i64 T.n, .slice p1 T.base.length c1, .slice p2 T.swaps.length c2], (.agg #[.int .i64 G.q, .int .i64 G.n, .slice p G.es.length c])] w fun e w' => e = .returned (.int .i64 (chkL T G)) ∧ RowKit.Below w.heap.size w w' := by
  obtain ⟨i0, hi0, hz0, hz1, hz2⟩ := info_parts (show (Tryd.prog.info? 3).map (fun i => (i.zero, i.size, i.bytes)) = some (some (.int .i64 0), 1, 8) by kernel_rfl)
  obtain ⟨w0, hw0⟩ : ∃ w0, w0 = (w.alloc (.cells #[.int .i64 T.q, .int .i64 T.n, .slice p1 T.base.length c1, .slice p2 T.swaps.length c2] 25)).alloc (.cells #[.int .i64 G.q, .int .i64 G.n, .slice p G.es.length c] 28) := ⟨_, rfl⟩
  have b0 : VRow w0 w.heap.size 25 [.int .i64 T.q, .int .i64 T.n, .slice p1 T.base.length c1, .slice p2 T.swaps.length c2] := by subst hw0; exact (VRow.new w _ _).alloc _
  have b1 : VRow w0 (w.heap.size + 1) 28 [.int .i64 G.q, .int .i64 G.n, .slice p G.es.length c] := by subst hw0; exact VRow.new1 w _ _ _
  have hB0 : RowKit.Below w.heap.size w w0 := by subst hw0; exact ((RowKit.Below.refl _ _).alloc (Nat.le_refl _) _).alloc (by simp) _
  have HC := hidI (lkCheck0_any T p1 p2 c1 c2 G p c w0 (hT.below hB0) (hG.below hB0) hl)
  have HX := hidI (chkL_fit T G)
  have HFZ := hidI (@fit_zero T G)
  have HT := hidI hT; have HG := hidI hG; have H10 := hidI ht
  have a0 := b0.at 0 rfl; have a1 := b0.at 1 rfl; have a2 := b0.at 2 rfl; have a3 := b0.at 3 rfl
  have d0 := b1.at 0 rfl; have d1 := b1.at 1 rfl; have d2 := b1.at 2 rfl
  clear hT hG ht hl
  generalize fitA T G = k at *
  go_enter Tryd.func7, Tryd.ntmps7
  go_upto_region 1 with fail
  rw [← hw0]
  clear hw0
  go_wp2_with fail
  refine HC.out.mono ?_
  rintro e w1 ⟨rfl, hB1⟩
  have x1 := hB0.trans (hB1.mono hB0.size)
  have t1 := b0.below hB1 b0.lt
  have g1 := b1.below hB1 b1.lt
  clear HC a0 a1 a2 a3 d0 d1 d2 b0 b1 hB0 hB1
  by_cases hk : k = 0
  rotate_left
  · have HY : Hid (chkL T G = k) := by rw [Hid, HX.out, if_pos hk]
    have hkb : (k != 0) = true := by simpa using hk
    clear hk t1 g1
    go_wp2
    go_ret
    exact ⟨ret_int HY.out.symm, x1⟩
  obtain ⟨hf, hv, hqq⟩ := HFZ.out hk
  have HX2 : Hid (chkL T G = if rdbl T = false then 14 else kpA T G) := by rw [Hid, HX.out, hk]; rfl
  have HF := hidI hf; have HV := hidI hv; have HQQ := hidI hqq
  subst hk
  have HR := hidI (callsIn_wide.1 (lkReadable_in T p1 p2 c1 c2 w1 (HT.out.below x1) hf))
  have a0 := t1.at 0 rfl; have a1 := t1.at 1 rfl; have a2 := t1.at 2 rfl; have a3 := t1.at 3 rfl
  clear HX HFZ hf hv hqq
  generalize rdbl T = r at *
  go_wp2_with fail
  refine HR.out.mono ?_
  rintro e w2 ⟨rfl, hB2⟩
  have x2 := x1.trans (hB2.mono x1.size)
  have t2 := t1.below hB2 t1.lt
  have g2 := g1.below hB2 g1.lt
  clear a0 a1 a2 a3 t1 g1 x1 hB2 HR
  cases r
  · have HY : Hid (chkL T G = 14) := by rw [Hid, HX2.out]; rfl
    go_wp2
    go_ret
    exact ⟨ret_int HY.out.symm, x2⟩
  have HX3 : Hid (chkL T G = kpA T G) := by rw [Hid, HX2.out]; rfl
  clear HX2
  have a0 := t2.at 0 rfl; have a1 := t2.at 1 rfl; have a2 := t2.at 2 rfl; have a3 := t2.at 3 rfl
  go_wp2_with fail
  refine (lkPairsB_any T p1 p2 c1 c2 w2 (HT.out.swaps.below x2) HT.out.l2 (swaps_ok2 HF.out)).mono ?_
  rintro e w3 ⟨rfl, hSw, hB3⟩
  generalize w2.heap.size + 1 = mb at *
  have x3 := x2.trans (hB3.mono x2.size)
  have t3 := t2.below hB3 t2.lt
  have g3 := g2.below hB3 g2.lt
  clear a0 a1 a2 a3 t2 g2 x2 hB3
  obtain ⟨w4, hw4⟩ : ∃ w4, w4 = (w3.alloc (.cells #[.map (some mb)] 50)).alloc (.cells #[.int .i64 (-1), .slice none 0 0] 53) := ⟨_, rfl⟩
  have hB4 : RowKit.Below w3.heap.size w3 w4 := by subst hw4; exact ((RowKit.Below.refl _ _).alloc (Nat.le_refl _) _).alloc (by simp) _
  have s4 : VRow w4 w3.heap.size 50 [.map (some mb)] := by subst hw4; exact (VRow.new w3 _ _).alloc _
  have st4 : VRow w4 (w3.heap.size + 1) 53 [.int .i64 (-1), .slice none 0 0] := by subst hw4; exact VRow.new1 w3 _ _ _
  have hsz4 : w4.heap.size = w3.heap.size + 2 := by subst hw4; simp
  have x4 := x3.trans (hB4.mono x3.size)
  have t4 := t3.below hB4 t3.lt
  have g4 := g3.below hB4 g3.lt
  have hSw4 : SwB T.swaps w4 mb := MpB.same hSw (hB4.block mb hSw.lt)
  have hmb4 : mb < w3.heap.size := hSw.lt
  have d1 := g4.at 1 rfl
  have hlt3 : w.heap.size + 1 < w3.heap.size := g3.lt
  clear hSw t3 g3 x3 hB4
  go_upto_region 8 with fail
  rw [← hw4]
  clear hw4
  obtain ⟨n, hn⟩ : ∃ n : Nat, G.n = n := ⟨G.n.toNat, by have := HV.out.n1; omega⟩
  have hn64 : n ≤ 64 := by have := HV.out.n2; omega
  have HN : Hid (upto G.n.toNat = upto n) := by rw [Hid, hn]; rfl
  have HNN := hidI hn
  rw [hn] at d1
  have hO4 := World.ownsRow_nil w4 w4.heap.size 3 1
  have HG4 := hidI g4; have HT4 := hidI t4; have HS4 := hidI s4; have HSW4 := hidI hSw4; have HX4 := hidI x4
  clear hn t4 g4 s4 hSw4 x4
  go_wp2
  clear d1
  go_loopw [35] (fun iv wr => ∃ (k : Nat) (pk : Option Addr) (ck : Nat), k ≤ n ∧ iv = .int .i64 k ∧ VRow wr (w3.heap.size + 1) 53 [.int .i64 (-1), .slice pk k ck] ∧ wr.ownsRow w4.heap.size 3 1 (.slice pk k ck) k ((upto k).map (Value.int .i64)) ∧ RowKit.Below (w3.heap.size + 1) w4 wr) (fun iv _ => n - (intOf iv).toNat)
  case atStart => exact ⟨0, none, 0, by omega, rfl, st4, hO4, RowKit.Below.refl _ _⟩
  case round =>
    clear st4 hO4
    obtain ⟨k, pk, ck, hk, rfl, hst, hown, hB⟩ := hrel
    have s1 := hst.at 1 rfl
    by_cases hlt : k < n
    · have hltI : (k : Int) < (n : Int) := by omega
      have hown8 := hown.alloc (.cells #[.int .i64 k] 3)
      have hnew := cell_one_new wr (.int .i64 k) 3
      have hst8 := hst.alloc (.cells #[.int .i64 k] 3)
      have hB8 := hB.alloc (by have := hB.size; omega) (.cells #[.int .i64 k] 3)
      have hwz := hB.size
      have HU : Hid ((upto k).map (Value.int .i64) ++ [.int .i64 (k : Int)] = (upto (k + 1)).map (Value.int .i64)) := by rw [Hid, upto_succ, List.map_append]; rfl
      go_wp2_with (at_builtin; refine wpList_append_own _ rfl _ _ 35 rfl w4.heap.size 3 i0 (.int .i64 0) 1 8 Tryd.underlying35 hi0 hz0 hz1 hz2 rfl (by decide) _ _ _ rfl hown8 ⟨wr.heap.size, 0, none⟩ 1 1 [.int .i64 k] rfl rfl hnew (by simp [Value.oneCell']) (by simp only [maxLen]; omega) (by omega) (by rw [World.size_alloc]; omega) ?_; intro v' w9 hown' hgrow _; rw [HU.out] at hown'; obtain ⟨p9, c9, hv9, _⟩ := own_slT hown'; rw [upto_len] at hv9; subst hv9; have hst9 := hst8.grown hgrow (fun e => by have := (hown8.lt _ e.symm).1; omega); have hB9 := hB8.grown hgrow (by rw [World.size_alloc] at *; omega) (fun j e => by have := (hown8.lt j e).1; omega); have s9 := hst9.at 1 rfl; have f9 := hst9.frozen 1)
      go_roundw
      case rel => exact ⟨k + 1, p9, c9, by omega, by go_num, hst9.set (i := 1) _, (KX0.set (t := 3) hst9 1 _ (by decide)).own hown', hB9.setCell (Nat.le_refl _) _⟩
      case measure => simp [intOf]; omega
    · obtain rfl : k = n := by omega
      have hltI : ¬ (k : Int) < (k : Int) := by omega
      obtain ⟨p9, c9, he9, hsl⟩ := own_slT hown
      rw [upto_len] at he9
      simp only [Value.slice.injEq] at he9
      obtain ⟨rfl, _, rfl⟩ := he9
      have HOK : Hid (okP ((-1 : Int), upto k)) := ⟨⟨by show (-1 : Int) ≤ -1; omega, by show (-1 : Int) < 16; omega⟩, fun x hx => by have := mem_upto.1 hx; omega, by show (upto k).length ≤ 64; rw [upto_len]; exact hn64⟩
      have hXr : RowKit.Below w.heap.size w wr := HX4.out.trans (hB.mono (by omega))
      obtain ⟨ks, hks⟩ : ∃ ks : ByteArray, ks = ⟨(keyB (-1) (upto k)).toArray⟩ := ⟨_, rfl⟩
      have HKP : Hid (kP ((-1 : Int), upto k) = .string ks) := by rw [hks]; rfl
      have HK : Hid (∀ W, RowKit.Below wr.heap.size wr W → Calls Tryd.prog 19 #[.agg #[.int .i64 (-1), .slice pk k ck]] W fun e w' => e = .returned (.string ks) ∧ RowKit.Below W.heap.size W w') := fun W hW => by
        have h := lkKey_any (-1) (upto k) pk ck W HOK.out.1 (hsl.1.below hW) HOK.out.2.1 HOK.out.2.2 (H10.out.below (hXr.trans (hW.mono hXr.size)))
        rw [upto_len] at h; rw [hks]; exact h
      have HSL := hidI hsl
      have HST := hidI hst
      have HB := hidI hB; have HXR := hidI hXr
      have s0 := hst.at 0 rfl
      have hstl := hst.lt
      have hmm := @run_makeMap Tryd.prog
      clear hsl hst hB hXr hown hks
      go_upto_region 13 with fail
      clear hltI
      go_cut [9, 10] (fun vq vs wx => ∃ bq bs ms g, vq = .pointer (some ⟨bq, 0, none⟩) ∧ vs = .pointer (some ⟨bs, 0, none⟩) ∧ QI wr.heap.size bq bs ms g [((-1 : Int), upto k)] wx ∧ RowKit.Below wr.heap.size wr wx ∧ wr.heap.size ≤ bq ∧ wr.heap.size ≤ ms)
      case first =>
        refine region_inv (by kernel_rfl) (fun A => A.tmps.size = 103 ∧ A.eval (.tmp 7) = .pointer (some ⟨w3.heap.size + 1, 0, none⟩)) (I13 wr (.slice pk k ck) ks ((-1 : Int), upto k)) (by kernel_rfl) (fun l f W h => h.sz) ⟨rfl, rfl⟩ (I13.start (below_dN (RowKit.Below.refl _ _) 1)) ?_ ?_
        · rintro A ⟨hAs, hA7⟩ l f W i hI hi hli hr ho
          have hi' : i < 11 := hi
          have hS := hI.bel
          have c0 := (hS.cell hstl).trans s0
          have c1 := (hS.cell hstl).trans s1
          have hcases : i = 0 ∨ i = 1 ∨ i = 2 ∨ i = 3 ∨ i = 4 ∨ i = 5 ∨ i = 6 ∨ i = 7 ∨ i = 8 ∨ i = 9 ∨ i = 10 := by omega
          have e7 := fr_at0 (hI.dom 7 (by simp)) hA7
          clear hi hi'
          rcases hcases with rfl | rfl | rfl | rfl | rfl | rfl | rfl | rfl | rfl | rfl | rfl
          all_goals (have hli' := hli; simp at hli'; have hr' := hr; simp [rdyAt, Region.binds] at hr')
          · refine wpOp_step rfl (fun K hK => ?_)
            go_simp
            exact hK _ _ ⟨_, fr_put 45 _, hI.op0⟩
          · have h0 : dn l 0 = true := by simpa [dn] using hr'
            have n9 : dn l 9 = false := by cases hx : dn l 9 with | false => rfl | true => (have h9 := ho 9 hx; simp [rdyAt, Region.binds, hli'] at h9)
            have e45 := fr_at1 (hI.f45 h0) (show 45 < A.tmps.size by rw [hAs]; decide)
            refine wpOp_step rfl (fun K hK => ?_)
            go_simp
            exact hK _ _ ⟨_, fr_put 46 _, hI.op1 n9⟩
          · have n5 : dn l 5 = false := by cases hx : dn l 5 with | false => rfl | true => (have h9 := ho 5 hx; simp [rdyAt, Region.binds, hli'] at h9)
            have n6 : dn l 6 = false := by cases hx : dn l 6 with | false => rfl | true => (have h9 := ho 6 hx; simp [rdyAt, Region.binds, hli'] at h9)
            have n10 : dn l 10 = false := by cases hx : dn l 10 with | false => rfl | true => (have h9 := ho 10 hx; simp [rdyAt, Region.binds, hli'] at h9)
            refine wpOp_step rfl (fun K hK => ?_)
            go_simp
            exact hK _ _ ⟨_, fr_put 47 _, hI.op2 n5 n6 n10⟩
          · refine wpOp_step rfl (fun K hK => ?_)
            go_simp
            exact hK _ _ ⟨_, fr_put 48 _, hI.op3⟩
          · have h3 : dn l 3 = true := by simpa [dn] using hr'
            have e48 := fr_at1 (hI.f48 h3) (show 48 < A.tmps.size by rw [hAs]; decide)
            refine wpOp_step rfl (fun K hK => ?_)
            go_simp
            refine (HK.out W hS).mono ?_
            rintro e wB ⟨rfl, hBb⟩
            exact hK _ _ ⟨_, fr_put 49 _, (hI.keep hBb).op4⟩
          · have h2 : dn l 2 = true := by simpa [dn] using hr'.1
            have h4 : dn l 4 = true := by simpa [dn] using hr'.2
            obtain ⟨m, hm, hmw, hmb5, _⟩ := hI.f47 h2
            have hrun := first_run HOK.out HKP.out (hmb5 hli)
            have e47 := fr_at1 hm (show 47 < A.tmps.size by rw [hAs]; decide)
            have e49 := fr_at1 (hI.f49 h4) (show 49 < A.tmps.size by rw [hAs]; decide)
            refine wpOp_step rfl (fun K hK => ?_)
            go_simp
            exact hK _ _ ⟨_, rfl, hI.op5 HOK.out m hm (hmb5 hli) hmw⟩
          · have h2 : dn l 2 = true := by simpa [dn] using hr'.1
            obtain ⟨m, hm, hmw, _, _⟩ := hI.f47 h2
            have e47 := fr_at1 hm (show 47 < A.tmps.size by rw [hAs]; decide)
            refine wpOp_step rfl (fun K hK => ?_)
            go_simp
            exact hK _ _ ⟨_, fr_put 50 _, hI.op6 _ hm⟩
          · have n9 : dn l 9 = false := by cases hx : dn l 9 with | false => rfl | true => (have h9 := ho 9 hx; simp [rdyAt, Region.binds, hli'] at h9)
            refine wpOp_step rfl (fun K hK => ?_)
            go_simp
            exact hK _ _ ⟨_, fr_put 9 _, hI.op7 n9 _⟩
          · have n10 : dn l 10 = false := by cases hx : dn l 10 with | false => rfl | true => (have h9 := ho 10 hx; simp [rdyAt, Region.binds, hli'] at h9)
            refine wpOp_step rfl (fun K hK => ?_)
            go_simp
            exact hK _ _ ⟨_, fr_put 10 _, hI.op8 n10 _⟩
          · have h7 : dn l 7 = true := by simpa [dn] using hr'.1
            have h1 : dn l 1 = true := by simpa [dn] using hr'.2.1
            obtain ⟨b, v0, k1, k2, k3, _⟩ := hI.f9 h7
            obtain ⟨b', m1, m2, m3⟩ := hI.f46 h1
            have z0 := k3.frozen 0; have z1 := k3.at 0 rfl
            have e9 := fr_at1 k1 (show 9 < A.tmps.size by rw [hAs]; decide)
            have e46 := fr_at1 m1 (show 46 < A.tmps.size by rw [hAs]; decide)
            refine wpOp_step rfl (fun K hK => ?_)
            go_simp
            exact hK _ _ ⟨_, rfl, hI.op9 b _ _ k1 k2 k3 m1⟩
          · have h8 : dn l 8 = true := by simpa [dn] using hr'.1
            have h6 : dn l 6 = true := by simpa [dn] using hr'.2.1
            have h2 : dn l 2 = true := by
              have h9 := ho 6 h6
              simp [rdyAt, Region.binds] at h9
              simpa [dn] using h9.1
            obtain ⟨b, v0, k1, k2, k3, _⟩ := hI.f10 h8
            obtain ⟨m, hm, hmw, _, _⟩ := hI.f47 h2
            have z0 := k3.frozen 0; have z1 := k3.at 0 rfl
            have e10 := fr_at1 k1 (show 10 < A.tmps.size by rw [hAs]; decide)
            have e50 := fr_at1 ((hI.f50 h6).trans hm) (show 50 < A.tmps.size by rw [hAs]; decide)
            refine wpOp_step rfl (fun K hK => ?_)
            go_simp
            exact hK _ _ ⟨_, rfl, hI.op10 b _ _ k1 k2 k3 hm⟩
        · intro l f W hI hl
          obtain ⟨b9, v9, k1, k2, k3, k4⟩ := hI.f9 (hl 7 (by decide))
          obtain ⟨b10, v10, q1, q2, q3, q4⟩ := hI.f10 (hl 8 (by decide))
          obtain ⟨b1, m1, m2, m3⟩ := hI.f46 (hl 1 (by decide))
          obtain ⟨m, n1, n2, _, n4⟩ := hI.f47 (hl 2 (by decide))
          have hM := n4 (hl 5 (by decide))
          have k4 := k4 (hl 9 (by decide))
          have q4 := q4 (hl 10 (by decide))
          rw [m1] at k4
          rw [n1] at q4
          obtain rfl := Option.some.inj k4
          obtain rfl := Option.some.inj q4
          rw [fr_all hI.dom k1 q1 (hI.f45 (hl 0 (by decide))) m1 n1 (hI.f48 (hl 3 (by decide))) (hI.f49 (hl 4 (by decide))) ((hI.f50 (hl 6 (by decide))).trans n1)]
          have hQ : QI wr.heap.size b9 b10 m b1 [((-1 : Int), upto k)] W := by
            have hs := HSL.out.below hI.bel
            refine ⟨⟨[(((-1 : Int), upto k), (pk, ck))], 1, rfl, k3, ?_, ?_⟩, q3, hM⟩
            · have e : catQ [(((-1 : Int), upto k), (pk, ck))] = [.int .i64 (-1), .slice pk k ck] := by
                show [Value.int .i64 (-1), .slice pk (upto k).length ck] = _
                rw [upto_len]
              rw [e]
              exact row_own m3 m2
            · intro e he
              rw [List.mem_singleton.1 he]; exact hs
          have hBl := hI.bel
          clear m1 n1 k1 q1 k3 q3 m3 hM n4 hI hl
          go_simp
          go_wp2_with fail
          go_meet
          exact ⟨b9, b10, m, b1, rfl, rfl, hQ, hBl, k2, n2⟩
      case rest =>
        obtain ⟨bq, bs, ms, g, rfl, rfl, hQ, hBc, hbq, hms⟩ := hcut
        have kq : ∀ b, b < w3.heap.size + 1 → wc.heap[b]? = w4.heap[b]? := fun b hb => (hBc.block b (by have := HB.out.size; omega)).trans (HB.out.block b hb)
        have hTL : VRow wc w.heap.size 25 [.int .i64 T.q, .int .i64 T.n, .slice p1 T.base.length c1, .slice p2 T.swaps.length c2] := (kq _ (by omega)).trans HT4.out
        have hGL : VRow wc (w.heap.size + 1) 28 [.int .i64 G.q, .int .i64 G.n, .slice p G.es.length c] := (kq _ (by omega)).trans HG4.out
        have hSB : VRow wc w3.heap.size 50 [.map (some mb)] := (kq _ (by omega)).trans HS4.out
        have hSW : SwB T.swaps wc mb := MpB.same HSW4.out (kq _ (by omega))
        have hXC : RowKit.Below w.heap.size w wc := HXR.out.trans (hBc.mono HXR.out.size)
        have HCB : Hid (CB T G p1 p2 c1 c2 p c w (w.heap.size + 1) w3.heap.size mb wr.heap.size wc) := ⟨hTL, hGL, hSB, hSW, hXC, HT.out, HG.out, H10.out, by omega, by omega, by omega, by omega, hBc.size⟩
        have hbc : wr.heap.size ≤ wc.heap.size := hBc.size
        have HXC := hidI hXC
        have HKQ : Hid (kpN T G 1025 0 [((-1 : Int), upto k)] = kpA T G) := by
          unfold Hid kpA stP; rw [HN.out]
        have HOQ : Hid (OkQ G [((-1 : Int), upto k)]) := fun q hq => by
          rw [List.mem_singleton.1 hq]
          refine ⟨?_, by show (-1 : Int) ≤ -1; omega, by show (-1 : Int) < 16; omega⟩
          have := St.upto HV.out.n1
          rw [HN.out] at this; exact this
        generalize w.heap.size + 1 = gb at *
        generalize w3.heap.size = sb at *
        generalize wr.heap.size = bw at *
        clear HG4 HT4 HS4 HSW4 HX4 hBc hTL hGL hSB hSW hXC kq HB HXR HST HSL HK HKP HOK hmm s0 s1 hstl hsz4 hmb4 hlt3 HN HNN
        go_wp2
        go_loopw [12] (fun iv W => ∃ (i g' : Nat) (q : List Pl), iv = .int .i64 i ∧ i ≤ q.length ∧ 1 ≤ q.length ∧ q.length ≤ 1024 ∧ OkQ G q ∧ QI bw bq bs ms g' q W ∧ Hid (kpN T G (1025 - i) i q = kpA T G) ∧ RowKit.Below bw wc W) (fun iv _ => 1025 - (intOf iv).toNat)
        case atStart => exact ⟨0, g, [((-1 : Int), upto k)], rfl, by simp, by simp, by simp, HOQ.out, hQ, HKQ, RowKit.Below.refl _ _⟩
        case round =>
          clear hQ HOQ HKQ
          obtain ⟨i, g', q, rfl, hi1, hq1, hq2, hOq, hQ, hkp, hB⟩ := hrel
          have hwsz := hB.size
          by_cases hlt : i < q.length
          · have hltI : (i : Int) < (q.length : Int) := by omega
            obtain ⟨cap, pp, d, e0, e1, e2, hsl⟩ := hQ.get i hlt
            have hpl := hOq _ (List.getElem_mem hlt)
            have HKE : Hid ((rndP T G q[i] q).2 ≠ 0 → kpA T G = (rndP T G q[i] q).2) := fun he => by
              rw [← hkp.out, show 1025 - i = (1024 - i) + 1 by omega, kpN_err hlt he]
            have HKG : Hid ((rndP T G q[i] q).2 = 0 → kpN T G (1025 - (i + 1)) (i + 1) (rndP T G q[i] q).1 = kpA T G) := fun he => by
              rw [← hkp.out, show 1025 - i = (1025 - (i + 1)) + 1 by omega, kpN_go hlt he]
            have hgr := rnd_grw T G q[i] q
            have HRL : Hid (i + 1 ≤ (rndP T G q[i] q).1.length) := by have := hgr.pre.length_le; unfold Hid; omega
            clear hkp hgr
            generalize q[i] = pl at *
            obtain ⟨W1, hW1⟩ : ∃ W1, W1 = wr.alloc (.cells #[.int .i64 pl.1, .slice pp pl.2.length d] 53) := ⟨_, rfl⟩
            have hp1 : VRow W1 wr.heap.size 53 [.int .i64 pl.1, .slice pp pl.2.length d] := by subst hW1; exact VRow.new wr _ _
            have hB1 : RowKit.Below wr.heap.size wr W1 := by subst hW1; exact (RowKit.Below.refl _ _).alloc (Nat.le_refl _) _
            have hpq : bq < wr.heap.size := by obtain ⟨es, cap, _, h2, _⟩ := hQ.row; exact h2.lt
            have hpm : ms < wr.heap.size := hQ.seen.lt
            have hgl : wr.heap.size ≠ g' := by obtain ⟨cur, fz, e⟩ := hQ.gb; have := (Array.getElem?_eq_some_iff.1 e).1; omega
            have hCS : CSE G bw bq bs ms wr.heap.size pl pp d wc q W1 := ⟨g', hQ.below hB1, hgl, hp1, hsl.below hB1, hB.trans (hB1.mono (Nat.le_trans hbc hwsz)), hOq, hq1, hq2⟩
            have hCB1 := HCB.out.later (hB.trans (hB1.mono (Nat.le_trans hbc hwsz)))
            have f2 := hCB1.tl.at 2 rfl
            clear hQ hB hOq hsl hp1 hB1 hgl hCB1
            go_upto_region 20 with fail
            rw [← hW1]
            clear hW1 e0 e1 e2
            generalize wr.heap.size = pb at *
            have HPL := hidI hpl
            have HR0 : Hid (rB T G pl q 0 = (q, 0)) := rfl
            have HRN : Hid (∀ q', rB T G pl q T.base.length = (q', 0) → rndP T G pl q = rS T G pl (q', 0) T.swaps.length) := fun q' h => by unfold rndP; rw [h]
            have HRB : Hid (∀ j, j ≤ T.base.length → (rB T G pl q j).2 ≠ 0 → kpA T G = (rB T G pl q j).2) := fun j hj he => by
              rw [← rnd_base hj he]; exact HKE.out (by rw [rnd_base hj he]; exact he)
            have HSS : Hid (∀ q' j, rB T G pl q T.base.length = (q', 0) → j ≤ T.swaps.length → (rS T G pl (q', 0) j).2 ≠ 0 → kpA T G = (rS T G pl (q', 0) j).2) := fun q' j h hj he => by
              rw [← h] at he ⊢
              rw [← rnd_swap hj he]; exact HKE.out (by rw [rnd_swap hj he]; exact he)
            have hlen : T.base.length ≤ 16 ∧ T.swaps.length ≤ 64 := by have := pre_all (fmd_split HF.out).1; omega
            clear hpl HKE
            go_wp2
            clear f2
            go_loopw [66] (fun kv Wx => ∃ (j : Nat) (q' : List Pl), j ≤ T.base.length ∧ kv = .int .i64 j ∧ Hid (rB T G pl q j = (q', 0)) ∧ Hid (CSE G bw bq bs ms pb pl pp d wc q' Wx)) (fun kv _ => T.base.length - (intOf kv).toNat)
            case atStart => exact ⟨0, q, by omega, rfl, HR0, hCS⟩
            case round =>
              clear hCS HR0
              obtain ⟨j, q', hj, rfl, hrb, hcs⟩ := hrel
              by_cases hjt : j < T.base.length
              · have hjI : (j : Int) < (T.base.length : Int) := by omega
                obtain ⟨g9, hc9⟩ := hcs.out
                have hCB9 := HCB.out.later hc9.bel
                obtain ⟨b3, o3, rfl, hb3, hc3⟩ := (hCB9.tb.base.below hCB9.x).get j hjt
                have c0 := hc3 j hjt
                have r0 := hc9.row.at 0 rfl; have r1 := hc9.row.at 1 rfl
                have hok := base_okw HF.out j hjt
                rw [bget_eq _ _ hjt] at hok
                rw [← HQQ.out] at hok
                have HFR := hidI (free_step HCB.out hcs.out HF.out HPL.out.2 (j : Int) (WalkArith.wf_i64 (by omega)))
                have HWR := hidI (write_step HCB.out hcs.out HV.out HPL.out.1 hpq hpm hbq hms T.base[j] (j : Int) (by omega) hok.1 hok.2)
                have HN1 : Hid (frW T pl.1 (j : Int) = false → rB T G pl q (j + 1) = (q', 0)) := fun h => by rw [rB_succ, hrb.out, bsP_no h]
                have HN2 : Hid (frW T pl.1 (j : Int) = true → rB T G pl q (j + 1) = ((wrP G q' pl T.base[j] (j : Int)).1, (wrP G q' pl T.base[j] (j : Int)).2)) := fun h => by rw [rB_succ, hrb.out, bsP_go h, bget_eq _ _ hjt]
                generalize T.base[j] = wd at *
                generalize (wrP G q' pl wd (j : Int)).1 = q8 at *
                generalize (wrP G q' pl wd (j : Int)).2 = e8 at *
                generalize frW T pl.1 (j : Int) = fr at *
                clear hok hc3 hb3 hc9 hCB9 hrb
                go_wp2_with fail
                refine HFR.out.mono ?_
                rintro e w8 ⟨rfl, hw8⟩
                subst hw8
                cases fr
                · have HM1 := hidI (HN1.out rfl)
                  clear HN1 HN2
                  go_wp2
                  go_roundw
                  case rel => exact ⟨j + 1, q', by omega, by go_num, HM1, hcs⟩
                  case measure => simp [intOf]; omega
                · have HM2 := hidI (HN2.out rfl)
                  clear HN1 HN2
                  go_wp2_with fail
                  refine HWR.out.mono ?_
                  rintro e w9 ⟨rfl, hcs9⟩
                  have HC9 := hidI hcs9
                  clear hcs9 r0 r1 c0
                  by_cases he : e8 = 0
                  · subst he
                    go_wp2
                    go_roundw
                    case rel => exact ⟨j + 1, q8, by omega, by go_num, HM2, HC9⟩
                    case measure => simp [intOf]; omega
                  · have HY : Hid (chkL T G = e8) := by rw [Hid, HX3.out, HRB.out (j + 1) (by omega) (by rw [HM2.out]; exact he), HM2.out]
                    have heb : (e8 != 0) = true := by simpa using he
                    obtain ⟨g7, hc7⟩ := HC9.out
                    have hx9 := (HCB.out.later hc7.bel).x
                    clear he hc7
                    go_wp2
                    go_ret
                    exact ⟨ret_int HY.out.symm, hx9⟩
              · obtain rfl : j = T.base.length := by omega
                have hjI : ¬ (T.base.length : Int) < (T.base.length : Int) := by omega
                obtain ⟨g9, hc9⟩ := hcs.out
                have hCB9 := HCB.out.later hc9.bel
                have f3 := hCB9.tl.at 3 rfl
                have HRN2 := hidI (HRN.out q' hrb.out)
                have HSS2 : Hid (∀ j, j ≤ T.swaps.length → (rS T G pl (q', 0) j).2 ≠ 0 → kpA T G = (rS T G pl (q', 0) j).2) := fun j hj he => HSS.out q' j hrb.out hj he
                have HR0 : Hid (rS T G pl (q', 0) 0 = (q', 0)) := by unfold Hid rS; rw [List.take_zero]; rfl
                have HQP : Hid (q'.length ≤ 1024) := hc9.l2
                clear hc9 hCB9 HRN HSS HRB hrb
                go_wp2
                clear f3
                go_loopw [86] (fun kv Wx => ∃ (j : Nat) (q2 : List Pl), j ≤ T.swaps.length ∧ kv = .int .i64 j ∧ Hid (rS T G pl (q', 0) j = (q2, 0)) ∧ Hid (CSE G bw bq bs ms pb pl pp d wc q2 Wx)) (fun kv _ => T.swaps.length - (intOf kv).toNat)
                case atStart => exact ⟨0, q', by omega, rfl, HR0, hcs⟩
                case round =>
                  clear hcs HR0
                  obtain ⟨j, q2, hj, rfl, hrb, hcs⟩ := hrel
                  by_cases hjt : j < T.swaps.length
                  · have hjI2 : (j : Int) < (T.swaps.length : Int) := by omega
                    obtain ⟨g9, hc9⟩ := hcs.out
                    have hCB9 := HCB.out.later hc9.bel
                    obtain ⟨b3, o3, rfl, hb3, c0, c1, c2⟩ := (hCB9.tb.swaps.below hCB9.x).get3 j hjt rfl
                    have hok := swap_okw HF.out j hjt
                    rw [← HQQ.out] at hok
                    have hwf := (swaps_ok2 HF.out j hjt).1
                    obtain ⟨W7, hW7⟩ : ∃ W7, W7 = wr.alloc (.cells #[.int .i64 T.swaps[j].i, .int .i64 T.swaps[j].j, .string T.swaps[j].wd] 63) := ⟨_, rfl⟩
                    have hB7 : RowKit.Below wr.heap.size wr W7 := by subst hW7; exact (RowKit.Below.refl _ _).alloc (Nat.le_refl _) _
                    have s7 : VRow W7 wr.heap.size 63 [.int .i64 T.swaps[j].i, .int .i64 T.swaps[j].j, .string T.swaps[j].wd] := by subst hW7; exact VRow.new wr _ _
                    have hcs7 := hidI (hcs.out.below (Nat.le_trans hbc hc9.bel.size) hB7)
                    have hr7 := hc9.row.below hB7 hc9.row.lt
                    have r0 := hr7.at 0 rfl; have r1 := hr7.at 1 rfl
                    have s0 := s7.at 0 rfl; have s2 := s7.at 2 rfl
                    have HFR := hidI (free_step HCB.out hcs7.out HF.out HPL.out.2 T.swaps[j].i hwf)
                    have HWR := hidI (write_step HCB.out hcs7.out HV.out HPL.out.1 hpq hpm hbq hms T.swaps[j].wd (-1) (by omega) hok.1 hok.2)
                    have HN1 : Hid (frW T pl.1 T.swaps[j].i = false → rS T G pl (q', 0) (j + 1) = (q2, 0)) := fun h => by rw [rS_succ _ _ _ _ _ hjt, hrb.out, ssP_no h]
                    have HN2 : Hid (frW T pl.1 T.swaps[j].i = true → rS T G pl (q', 0) (j + 1) = ((wrP G q2 pl T.swaps[j].wd (-1)).1, (wrP G q2 pl T.swaps[j].wd (-1)).2)) := fun h => by rw [rS_succ _ _ _ _ _ hjt, hrb.out, ssP_go h]
                    generalize T.swaps[j] = sw at *
                    generalize (wrP G q2 pl sw.wd (-1)).1 = q8 at *
                    generalize (wrP G q2 pl sw.wd (-1)).2 = e8 at *
                    generalize frW T pl.1 sw.i = fr at *
                    clear hok hb3 hc9 hCB9 hrb hwf s7 hr7 hB7 hcs
                    go_upto_region 31 with fail
                    rw [← hW7]
                    clear hW7 c0 c1 c2
                    generalize wr.heap.size = sbx at *
                    go_wp2_with fail
                    refine HFR.out.mono ?_
                    rintro e w8 ⟨rfl, hw8⟩
                    subst hw8
                    cases fr
                    · have HM1 := hidI (HN1.out rfl)
                      clear HN1 HN2
                      go_wp2
                      go_roundw
                      case rel => exact ⟨j + 1, q2, by omega, by go_num, HM1, hcs7⟩
                      case measure => simp [intOf]; omega
                    · have HM2 := hidI (HN2.out rfl)
                      clear HN1 HN2
                      go_wp2_with fail
                      refine HWR.out.mono ?_
                      rintro e w9 ⟨rfl, hcs9⟩
                      have HC9 := hidI hcs9
                      clear hcs9 r0 r1 s0 s2
                      by_cases he : e8 = 0
                      · subst he
                        go_wp2
                        go_roundw
                        case rel => exact ⟨j + 1, q8, by omega, by go_num, HM2, HC9⟩
                        case measure => simp [intOf]; omega
                      · have HY : Hid (chkL T G = e8) := by rw [Hid, HX3.out, HSS2.out (j + 1) (by omega) (by rw [HM2.out]; exact he), HM2.out]
                        have heb : (e8 != 0) = true := by simpa using he
                        obtain ⟨g7, hc7⟩ := HC9.out
                        have hx9 := (HCB.out.later hc7.bel).x
                        clear he hc7
                        go_wp2
                        go_ret
                        exact ⟨ret_int HY.out.symm, hx9⟩
                  · obtain rfl : j = T.swaps.length := by omega
                    have hjI2 : ¬ (T.swaps.length : Int) < (T.swaps.length : Int) := by omega
                    obtain ⟨g9, hc9⟩ := hcs.out
                    have hrn : rndP T G pl q = (q2, 0) := by rw [HRN2.out, hrb.out]
                    have hkn := HKG.out (by rw [hrn])
                    have hil := HRL.out
                    rw [hrn] at hkn hil
                    have HKN := hidI hkn
                    have HC9 := hidI hc9
                    clear hkn hrn hc9 hcs hrb
                    go_wp2
                    go_roundw
                    case rel => exact ⟨i + 1, g9, q2, by go_num, hil, HC9.out.l1, HC9.out.l2, HC9.out.ok, HC9.out.qi, HKN, HC9.out.bel⟩
                    case measure => simp [intOf]; omega
          · have hltI : ¬ (i : Int) < (q.length : Int) := by omega
            obtain ⟨cap, e0⟩ := hQ.lenbox
            have HY : Hid (chkL T G = 0) := by rw [Hid, HX3.out, ← hkp.out, kpN_end hlt]
            have hx9 := (HCB.out.later hB).x
            clear hQ hB hOq hkp
            go_wp2
            go_ret
            exact ⟨ret_int HY.out.symm, hx9⟩
end Go.Proofs.YtjponanfpdmeoaaDoor
namespace Go.Proofs.YtjponanfpdmeoaaDoor
open Go.RowKit

theorem chk_split {T : Tb} {G : Gr} (h : chkL T G = 0) : fmd T = true ∧ Vg G ∧ G.q = T.q := by
  refine fit_zero ?_
  rw [chkL_fit] at h
  by_cases e : fitA T G = 0
  · exact e
  · rw [if_pos e] at h; exact h
theorem okw_app {q : Int} {a b : List UInt8} (h1 : Chg.okw q a = true) (h2 : Chg.okw q b = true) : Chg.okw q (a ++ b) = true := by
  unfold Chg.okw at *; rw [List.all_append, h1, h2]; rfl
theorem baseW_okw {T : Tb} (hf : fmd T = true) {x : Int} (h0 : 0 ≤ x) (h1 : x < T.base.length) : Chg.okw T.q (baseW T x).data.toList = true := (base_okw hf x.toNat (by omega)).1
theorem encW_okw {T : Tb} (hf : fmd T = true) : ∀ (m : Nat) (l : List Int), l.length ≤ m → l.any (outB T.base.length) = false → Chg.okw T.q (encW T l).data.toList = true
  | _, [], _, _ => by rw [encW_nil]; rfl
  | _, [x], _, ho => by
    have hx := outB_f (any_f ho 0 (by simp))
    simp only [List.getElem_cons_zero] at hx
    rw [encW_one]; exact baseW_okw hf hx.1 hx.2
  | 0, x :: y :: r, hn, _ => by simp at hn
  | m + 1, x :: y :: r, hn, ho => by
    have hx := outB_f (any_f ho 0 (by simp))
    simp only [List.getElem_cons_zero] at hx
    have ho1 : (y :: r).any (outB T.base.length) = false := by rw [List.any_cons] at ho; simp at ho ⊢; exact ho.2
    have ho2 : r.any (outB T.base.length) = false := by rw [List.any_cons] at ho1; simp at ho1 ⊢; exact ho1.2
    cases hs : swapW T.swaps x y with
    | none =>
      rw [encW_base hs, toL_app]
      exact okw_app (baseW_okw hf hx.1 hx.2) (encW_okw hf m (y :: r) (by simp at hn ⊢; omega) ho1)
    | some w =>
      obtain ⟨k, hk, _, _, h3⟩ := swapW_mem hs
      rw [encW_swap hs, toL_app]
      exact okw_app (by rw [← h3]; exact (swap_okw hf k hk).1) (encW_okw hf m r (by simp at hn ⊢; omega) ho2)
/-- All that the law asks of what is written for inputs. -/
structure InvL (T : Tb) (G : Gr) (l : List Int) (W : ByteArray) : Prop where
  enc : encA T l = (W, 0)
  dec : decA T W = (l, 0)
  acc : accA G W = true
  size : (W.size : Int) = l.length * T.n
  chk : Chg.wchk G.q W.data.toList = 0
  len : W.size ≤ 65536
theorem inv_all {T : Tb} {G : Gr} (h : chkL T G = 0) {l : List Int} (ho : l.any (outB T.base.length) = false) (hl : l.length ≤ 10) : InvL T G l (encW T l) := by
  obtain ⟨hf, hv, hq⟩ := chk_split h
  obtain ⟨h1, h2⟩ := inv_law h ho
  have hN := pre_all (fmd_split hf).1
  have hz := encW_size hf l ho
  have hb : l.length * T.n.toNat ≤ 10 * 8 := Nat.mul_le_mul hl (by omega)
  have hok := encW_okw hf l.length l (Nat.le_refl _) ho
  have hck : Chg.wchk T.q (encW T l).data.toList = 0 := Chg.wchk_ok _ _ (by omega) (by omega) (by rw [toL_len]; omega) hok
  refine ⟨encA_ok hf ho, decA_ok hf hck (by rw [hz]; exact Nat.mul_mod_left _ _) h1, h2, ?_, by rw [hq]; exact hck, by omega⟩
  rw [hz, Int.natCast_mul]
  congr 1
  omega
end Go.Proofs.YtjponanfpdmeoaaDoor
namespace Go.Proofs.YtjponanfpdmeoaaDoor
open Go.RowKit Go.Sort Go.Shelf Go.Lib

theorem endA_stop {G : Gr} {st l : List Int} {k : Nat} (h : endA G st (l.take k) = []) : endA G st l = [] := by
  have e : endA G st l = endA G (endA G st (l.take k)) (l.drop k) := by
    unfold endA
    rw [← List.foldl_append, List.take_append_drop]
  rw [e, h, endA_nil]

set_option maxRecDepth 100000 in
set_option maxHeartbeats 2000000 in
theorem lEnds_any (G : Gr) (p : Option Addr) (c : Nat) (st : List Int) (q : Option Addr) (d : Nat) (s : ByteArray) (w : World) (hin : Sg 3 w edE p G.es) (hst : Sl w (Value.int .i64) q st) (hv : Vg G) (hS : St G.n st) (hw : Chg.okw G.q s.data.toList = true) (hs : s.size ≤ 65536) :
    Calls Tryd.prog 31 #[(.agg #[.int .i64 G.q, .int .i64 G.n, .slice p G.es.length c]), .slice q st.length d, .string s] w (LsOut (endA G st (ltr s)) w) := by
  have HIN := hidI hin; have HV := hidI hv; have HS := hidI hS; have HW := hidI hw
  have HST := hidI hst
  clear hin hst hv hS hw
  obtain ⟨w0, hw0⟩ : ∃ w0, w0 = w.alloc (.cells #[.int .i64 G.q, .int .i64 G.n, .slice p G.es.length c] 28) := ⟨_, rfl⟩
  have b0 : VRow w0 w.heap.size 28 [.int .i64 G.q, .int .i64 G.n, .slice p G.es.length c] := by subst hw0; exact VRow.new w _ _
  have hB0 : RowKit.Below w.heap.size w w0 := by subst hw0; exact (RowKit.Below.refl _ _).alloc (Nat.le_refl _) _
  have hE0 : endA G st ((ltr s).take 0) = st := rfl
  go_enter Tryd.func31, Tryd.ntmps31
  go_wp2
  rw [← hw0]
  clear hw0
  go_loopw [1, 7] (fun sv iv wr => ∃ (k : Nat) (qk : Option Addr) (dk : Nat), k ≤ s.size ∧ sv = .slice qk (endA G st ((ltr s).take k)).length dk ∧ iv = .int .i64 k ∧ Sl wr (Value.int .i64) qk (endA G st ((ltr s).take k)) ∧ RowKit.Below w0.heap.size w0 wr) (fun _ iv _ => s.size - (intOf iv).toNat)
  case atStart => exact ⟨0, q, d, by omega, by rw [hE0], rfl, by rw [hE0]; exact HST.out.below hB0, RowKit.Below.refl _ _⟩
  case round =>
    obtain ⟨k, qk, dk, hk, rfl, rfl, hsl, hB⟩ := hrel
    have HSK := hidI (endA_st G st HS.out ((ltr s).take k))
    have HSTOP := hidI (@endA_stop G st (ltr s) k)
    have xr := hB0.trans (hB.mono hB0.size)
    by_cases hlt : k < s.size
    · have HN : Hid (endA G st ((ltr s).take (k + 1)) = nextA G (endA G st ((ltr s).take k)) (Chg.dig (s[k].toNat : Int))) := by rw [Hid, ltr_take s k hlt, endA_snoc]
      generalize endA G st ((ltr s).take k) = L at *
      have hltN : (k : Int) < (s.size : Int) := by omega
      by_cases hL : 0 < L.length
      · have hLi : (0 : Int) < (L.length : Int) := by omega
        have hd := okw_at HW.out k hlt
        have r0 := b0.below hB b0.lt
        go_upto_region 4 with fail
        refine region_tail 5 (by kernel_rfl) (by kernel_rfl) fun W hD => ?_
        have g0 := (r0.dr hD).at 0 rfl; have g1 := (r0.dr hD).at 1 rfl; have g2 := (r0.dr hD).at 2 rfl
        have hBW := hB.trans (hD.below _)
        have xw := xr.trans (hD.below _)
        have hslW := hsl.dr hD
        clear r0
        simp only [List.take_succ_cons, List.take_zero, List.drop_succ_cons, List.drop_zero]
        iterate 5 still_step
        refine wpStill_nil ?_
        go_wp2_with fail
        refine (lStep_any G p c L qk dk s[k] W (HIN.out.below xw) hslW HV.out HSK.out hd.1 hd.2).mono ?_
        rintro e w2 ⟨p', m', c', rfl, hown, hB2⟩
        obtain ⟨q2, d2, he, hs2⟩ := own_sl hown
        cases he
        go_wp2
        go_roundw
        case rel => exact ⟨k + 1, p', c', by omega, by rw [HN.out], by go_num, by rw [HN.out]; exact hs2, hBW.trans (hB2.mono hBW.size)⟩
        case measure => simp [intOf]; omega
      · have hLi : ¬ (0 : Int) < (L.length : Int) := by omega
        have HE : Hid (endA G st (ltr s) = L) := by
          have h0 : L = [] := List.eq_nil_of_length_eq_zero (by omega)
          rw [Hid, h0]; exact HSTOP.out h0
        clear hL
        go_wp2
        go_ret
        exact ⟨qk, dk, by rw [HE.out]; rfl, by rw [HE.out]; exact hsl, xr⟩
    · obtain rfl : k = s.size := by omega
      have hkk : ¬ ((s.size : Int)) < (s.size : Int) := by omega
      have HE : Hid (endA G st (ltr s) = endA G st ((ltr s).take s.size)) := by rw [Hid, ltr_all]
      generalize endA G st ((ltr s).take s.size) = L at *
      go_wp2
      go_ret
      exact ⟨qk, dk, by rw [HE.out]; rfl, by rw [HE.out]; exact hsl, xr⟩

set_option maxRecDepth 100000 in
set_option maxHeartbeats 1000000 in
theorem lAccepts_any (G : Gr) (p : Option Addr) (c : Nat) (s : ByteArray) (w : World) (hin : Sg 3 w edE p G.es) (hv : Vg G) (hq : G.q ≤ 16) (hs : s.size ≤ maxLen) (hc : Chg.wchk G.q s.data.toList = 0) (hl : s.size ≤ 65536) :
    Calls Tryd.prog 12 #[(.agg #[.int .i64 G.q, .int .i64 G.n, .slice p G.es.length c]), .string s] w fun e w' => e = .returned (.tuple #[.bool (accA G s), .int .i64 0]) ∧ RowKit.Below w.heap.size w w' := by
  have HIN := hidI hin; have HV := hidI hv; have HC := hidI hc
  clear hin hv hc
  obtain ⟨w0, hw0⟩ : ∃ w0, w0 = w.alloc (.cells #[.int .i64 G.q, .int .i64 G.n, .slice p G.es.length c] 28) := ⟨_, rfl⟩
  have b0 : VRow w0 w.heap.size 28 [.int .i64 G.q, .int .i64 G.n, .slice p G.es.length c] := by subst hw0; exact VRow.new w _ _
  have hB0 : RowKit.Below w.heap.size w w0 := by subst hw0; exact (RowKit.Below.refl _ _).alloc (Nat.le_refl _) _
  go_enter Tryd.func12, Tryd.ntmps12
  go_wp2_with fail
  rw [← hw0]
  clear hw0
  refine (lSpells_any G p c s w0 (HIN.out.below hB0) HV.out hq hs).mono ?_
  rw [HC.out]
  rintro e w1 ⟨rfl, hB1⟩
  have x1 := hB0.trans (hB1.mono hB0.size)
  have b1 := b0.below hB1 b0.lt
  go_upto_region 4 with fail
  have g0 := b1.at 0 rfl; have g1 := b1.at 1 rfl; have g2 := b1.at 2 rfl
  have zb : w.heap.size < w1.heap.size := b1.lt
  have HIX : Hid (∀ W, RowKit.Below w1.heap.size w1 W → Sg 3 W edE p G.es) := fun W h => HIN.out.below (x1.trans (h.mono x1.size))
  have HA : Hid (accA G s = decide (0 < (endA G (upto G.n.toNat) (ltr s)).length)) := rfl
  have HUP := hidI (St.upto HV.out.n1)
  have HOK := hidI (wchk_okw HC.out)
  clear b0 hB0 hB1 b1
  generalize hL : endA G (upto G.n.toNat) (ltr s) = L at *
  have HL := hidI hL
  clear hL
  go_cut [4, 5] (fun s4 s5 wx => s4 = .bool (decide (0 < L.length)) ∧ s5 = .int .i64 0 ∧ RowKit.Below w1.heap.size w1 wx)
  case first =>
    go_region_held3 (fun w' => w'.cell? ⟨w.heap.size, 0, none⟩ = some (.int .i64 G.q) ∧ w'.cell? ⟨w.heap.size, 1, none⟩ = some (.int .i64 G.n) ∧ w'.cell? ⟨w.heap.size, 2, none⟩ = some (.slice p G.es.length c) ∧ RowKit.Below w1.heap.size w1 w')
      (first | (go_split_ands; refine ⟨?_, ?_, ?_, ?_⟩ <;> first | assumption | (go_keep; done) | exact below_drewN (RowKit.Below.refl _ _) 1 | exact (hBa.cell (Nat.lt_of_lt_of_le zb (RowKit.Below.size (by assumption)))).trans (by assumption) | exact (hBb.cell (Nat.lt_of_lt_of_le zb (RowKit.Below.size (by assumption)))).trans (by assumption) | exact RowKit.Below.trans (by assumption) (hBa.mono (RowKit.Below.size (by assumption))) | exact RowKit.Below.trans (by assumption) (hBb.mono (RowKit.Below.size (by assumption)))))
      (first
        | (go_at_call 32; go_split_ands; refine (lStates_any G p c _ HV.out).mono ?_; rintro e wA ⟨q, d, rfl, hsl, hBa⟩)
        | (go_at_call 31; go_split_ands; refine (lEnds_any G p c (upto G.n.toNat) q d s _ (HIX.out _ (by assumption)) hsl HV.out HUP.out HOK.out hl).mono ?_; rw [HL.out]; rintro e wB ⟨q3, d3, rfl, _, hBb⟩))
    all_goals
      go_wp2_with fail
      go_meet
      exact ⟨rfl, rfl, RowKit.Below.trans (by assumption) (hBb.mono (RowKit.Below.size (by assumption)))⟩
  case rest =>
    obtain ⟨rfl, rfl, hB2⟩ := hcut
    go_wp2
    go_ret2
    refine ⟨?_, x1.trans (hB2.mono x1.size)⟩
    rw [HA.out]; rfl
end Go.Proofs.YtjponanfpdmeoaaDoor
namespace Go.Proofs.YtjponanfpdmeoaaDoor
open Go.RowKit Go.Sort Go.Shelf Go.Lib

set_option maxRecDepth 100000 in
set_option maxHeartbeats 4000000 in
theorem lawInv_any (T : Tb) (p1 p2 : Option Addr) (c1 c2 : Nat) (G : Gr) (p : Option Addr) (c : Nat) (l : List UInt8) (pl : Option Addr) (cl : Nat) (w : World) (hin : TbIn w T p1 p2 c1 c2) (hG : Sg 3 w edE p G.es) (hGl : G.es.length ≤ 9223372036854775807) (hL : Sl w u8v pl l) (hll : l.length ≤ 9223372036854775807) (ht : T10 w) :
    Calls Tryd.prog 3 #[.agg #[.int .i64 T.q, .int .i64 T.n, .slice p1 T.base.length c1, .slice p2 T.swaps.length c2], (.agg #[.int .i64 G.q, .int .i64 G.n, .slice p G.es.length c]), .slice pl l.length cl] w fun e w' => e = .returned (.bool true) ∧ RowKit.Below w.heap.size w w' := by
  obtain ⟨w0, hw0⟩ : ∃ w0, w0 = (w.alloc (.cells #[.int .i64 T.q, .int .i64 T.n, .slice p1 T.base.length c1, .slice p2 T.swaps.length c2] 25)).alloc (.cells #[.int .i64 G.q, .int .i64 G.n, .slice p G.es.length c] 28) := ⟨_, rfl⟩
  have b0 : VRow w0 w.heap.size 25 [.int .i64 T.q, .int .i64 T.n, .slice p1 T.base.length c1, .slice p2 T.swaps.length c2] := by subst hw0; exact (VRow.new w _ _).alloc _
  have d0 : VRow w0 (w.heap.size + 1) 28 [.int .i64 G.q, .int .i64 G.n, .slice p G.es.length c] := by subst hw0; exact VRow.new1 w _ _ _
  have hB0 : RowKit.Below w.heap.size w w0 := by subst hw0; exact ((RowKit.Below.refl _ _).alloc (Nat.le_refl _) _).alloc (by simp) _
  have HT := hidI hin; have HG := hidI hG; have H10 := hidI ht; have HL := hidI hL
  have h1 := hin.l1; have h2 := hin.l2
  have a0 := b0.at 0 rfl; have a1 := b0.at 1 rfl; have a2 := b0.at 2 rfl; have a3 := b0.at 3 rfl
  have hg1 := fun W => great_any T p1 p2 c1 c2 W h1 h2
  have HGT := hidI hg1
  have HCK := hidI (fun W (hB : RowKit.Below w.heap.size w W) => lkCheck_any T p1 p2 c1 c2 G p c W (hin.below hB) (hG.below hB) hGl (ht.below hB))
  have HIV := hidI (fun (h : chkL T G = 0) (l : List Int) => @inv_all T G h l)
  have HSP := hidI (fun (h : chkL T G = 0) => chk_split h)
  clear hin hG ht hL hg1
  go_enter Tryd.func3, Tryd.ntmps3
  go_upto_region 1 with fail
  rw [← hw0]
  clear hw0
  go_wp2_with fail
  refine (HGT.out w0).mono ?_
  rintro e w1 ⟨rfl, hB1⟩
  have x1 := hB0.trans (hB1.mono hB0.size)
  have t1 := b0.below hB1 b0.lt
  have g1 := d0.below hB1 d0.lt
  have e0 := g1.at 0 rfl; have e1 := g1.at 1 rfl; have e2 := g1.at 2 rfl
  clear a0 a1 a2 a3 b0 d0 hB0 hB1 HGT
  have a0 := t1.at 0 rfl; have a1 := t1.at 1 rfl; have a2 := t1.at 2 rfl; have a3 := t1.at 3 rfl
  generalize greatT T = gt at *
  cases gt
  rotate_left
  · (go_wp2_with fail; refine (lkAwake_any _).mono ?_; rintro e w99 ⟨rfl, hB99⟩; go_wp2; go_ret; exact ⟨rfl, x1.trans (hB99.mono (x1).size)⟩)
  go_wp2_with fail
  refine (rGreat_any G p c w1 hGl).mono ?_
  rintro e w2 ⟨rfl, hB2⟩
  have x2 := x1.trans (hB2.mono x1.size)
  (have tb := t1.below hB2 t1.lt; have gb := g1.below hB2 g1.lt; clear a0 a1 a2 a3 e0 e1 e2 t1 g1; have t1 := tb; have g1 := gb; have a0 := tb.at 0 rfl; have a1 := tb.at 1 rfl; have a2 := tb.at 2 rfl; have a3 := tb.at 3 rfl; have e0 := gb.at 0 rfl; have e1 := gb.at 1 rfl; have e2 := gb.at 2 rfl; clear tb gb)
  clear hB2 x1
  generalize greatG G = gt at *
  cases gt
  rotate_left
  · (go_wp2_with fail; refine (lkAwake_any _).mono ?_; rintro e w99 ⟨rfl, hB99⟩; go_wp2; go_ret; exact ⟨rfl, x2.trans (hB99.mono (x2).size)⟩)
  by_cases h10 : (10 : Int) < (l.length : Int)
  · (go_wp2_with fail; refine (lkAwake_any _).mono ?_; rintro e w99 ⟨rfl, hB99⟩; go_wp2; go_ret; exact ⟨rfl, x2.trans (hB99.mono (x2).size)⟩)
  have hl10 : l.length ≤ 10 := by omega
  have hd10 : decide ((10 : Int) < (l.length : Int)) = false := decide_eq_false h10
  clear h10
  go_wp2_with fail
  refine (HCK.out w2 x2).mono ?_
  rintro e w3 ⟨rfl, hB3⟩
  have x3 := x2.trans (hB3.mono x2.size)
  (have tb := t1.below hB3 t1.lt; have gb := g1.below hB3 g1.lt; clear a0 a1 a2 a3 e0 e1 e2 t1 g1; have t1 := tb; have g1 := gb; have a0 := tb.at 0 rfl; have a1 := tb.at 1 rfl; have a2 := tb.at 2 rfl; have a3 := tb.at 3 rfl; have e0 := gb.at 0 rfl; have e1 := gb.at 1 rfl; have e2 := gb.at 2 rfl; clear tb gb)
  clear hB3 x2 HCK
  by_cases hk : chkL T G = 0
  rotate_left
  · have hkn : (chkL T G != 0) = true := by simpa using hk
    clear HIV HSP hk
    generalize chkL T G = kk at *
    (go_wp2_with fail; refine (lkAwake_any _).mono ?_; rintro e w99 ⟨rfl, hB99⟩; go_wp2; go_ret; exact ⟨rfl, x3.trans (hB99.mono (x3).size)⟩)
  have hIV := HIV.out hk
  have hSP := HSP.out hk
  clear HIV HSP
  rw [hk]
  clear hk
  have hN := pre_all (fmd_split hSP.1).1
  have hb0 : 0 < T.base.length := by omega
  have hz : ((T.base.length : Int) == 0) = false := by simpa using (by omega : ¬ T.base.length = 0)
  have hpk := picks_ok hb0 l
  have hpl : (picks T.base.length l).length = l.length := by simp [picks]
  have hall := hIV (picks T.base.length l) hpk (by omega)
  have HALL := hidI hall
  have HV := hidI hSP.2.1
  have HQ : Hid (G.q ≤ 16) := by unfold Hid; rw [hSP.2.2]; omega
  have hpl10 : (picks T.base.length l).length ≤ 10 := by omega
  have HSO := hidI (fun W (hB : RowKit.Below w.heap.size w W) => lkSome_any T p1 p2 c1 c2 l pl cl W (HL.out.below hB) (by omega) hb0 h1)
  clear hIV hSP hN hpk hpl hall
  generalize picks T.base.length l = L at *
  go_wp2_with fail
  refine (HSO.out w3 x3).mono ?_
  rintro e w4 ⟨ps, cs, rfl, hs4, hcs, hB4⟩
  have x4 := x3.trans (hB4.mono x3.size)
  (have tb := t1.below hB4 t1.lt; have gb := g1.below hB4 g1.lt; clear a0 a1 a2 a3 e0 e1 e2 t1 g1; have t1 := tb; have g1 := gb; have a0 := tb.at 0 rfl; have a1 := tb.at 1 rfl; have a2 := tb.at 2 rfl; have a3 := tb.at 3 rfl; have e0 := gb.at 0 rfl; have e1 := gb.at 1 rfl; have e2 := gb.at 2 rfl; clear tb gb)
  clear hB4 x3 HSO
  have hmx : ∀ w : World, (Builtin.max_ #[32, 32, 32] 32 #[.int .i64 0, .int .i64 0, .int .i64 0]).run Tryd.prog w = .ok (.int .i64 0) w := fun _ => by kernel_rfl
  have hsz := HALL.out.size
  have hn8 := HALL.out.len
  have hq : (((encW T L).size : Int) == (L.length : Int) * T.n) = true := by rw [hsz]; simp
  have hwr : IntKind.i64.wrap ((L.length : Int) * T.n) = (L.length : Int) * T.n := IntWalk.i64_in _ (by rw [← hsz]; omega)
  have HE := hidI HALL.out.enc; have HD := hidI HALL.out.dec; have HA := hidI HALL.out.acc; have HCK := hidI HALL.out.chk
  clear hsz HALL
  generalize encW T L = W at *
  go_wp2_with fail
  refine (lkEncode_r T p1 p2 c1 c2 L ps cs w4 (HT.out.below x4) hs4 (by omega) hcs W 0 HE.out).mono ?_
  rintro e w5 ⟨rfl, hB5⟩
  have x5 := x4.trans (hB5.mono x4.size)
  have hs5 := hs4.below hB5
  (have tb := t1.below hB5 t1.lt; have gb := g1.below hB5 g1.lt; clear a0 a1 a2 a3 e0 e1 e2 t1 g1; have t1 := tb; have g1 := gb; have a0 := tb.at 0 rfl; have a1 := tb.at 1 rfl; have a2 := tb.at 2 rfl; have a3 := tb.at 3 rfl; have e0 := gb.at 0 rfl; have e1 := gb.at 1 rfl; have e2 := gb.at 2 rfl; clear tb gb)
  clear hB5 x4 hs4
  go_wp2_with fail
  refine (lkDecode_any T p1 p2 c1 c2 W w5 (HT.out.below x5) (by unfold maxLen; omega)).mono ?_
  rw [HD.out]
  rintro e w6 ⟨qd, dd, rfl, hs6, hB6⟩
  have x6 := x5.trans (hB6.mono x5.size)
  have hs6' := hs5.below hB6
  (have tb := t1.below hB6 t1.lt; have gb := g1.below hB6 g1.lt; clear a0 a1 a2 a3 e0 e1 e2 t1 g1; have t1 := tb; have g1 := gb; have a0 := tb.at 0 rfl; have a1 := tb.at 1 rfl; have a2 := tb.at 2 rfl; have a3 := tb.at 3 rfl; have e0 := gb.at 0 rfl; have e1 := gb.at 1 rfl; have e2 := gb.at 2 rfl; clear tb gb)
  clear hB6 x5 hs5
  go_wp2_with fail
  refine (lAccepts_any G p c W w6 (HG.out.below x6) HV.out HQ.out (by unfold maxLen; omega) HCK.out hn8).mono ?_
  rw [HA.out]
  rintro e w7 ⟨rfl, hB7⟩
  have x7 := x6.trans (hB7.mono x6.size)
  have hs7 := hs6.below hB7
  have hs7' := hs6'.below hB7
  (have tb := t1.below hB7 t1.lt; have gb := g1.below hB7 g1.lt; clear a0 a1 a2 a3 e0 e1 e2 t1 g1; have t1 := tb; have g1 := gb; have a0 := tb.at 0 rfl; have a1 := tb.at 1 rfl; have a2 := tb.at 2 rfl; have a3 := tb.at 3 rfl; have e0 := gb.at 0 rfl; have e1 := gb.at 1 rfl; have e2 := gb.at 2 rfl; clear tb gb)
  clear hB7 x6 hs6 hs6'
  have HEQ := equalI_any L L qd ps dd cs w7 hs7 hs7' (by omega) (by omega)
  rw [decide_eq_true (rfl : L = L)] at HEQ
  have HEQ := hidI HEQ
  go_wp2_with fail
  refine HEQ.out.mono ?_
  rintro e w8 ⟨rfl, hD8⟩
  have x8 := x7.trans (hD8.below _)
  have a1' := (hD8.cell _).trans a1
  clear a1 HEQ
  go_wp2_with fail
  refine (lkAwake_any _).mono ?_
  rintro e w9 ⟨rfl, hB9⟩
  go_wp2
  go_ret
  exact ⟨rfl, x8.trans (hB9.mono x8.size)⟩
end Go.Proofs.YtjponanfpdmeoaaDoor
namespace Go.Proofs.YtjponanfpdmeoaaDoor
open Go.Joins Go.ChangeShapes Go.WideShapes Go.ChangeAt Go.RowKit Go.Deep

set_option maxRecDepth 100000 in
theorem lookaheadInverse_lifted (os : Os) (started : os.Started) (H : Type) (enc : TypeId × Value → H) :
    ReturnsInHanded {} Tryd.checked os 3 .any (fun w args => (Rows.lookaheadInverseSpec.pre enc Tryd.prog Tryd.f3 [] false w args ∧ laidMetH Tryd.prog Rows.lookaheadInverseRow.laid w) ∧ sizedMet enc Tryd.prog Tryd.f3 (OpenSpec.ofChange Rows.lookaheadInverseSpec) false w args)
      (Rows.lookaheadInverseSpec.post enc Tryd.prog Tryd.f3 false true false false) := by
  refine returnsInHanded_of_change_and (C := Tryd.checked) (X := fun w _ => laidMetH Tryd.prog Rows.lookaheadInverseRow.laid w) (fun _ _ _ hh h => h.of_heap hh) own started (by kernel_rfl) Tryd.func3
    (ChangeSpec.witness_shaped (enc := enc) (C := Tryd.checked) (os := os) (X := fun w _ => laidMetH Tryd.prog Rows.lookaheadInverseRow.laid w) false (World.doorLaid Tryd.prog 24 os) #[.agg #[.int .i64 0, .int .i64 0, .slice none 0 0, .slice none 0 0], .agg #[.int .i64 0, .int .i64 0, .slice none 0 0], .slice none 0 0] 8 rfl (World.shaped_of_RefB (by kernel_rfl) (by kernel_rfl)) (by kernel_rfl) (by kernel_rfl) (by kernel_rfl) (door_metN os _)) ?_
  intro W base args ds gs before hval0 hW _ _ hL _
  have hval : ∀ (j : Nat) t v, Tryd.f3.params[j]? = some t → args[j]? = some v → Value.okWide Tryd.prog W .any base t v := hval0
  have hW' := hW
  obtain ⟨p, q, hA0, hV, rfl, hfz, hnd⟩ := hW
  have hA : DataW.TrodAll enc Tryd.prog W 0 (fun _ => true) true Tryd.f3.params.toList args.toList ds p := hA0
  rw [Tryd.params3] at hA hval
  obtain ⟨v0, v1, v2, d0, d1, d2, p0, p1, p2, rfl, rfl, rfl, h0, h1, h2⟩ := trodAll_three hA
  obtain ⟨rfl, rfl⟩ := trodVars_none hV
  have hlt : ∀ x ∈ p0 ++ (p1 ++ p2), x.block < W.heap.size := fun x hx => hW'.lt x (List.mem_append_left _ (by simpa using hx))
  obtain ⟨T0, q0, r0, c0, e0, rfl, hin0⟩ := table_in (hval 0 25 v0 rfl rfl) h0 (fun x hx => hlt x (by simp only [List.mem_append]; simp [hx]))
  obtain ⟨G1, q1, c1, rfl, s1, l1⟩ := graph_in (hval 1 28 v1 rfl rfl) h1 (fun x hx => hlt x (by simp only [List.mem_append]; simp [hx]))
  obtain ⟨a2, len2, cap2, rfl⟩ := okWide_slice Tryd.underlying29 (hval 2 29 v2 rfl rfl)
  obtain ⟨fuel2, hf2⟩ := h2
  simp only [Value.cells] at hf2
  obtain ⟨q2, l2, c2, he2, hl2, hll2, _⟩ := u8s_at hf2 (fun x hx => hlt x (by simp only [List.mem_append]; simp [hx]))
  rw [he2] at hval hW' ⊢
  refine (lawInv_any T0 q0 r0 c0 e0 G1 q1 c1 l2 q2 c2 W hin0 s1 l1 hl2 hll2 (pow10_in hL)).mono fun e W' ⟨he, hB⟩ => ?_
  subst he
  refine ⟨_, rfl, law_post hW' rfl (by kernel_rfl) ?_ rfl rfl rfl hB⟩
  rw [Tryd.params3]
  intro t ht
  simp only [List.mem_cons, List.not_mem_nil, or_false] at ht
  rcases ht with rfl | rfl | rfl
  · exact readLook
  · exact readGraph
  · exact readU8s

theorem lookaheadInverse_holds : Rows.LookaheadInverseSaid :=
  OpenClaim.holds_of_wide 3 Tryd.f3 rfl rfl rfl rfl rfl rfl rfl ⟨rfl, rfl, rfl, rfl, rfl⟩ rfl rfl rfl rfl rfl (by kernel_rfl) Tryd.func3 (by kernel_rfl)
    (of_decide_eq_true (by kernel_rfl)) (by unfold Func.isWrapper; rw [if_neg (of_decide_eq_false (by kernel_rfl))]; exact ⟨rfl, rfl⟩)
    (fun os started H enc _ => lookaheadInverse_lifted os started H enc)

theorem lookaheadInverse_card : Rows.LookaheadInverseCardSaid :=
  Claim7.holds_tied_plain_at .later [] [.data, .data, .data] true _ false
    lookaheadInverse_holds (fun _ h => by cases h) (by kernel_rfl) (fun _ h => by cases h) lookaheadInverse_row_tie rfl ⟨rfl, rfl⟩ (by kernel_rfl) rfl
    (fun f fn hf hfn => by
      obtain rfl : f = 3 := Option.some.inj ((show Tryd.prog.funcNamed "groove/groovelaw32.LookaheadInverse" = some 3 by kernel_rfl).symm.trans hf) |>.symm
      obtain rfl : fn = Tryd.f3 := (Option.some.inj (Tryd.func3.symm.trans hfn)).symm
      exact ⟨by kernel_rfl, fun j t ht => by
        rw [Tryd.params3] at ht
        rcases j with _ | _ | _ | j
        · obtain rfl : t = 25 := by simpa using ht.symm
          exact (show Tryd.prog.wantsStandIn 25 = false by kernel_rfl)
        · obtain rfl : t = 28 := by simpa using ht.symm
          exact (show Tryd.prog.wantsStandIn 28 = false by kernel_rfl)
        · obtain rfl : t = 29 := by simpa using ht.symm
          exact (show Tryd.prog.wantsStandIn 29 = false by kernel_rfl)
        · simp at ht⟩)
    (by kernel_rfl)
#print axioms lookaheadInverse_card
end Go.Proofs.YtjponanfpdmeoaaDoor
namespace Go.Proofs.YtjponanfpdmeoaaDoor
open Go.RowKit Go.Sort

/-- The bad pairs of one input, up to a second one. -/
def badR (T : Tb) (G : Gr) (i k : Nat) : List (List Int) := (List.range k).flatMap (fun j => if accA G (bget T.base i ++ bget T.base j) = true then [] else [[(i : Int), (j : Int)]])
/-- The bad pairs of the first inputs. -/
def badN (T : Tb) (G : Gr) (k : Nat) : List (List Int) := (List.range k).flatMap (fun i => badR T G i T.base.length)
def badL (T : Tb) (G : Gr) : List (List Int) := badN T G T.base.length
theorem badR_zero (T : Tb) (G : Gr) (i : Nat) : badR T G i 0 = [] := rfl
theorem badN_zero (T : Tb) (G : Gr) : badN T G 0 = [] := rfl
theorem badR_acc {T : Tb} {G : Gr} {i k : Nat} (h : accA G (bget T.base i ++ bget T.base k) = true) : badR T G i (k + 1) = badR T G i k := by
  unfold badR; rw [List.range_succ, List.flatMap_append]; simp [h]
theorem badR_bad {T : Tb} {G : Gr} {i k : Nat} (h : accA G (bget T.base i ++ bget T.base k) = false) : badR T G i (k + 1) = badR T G i k ++ [[(i : Int), (k : Int)]] := by
  unfold badR; rw [List.range_succ, List.flatMap_append]; simp [h]
theorem badN_succ (T : Tb) (G : Gr) (k : Nat) : badN T G (k + 1) = badN T G k ++ badR T G k T.base.length := by
  unfold badN; rw [List.range_succ, List.flatMap_append]; simp
theorem badR_len (T : Tb) (G : Gr) (i : Nat) : ∀ k, (badR T G i k).length ≤ k
  | 0 => by simp [badR]
  | k + 1 => by
    have := badR_len T G i k
    cases h : accA G (bget T.base i ++ bget T.base k)
    · rw [badR_bad h, List.length_append]; simp; omega
    · rw [badR_acc h]; omega
theorem badN_len (T : Tb) (G : Gr) : ∀ k, (badN T G k).length ≤ k * T.base.length
  | 0 => by simp [badN]
  | k + 1 => by
    have := badN_len T G k
    have h2 := badR_len T G k T.base.length
    rw [badN_succ, List.length_append, Nat.succ_mul]; omega
theorem badN_two {T : Tb} {G : Gr} {k : Nat} : ∀ x ∈ badN T G k, x.length = 2 := by
  intro x hx
  obtain ⟨i, _, hi⟩ := List.mem_flatMap.1 hx
  obtain ⟨j, _, hj⟩ := List.mem_flatMap.1 hi
  split at hj
  · cases hj
  · rw [List.mem_singleton.1 hj]; rfl
theorem badL_nil {T : Tb} {G : Gr} (h : chkL T G = 0) (h0 : T.swaps = []) : badL T G = [] := by
  unfold badL badN
  rw [List.flatMap_eq_nil_iff]
  intro i hi
  unfold badR
  rw [List.flatMap_eq_nil_iff]
  intro j hj
  rw [if_pos (pair_law h h0 (by simpa using hi) (by simpa using hj))]

/-! ### Lists of lists -/
abbrev LE := List Int × (Option Addr × Nat)
def lleE (x : LE) : Value := .slice x.2.1 x.1.length x.2.2
/-- A list of lists whose head row is the call's own. -/
structure LLo (w : World) (B : Nat) (v : Value) (L : List (List Int)) (X : List LE) : Prop where
  own : w.ownsRow B 35 1 v L.length (X.map lleE)
  els : X.map (·.1) = L
  rows : ∀ x ∈ X, SlT w x.2.1 x.1
/-- A list of lists that is read. -/
structure LLr (w : World) (p : Option Addr) (L : List (List Int)) (X : List LE) : Prop where
  hd : Sl w lleE p X
  els : X.map (·.1) = L
  rows : ∀ x ∈ X, SlT w x.2.1 x.1
theorem LLo.len {w : World} {B : Nat} {v : Value} {L : List (List Int)} {X : List LE} (h : LLo w B v L X) : X.length = L.length := by rw [← h.els, List.length_map]
theorem LLr.len {w : World} {p : Option Addr} {L : List (List Int)} {X : List LE} (h : LLr w p L X) : X.length = L.length := by rw [← h.els, List.length_map]
theorem LLo.read {w : World} {B : Nat} {v : Value} {L : List (List Int)} {X : List LE} (h : LLo w B v L X) : ∃ p c, v = .slice p L.length c ∧ LLr w p L X := by
  obtain ⟨p, c, rfl, hs⟩ := own_sl h.own
  exact ⟨p, c, by rw [h.len], hs, h.els, h.rows⟩
theorem LLr.below {w w' : World} {p : Option Addr} {L : List (List Int)} {X : List LE} (h : LLr w p L X) (hB : RowKit.Below w.heap.size w w') : LLr w' p L X :=
  ⟨h.hd.below hB, h.els, fun x hx => (h.rows x hx).below hB⟩
theorem LLo.below {w w' : World} {B : Nat} {v : Value} {L : List (List Int)} {X : List LE} (h : LLo w B v L X) (hB : RowKit.Below w.heap.size w w') : LLo w' B v L X :=
  ⟨h.own.below hB, h.els, fun x hx => (h.rows x hx).below hB⟩
theorem LLo.nil (w : World) (B : Nat) : LLo w B (.slice none 0 0) [] [] := ⟨World.ownsRow_nil w B 35 1, rfl, fun _ h => by cases h⟩
theorem LLr.nil (w : World) (p : Option Addr) : LLr w p [] [] := ⟨Sl.nil _ _ _, rfl, fun _ h => by cases h⟩
theorem LLr.get {w : World} {p : Option Addr} {L : List (List Int)} {X : List LE} (h : LLr w p L X) (k : Nat) (hk : k < L.length) :
    ∃ b o q d, p = some ⟨b, o, none⟩ ∧ b < w.heap.size ∧ w.cell? ⟨b, o + k, none⟩ = some (.slice q L[k].length d) ∧ SlT w q L[k] := by
  have hX : k < X.length := by rw [h.len]; exact hk
  obtain ⟨b, o, rfl, hb, hc⟩ := h.hd.get k hX
  have e : L[k] = X[k].1 := by have := h.els; subst this; rw [List.getElem_map]
  refine ⟨b, o, X[k].2.1, X[k].2.2, rfl, hb, ?_, ?_⟩
  · rw [hc k hX, e]; rfl
  · rw [e]; exact h.rows _ (List.getElem_mem hX)
/-- Behind an append of one more list. -/
theorem LLo.snoc {w w' : World} {B B' : Nat} {v v' : Value} {L : List (List Int)} {X : List LE} {l : List Int} {q : Option Addr} {d : Nat} (h : LLo w B v L X) (ho : w'.ownsRow B' 35 1 v' (L.length + 1) (X.map lleE ++ [.slice q l.length d])) (hk : KX0 3 w w') (hl : SlT w' q l) :
    LLo w' B' v' (L ++ [l]) (X ++ [(l, (q, d))]) :=
  ⟨by rw [List.length_append, List.map_append]; exact ho, by rw [List.map_append, h.els]; rfl, fun x hx => by
    rcases List.mem_append.1 hx with hx | hx
    · exact (h.rows x hx).keep hk
    · rw [List.mem_singleton.1 hx]; exact hl⟩
end Go.Proofs.YtjponanfpdmeoaaDoor
namespace Go.Proofs.YtjponanfpdmeoaaDoor
open Go.RowKit Go.Sort Go.Shelf Go.Lib

set_option maxRecDepth 100000 in
set_option maxHeartbeats 1000000 in
theorem lkAccepts_any (G : Gr) (p : Option Addr) (c : Nat) (s : ByteArray) (w : World) (hin : Sg 3 w edE p G.es) (hv : Vg G) (hq : G.q ≤ 16) (hs : s.size ≤ maxLen) (hc : Chg.wchk G.q s.data.toList = 0) (hl : s.size ≤ 65536) :
    Calls Tryd.prog 47 #[(.agg #[.int .i64 G.q, .int .i64 G.n, .slice p G.es.length c]), .string s] w fun e w' => e = .returned (.bool (accA G s)) ∧ RowKit.Below w.heap.size w w' := by
  obtain ⟨w0, hw0⟩ : ∃ w0, w0 = w.alloc (.cells #[.int .i64 G.q, .int .i64 G.n, .slice p G.es.length c] 28) := ⟨_, rfl⟩
  have b0 : VRow w0 w.heap.size 28 [.int .i64 G.q, .int .i64 G.n, .slice p G.es.length c] := by subst hw0; exact VRow.new w _ _
  have hB0 : RowKit.Below w.heap.size w w0 := by subst hw0; exact (RowKit.Below.refl _ _).alloc (Nat.le_refl _) _
  have HA := hidI (lAccepts_any G p c s w0 (hin.below hB0) hv hq hs hc hl)
  have g0 := b0.at 0 rfl; have g1 := b0.at 1 rfl; have g2 := b0.at 2 rfl
  clear hin hv hc
  generalize accA G s = r at *
  go_enter Tryd.func47, Tryd.ntmps47
  go_upto_region 1 with fail
  rw [← hw0]
  clear hw0
  go_wp2_with fail
  refine HA.out.mono ?_
  rintro e w1 ⟨rfl, hB1⟩
  go_wp2
  go_ret
  exact ⟨rfl, hB0.trans (hB1.mono hB0.size)⟩

/-- What a table's two words together are. -/
structure WdP (T : Tb) (G : Gr) (a b : ByteArray) : Prop where
  s1 : a.size ≤ 8
  s2 : b.size ≤ 8
  chk : Chg.wchk G.q (a ++ b).data.toList = 0
theorem wdP {T : Tb} {G : Gr} (hf : fmd T = true) (hq : G.q = T.q) {i j : Nat} (hi : i < T.base.length) (hj : j < T.base.length) : WdP T G (bget T.base i) (bget T.base j) := by
  have hN := pre_all (fmd_split hf).1
  have h1 := base_sz hf i hi
  have h2 := base_sz hf j hj
  have e1 : baseW T (i : Int) = bget T.base i := by simp [baseW]
  have e2 : baseW T (j : Int) = bget T.base j := by simp [baseW]
  have o1 := baseW_okw hf (x := (i : Int)) (by omega) (by omega)
  have o2 := baseW_okw hf (x := (j : Int)) (by omega) (by omega)
  rw [e1] at o1
  rw [e2] at o2
  refine ⟨by omega, by omega, ?_⟩
  rw [hq]
  have ho : Chg.okw T.q (bget T.base i ++ bget T.base j).data.toList = true := by rw [toL_app]; exact okw_app o1 o2
  refine Chg.wchk_ok _ _ (by omega) (by omega) ?_ ho
  rw [toL_app, List.length_append, toL_len, toL_len]; omega
theorem app_le {a b : ByteArray} (h1 : a.size ≤ 8) (h2 : b.size ≤ 8) : (a ++ b).size ≤ 16 := by rw [ByteArray.size_append]; omega

def RetLL (L : List (List Int)) (w : World) (e : Ending) (w' : World) : Prop := ∃ q d X, e = .returned (.slice q L.length d) ∧ LLr w' q L X ∧ RowKit.Below w.heap.size w w'
def RetLLI (L : List (List Int)) (k : Int) (w : World) (e : Ending) (w' : World) : Prop := ∃ q d X, e = .returned (.tuple #[.slice q L.length d, .int .i64 k]) ∧ LLr w' q L X ∧ RowKit.Below w.heap.size w w'
theorem infoSI : (Tryd.prog.info? 35).map (fun i => (i.zero, i.size, i.bytes)) = some (some (.slice none 0 0), 1, 24) := by kernel_rfl
theorem slT_row {w : World} {b : Nat} {l : List Int} (h : VRow w b 3 (l.map (Value.int .i64))) : SlT w (some ⟨b, 0, none⟩) l :=
  ⟨Sl.of_vrow h, fun b' o z e => by cases e; exact ⟨_, _, h⟩⟩
theorem LLo.lt {w : World} {B : Nat} {v : Value} {L : List (List Int)} {X : List LE} (h : LLo w B v L X) : ∀ j, v.ownBlock = some j → B ≤ j ∧ j < w.heap.size := h.own.lt

set_option maxRecDepth 100000 in
set_option maxHeartbeats 4000000 in
theorem lkbad_any (T : Tb) (p1 p2 : Option Addr) (c1 c2 : Nat) (G : Gr) (p : Option Addr) (c : Nat) (w : World) (hin : TbIn w T p1 p2 c1 c2) (hG : Sg 3 w edE p G.es) (hf : fmd T = true) (hv : Vg G) (hq : G.q = T.q) :
    Calls Tryd.prog 33 #[(.agg #[.int .i64 T.q, .int .i64 T.n, .slice p1 T.base.length c1, .slice p2 T.swaps.length c2]), (.agg #[.int .i64 G.q, .int .i64 G.n, .slice p G.es.length c])] w (RetLL (badL T G) w) := by
  obtain ⟨i0, hi0, hz0, hz1, hz3⟩ := info_parts infoSI
  obtain ⟨w0, hw0⟩ : ∃ w0, w0 = (w.alloc (.cells #[.int .i64 T.q, .int .i64 T.n, .slice p1 T.base.length c1, .slice p2 T.swaps.length c2] 25)).alloc (.cells #[.int .i64 G.q, .int .i64 G.n, .slice p G.es.length c] 28) := ⟨_, rfl⟩
  have b0 : VRow w0 w.heap.size 25 [.int .i64 T.q, .int .i64 T.n, .slice p1 T.base.length c1, .slice p2 T.swaps.length c2] := by subst hw0; exact (VRow.new w _ _).alloc _
  have d0 : VRow w0 (w.heap.size + 1) 28 [.int .i64 G.q, .int .i64 G.n, .slice p G.es.length c] := by subst hw0; exact VRow.new1 w _ _ _
  have hB0 : RowKit.Below w.heap.size w w0 := by subst hw0; exact ((RowKit.Below.refl _ _).alloc (Nat.le_refl _) _).alloc (by simp) _
  have hN := pre_all (fmd_split hf).1
  have hN16 : T.base.length ≤ 16 := by omega
  have hq16 : G.q ≤ 16 := by rw [hq]; omega
  have HBS := hidI (hin.below hB0).base
  have HWD := hidI (fun (i j : Nat) (hi : i < T.base.length) (hj : j < T.base.length) => wdP (G := G) hf hq hi hj)
  have HAC := hidI (fun (s : ByteArray) (W : World) (hB : RowKit.Below w.heap.size w W) (h1 : Chg.wchk G.q s.data.toList = 0) (h2 : s.size ≤ 16) => lkAccepts_any G p c s W (hG.below hB) hv hq16 (by unfold maxLen; omega) h1 (by omega))
  have HBG := hidI (fun (k : Nat) (hk : k < T.base.length) => bget_eq T.base k hk)
  have HLN : Hid (badL T G = badN T G T.base.length) := rfl
  have HO := hidI (LLo.nil w0 w0.heap.size)
  have HB0 := hidI hB0; have HB := hidI b0; have HD := hidI d0
  have f2 := b0.at 2 rfl
  clear hin hG hf hv hq hN hB0 b0 d0
  generalize badL T G = R at *
  go_enter Tryd.func33, Tryd.ntmps33
  go_upto_region 1 with fail
  rw [← hw0]
  clear hw0
  go_wp2_with fail
  clear f2
  go_loopw [5, 13] (fun v5 iv W => ∃ (k : Nat) (X : List LE), k ≤ T.base.length ∧ iv = .int .i64 k ∧ LLo W w0.heap.size v5 (badN T G k) X ∧ RowKit.Below w0.heap.size w0 W) (fun _ iv _ => T.base.length - (intOf iv).toNat)
  case atStart => exact ⟨0, [], by omega, rfl, HO.out, RowKit.Below.refl _ _⟩
  case round =>
    obtain ⟨k, X, hk, rfl, ho, hB⟩ := hrel
    by_cases hlt : k < T.base.length
    · have hltI : (k : Int) < (T.base.length : Int) := by omega
      have f2 := (HB.out.below hB HB.out.lt).at 2 rfl
      obtain ⟨bb, oo, rfl, hb1, hc1⟩ := (HBS.out.below hB).get k hlt
      have e0 := hc1 k hlt
      have hle := badN_len T G k
      have HNS := hidI (badN_succ T G k)
      have HRZ := hidI (badR_zero T G k)
      rw [← HBG.out k hlt] at e0
      have hkn : k * T.base.length ≤ 16 * 16 := Nat.mul_le_mul (by omega) hN16
      generalize badN T G k = L at *
      clear hc1
      obtain ⟨wo, hwo⟩ : ∃ wo : World, wo = wr := ⟨_, rfl⟩
      go_wp2_with fail
      clear f2 e0
      go_loopw [5, 21] (fun v5 iv W => ∃ (j : Nat) (Y : List LE), j ≤ T.base.length ∧ iv = .int .i64 j ∧ LLo W w0.heap.size v5 (L ++ badR T G k j) Y ∧ RowKit.Below w0.heap.size w0 W) (fun _ iv _ => T.base.length - (intOf iv).toNat)
      case atStart => exact ⟨0, X, by omega, rfl, by rw [HRZ.out, List.append_nil]; exact ho, hB⟩
      case round =>
        clear ho hB hwo
        obtain ⟨j, Y, hj, rfl, ho, hB⟩ := hrel
        have hrl := badR_len T G k j
        by_cases hlt2 : j < T.base.length
        · have hltJ : (j : Int) < (T.base.length : Int) := by omega
          have hD := HD.out.below hB HD.out.lt
          have g0 := hD.at 0 rfl; have g1 := hD.at 1 rfl; have g2 := hD.at 2 rfl
          obtain ⟨bb', oo', hp', hb2, hc2⟩ := (HBS.out.below hB).get j hlt2
          cases hp'
          have e1 := hc2 j hlt2
          rw [← HBG.out j hlt2] at e1
          have hwd := HWD.out k j hlt hlt2
          have HRA := hidI (fun h => @badR_acc T G k j h)
          have HRB := hidI (fun h => @badR_bad T G k j h)
          have hs1 := hwd.s1; have hs2 := hwd.s2
          have hml : (bget T.base k).size + (bget T.base j).size ≤ maxLen := by unfold maxLen; omega
          have HC := hidI (HAC.out (bget T.base k ++ bget T.base j) wr (HB0.out.trans (hB.mono HB0.out.size)) hwd.chk (app_le hs1 hs2))
          generalize accA G (bget T.base k ++ bget T.base j) = r at *
          generalize bget T.base k = ba at *
          generalize bget T.base j = bj at *
          clear hc2 hwd
          go_wp2_with fail
          refine HC.out.mono ?_
          rintro e w2 ⟨rfl, hB2⟩
          have ho2 := ho.below hB2
          have hB3 := hB.trans (hB2.mono hB.size)
          clear hD g0 g1 g2 e1 hb2 HC ho hB hB2
          cases r
          · have HQ := hidI (HRB.out rfl)
            have hz2 := hB3.size
            have hlw := ho2.lt
            clear HRA HRB HNS
            have hMl : (L ++ badR T G k j).length ≤ 272 := by rw [List.length_append]; omega
            have HQ : Hid (L ++ badR T G k (j + 1) = L ++ badR T G k j ++ [[(k : Int), (j : Int)]]) := by rw [Hid, HQ.out, List.append_assoc]
            generalize L ++ badR T G k j = M at *
            have hnew := cell_one_at (w2.alloc (.cells #[.int .i64 k, .int .i64 j] 3)) (.slice (some ⟨w2.heap.size, 0, none⟩) 2 2) 35 (w2.heap.size + 1) (by simp)
            have hownA := (ho2.own.alloc (.cells #[.int .i64 k, .int .i64 j] 3)).alloc (.cells #[.slice (some ⟨w2.heap.size, 0, none⟩) 2 2] 35)
            have n3 : VRow ((w2.alloc (.cells #[.int .i64 k, .int .i64 j] 3)).alloc (.cells #[.slice (some ⟨w2.heap.size, 0, none⟩) 2 2] 35)) w2.heap.size 3 ([(k : Int), (j : Int)].map (Value.int .i64)) := (VRow.new w2 _ _).alloc _
            have hBa : RowKit.Below w2.heap.size w2 ((w2.alloc (.cells #[.int .i64 k, .int .i64 j] 3)).alloc (.cells #[.slice (some ⟨w2.heap.size, 0, none⟩) 2 2] 35)) := ((RowKit.Below.refl _ _).alloc (Nat.le_refl _) _).alloc (by simp) _
            go_wp2_with (at_builtin; refine wpList_append_own _ rfl _ _ 45 rfl w0.heap.size 35 i0 (.slice none 0 0) 1 24 Tryd.underlying45 hi0 hz0 hz1 hz3 rfl (by decide) _ _ _ rfl hownA ⟨w2.heap.size + 1, 0, none⟩ 1 1 [.slice (some ⟨w2.heap.size, 0, none⟩) 2 2] rfl rfl hnew (by simp [Value.oneCell']) (by simp [maxLen]; omega) (by omega) (by simp only [World.size_alloc]; omega) ?_; intro v' w4 hown' hgrow _)
            have hlw2 := hownA.lt
            have hk4 : KX0 3 w2 w4 := (KX0.below hBa).trans (KX0.grown hgrow (own_typed hownA) (by decide))
            have hl4 : SlT w4 (some ⟨w2.heap.size, 0, none⟩) [(k : Int), (j : Int)] := (slT_row n3).keep (KX0.grown hgrow (own_typed hownA) (by decide))
            have ho4 := ho2.snoc hown' hk4 hl4
            have hB4 : RowKit.Below w0.heap.size w0 w4 := (hB3.trans (hBa.mono hz2)).grown hgrow (by simp; omega) (fun j e => by have := (hlw2 j e).1; omega)
            go_roundw
            case rel => exact ⟨j + 1, _, by omega, by go_num, by rw [HQ.out]; exact ho4, hB4⟩
            case measure => simp [intOf]; omega
          · have HQ := hidI (HRA.out rfl)
            clear HRA HRB
            go_wp2_with fail
            go_roundw
            case rel => exact ⟨j + 1, Y, by omega, by go_num, by rw [HQ.out]; exact ho2, hB3⟩
            case measure => simp [intOf]; omega
        · obtain rfl : j = T.base.length := by omega
          have hltJ : ¬ (T.base.length : Int) < (T.base.length : Int) := by omega
          go_wp2_with fail
          go_roundw
          case rel => exact ⟨k + 1, Y, by omega, by go_num, by rw [HNS.out]; exact ho, hB⟩
          case measure => simp [intOf]; omega
    · obtain rfl : k = T.base.length := by omega
      have hltI : ¬ (T.base.length : Int) < (T.base.length : Int) := by omega
      obtain ⟨q, d, rfl, hr⟩ := ho.read
      rw [← HLN.out] at hr
      have HR := hidI hr
      have HL2 : Hid ((badN T G T.base.length).length = R.length) := by rw [Hid, HLN.out]
      go_wp2_with fail
      go_ret
      exact ⟨q, d, X, by show Ending.returned (.slice q (badN T G T.base.length).length d) = _; rw [HL2.out], HR.out, HB0.out.trans (hB.mono HB0.out.size)⟩
end Go.Proofs.YtjponanfpdmeoaaDoor
namespace Go.Proofs.YtjponanfpdmeoaaDoor
open Go.RowKit Go.Sort Go.Shelf Go.Lib

def badA (T : Tb) (G : Gr) : List (List Int) × Int := if fitA T G = 0 then (badL T G, 0) else ([], fitA T G)
set_option maxRecDepth 100000 in
set_option maxHeartbeats 1000000 in
theorem lkBad_any (T : Tb) (p1 p2 : Option Addr) (c1 c2 : Nat) (G : Gr) (p : Option Addr) (c : Nat) (w : World) (hin : TbIn w T p1 p2 c1 c2) (hG : Sg 3 w edE p G.es) (hl : G.es.length ≤ 9223372036854775807) :
    Calls Tryd.prog 14 #[(.agg #[.int .i64 T.q, .int .i64 T.n, .slice p1 T.base.length c1, .slice p2 T.swaps.length c2]), (.agg #[.int .i64 G.q, .int .i64 G.n, .slice p G.es.length c])] w (RetLLI (badA T G).1 (badA T G).2 w) := by
  obtain ⟨w0, hw0⟩ : ∃ w0, w0 = (w.alloc (.cells #[.int .i64 T.q, .int .i64 T.n, .slice p1 T.base.length c1, .slice p2 T.swaps.length c2] 25)).alloc (.cells #[.int .i64 G.q, .int .i64 G.n, .slice p G.es.length c] 28) := ⟨_, rfl⟩
  have b0 : VRow w0 w.heap.size 25 [.int .i64 T.q, .int .i64 T.n, .slice p1 T.base.length c1, .slice p2 T.swaps.length c2] := by subst hw0; exact (VRow.new w _ _).alloc _
  have d0 : VRow w0 (w.heap.size + 1) 28 [.int .i64 G.q, .int .i64 G.n, .slice p G.es.length c] := by subst hw0; exact VRow.new1 w _ _ _
  have hB0 : RowKit.Below w.heap.size w w0 := by subst hw0; exact ((RowKit.Below.refl _ _).alloc (Nat.le_refl _) _).alloc (by simp) _
  have HC := hidI (lkCheck0_any T p1 p2 c1 c2 G p c w0 (hin.below hB0) (hG.below hB0) hl)
  have HFZ := hidI (@fit_zero T G)
  have HB := hidI (fun W (hB : RowKit.Below w.heap.size w W) (h1 : fmd T = true) (h2 : Vg G) (h3 : G.q = T.q) => lkbad_any T p1 p2 c1 c2 G p c W (hin.below hB) (hG.below hB) h1 h2 h3)
  have HX1 : Hid (fitA T G = 0 → badA T G = (badL T G, 0)) := fun h => by unfold badA; rw [if_pos h]
  have HX2 : Hid (fitA T G ≠ 0 → badA T G = ([], fitA T G)) := fun h => by unfold badA; rw [if_neg h]
  have a0 := b0.at 0 rfl; have a1 := b0.at 1 rfl; have a2 := b0.at 2 rfl; have a3 := b0.at 3 rfl
  have e0 := d0.at 0 rfl; have e1 := d0.at 1 rfl; have e2 := d0.at 2 rfl
  clear hin hG
  generalize fitA T G = k at *
  generalize badA T G = R at *
  go_enter Tryd.func14, Tryd.ntmps14
  go_upto_region 1 with fail
  rw [← hw0]
  clear hw0
  go_wp2_with fail
  refine HC.out.mono ?_
  rintro e w1 ⟨rfl, hB1⟩
  have x1 := hB0.trans (hB1.mono hB0.size)
  have t1 := b0.below hB1 b0.lt
  have g1 := d0.below hB1 d0.lt
  clear a0 a1 a2 a3 e0 e1 e2 b0 d0 hB1 HC
  by_cases hk : k = 0
  · obtain ⟨h1, h2, h3⟩ := HFZ.out hk
    have HR := hidI (HX1.out hk)
    have HBB := hidI (HB.out w1 x1 h1 h2 h3)
    clear h1 h2 h3 HFZ HX1 HX2 HB
    subst hk
    have a0 := t1.at 0 rfl; have a1 := t1.at 1 rfl; have a2 := t1.at 2 rfl; have a3 := t1.at 3 rfl
    have e0 := g1.at 0 rfl; have e1 := g1.at 1 rfl; have e2 := g1.at 2 rfl
    go_wp2_with fail
    refine HBB.out.mono ?_
    rintro e w2 ⟨q, d, X, rfl, hr, hB2⟩
    go_wp2
    go_ret2
    exact ⟨q, d, X, by rw [HR.out]; rfl, by rw [HR.out]; exact hr, x1.trans (hB2.mono x1.size)⟩
  · have HR := hidI (HX2.out hk)
    have hkn : (k != 0) = true := by simpa using hk
    clear hk HFZ HX1 HX2 HB t1 g1
    go_wp2
    go_ret2
    exact ⟨none, 0, [], by rw [HR.out]; rfl, by rw [HR.out]; exact LLr.nil _ _, x1⟩

theorem lists_ne {L M : List (List Int)} {k : Nat} (h1 : k < L.length) (h2 : k < M.length) (h : L[k] ≠ M[k]) : L ≠ M := fun e => by subst e; exact h rfl
theorem lists_eq {L M : List (List Int)} (hl : L.length = M.length) (h : ∀ j (h1 : j < L.length) (h2 : j < M.length), j < L.length → L[j] = M[j]) : L = M :=
  List.ext_getElem hl (fun j h1 h2 => h j h1 h2 h1)
set_option maxRecDepth 100000 in
set_option maxHeartbeats 1000000 in
theorem rSameSets12_any (L M : List (List Int)) (X Y : List LE) (p q : Option Addr) (c d : Nat) (w : World) (hp : LLr w p L X) (hq : LLr w q M Y) (hL : L.length ≤ 100000) (hM : M.length ≤ 100000) (h1 : ∀ x ∈ L, x.length ≤ 100000) (h2 : ∀ x ∈ M, x.length ≤ 100000) :
    Calls Tryd.prog 15 #[.slice p L.length c, .slice q M.length d] w fun e w' => e = .returned (.bool (decide (L = M))) ∧ Dr w w' := by
  by_cases hle : L.length = M.length
  · have HL := hidI hle
    have HEQ := hidI (@lists_eq L M hle)
    have HNE := hidI (fun (k : Nat) => @lists_ne L M k)
    have H1 := hidI h1; have H2 := hidI h2
    have hne : ((L.length : Int) != (M.length : Int)) = false := by rw [hle]; simp
    clear hle h1 h2
    go_enter Tryd.func15, Tryd.ntmps15
    go_wp2
    clear hne
    go_loopw [5] (fun iv wr => ∃ k : Nat, k ≤ L.length ∧ iv = .int .i64 k ∧ Hid (∀ j (h1 : j < L.length) (h2 : j < M.length), j < k → L[j] = M[j]) ∧ Dr w wr) (fun iv _ => L.length - (intOf iv).toNat)
    case atStart => exact ⟨0, by omega, rfl, fun j _ _ h => absurd h (by omega), Dr.refl _⟩
    case round =>
      obtain ⟨k, hk, rfl, hj, hD⟩ := hrel
      by_cases hlt : k < L.length
      · have hltI : (k : Int) < (L.length : Int) := by omega
        have hlb : k < M.length := by rw [← HL.out]; exact hlt
        have hltJ : (k : Int) < (M.length : Int) := by omega
        obtain ⟨b1, o1, q1, d1, rfl, hb1, e1, s1⟩ := (hp.below (hD.below _)).get k hlt
        obtain ⟨b2, o2, q2, d2, rfl, hb2, e2, s2⟩ := (hq.below (hD.below _)).get k hlb
        have n1 := H1.out _ (List.getElem_mem hlt)
        have n2 := H2.out _ (List.getElem_mem hlb)
        have HJ : Hid (L[k] = M[k] → ∀ j (h1 : j < L.length) (h2 : j < M.length), j < k + 1 → L[j] = M[j]) := fun he j h1 h2 h => by
          by_cases e : j = k
          · subst e; exact he
          · exact hj.out j h1 h2 (by omega)
        have HN := hidI (HNE.out k hlt hlb)
        have HC := hidI (fun n : Nat => quiet_Dr (n := n) (r12Same_any L[k] M[k] q1 q2 d1 d2 (wr.drewN n) s1.1 s2.1 (by omega) (by omega)))
        generalize L[k] = x at *
        generalize M[k] = y at *
        clear hj
        by_cases he : x = y
        · subst he
          have HC : Hid (∀ n : Nat, Calls Tryd.prog 34 #[.slice q1 x.length d1, .slice q2 x.length d2] (wr.drewN n) fun e w'' => e = .returned (.bool true) ∧ ∃ m, w'' = wr.drewN m) := by
            have := HC.out; simp only [decide_true] at this; exact this
          have HJ := hidI (HJ.out rfl)
          clear HN
          go_upto_region 6 with fail
          (refine wp_region_quiet_lit (by kernel_rfl) (by kernel_rfl) ?_; (repeat (first | go_big_quiet_step ((go_at_call 34; with_reducible exact HC.out _)) | quiet_step ((go_at_call 34; with_reducible exact HC.out _)))); refine wpQuiet_nil ?_; intro _ hwq; obtain ⟨nq, hwq2⟩ := hwq; subst hwq2)
          go_wp2
          go_roundw
          case rel => exact ⟨k + 1, by omega, by go_num, HJ, hD.one _⟩
          case measure => simp [intOf]; omega
        · have HC : Hid (∀ n : Nat, Calls Tryd.prog 34 #[.slice q1 x.length d1, .slice q2 y.length d2] (wr.drewN n) fun e w'' => e = .returned (.bool false) ∧ ∃ m, w'' = wr.drewN m) := by
            have := HC.out; simp only [decide_eq_false he] at this; exact this
          have HX : Hid (decide (L = M) = false) := decide_eq_false (HN.out he)
          clear HN HJ he
          go_upto_region 6 with fail
          (refine wp_region_quiet_lit (by kernel_rfl) (by kernel_rfl) ?_; (repeat (first | go_big_quiet_step ((go_at_call 34; with_reducible exact HC.out _)) | quiet_step ((go_at_call 34; with_reducible exact HC.out _)))); refine wpQuiet_nil ?_; intro _ hwq; obtain ⟨nq, hwq2⟩ := hwq; subst hwq2)
          go_wp2
          go_ret
          exact ⟨ret_bool HX.out.symm, hD.one _⟩
      · obtain rfl : k = L.length := by omega
        have hltI : ¬ (L.length : Int) < (L.length : Int) := by omega
        have HX : Hid (decide (L = M) = true) := decide_eq_true (HEQ.out hj.out)
        clear hj
        go_wp2
        go_ret
        exact ⟨ret_bool HX.out.symm, hD⟩
  · have HX : Hid (decide (L = M) = false) := decide_eq_false (fun e => hle (by rw [e]))
    have hne : ((L.length : Int) != (M.length : Int)) = true := bne_iff_ne.2 (fun e => hle (by omega))
    clear hle
    go_enter Tryd.func15, Tryd.ntmps15
    go_wp2
    go_ret
    exact ⟨ret_bool HX.out.symm, Dr.refl _⟩
end Go.Proofs.YtjponanfpdmeoaaDoor
