/-
  Walks: the second-order graph, of the reference.
-/
import Derived.Test.YtlgjhmenjfmpfaaCf
namespace Go.Proofs.Ytlgjhmenjfmpfaa
open Go.RowKit Go.Sort Go.Shelf Go.Lib

theorem nxS_go {n m Q : Int} (a b l : Int) (h : 0 ≤ a + 2 * l - 1 ∧ a + 2 * l - 1 ≤ n ∧ 0 ≤ b + (a + 2 * l - 1) - Q ∧ b + (a + 2 * l - 1) - Q ≤ m) :
    mdB (n + 1) (m + 1) (numS m) (nxS Q) a b l = [⟨a * (m + 1) + b, l, (a + 2 * l - 1) * (m + 1) + (b + (a + 2 * l - 1) - Q)⟩] := by
  have e : nxS Q a b l = (a + 2 * l - 1, b + (a + 2 * l - 1) - Q) := by
    unfold nxS; rw [show a + (2 * l - 1) = a + 2 * l - 1 by omega]
  rw [mdB_go (by rw [e]; exact ⟨h.1, by show a + 2 * l - 1 < n + 1; omega, h.2.2.1, by show b + (a + 2 * l - 1) - Q < m + 1; omega⟩), e]
  rfl
theorem nxS_stop {n m Q : Int} (a b l : Int) (h : ¬ (0 ≤ a + 2 * l - 1 ∧ a + 2 * l - 1 ≤ n ∧ 0 ≤ b + (a + 2 * l - 1) - Q ∧ b + (a + 2 * l - 1) - Q ≤ m)) :
    mdB (n + 1) (m + 1) (numS m) (nxS Q) a b l = [] := by
  have e : nxS Q a b l = (a + 2 * l - 1, b + (a + 2 * l - 1) - Q) := by
    unfold nxS; rw [show a + (2 * l - 1) = a + 2 * l - 1 by omega]
  refine mdB_stop (fun h' => h ?_)
  rw [e] at h'
  have h1 : 0 ≤ a + 2 * l - 1 := h'.1
  have h2 : a + 2 * l - 1 < n + 1 := h'.2.1
  have h3 : 0 ≤ b + (a + 2 * l - 1) - Q := h'.2.2.1
  have h4 : b + (a + 2 * l - 1) - Q < m + 1 := h'.2.2.2
  omega

set_option maxRecDepth 100000 in
set_option maxHeartbeats 8000000 in
theorem rcSecond_any (n m : Int) (w : World) : Calls Try.prog 12 #[.int .i64 n, .int .i64 m] w (RetGr (secA n m).1 (secA n m).2 w) := by
  obtain ⟨wi, hwi⟩ : ∃ wi, wi = w.alloc (.cells #[.int .i64 0, .int .i64 0, .slice none 0 0] 24) := ⟨_, rfl⟩
  have b0 : VRow wi w.heap.size 24 [.int .i64 0, .int .i64 0, .slice none 0 0] := by subst hwi; exact VRow.new w _ _
  have hB0 : RowKit.Below w.heap.size w wi := by subst hwi; exact (RowKit.Below.refl _ _).alloc (Nat.le_refl _) _
  by_cases h : 2 ≤ n ∧ n ≤ 62 ∧ n.tmod 2 = 0 ∧ 1 ≤ m ∧ m ≤ 62
  · have g1 : ¬ n < 2 := by omega
    have g2 : ¬ 62 < n := by omega
    have g3 : (n.tmod 2 == 0) = true := by simpa using h.2.2.1
    have g4 : ¬ m < 1 := by omega
    have g5 : ¬ 62 < m := by omega
    have k0 : 0 ≤ (n + 1) * (m + 1) := Int.mul_nonneg (by omega) (by omega)
    have k1 : (n + 1) * (m + 1) ≤ 63 * 63 := Int.mul_le_mul (by omega) (by omega) (by omega) (by omega)
    by_cases hK : (n + 1) * (m + 1) ≤ 64
    · obtain ⟨i0, hi0, hz0, hz1, hz2⟩ := info_parts infoE
      have HK0 := secA_ref h hK
      obtain ⟨x, hx⟩ : ∃ x, secA n m = x := ⟨_, rfl⟩
      rw [hx] at HK0 ⊢
      obtain ⟨R', k'⟩ := x
      obtain ⟨y, hy⟩ : ∃ y, makeA 2 ((n + 1) * (m + 1)) (mdA (n + 1) (m + 1) (numS m) (nxS (n.tdiv 2))) = y := ⟨_, rfl⟩
      have HL : Hid (y.1.es.length ≤ 10000) := by
        rw [← hy]
        have h3 := makeA_len 2 ((n + 1) * (m + 1)) (mdA (n + 1) (m + 1) (numS m) (nxS (n.tdiv 2)))
        have h4 := nxS_len (n := n) (m := m) (by omega) (by omega)
        unfold Hid; omega
      obtain ⟨M, rfl⟩ : ∃ M : Nat, (M : Int) = n := ⟨n.toNat, by omega⟩
      obtain ⟨N, rfl⟩ : ∃ N : Nat, (N : Int) = m := ⟨m.toNat, by omega⟩
      have hq : (M : Int).tdiv 2 = (M : Int) / 2 := Int.tdiv_eq_ediv_of_nonneg (by omega)
      rw [hq] at hy HK0
      have HY0 : makeA 2 (((M : Int) + 1) * ((N : Int) + 1)) (md3 ((M : Int) + 1) ((N : Int) + 1) (numS N) (nxS ((M : Int) / 2)) (M + 1)) = y := by
        rw [← hy]; unfold mdA; rw [show ((M : Int) + 1).toNat = M + 1 by omega]
      rw [hy] at HK0
      obtain ⟨R, k⟩ := y
      obtain ⟨x', hx'⟩ : ∃ x, essA R = x := ⟨_, rfl⟩
      obtain ⟨R2, l2, k2⟩ := x'
      rw [hx'] at HK0
      cases HK0
      have HY := hidI HY0
      have HX := hidI hx'
      clear hx HY0 hy hx'
      have HGO := hidI (fun a b l => nxS_go (n := (M : Int)) (m := (N : Int)) (Q := (M : Int) / 2) a b l); have HST := hidI (fun a b l => nxS_stop (n := (M : Int)) (m := (N : Int)) (Q := (M : Int) / 2) a b l)
      have HNB : Hid (((N : Int) + 1).toNat = N + 1) := by unfold Hid; omega
      have H3Z := hidI (md3_zero ((M : Int) + 1) ((N : Int) + 1) (numS N) (nxS ((M : Int) / 2)))
      have H3S := hidI (md3_succ ((M : Int) + 1) ((N : Int) + 1) (numS N) (nxS ((M : Int) / 2)))
      have H2Z := hidI (md2_zero ((M : Int) + 1) ((N : Int) + 1) (numS N) (nxS ((M : Int) / 2)))
      have H2S := hidI (md2_succ ((M : Int) + 1) ((N : Int) + 1) (numS N) (nxS ((M : Int) / 2)))
      have H1Z := hidI (md1_zero ((M : Int) + 1) ((N : Int) + 1) (numS N) (nxS ((M : Int) / 2)))
      have H1S := hidI (md1_succ ((M : Int) + 1) ((N : Int) + 1) (numS N) (nxS ((M : Int) / 2)))
      rw [HNB.out] at H3S
      have q1 : 0 ≤ (M : Int) / 2 := by omega
      have q2 : (M : Int) / 2 ≤ 64 := by omega
      generalize mdB ((M : Int) + 1) ((N : Int) + 1) (numS N) (nxS ((M : Int) / 2)) = fB at *
      generalize md1 ((M : Int) + 1) ((N : Int) + 1) (numS N) (nxS ((M : Int) / 2)) = f1 at *
      generalize md2 ((M : Int) + 1) ((N : Int) + 1) (numS N) (nxS ((M : Int) / 2)) = f2 at *
      generalize md3 ((M : Int) + 1) ((N : Int) + 1) (numS N) (nxS ((M : Int) / 2)) = f3 at *
      have hkk : ¬ 64 < ((M : Int) + 1) * ((N : Int) + 1) := by omega
      have hs0 : wi.heap.size = w.heap.size + 1 := by subst hwi; simp
      have hs00 := hB0.size
      obtain ⟨w0, hw0⟩ : ∃ w0, w0 = wi := ⟨_, rfl⟩
      rw [← hw0] at b0 hB0 hs0 hs00 hwi
      obtain ⟨w1, hw1⟩ : ∃ w1, w1 = w0.alloc (.cells #[] 47) := ⟨_, rfl⟩
      have hown0 : w1.ownsRow w0.heap.size 47 3 (.slice (some ⟨w.heap.size + 1, 0, none⟩) 0 0) 0 [] := by subst hw1; rw [← hs0]; exact World.ownsRow_made w0 #[] 0 (Nat.le_refl _) (by simp [maxLen]) rfl
      have hB1 : RowKit.Below w0.heap.size w0 w1 := by subst hw1; exact (RowKit.Below.refl _ _).alloc (Nat.le_refl _) _
      clear hw0
      go_enter Try.func12, Try.ntmps12
      go_wp2
      rw [← hwi, ← hw1]
      clear hwi hw1
      go_loopw [6, 7] (fun lv iv wr => ∃ k : Nat, k ≤ M + 1 ∧ iv = .int .i64 k ∧ (f3 k).length ≤ 128 * k ∧ wr.ownsRow w0.heap.size 47 3 lv (f3 k).length (cat (f3 k)) ∧ RowKit.Below w0.heap.size w0 wr) (fun _ iv _ => M + 1 - (intOf iv).toNat)
      case atStart => exact ⟨0, by omega, rfl, by rw [H3Z.out]; exact Nat.zero_le _, by rw [H3Z.out]; exact hown0, hB1⟩
      case round =>
        clear hown0 hB1
        obtain ⟨a, ha, rfl, hL3, hown, hB⟩ := hrel
        by_cases hlt : a ≤ M
        · have hltA : (a : Int) ≤ (M : Int) := by omega
          have H3 := hidI (H3S.out a)
          generalize f3 a = L3 at *
          obtain ⟨wo, rfl⟩ : ∃ wo : World, wo = wr := ⟨_, rfl⟩
          go_wp2
          go_loopw [6, 8] (fun lv iv wr => ∃ k : Nat, k ≤ N + 1 ∧ iv = .int .i64 k ∧ (L3 ++ f2 a k).length ≤ 128 * a + 2 * k ∧ wr.ownsRow w0.heap.size 47 3 lv (L3 ++ f2 a k).length (cat (L3 ++ f2 a k)) ∧ RowKit.Below w0.heap.size w0 wr) (fun _ iv _ => N + 1 - (intOf iv).toNat)
          case atStart => exact ⟨0, by omega, rfl, by rw [H2Z.out, List.append_nil]; omega, by rw [H2Z.out, List.append_nil]; exact hown, hB⟩
          case round =>
            clear hown hB hL3
            obtain ⟨b, hb, rfl, hL2, hown, hB⟩ := hrel
            by_cases hltb : b ≤ N
            · have hltB : (b : Int) ≤ (N : Int) := by omega
              have H2 : Hid (L3 ++ f2 a (b + 1) = (L3 ++ f2 a b) ++ f1 a b 2) := by rw [Hid, H2S.out, List.append_assoc]
              generalize L3 ++ f2 a b = L2 at *
              obtain ⟨wp, rfl⟩ : ∃ wp : World, wp = wr := ⟨_, rfl⟩
              go_wp2
              go_loopw [6, 9] (fun lv iv wr => ∃ k : Nat, k ≤ 2 ∧ iv = .int .i64 k ∧ (L2 ++ f1 a b k).length ≤ 128 * a + 2 * b + k ∧ wr.ownsRow w0.heap.size 47 3 lv (L2 ++ f1 a b k).length (cat (L2 ++ f1 a b k)) ∧ RowKit.Below w0.heap.size w0 wr) (fun _ iv _ => 2 - (intOf iv).toNat)
              case atStart => exact ⟨0, by omega, rfl, by rw [H1Z.out, List.append_nil]; omega, by rw [H1Z.out, List.append_nil]; exact hown, hB⟩
              case round =>
                clear hown hB hL2
                obtain ⟨l, hl, rfl, hL1, hown, hB⟩ := hrel
                by_cases hltl : l < 2
                · have hl2 : (l : Int) < 2 := by omega
                  have H1 : Hid (L2 ++ f1 a b (l + 1) = (L2 ++ f1 a b l) ++ fB a b l) := by rw [Hid, H1S.out, List.append_assoc]
                  have HB1 := hidI (HGO.out a b l); have HB2 := hidI (HST.out a b l)
                  generalize L2 ++ f1 a b l = L1 at *
                  have hszw := hB.size
                  have hne := fun j e => (hown.lt j e).1
                  go_upto_region 17 with fail
                  generalize hc : (a : Int) + 2 * (l : Int) - 1 = c at *
                  generalize hd : (b : Int) + c - (M : Int) / 2 = d at *
                  clear hc hd
                  by_cases hm : 0 ≤ c ∧ c ≤ (M : Int) ∧ 0 ≤ d ∧ d ≤ (N : Int)
                  · have H1E := hidI (HB1.out hm)
                    obtain ⟨hc0, hcA, hd0, hdB⟩ := hm
                    have p0 : 0 ≤ (a : Int) * ((N : Int) + 1) := Int.mul_nonneg (by omega) (by omega)
                    have p1 : (a : Int) * ((N : Int) + 1) ≤ 64 * 64 := Int.mul_le_mul (by omega) (by omega) (by omega) (by omega)
                    have p2 : 0 ≤ c * ((N : Int) + 1) := Int.mul_nonneg (by omega) (by omega)
                    have p3 : c * ((N : Int) + 1) ≤ 64 * 64 := Int.mul_le_mul (by omega) (by omega) (by omega) (by omega)
                    have hnew := cell_newA wr #[.int .i64 ((a : Int) * ((N : Int) + 1) + b), .int .i64 l, .int .i64 (c * ((N : Int) + 1) + d)] [⟨(a : Int) * ((N : Int) + 1) + b, l, c * ((N : Int) + 1) + d⟩] 47 wr.heap.size rfl rfl
                    (go_wp2_with (at_builtin; refine wpList_append_own _ rfl _ _ 22 rfl w0.heap.size 47 i0 _ 3 24 Try.underlying22 hi0 hz0 hz1 hz2 rfl (by decide) _ _ _ rfl (hown.alloc _) ⟨wr.heap.size, 0, none⟩ 1 1 (cat [⟨(a : Int) * ((N : Int) + 1) + (b : Int), (l : Int), c * ((N : Int) + 1) + d⟩]) rfl rfl hnew (cat_one _) (by simp [maxLen]; omega) (by omega) (by rw [World.size_alloc]; omega) ?_; intro v' w4 hown' hgrow _; rw [← cat_app] at hown'))
                    have hBf := (hB.alloc hszw _).grown hgrow (Nat.le_trans hszw (by simp)) hne
                    go_roundw
                    case rel =>
                      refine ⟨l + 1, by omega, by go_num, ?_, ?_, hBf⟩
                      · rw [H1.out, H1E.out, List.length_append, List.length_singleton]; omega
                      · rw [H1.out, H1E.out]; exact own_conv hown' rfl (Nat.le_refl _)
                    case measure => simp [intOf]; omega
                  · have H1E : Hid (L2 ++ f1 a b (l + 1) = L1) := by rw [Hid, H1.out, HB2.out hm, List.append_nil]
                    have hor : decide (0 ≤ c) = false ∨ (0 ≤ c ∧ decide (c ≤ (M : Int)) = false) ∨ (0 ≤ c ∧ c ≤ (M : Int) ∧ decide (0 ≤ d) = false) ∨
                        (0 ≤ c ∧ c ≤ (M : Int) ∧ 0 ≤ d ∧ decide (d ≤ (N : Int)) = false) := by
                      by_cases h1 : 0 ≤ c
                      · by_cases h2 : c ≤ (M : Int)
                        · by_cases h3 : 0 ≤ d
                          · exact .inr (.inr (.inr ⟨h1, h2, h3, decide_eq_false (fun h4 => hm ⟨h1, h2, h3, h4⟩)⟩))
                          · exact .inr (.inr (.inl ⟨h1, h2, decide_eq_false h3⟩))
                        · exact .inr (.inl ⟨h1, decide_eq_false h2⟩)
                      · exact .inl (decide_eq_false h1)
                    clear hm HB1 HB2
                    rcases hor with h1 | ⟨h1, h2⟩ | ⟨h1, h2, h3⟩ | ⟨h1, h2, h3, h4⟩
                    all_goals
                      go_wp2_with fail
                      go_roundw
                      case rel => exact ⟨l + 1, by omega, by go_num, by rw [H1E.out]; omega, by rw [H1E.out]; exact hown, hB⟩
                      case measure => simp [intOf]; omega
                · have HL2 : Hid (l = 2) := by unfold Hid; omega
                  have hl2 : ¬ (l : Int) < 2 := by omega
                  have HR : Hid (L2 ++ f1 a b l = L3 ++ f2 a (b + 1)) := by rw [Hid, H2.out, HL2.out]
                  go_wp2
                  go_roundw
                  case rel => exact ⟨b + 1, by omega, by go_num, by rw [← HR.out]; omega, by rw [← HR.out]; exact hown, hB⟩
                  case measure => simp [intOf]; omega
            · have HBN : Hid (b = N + 1) := by unfold Hid; omega
              have hbB : ¬ (b : Int) ≤ (N : Int) := by omega
              have HR : Hid (L3 ++ f2 a b = f3 (a + 1)) := by rw [Hid, H3.out, HBN.out]
              go_wp2
              go_roundw
              case rel => exact ⟨a + 1, by omega, by go_num, by rw [← HR.out]; omega, by rw [← HR.out]; exact hown, hB⟩
              case measure => simp [intOf]; omega
        · have HV : Hid (a = M + 1) := by unfold Hid; omega
          have haA : ¬ (a : Int) ≤ (M : Int) := by omega
          rw [← HV.out] at HY
          generalize f3 a = L at *
          obtain ⟨p, c, rfl, hsg, _⟩ := own_sg hown
          have br := b0.below hB b0.lt
          have xr := hB0.trans (hB.mono hs00)
          clear hlt ha
          go_wp2_with fail
          refine (rMake_any 2 (((M : Int) + 1) * ((N : Int) + 1)) L p c wr hsg (by have := HV.out; omega)).mono ?_
          rw [HY.out]
          rintro e w4 ⟨p4, c4, rfl, hs, hc, hB4⟩
          have x4 := xr.trans (hB4.mono xr.size)
          have e14 := br.below hB4 br.lt
          obtain ⟨w5, hw5⟩ : ∃ w5, w5 = w4.alloc (.cells #[.int .i64 R.q, .int .i64 R.n, .slice p4 R.es.length c4] 24) := ⟨_, rfl⟩
          have e15 : VRow w5 w.heap.size 24 [.int .i64 0, .int .i64 0, .slice none 0 0] := by subst hw5; exact e14.alloc _
          have s5 : Sg 3 w5 edE p4 R.es := by subst hw5; exact hs.below ((RowKit.Below.refl _ _).alloc (Nat.le_refl _) _)
          have x5 : RowKit.Below w.heap.size w w5 := by subst hw5; exact x4.alloc x4.size _
          go_wp2_with fail
          rw [← hw5]
          clear hw5
          refine (rEss_any R p4 c4 w5 s5 HL.out).mono ?_
          rw [HX.out]
          intro e w6 hr
          obtain ⟨p6, c6, v6, rfl, hs6, hc6, _, hB6⟩ := hr.open
          have x6 := x5.trans (hB6.mono x5.size)
          have e16 := e15.below hB6 e15.lt
          obtain ⟨w7, hw7⟩ : ∃ w7, w7 = w6.alloc (.cells #[.int .i64 R2.q, .int .i64 R2.n, .slice p6 R2.es.length c6] 24) := ⟨_, rfl⟩
          have e17 : VRow w7 w.heap.size 24 [.int .i64 0, .int .i64 0, .slice none 0 0] := by subst hw7; exact e16.alloc _
          have s7 : Sg 3 w7 edE p6 R2.es := by subst hw7; exact hs6.below ((RowKit.Below.refl _ _).alloc (Nat.le_refl _) _)
          have x7 : RowKit.Below w.heap.size w w7 := by subst hw7; exact x6.alloc x6.size _
          have HB := hidI (box3 (w := w) (B := w.heap.size) (c := c6) e17 s7 x7 (Nat.le_refl _))
          have j0 := e17.at 0 rfl; have j1 := e17.at 1 rfl; have j2 := e17.at 2 rfl
          have z0 := e17.frozen 0; have z1 := e17.frozen 1; have z2 := e17.frozen 2
          rw [hw7] at j0 j1 j2 z0 z1 z2
          go_wp2
          rw [← hw7]
          obtain ⟨r8, s8, x8⟩ := HB.out
          unfold set3 at r8 s8 x8
          have y0 := r8.at 0 rfl; have y1 := r8.at 1 rfl; have y2 := r8.at 2 rfl
          refine bodyPost_ret (v := .tuple #[(.agg #[.int .i64 R2.q, .int .i64 R2.n, .slice p6 R2.es.length c6]), .int .i64 k2]) (by simp [results, Try.results12, go_sem, y0, y1, y2]) rfl ?_
          exact ⟨p6, c6, rfl, s8, hc6, x8⟩
    · have HK := hidI (secA_big h hK)
      have hkk : 64 < (n + 1) * (m + 1) := by omega
      have y0 := b0.at 0 rfl; have y1 := b0.at 1 rfl; have y2 := b0.at 2 rfl
      go_enter Try.func12, Try.ntmps12
      go_wp2
      rw [← hwi]
      refine bodyPost_ret (v := .tuple #[.agg #[.int .i64 0, .int .i64 0, .slice none 0 0], .int .i64 4]) (by simp [results, Try.results12, go_sem, y0, y1, y2]) rfl ?_
      exact RetGr.of (G' := ⟨0, 0, []⟩) HK.out (Sg.nil _ _ _ _) (Nat.zero_le _) hB0
  · have HK := hidI (secA_bad h)
    rcases sec_out h with h1 | ⟨h1, h2⟩ | ⟨h1, h2, h3, h3a, h3b⟩ | ⟨h1, h2, h3, h3a, h4⟩ | ⟨h1, h2, h3, h3a, h4, h5⟩
    all_goals
      clear h
      have y0 := b0.at 0 rfl; have y1 := b0.at 1 rfl; have y2 := b0.at 2 rfl
      go_enter Try.func12, Try.ntmps12
      go_wp2
      rw [← hwi]
      refine bodyPost_ret (v := .tuple #[.agg #[.int .i64 0, .int .i64 0, .slice none 0 0], .int .i64 2]) (by simp [results, Try.results12, go_sem, y0, y1, y2]) rfl ?_
      exact RetGr.of (G' := ⟨0, 0, []⟩) HK.out (Sg.nil _ _ _ _) (Nat.zero_le _) hB0
end Go.Proofs.Ytlgjhmenjfmpfaa
