/-
  Walks: the graphs of charges, of the reference: the charge graph and the null graph.
-/
import Derived.Test.YtlgjhmenjfmpfaaCd
import Derived.Test.YtlgjhmenjfmpfaaCb
namespace Go.Proofs.Ytlgjhmenjfmpfaa
open Go.RowKit Go.Sort Go.Shelf Go.Lib

theorem cell_newA (W : World) (a : Array Value) (l : List Ed) (t n : Nat) (ha : a = (cat l).toArray) (hn : W.heap.size = n) : ∀ (j : Nat) (u : Value), (cat l)[j]? = some u → (W.alloc (.cells a t)).cell? ((⟨n, 0, none⟩ : Addr).add j) = some u := by
  subst hn; subst ha
  intro j u hu
  rw [show (⟨W.heap.size, 0, none⟩ : Addr).add j = ⟨W.heap.size, j, none⟩ by unfold Addr.add; split <;> simp_all, (VRow.new W t (cat l)).cell]
  exact hu

set_option maxRecDepth 100000 in
set_option maxHeartbeats 2000000 in
theorem rcGraph_any (n : Int) (w : World) : Calls Try.prog 8 #[.int .i64 n] w (RetGr (crgA n).1 (crgA n).2 w) := by
  obtain ⟨w0, hw0⟩ : ∃ w0, w0 = w.alloc (.cells #[.int .i64 0, .int .i64 0, .slice none 0 0] 24) := ⟨_, rfl⟩
  have b0 : VRow w0 w.heap.size 24 [.int .i64 0, .int .i64 0, .slice none 0 0] := by subst hw0; exact VRow.new w _ _
  have hB0 : RowKit.Below w.heap.size w w0 := by subst hw0; exact (RowKit.Below.refl _ _).alloc (Nat.le_refl _) _
  by_cases h : 1 ≤ n ∧ n < 64
  · obtain ⟨h1, h2⟩ := h
    obtain ⟨i0, hi0, hz0, hz1, hz2⟩ := info_parts infoE
    obtain ⟨N, rfl⟩ : ∃ N : Nat, (N : Int) = n := ⟨n.toNat, by omega⟩
    have HK0 : crgA N = makeA 2 (N + 1) (crgE N) := by rw [crgA_ref h1 h2, Int.toNat_natCast]
    obtain ⟨x, hx⟩ : ∃ x, crgA N = x := ⟨_, rfl⟩
    rw [hx] at HK0 ⊢
    obtain ⟨R, kk⟩ := x
    have HK : Hid (makeA 2 (N + 1) (crgE N) = (R, kk)) := HK0.symm
    clear hx HK0
    have hs0 : w0.heap.size = w.heap.size + 1 := by subst hw0; simp
    have hs00 := hB0.size
    obtain ⟨w1, hw1⟩ : ∃ w1, w1 = w0.alloc (.cells #[] 47) := ⟨_, rfl⟩
    have hown0 : w1.ownsRow w0.heap.size 47 3 (.slice (some ⟨w.heap.size + 1, 0, none⟩) 0 0) 0 [] := by subst hw1; rw [← hs0]; exact World.ownsRow_made w0 #[] 0 (Nat.le_refl _) (by simp [maxLen]) rfl
    have hB1 : RowKit.Below w0.heap.size w0 w1 := by subst hw1; exact (RowKit.Below.refl _ _).alloc (Nat.le_refl _) _
    go_enter Try.func8, Try.ntmps8
    go_wp2
    rw [← hw0, ← hw1]
    clear hw0 hw1
    go_loopw [4, 5] (fun lv iv wr => ∃ k : Nat, k ≤ N ∧ iv = .int .i64 k ∧ wr.ownsRow w0.heap.size 47 3 lv (crgE k).length (cat (crgE k)) ∧ RowKit.Below w0.heap.size w0 wr) (fun _ iv _ => N - (intOf iv).toNat)
    case atStart => exact ⟨0, by omega, rfl, hown0, hB1⟩
    case round =>
      clear hown0 hB1
      obtain ⟨k, hk, rfl, hown, hB⟩ := hrel
      by_cases hlt : k < N
      · have hltN : (k : Int) < (N : Int) := by omega
        have HS := hidI (crgE_succ k)
        have hL := crgE_len k
        generalize crgE k = L at *
        have hszw := hB.size
        have hnew := cell_newA wr #[.int .i64 k, .int .i64 1, .int .i64 ((k : Int) + 1), .int .i64 ((k : Int) + 1), .int .i64 0, .int .i64 k] [⟨k, 1, (k : Int) + 1⟩, ⟨(k : Int) + 1, 0, k⟩] 47 wr.heap.size rfl rfl
        (go_wp2_with (at_builtin; refine wpList_append_own _ rfl _ _ 22 rfl w0.heap.size 47 i0 _ 3 24 Try.underlying22 hi0 hz0 hz1 hz2 rfl (by decide) _ _ _ rfl (hown.alloc _) ⟨wr.heap.size, 0, none⟩ 2 2 (cat [⟨(k : Int), 1, (k : Int) + 1⟩, ⟨(k : Int) + 1, 0, (k : Int)⟩]) rfl rfl hnew (cat_one _) (by simp [maxLen]; omega) (by omega) (by rw [World.size_alloc]; omega) ?_; intro v' w4 hown' hgrow _; rw [← cat_app] at hown'))
        have hBf := (hB.alloc hszw _).grown hgrow (Nat.le_trans hszw (by simp)) (fun j e => (hown.lt j e).1)
        go_roundw
        case rel =>
          refine ⟨k + 1, by omega, by go_num, ?_, hBf⟩
          rw [HS.out]; exact own_conv hown' rfl (Nat.le_refl _)
        case measure => simp [intOf]; omega
      · obtain rfl : k = N := by omega
        have hkN : ¬ (k : Int) < (k : Int) := by omega
        have hL := crgE_len k
        generalize crgE k = L at *
        obtain ⟨p, c, rfl, hsg, _⟩ := own_sg hown
        have br := b0.below hB b0.lt
        have xr := hB0.trans (hB.mono hs00)
        go_wp2_with fail
        refine (rMake_any 2 ((k : Int) + 1) L p c wr hsg (by omega)).mono ?_
        rw [HK.out]
        rintro e w4 ⟨p4, c4, rfl, hs, hc, hB4⟩
        have x4 := xr.trans (hB4.mono xr.size)
        have e14 := br.below hB4 br.lt
        have HB := hidI (box3 (w := w) (c := c4) e14 hs x4 (Nat.le_refl _))
        have j0 := e14.at 0 rfl; have j1 := e14.at 1 rfl; have j2 := e14.at 2 rfl
        have z0 := e14.frozen 0; have z1 := e14.frozen 1; have z2 := e14.frozen 2
        go_wp2
        obtain ⟨r6, s6, x6⟩ := HB.out
        unfold set3 at r6 s6 x6
        have y0 := r6.at 0 rfl; have y1 := r6.at 1 rfl; have y2 := r6.at 2 rfl
        refine bodyPost_ret (v := .tuple #[(.agg #[.int .i64 R.q, .int .i64 R.n, .slice p4 R.es.length c4]), .int .i64 kk]) (by simp [results, Try.results8, go_sem, y0, y1, y2]) rfl ?_
        exact ⟨p4, c4, rfl, s6, hc, x6⟩
  · have HK := hidI (crgA_bad h)
    rcases (show n < 1 ∨ (¬ n < 1 ∧ 64 ≤ n) by omega) with h1 | ⟨h1, h2⟩
    all_goals
      have y0 := b0.at 0 rfl; have y1 := b0.at 1 rfl; have y2 := b0.at 2 rfl
      go_enter Try.func8, Try.ntmps8
      go_wp2
      rw [← hw0]
      refine bodyPost_ret (v := .tuple #[.agg #[.int .i64 0, .int .i64 0, .slice none 0 0], .int .i64 2]) (by simp [results, Try.results8, go_sem, y0, y1, y2]) rfl ?_
      exact RetGr.of (G' := ⟨0, 0, []⟩) HK.out (Sg.nil _ _ _ _) (Nat.zero_le _) hB0

theorem nulB_both {n v t : Int} (h1 : v < n) (h2 : 0 < v) : nulB n v t = [⟨2 * v + t, 1 - t, 2 * (v + 1) + 1 - t⟩] ++ [⟨2 * v + t, t, 2 * (v - 1) + 1 - t⟩] := by unfold nulB; rw [if_pos h1, if_pos h2]
theorem nulB_up {n v t : Int} (h1 : v < n) (h2 : ¬ 0 < v) : nulB n v t = [⟨2 * v + t, 1 - t, 2 * (v + 1) + 1 - t⟩] := by unfold nulB; rw [if_pos h1, if_neg h2, List.append_nil]
theorem nulB_dn {n v t : Int} (h1 : ¬ v < n) (h2 : 0 < v) : nulB n v t = [⟨2 * v + t, t, 2 * (v - 1) + 1 - t⟩] := by unfold nulB; rw [if_neg h1, if_pos h2, List.nil_append]

set_option maxRecDepth 100000 in
set_option maxHeartbeats 4000000 in
theorem rcNull_any (n : Int) (w : World) : Calls Try.prog 10 #[.int .i64 n] w (RetGr (nulA n).1 (nulA n).2 w) := by
  obtain ⟨wi, hwi⟩ : ∃ wi, wi = w.alloc (.cells #[.int .i64 0, .int .i64 0, .slice none 0 0] 24) := ⟨_, rfl⟩
  have b0 : VRow wi w.heap.size 24 [.int .i64 0, .int .i64 0, .slice none 0 0] := by subst hwi; exact VRow.new w _ _
  have hB0 : RowKit.Below w.heap.size w wi := by subst hwi; exact (RowKit.Below.refl _ _).alloc (Nat.le_refl _) _
  by_cases h : 1 ≤ n ∧ n ≤ 31
  · obtain ⟨h1, h2⟩ := h
    obtain ⟨i0, hi0, hz0, hz1, hz2⟩ := info_parts infoE
    obtain ⟨N, rfl⟩ : ∃ N : Nat, (N : Int) = n := ⟨n.toNat, by omega⟩
    have HK0 : nulA N = ((essA (makeA 2 (2 * (N : Int) + 2) (nulE N (N + 1))).1).1, (essA (makeA 2 (2 * (N : Int) + 2) (nulE N (N + 1))).1).2.2) := by
      rw [nulA_ref h1 h2, show ((N : Int) + 1).toNat = N + 1 by omega]
    obtain ⟨y, hy⟩ : ∃ y, makeA 2 (2 * (N : Int) + 2) (nulE N (N + 1)) = y := ⟨_, rfl⟩
    obtain ⟨x, hx⟩ : ∃ x, essA y.1 = x := ⟨_, rfl⟩
    obtain ⟨R, k⟩ := y
    obtain ⟨R', l', k'⟩ := x
    rw [hy, hx] at HK0
    rw [HK0]
    have HY := hidI hy
    have HX := hidI hx
    clear HK0 hx
    have HL : Hid ((makeA 2 (2 * (N : Int) + 2) (nulE N (N + 1))).1.es.length ≤ 10000) := by
      have h3 := makeA_len 2 (2 * (N : Int) + 2) (nulE N (N + 1))
      have h4 := nulE_len N (N + 1)
      unfold Hid; omega
    rw [hy] at HL
    clear hy
    have hs0 : wi.heap.size = w.heap.size + 1 := by subst hwi; simp
    have hs00 := hB0.size
    obtain ⟨w0, hw0⟩ : ∃ w0, w0 = wi := ⟨_, rfl⟩
    rw [← hw0] at b0 hB0 hs0 hs00 hwi
    obtain ⟨w1, hw1⟩ : ∃ w1, w1 = w0.alloc (.cells #[] 47) := ⟨_, rfl⟩
    have hown0 : w1.ownsRow w0.heap.size 47 3 (.slice (some ⟨w.heap.size + 1, 0, none⟩) 0 0) 0 [] := by subst hw1; rw [← hs0]; exact World.ownsRow_made w0 #[] 0 (Nat.le_refl _) (by simp [maxLen]) rfl
    have hB1 : RowKit.Below w0.heap.size w0 w1 := by subst hw1; exact (RowKit.Below.refl _ _).alloc (Nat.le_refl _) _
    clear hw0
    go_enter Try.func10, Try.ntmps10
    go_wp2
    rw [← hwi, ← hw1]
    clear hwi hw1
    go_loopw [4, 5] (fun lv iv wr => ∃ k : Nat, k ≤ N + 1 ∧ iv = .int .i64 k ∧ wr.ownsRow w0.heap.size 47 3 lv (nulE N k).length (cat (nulE N k)) ∧ RowKit.Below w0.heap.size w0 wr) (fun _ iv _ => N + 1 - (intOf iv).toNat)
    case atStart => exact ⟨0, by omega, rfl, hown0, hB1⟩
    case round =>
      clear hown0 hB1
      obtain ⟨v, hk, rfl, hown, hB⟩ := hrel
      by_cases hlt : v ≤ N
      · have hltN : (v : Int) ≤ (N : Int) := by omega
        have HS := hidI (nulE_succ N v)
        have hL := nulE_len N v
        generalize nulE N v = L3 at *
        obtain ⟨wo, rfl⟩ : ∃ wo : World, wo = wr := ⟨_, rfl⟩
        go_wp2
        go_loopw [4, 6] (fun lv iv wr => ∃ k : Nat, k ≤ 2 ∧ iv = .int .i64 k ∧ (L3 ++ nul1 N v k).length ≤ 4 * v + 2 * k ∧ wr.ownsRow w0.heap.size 47 3 lv (L3 ++ nul1 N v k).length (cat (L3 ++ nul1 N v k)) ∧ RowKit.Below w0.heap.size w0 wr) (fun _ iv _ => 2 - (intOf iv).toNat)
        case atStart => exact ⟨0, by omega, rfl, by rw [nul1_zero, List.append_nil]; omega, by rw [nul1_zero, List.append_nil]; exact hown, hB⟩
        case round =>
          clear hown hB hL
          obtain ⟨t, ht, rfl, hL, hown, hB⟩ := hrel
          by_cases hltt : t < 2
          · have hltt' : (t : Int) < 2 := by omega
            have H2S : Hid (L3 ++ nul1 N v (t + 1) = (L3 ++ nul1 N v t) ++ nulB N v t) := by rw [Hid, nul1_succ, List.append_assoc]
            generalize L3 ++ nul1 N v t = L at *
            have hszw := hB.size
            have hne0 := fun j e => (hown.lt j e).1
            by_cases hv : (v : Int) < (N : Int)
            · have hnew := cell_newA wr #[.int .i64 (2 * v + t), .int .i64 (1 - t), .int .i64 (2 * ((v : Int) + 1) + 1 - t)] [⟨2 * v + t, 1 - t, 2 * ((v : Int) + 1) + 1 - t⟩] 47 wr.heap.size rfl rfl
              by_cases hv0 : (0 : Int) < (v : Int)
              · have HX := hidI (nulB_both (t := (t : Int)) hv hv0)
                (go_upto_region 13 with (at_builtin; refine wpList_append_own _ rfl _ _ 22 rfl w0.heap.size 47 i0 _ 3 24 Try.underlying22 hi0 hz0 hz1 hz2 rfl (by decide) _ _ _ rfl (hown.alloc _) ⟨wr.heap.size, 0, none⟩ 1 1 (cat [⟨2 * (v : Int) + (t : Int), 1 - (t : Int), 2 * ((v : Int) + 1) + 1 - (t : Int)⟩]) rfl rfl hnew (cat_one _) (by simp [maxLen]; omega) (by omega) (by rw [World.size_alloc]; omega) ?_; intro v' w4 hown' hgrow _; rw [← cat_app] at hown'))
                have hB4 := (hB.alloc hszw _).grown hgrow (Nat.le_trans hszw (by simp)) hne0
                have hown4 := own_conv hown' rfl (Nat.le_refl _)
                clear hown hB hgrow hown' hnew hne0
                have hszw := hB4.size
                have hne0 := fun j e => (hown4.lt j e).1
                have hL4 : (L ++ [(⟨2 * (v : Int) + (t : Int), 1 - (t : Int), 2 * ((v : Int) + 1) + 1 - (t : Int)⟩ : Ed)]).length ≤ 4 * v + 2 * t + 1 := by rw [List.length_append, List.length_singleton]; omega
                have H2S : Hid (L3 ++ nul1 N v (t + 1) = (L ++ [⟨2 * (v : Int) + (t : Int), 1 - (t : Int), 2 * ((v : Int) + 1) + 1 - (t : Int)⟩]) ++ [⟨2 * (v : Int) + (t : Int), (t : Int), 2 * ((v : Int) - 1) + 1 - (t : Int)⟩]) := by rw [Hid, H2S.out, HX.out, List.append_assoc]
                generalize L ++ [(⟨2 * (v : Int) + (t : Int), 1 - (t : Int), 2 * ((v : Int) + 1) + 1 - (t : Int)⟩ : Ed)] = L' at *
                have hnew := cell_newA w4 #[.int .i64 (2 * v + t), .int .i64 t, .int .i64 (2 * ((v : Int) - 1) + 1 - t)] [⟨2 * v + t, t, 2 * ((v : Int) - 1) + 1 - t⟩] 47 w4.heap.size rfl rfl
                (go_wp2_with (at_builtin; refine wpList_append_own _ rfl _ _ 22 rfl w0.heap.size 47 i0 _ 3 24 Try.underlying22 hi0 hz0 hz1 hz2 rfl (by decide) _ _ _ rfl (hown4.alloc _) ⟨w4.heap.size, 0, none⟩ 1 1 (cat [⟨2 * (v : Int) + (t : Int), (t : Int), 2 * ((v : Int) - 1) + 1 - (t : Int)⟩]) rfl rfl hnew (cat_one _) (by simp [maxLen]; omega) (by omega) (by rw [World.size_alloc]; omega) ?_; intro v' w5 hown' hgrow _; rw [← cat_app] at hown'))
                have hBf := (hB4.alloc hszw _).grown hgrow (Nat.le_trans hszw (by simp)) hne0
                go_roundw
                case rel =>
                  refine ⟨t + 1, by omega, by go_num, ?_, ?_, hBf⟩
                  · rw [H2S.out, List.length_append, List.length_singleton]; omega
                  · rw [H2S.out]; exact own_conv hown' rfl (Nat.le_refl _)
                case measure => simp [intOf]; omega
              · have HX := hidI (nulB_up (t := (t : Int)) hv hv0)
                (go_wp2_with (at_builtin; refine wpList_append_own _ rfl _ _ 22 rfl w0.heap.size 47 i0 _ 3 24 Try.underlying22 hi0 hz0 hz1 hz2 rfl (by decide) _ _ _ rfl (hown.alloc _) ⟨wr.heap.size, 0, none⟩ 1 1 (cat [⟨2 * (v : Int) + (t : Int), 1 - (t : Int), 2 * ((v : Int) + 1) + 1 - (t : Int)⟩]) rfl rfl hnew (cat_one _) (by simp [maxLen]; omega) (by omega) (by rw [World.size_alloc]; omega) ?_; intro v' w4 hown' hgrow _; rw [← cat_app] at hown'))
                have hBf := (hB.alloc hszw _).grown hgrow (Nat.le_trans hszw (by simp)) hne0
                go_roundw
                case rel =>
                  refine ⟨t + 1, by omega, by go_num, ?_, ?_, hBf⟩
                  · rw [H2S.out, HX.out, List.length_append, List.length_singleton]; omega
                  · rw [H2S.out, HX.out]; exact own_conv hown' rfl (Nat.le_refl _)
                case measure => simp [intOf]; omega
            · have hv0 : (0 : Int) < (v : Int) := by omega
              have HX := hidI (nulB_dn (t := (t : Int)) hv hv0)
              have hnew := cell_newA wr #[.int .i64 (2 * v + t), .int .i64 t, .int .i64 (2 * ((v : Int) - 1) + 1 - t)] [⟨2 * v + t, t, 2 * ((v : Int) - 1) + 1 - t⟩] 47 wr.heap.size rfl rfl
              (go_wp2_with (at_builtin; refine wpList_append_own _ rfl _ _ 22 rfl w0.heap.size 47 i0 _ 3 24 Try.underlying22 hi0 hz0 hz1 hz2 rfl (by decide) _ _ _ rfl (hown.alloc _) ⟨wr.heap.size, 0, none⟩ 1 1 (cat [⟨2 * (v : Int) + (t : Int), (t : Int), 2 * ((v : Int) - 1) + 1 - (t : Int)⟩]) rfl rfl hnew (cat_one _) (by simp [maxLen]; omega) (by omega) (by rw [World.size_alloc]; omega) ?_; intro v' w4 hown' hgrow _; rw [← cat_app] at hown'))
              have hBf := (hB.alloc hszw _).grown hgrow (Nat.le_trans hszw (by simp)) hne0
              go_roundw
              case rel =>
                refine ⟨t + 1, by omega, by go_num, ?_, ?_, hBf⟩
                · rw [H2S.out, HX.out, List.length_append, List.length_singleton]; omega
                · rw [H2S.out, HX.out]; exact own_conv hown' rfl (Nat.le_refl _)
              case measure => simp [intOf]; omega
          · have HT : Hid (t = 2) := by unfold Hid; omega
            have htt : ¬ (t : Int) < 2 := by omega
            have HR : Hid (L3 ++ nul1 N v t = nulE N (v + 1)) := by rw [Hid, HS.out, HT.out]
            go_wp2
            go_roundw
            case rel => exact ⟨v + 1, by omega, by go_num, by rw [← HR.out]; exact hown, hB⟩
            case measure => simp [intOf]; omega
      · have HV : Hid (v = N + 1) := by unfold Hid; omega
        have hvN : ¬ (v : Int) ≤ (N : Int) := by omega
        have hL := nulE_len N v
        rw [← HV.out] at HY
        generalize nulE N v = L at *
        obtain ⟨p, c, rfl, hsg, _⟩ := own_sg hown
        have br := b0.below hB b0.lt
        have xr := hB0.trans (hB.mono hs00)
        clear hlt hk
        go_wp2_with fail
        refine (rMake_any 2 (2 * (N : Int) + 2) L p c wr hsg (by have := HV.out; omega)).mono ?_
        rw [HY.out]
        rintro e w4 ⟨p4, c4, rfl, hs, hc, hB4⟩
        have x4 := xr.trans (hB4.mono xr.size)
        have e14 := br.below hB4 br.lt
        obtain ⟨w5, hw5⟩ : ∃ w5, w5 = w4.alloc (.cells #[.int .i64 R.q, .int .i64 R.n, .slice p4 R.es.length c4] 24) := ⟨_, rfl⟩
        have e15 : VRow w5 w.heap.size 24 [.int .i64 0, .int .i64 0, .slice none 0 0] := by subst hw5; exact e14.alloc _
        have s5 : Sg 3 w5 edE p4 R.es := by subst hw5; exact hs.below ((RowKit.Below.refl _ _).alloc (Nat.le_refl _) _)
        have x5 : RowKit.Below w.heap.size w w5 := by subst hw5; exact x4.alloc x4.size _
        go_wp2_with fail
        rw [← hw5]
        clear hw5
        refine (rEss_any R p4 c4 w5 s5 HL.out).mono ?_
        rw [HX.out]
        intro e w6 hr
        obtain ⟨p6, c6, v6, rfl, hs6, hc6, _, hB6⟩ := hr.open
        have x6 := x5.trans (hB6.mono x5.size)
        have e16 := e15.below hB6 e15.lt
        obtain ⟨w7, hw7⟩ : ∃ w7, w7 = w6.alloc (.cells #[.int .i64 R'.q, .int .i64 R'.n, .slice p6 R'.es.length c6] 24) := ⟨_, rfl⟩
        have e17 : VRow w7 w.heap.size 24 [.int .i64 0, .int .i64 0, .slice none 0 0] := by subst hw7; exact e16.alloc _
        have s7 : Sg 3 w7 edE p6 R'.es := by subst hw7; exact hs6.below ((RowKit.Below.refl _ _).alloc (Nat.le_refl _) _)
        have x7 : RowKit.Below w.heap.size w w7 := by subst hw7; exact x6.alloc x6.size _
        have HB := hidI (box3 (w := w) (B := w.heap.size) (c := c6) e17 s7 x7 (Nat.le_refl _))
        have j0 := e17.at 0 rfl; have j1 := e17.at 1 rfl; have j2 := e17.at 2 rfl
        have z0 := e17.frozen 0; have z1 := e17.frozen 1; have z2 := e17.frozen 2
        rw [hw7] at j0 j1 j2 z0 z1 z2
        go_wp2
        rw [← hw7]
        obtain ⟨r8, s8, x8⟩ := HB.out
        unfold set3 at r8 s8 x8
        have y0 := r8.at 0 rfl; have y1 := r8.at 1 rfl; have y2 := r8.at 2 rfl
        refine bodyPost_ret (v := .tuple #[(.agg #[.int .i64 R'.q, .int .i64 R'.n, .slice p6 R'.es.length c6]), .int .i64 k']) (by simp [results, Try.results10, go_sem, y0, y1, y2]) rfl ?_
        exact ⟨p6, c6, rfl, s8, hc6, x8⟩
  · have HK := hidI (nulA_bad h)
    rcases (show n < 1 ∨ (¬ n < 1 ∧ 31 < n) by omega) with h1 | ⟨h1, h2⟩
    all_goals
      have y0 := b0.at 0 rfl; have y1 := b0.at 1 rfl; have y2 := b0.at 2 rfl
      go_enter Try.func10, Try.ntmps10
      go_wp2
      rw [← hwi]
      refine bodyPost_ret (v := .tuple #[.agg #[.int .i64 0, .int .i64 0, .slice none 0 0], .int .i64 2]) (by simp [results, Try.results10, go_sem, y0, y1, y2]) rfl ?_
      exact RetGr.of (G' := ⟨0, 0, []⟩) HK.out (Sg.nil _ _ _ _) (Nat.zero_le _) hB0
end Go.Proofs.Ytlgjhmenjfmpfaa
