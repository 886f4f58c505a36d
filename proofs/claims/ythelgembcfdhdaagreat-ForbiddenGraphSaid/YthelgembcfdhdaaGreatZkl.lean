/-
  Words, plain lemmas and walks, merged: Cb, Fy, Kd, Law, Ks, Ke.
-/
import Derived.Test.YthelgembcfdhdaaGreatZki
import Derived.Test.YthelgembcfdhdaaGreatZkh
import Derived.Test.YthelgembcfdhdaaGreatZkk
import Derived.Test.YthelgembcfdhdaaGreatZkj
import Derived.Test.YthelgembcfdhdaaGreatRows
import Derived.ProofKit
import Derived.OpenShut
import Derived.ShutString
import Derived.SliceStrings
import Derived.HandedShaped
set_option linter.unusedVariables false
set_option linter.unusedSimpArgs false
namespace Go.Proofs.YthelgembcfdhdaaGreat
open Go.RowKit Go.Sort Go.Shelf Go.Lib

def inS (st : List Int) (s : Int) (x : Ed) : Bool := decide (x.t = s) && decide (x.f ∈ st)
def outS (st : List Int) (s : Int) (x : Ed) : Bool := decide (x.f = s) && decide (x.t ∈ st)
theorem own_sl' {w : World} {B e n c : Nat} {p : Option Addr} {l : List Int} (h : w.ownsRow B e 1 (.slice p l.length c) n (l.map (Value.int .i64))) : Sl w (Value.int .i64) p l := by
  obtain ⟨p', c', he, hs⟩ := own_sl h
  cases he
  exact hs
def boN : Value → Nat | .bool true => 1 | _ => 0
theorem essP_in (es : List Ed) (st : List Int) (s : Int) : essP es st s = (es.any (inS st s) && es.any (outS st s)) := rfl
theorem flen_le {α : Type} (f : α → Bool) (l : List α) (k : Nat) (h : k ≤ l.length) : ((l.take k).filter f).length ≤ k := Nat.le_trans (List.length_filter_le _ _) (by rw [List.length_take]; omega)

set_option maxRecDepth 100000 in
set_option maxHeartbeats 4000000 in
theorem rEss_any (G : Gr) (p : Option Addr) (c : Nat) (w : World) (hin : Sg 3 w edE p G.es) (hl : G.es.length ≤ 10000) :
    Calls Tryz.prog 34 #[(.agg #[.int .i64 G.q, .int .i64 G.n, .slice p G.es.length c])] w (RetEs (essA G).1 (essA G).2.1 (essA G).2.2 w) := by
  have HIN := hidI hin
  clear hin
  obtain ⟨i0, hi0, hz0, hz1, hz3⟩ := info_parts infoIn
  obtain ⟨w0, hw0⟩ : ∃ w0, w0 = (w.alloc (.cells #[.int .i64 G.q, .int .i64 G.n, .slice p G.es.length c] 27)).alloc (.cells #[.int .i64 0, .int .i64 0, .slice none 0 0] 27) := ⟨_, rfl⟩
  have b0 : VRow w0 w.heap.size 27 [.int .i64 G.q, .int .i64 G.n, .slice p G.es.length c] := by subst hw0; exact (VRow.new w _ _).alloc _
  have b1 : VRow w0 (w.heap.size + 1) 27 [.int .i64 0, .int .i64 0, .slice none 0 0] := by subst hw0; exact VRow.new1 w _ _ _
  have hB0 : RowKit.Below w.heap.size w w0 := by subst hw0; exact ((RowKit.Below.refl _ _).alloc (Nat.le_refl _) _).alloc (by simp) _
  obtain ⟨r, hr⟩ : ∃ r, chkG G = r := ⟨_, rfl⟩
  by_cases hr0 : r = 0
  · subst hr0
    have HR := hidI hr
    have HV := hidI (chkG_ok.1 hr)
    obtain ⟨N, hNt⟩ : ∃ N : Nat, N = G.n.toNat := ⟨_, rfl⟩
    have HK : Hid (essA G = (partA G (ess G.es (upto N)), ess G.es (upto N), 0)) := by rw [hNt]; exact essA_ok hr
    clear hr
    go_enter Tryz.func34, Tryz.ntmps34
    go_wp2_with fail
    rw [← hw0]
    clear hw0
    refine (rCheck_r G p c _ 0 HR.out (HIN.out.below hB0) (by omega)).mono ?_
    rintro e w1 ⟨rfl, hB1⟩
    have x1 := hB0.trans (hB1.mono hB0.size)
    have c0 := b0.below hB1 b0.lt
    have c1 := b1.below hB1 b1.lt
    have f1 := c0.at 1 rfl
    clear hB1 b0 b1 hB0
    have hz : w.heap.size + 1 < w1.heap.size := c1.lt
    have hn0 := HV.out.n1; have hn1 := HV.out.n2
    have HN : Hid ((N : Int) = G.n) := by unfold Hid; omega
    have HU : Hid (St G.n (upto N)) := by rw [hNt]; exact St.upto hn0
    clear hNt
    go_wp2
    go_loopw [5, 6] (fun ov iv wr => ∃ k : Nat, k ≤ N ∧ iv = .int .i64 k ∧ wr.ownsRow w1.heap.size 3 1 ov k ((upto k).map (Value.int .i64)) ∧ RowKit.Below w1.heap.size w1 wr) (fun _ iv _ => N - (intOf iv).toNat)
    case atStart => exact ⟨0, by omega, rfl, World.ownsRow_nil _ _ _ _, RowKit.Below.refl _ _⟩
    case round =>
      obtain ⟨k, hk, rfl, hown, hB⟩ := hrel
      have hNN := HN.out
      by_cases hlt : (k : Int) < G.n
      · have hkN : k + 1 ≤ N := by omega
        clear hNN
        have hnew := cell_one_at wr (.int .i64 (k : Int)) 3 wr.heap.size rfl
        have HUS := hidI (upto_succ k)
        generalize upto k = M at *
        have f1r := (c0.below hB c0.lt).at 1 rfl
        go_wp2_with (at_builtin; refine wpList_append_own _ rfl _ _ 57 rfl w1.heap.size 3 i0 (.int .i64 0) 1 8 Tryz.underlying57 hi0 hz0 hz1 hz3 rfl (by decide) _ _ _ rfl (hown.alloc _) ⟨wr.heap.size, 0, none⟩ 1 1 [.int .i64 (k : Int)] rfl rfl hnew (by simp [Value.oneCell']) (by simp [maxLen]; omega) (by omega) (by rw [World.size_alloc]; have := hB.size; omega) ?_; intro v' w2 hown' hgrow _)
        go_roundw
        case rel => exact ⟨k + 1, hkN, by go_num, by rw [HUS.out, List.map_append]; exact hown', (hB.alloc hB.size _).grown hgrow (Nat.le_trans hB.size (by simp)) (fun j e => (hown.lt j e).1)⟩
        case measure => simp [intOf]; omega
      · obtain rfl : N = k := by omega
        clear hNN
        obtain ⟨w2, rfl⟩ : ∃ w2 : World, w2 = wr := ⟨_, rfl⟩
        have x2 := x1.trans (hB.mono x1.size)
        have d0 := c0.below hB c0.lt
        have d1 := c1.below hB c1.lt
        have f1r := d0.at 1 rfl
        have hge := hB.size
        clear hB x1 c0 c1 f1
        go_wp2
        clear hlt f1r
        go_loopw [5, 7] (fun sv cv wr => ∃ (st : List Int) (ch : Bool), cv = .bool ch ∧ Hid (St G.n st) ∧ Hid (ess G.es st = ess G.es (upto N)) ∧ Hid (ch = false → (essS G.es st).length = st.length) ∧ wr.ownsRow w1.heap.size 3 1 sv st.length (st.map (Value.int .i64)) ∧ RowKit.Below w2.heap.size w2 wr) (fun sv cv _ => 2 * slLen sv + boN cv)
        case atStart => exact ⟨upto N, true, rfl, HU, rfl, (fun h => by simp at h), by rw [upto_len]; exact hown, RowKit.Below.refl _ _⟩
        case round =>
          clear hown
          obtain ⟨st, ch, rfl, HST, HE, HC, hown, hB⟩ := hrel
          obtain ⟨ps, cs, rfl, _⟩ := own_sl hown
          obtain ⟨wo, rfl⟩ : ∃ wo : World, wo = wr := ⟨_, rfl⟩
          have hsl : st.length ≤ 64 := by have := HST.out.len hn0; omega
          have x3 := x2.trans (hB.mono x2.size)
          have e0 := d0.below hB d0.lt
          have e1 := d1.below hB d1.lt
          have hge3 := hB.size
          cases ch
          · have HSE := hidI (HC.out rfl)
            have HKK : Hid (essA G = (partA G st, st, 0)) := by
              have := HE.out
              rw [ess_stop HSE.out] at this
              rw [Hid, HK.out, ← this]
            have hst3 := HST.out.srt
            clear HE HC HSE HK HU
            obtain ⟨ps', cs', hpe, hsl1⟩ := own_sl hown
            cases hpe
            have k0 := e0.at 0 rfl; have k1 := e0.at 1 rfl; have k2 := e0.at 2 rfl
            go_wp2_with fail
            refine (rPart_any G p c st ps cs wo (HIN.out.below x3) hsl1 hl (by omega)).mono ?_
            generalize partA G st = R at *
            rintro e w4 ⟨p4, m4, c4, rfl, hown4, hB4⟩
            have x4 := x3.trans (hB4.mono x3.size)
            have e14 := e1.below hB4 e1.lt
            have hz3 : w.heap.size + 1 < wo.heap.size := e1.lt
            have hown5 := hown.below hB4
            have j0 := e14.at 0 rfl; have j1 := e14.at 1 rfl; have j2 := e14.at 2 rfl
            have z0 := e14.frozen 0; have z1 := e14.frozen 1; have z2 := e14.frozen 2
            go_wp2
            have r6 := VRow.set (i := 2) (.slice p4 m4 c4) (VRow.set (i := 1) (.int .i64 R.n) (VRow.set (i := 0) (.int .i64 R.q) e14))
            have y0 := r6.at 0 rfl; have y1 := r6.at 1 rfl; have y2 := r6.at 2 rfl
            have o6 := ownsRow_setCell_below (a := (⟨w.heap.size + 1, 2, none⟩ : Addr)) (ownsRow_setCell_below (a := (⟨w.heap.size + 1, 1, none⟩ : Addr)) (ownsRow_setCell_below (a := (⟨w.heap.size + 1, 0, none⟩ : Addr)) hown4 hz3 (.int .i64 R.q)) hz3 (.int .i64 R.n)) hz3 (.slice p4 m4 c4)
            have o7 := ownsRow_setCell_below (a := (⟨w.heap.size + 1, 2, none⟩ : Addr)) (ownsRow_setCell_below (a := (⟨w.heap.size + 1, 1, none⟩ : Addr)) (ownsRow_setCell_below (a := (⟨w.heap.size + 1, 0, none⟩ : Addr)) hown5 hz (.int .i64 R.q)) hz (.int .i64 R.n)) hz (.slice p4 m4 c4)
            have x6 : RowKit.Below w.heap.size w (((w4.setCell (⟨w.heap.size + 1, 0, none⟩ : Addr) (.int .i64 R.q)).setCell (⟨w.heap.size + 1, 1, none⟩ : Addr) (.int .i64 R.n)).setCell (⟨w.heap.size + 1, 2, none⟩ : Addr) (.slice p4 m4 c4)) :=
              ((x4.setCell (show w.heap.size ≤ w.heap.size + 1 by omega) _).setCell (show w.heap.size ≤ w.heap.size + 1 by omega) _).setCell (show w.heap.size ≤ w.heap.size + 1 by omega) _
            refine bodyPost_ret (v := .tuple #[.agg #[.int .i64 R.q, .int .i64 R.n, .slice p4 m4 c4], .slice ps st.length cs, .int .i64 0]) (by simp [results, Tryz.results34, go_sem, y0, y1, y2]) rfl ?_
            exact RetEs.of HKK.out (own_conv o6 rfl (by omega)) ⟨o7.1, o7.2.imp id (fun ⟨g, cap, cur, a, b, z⟩ => ⟨g, cap, cur, a, Nat.le_trans (show w.heap.size ≤ w1.heap.size by omega) b, z⟩)⟩ x6
          · clear HC
            go_wp2
            go_loopw [7, 8, 9] (fun cv kv iv wr => ∃ (k : Nat) (ch : Bool) (v : Value), k ≤ st.length ∧ iv = .int .i64 k ∧ cv = .bool ch ∧ kv = v ∧ Hid (if ch = true then ((st.take k).filter (essP G.es st)).length < k else ((st.take k).filter (essP G.es st)).length = k) ∧
                wr.ownsRow wo.heap.size 3 1 v ((st.take k).filter (essP G.es st)).length (((st.take k).filter (essP G.es st)).map (Value.int .i64)) ∧ RowKit.Below wo.heap.size wo wr) (fun _ _ iv _ => st.length - (intOf iv).toNat)
            case atStart => exact ⟨0, false, _, by omega, rfl, rfl, rfl, (by rw [if_neg (by simp)]; rfl), World.ownsRow_nil _ _ _ _, RowKit.Below.refl _ _⟩
            case round =>
              obtain ⟨k, ch, kv, hk, rfl, rfl, rfl, HF, hownk, hBk⟩ := hrel
              obtain ⟨w3, rfl⟩ : ∃ w3 : World, w3 = wr := ⟨_, rfl⟩
              have hown3 := hown.below hBk
              have hgk := hBk.size
              by_cases hlt : k < st.length
              · have HFS := hidI (filter_snoc (essP G.es st) st k hlt)
                have HFL := hidI (flen_le (essP G.es st) st k hk)
                have HPI := hidI (essP_in G.es st st[k])
                obtain ⟨b1, o1, rfl, hb1, hc1⟩ := (own_sl' hown3).get k hlt
                have s1 := hc1 k hlt
                clear hc1
                generalize st[k] = s at *
                generalize (st.take k).filter (essP G.es st) = M at *
                go_wp2
                go_loopw [10, 11, 12] (fun iv ov jv wx => ∃ j : Nat, j ≤ G.es.length ∧ jv = .int .i64 j ∧ iv = .bool ((G.es.take j).any (inS st s)) ∧ ov = .bool ((G.es.take j).any (outS st s)) ∧ RowKit.Below w3.heap.size w3 wx) (fun _ _ jv _ => G.es.length - (intOf jv).toNat)
                case atStart => exact ⟨0, by omega, rfl, rfl, rfl, RowKit.Below.refl _ _⟩
                case round =>
                  obtain ⟨j, hj, rfl, rfl, rfl, hBx⟩ := hrel
                  have x5 := hBk.trans (hBx.mono hBk.size)
                  have g0 := e0.below x5 e0.lt
                  have hslx := own_sl' (hown3.below hBx)
                  have s1x := (hBx.cell (p := (⟨b1, o1 + k, none⟩ : Addr)) hb1).trans s1
                  have f2 := g0.at 2 rfl
                  by_cases hjl : j < G.es.length
                  · obtain ⟨b3, o3, rfl, hb3, q0, q1, q2⟩ := (HIN.out.below (x3.trans (x5.mono x3.size))).get3 j hjl rfl
                    have HA1 := hidI (any_snoc (inS st s) G.es j hjl); have HA2 := hidI (any_snoc (outS st s) G.es j hjl)
                    generalize (G.es.take j).any (inS st s) = a1 at *
                    generalize (G.es.take j).any (outS st s) = a2 at *
                    generalize G.es[j] = x at *
                    obtain ⟨r1, hr1⟩ : ∃ r, decide (x.f ∈ st) = r := ⟨_, rfl⟩
                    obtain ⟨r2, hr2⟩ : ∃ r, decide (x.t ∈ st) = r := ⟨_, rfl⟩
                    have ho1 : (a1 = true ∧ Hid ((G.es.take (j + 1)).any (inS st s) = true)) ∨ (a1 = false ∧ (x.t == s) = false ∧ Hid ((G.es.take (j + 1)).any (inS st s) = false)) ∨ (a1 = false ∧ (x.t == s) = true ∧ Hid ((G.es.take (j + 1)).any (inS st s) = r1)) := by
                      unfold Hid
                      rw [HA1.out]
                      cases a1
                      · by_cases h : x.t = s
                        · exact .inr (.inr ⟨rfl, by simpa using h, by simp [inS, h, hr1]⟩)
                        · exact .inr (.inl ⟨rfl, by simpa using h, by simp [inS, h]⟩)
                      · exact .inl ⟨rfl, rfl⟩
                    have ho2 : (a2 = true ∧ Hid ((G.es.take (j + 1)).any (outS st s) = true)) ∨ (a2 = false ∧ (x.f == s) = false ∧ Hid ((G.es.take (j + 1)).any (outS st s) = false)) ∨ (a2 = false ∧ (x.f == s) = true ∧ Hid ((G.es.take (j + 1)).any (outS st s) = r2)) := by
                      unfold Hid
                      rw [HA2.out]
                      cases a2
                      · by_cases h : x.f = s
                        · exact .inr (.inr ⟨rfl, by simpa using h, by simp [outS, h, hr2]⟩)
                        · exact .inr (.inl ⟨rfl, by simpa using h, by simp [outS, h]⟩)
                      · exact .inl ⟨rfl, rfl⟩
                    clear HA1 HA2
                    obtain ⟨W1, hW1⟩ : ∃ W1, W1 = wr.alloc (.cells #[.int .i64 x.f, .int .i64 x.l, .int .i64 x.t] 47) := ⟨_, rfl⟩
                    have y0 : VRow W1 wr.heap.size 47 [.int .i64 x.f, .int .i64 x.l, .int .i64 x.t] := by subst hW1; exact VRow.new wr _ _
                    have HS1 : Sl W1 (Value.int .i64) (some ⟨b1, o1, none⟩) st := by subst hW1; exact hslx.below ((RowKit.Below.refl _ _).alloc (Nat.le_refl _) _)
                    have hB1 : RowKit.Below w3.heap.size w3 W1 := by subst hW1; exact hBx.alloc hBx.size _
                    have s2 := (hB1.cell (p := (⟨b1, o1 + k, none⟩ : Addr)) hb1).trans s1
                    clear s1x
                    go_upto_region 20 with fail
                    rw [← hW1]
                    clear hW1 q0 q1 q2 f2
                    have u0 := y0.at 0 rfl; have u2 := y0.at 2 rfl
                    have HC1 := fun (n : Nat) => Calls.quiet_of_same (rHas_r st (some ⟨b1, o1, none⟩) cs x.f r1 (W1.drewN n) HS1 (by omega) hr1)
                    rcases ho1 with ⟨rfl, HV1⟩ | ⟨rfl, d1, HV1⟩ | ⟨rfl, d1, HV1⟩
                    all_goals
                      (refine wp_region_quiet_lit (by kernel_rfl) (by kernel_rfl) ?_; (repeat (first | go_big_quiet_step ((go_at_call 70; with_reducible exact HC1 _)) | quiet_step ((go_at_call 70; with_reducible exact HC1 _)))); refine wpQuiet_nil ?_; intro _ hwq; obtain ⟨nq, hwq2⟩ := hwq; subst hwq2)
                      have HS2 : Sl (W1.drewN nq) (Value.int .i64) (some ⟨b1, o1, none⟩) st := HS1
                      have hBq : RowKit.Below w3.heap.size w3 (W1.drewN nq) := below_dN hB1 nq
                      have u0q : (W1.drewN nq).cell? ⟨wr.heap.size, 0, none⟩ = some (.int .i64 x.f) := u0
                      have u2q : (W1.drewN nq).cell? ⟨wr.heap.size, 2, none⟩ = some (.int .i64 x.t) := u2
                      have s2q : (W1.drewN nq).cell? ⟨b1, o1 + k, none⟩ = some (.int .i64 s) := s2
                      clear u0 u2 s2 HS1 hB1 HC1 y0
                      generalize W1.drewN nq = W2 at *
                      have HC2 := fun (n : Nat) => Calls.quiet_of_same (rHas_r st (some ⟨b1, o1, none⟩) cs x.t r2 (W2.drewN n) HS2 (by omega) hr2)
                      rcases ho2 with ⟨rfl, HV2⟩ | ⟨rfl, d2, HV2⟩ | ⟨rfl, d2, HV2⟩
                      all_goals
                        go_wp2_with fail
                        (refine wp_region_quiet_lit (by kernel_rfl) (by kernel_rfl) ?_; (repeat (first | go_big_quiet_step ((go_at_call 70; with_reducible exact HC2 _)) | quiet_step ((go_at_call 70; with_reducible exact HC2 _)))); refine wpQuiet_nil ?_; intro _ hwq; obtain ⟨nq, hwq2⟩ := hwq; subst hwq2)
                        go_wp2_with fail
                        go_roundw
                        case rel => exact ⟨j + 1, by omega, by go_num, by rw [HV1.out], by rw [HV2.out], below_dN hBq nq⟩
                        case measure => simp [intOf]; omega
                  · obtain rfl : j = G.es.length := by omega
                    rw [List.take_length]
                    have HP : Hid ((G.es.any (inS st s) && G.es.any (outS st s)) = essP G.es st s) := HPI.out.symm
                    generalize G.es.any (inS st s) = a1 at *
                    generalize G.es.any (outS st s) = a2 at *
                    have hownx := hownk.below hBx
                    have hszx := hBx.size
                    cases ha : (a1 && a2)
                    · have HN : Hid (List.filter (essP G.es st) (st.take (k + 1)) = M) := by rw [Hid, HFS.out, ← HP.out, ha]; simp
                      have ha2 : a1 = false ∨ (a1 = true ∧ a2 = false) := by cases a1 <;> simp_all
                      rcases ha2 with rfl | ⟨rfl, rfl⟩
                      all_goals
                        go_wp2_with fail
                        go_roundw
                        case rel => exact ⟨k + 1, true, _, by omega, by go_num, rfl, rfl, (by rw [HN.out, if_pos rfl]; have := HFL.out; unfold Hid; omega), by rw [HN.out]; exact hownx, x5⟩
                        case measure => simp [intOf]; omega
                    · have HN : Hid (List.filter (essP G.es st) (st.take (k + 1)) = M ++ [s]) := by rw [Hid, HFS.out, ← HP.out, ha]; simp
                      have ha2 : a1 = true ∧ a2 = true := by cases a1 <;> simp_all
                      obtain ⟨rfl, rfl⟩ := ha2
                      have hnew := cell_one_at wr (.int .i64 s) 3 wr.heap.size rfl
                      have hML := HFL.out
                      go_wp2_with (at_builtin; refine wpList_append_own _ rfl _ _ 57 rfl wo.heap.size 3 i0 (.int .i64 0) 1 8 Tryz.underlying57 hi0 hz0 hz1 hz3 rfl (by decide) _ _ _ rfl (hownx.alloc _) ⟨wr.heap.size, 0, none⟩ 1 1 [.int .i64 s] rfl rfl hnew (by simp [Value.oneCell']) (by simp [maxLen]; omega) (by omega) (by rw [World.size_alloc]; omega) ?_; intro v' w4 hown' hgrow _)
                      go_roundw
                      case rel =>
                        refine ⟨k + 1, ch, _, by omega, by go_num, rfl, rfl, ?_, ?_, (x5.alloc x5.size _).grown hgrow (Nat.le_trans x5.size (by simp)) (fun j e => ?_)⟩
                        · rw [HN.out, List.length_append, List.length_singleton]
                          have := HF.out
                          unfold Hid
                          cases ch <;> simp at this ⊢ <;> omega
                        · rw [HN.out, List.length_append, List.map_append]; exact hown'
                        · exact (hownx.lt j e).1
                      case measure => simp [intOf]; omega
              · obtain rfl : k = st.length := by omega
                rw [List.take_length] at hownk
                have HF : Hid (if ch = true then (essS G.es st).length < st.length else (essS G.es st).length = st.length) := by have := HF.out; rw [List.take_length] at this; exact this
                have HSF : Hid (St G.n (essS G.es st)) := HST.out.filter _
                have HEG : Hid (ess G.es (essS G.es st) = ess G.es (upto N)) := by
                  have h := HF.out
                  cases ch
                  · rw [if_neg (by simp)] at h
                    rw [Hid, essS_eq h]; exact HE.out
                  · rw [if_pos rfl] at h
                    rw [Hid, ← ess_go (by omega)]; exact HE.out
                have HCC : Hid (ch = false → (essS G.es (essS G.es st)).length = (essS G.es st).length) := by
                  intro hc
                  have h := HF.out
                  rw [if_neg (by rw [hc]; simp)] at h
                  rw [essS_eq h, h]
                have hownk : w3.ownsRow wo.heap.size 3 1 _ (essS G.es st).length ((essS G.es st).map (Value.int .i64)) := hownk
                have hM : 2 * (essS G.es st).length + (if ch = true then 1 else 0) < 2 * st.length + 1 := by
                  have h := HF.out
                  cases ch
                  · rw [if_neg (by simp)] at h ⊢; omega
                  · rw [if_pos rfl] at h ⊢; omega
                clear HF HE
                obtain ⟨q, d, rfl, _⟩ := own_sl hownk
                go_wp2_with fail
                go_roundw
                case rel => exact ⟨essS G.es st, ch, rfl, HSF, HEG, HCC, ⟨hownk.1, hownk.2.imp id (fun ⟨g, cap, cur, a, b, z⟩ => ⟨g, cap, cur, a, Nat.le_trans (show w1.heap.size ≤ wo.heap.size by omega) b, z⟩)⟩, hB.trans (hBk.mono hB.size)⟩
                case measure => cases ch <;> simp [slLen, boN] at hM ⊢ <;> omega
  · have HK : Hid (essA G = (⟨0, 0, []⟩, [], 1)) := essA_bad (by rw [hr]; exact hr0)
    have hrb : (r == 0) = false := by simpa using hr0
    have HR := hidI hr
    clear hr
    go_enter Tryz.func34, Tryz.ntmps34
    go_wp2_with fail
    rw [← hw0]
    clear hw0
    refine (rCheck_r G p c _ r HR.out (HIN.out.below hB0) (by omega)).mono ?_
    rintro e w1 ⟨rfl, hB1⟩
    have x1 := hB0.trans (hB1.mono hB0.size)
    have c1 := b1.below hB1 b1.lt
    have j0 := c1.at 0 rfl; have j1 := c1.at 1 rfl; have j2 := c1.at 2 rfl
    have z0 := c1.frozen 0; have z1 := c1.frozen 1; have z2 := c1.frozen 2
    go_wp2
    have r6 := VRow.set (i := 2) (.slice none 0 0) (VRow.set (i := 1) (.int .i64 0) (VRow.set (i := 0) (.int .i64 0) c1))
    have y0 := r6.at 0 rfl; have y1 := r6.at 1 rfl; have y2 := r6.at 2 rfl
    have x6 : RowKit.Below w.heap.size w (((w1.setCell (⟨w.heap.size + 1, 0, none⟩ : Addr) (.int .i64 0)).setCell (⟨w.heap.size + 1, 1, none⟩ : Addr) (.int .i64 0)).setCell (⟨w.heap.size + 1, 2, none⟩ : Addr) (.slice none 0 0)) :=
      ((x1.setCell (show w.heap.size ≤ w.heap.size + 1 by omega) _).setCell (show w.heap.size ≤ w.heap.size + 1 by omega) _).setCell (show w.heap.size ≤ w.heap.size + 1 by omega) _
    refine bodyPost_ret (v := .tuple #[.agg #[.int .i64 0, .int .i64 0, .slice none 0 0], .slice none 0 0, .int .i64 1]) (by simp [results, Tryz.results34, go_sem, y0, y1, y2]) rfl ?_
    exact RetEs.of (G := ⟨0, 0, []⟩) (l := []) HK.out (World.ownsRow_nil _ _ _ _) (World.ownsRow_nil _ _ _ _) x6
end Go.Proofs.YthelgembcfdhdaaGreat
namespace Go.Proofs.YthelgembcfdhdaaGreat
open Go.RowKit Go.Sort Go.Shelf Go.Lib

/-- A list of words in memory, as a slot's value. -/
def StV (l : List ByteArray) (v : Value) (W : World) : Prop := ∃ q c, v = .slice q l.length c ∧ l.length ≤ c ∧ Sh q c ∧ Sl W Value.string q l
theorem StV.below {l : List ByteArray} {v : Value} {W W' : World} (h : StV l v W) (hB : RowKit.Below W.heap.size W W') : StV l v W' := by
  obtain ⟨q, c, rfl, h1, h2, h3⟩ := h
  exact ⟨q, c, rfl, h1, h2, h3.below hB⟩
theorem StV.one (w : World) (s : ByteArray) : StV [s] (.slice (some ⟨w.heap.size, 0, none⟩) 1 1) (w.alloc (.cells #[.string s] 9)) := by
  obtain ⟨q, c, he, hs⟩ := own_sl (own_one1 w s (B := w.heap.size) (Nat.le_refl _))
  have he2 : Value.slice (some ⟨w.heap.size, 0, none⟩) 1 1 = .slice q [s].length c := he
  simp only [Value.slice.injEq] at he2
  obtain ⟨rfl, _, rfl⟩ := he2
  exact ⟨_, _, rfl, by simp, .inr ⟨_, _, rfl⟩, hs⟩
theorem preR_len (l : List ByteArray) (w : ByteArray) (n : Nat) : (preR l w n).length ≤ n := by
  unfold preR
  exact Nat.le_trans (List.length_filter_le _ _) (by simp)
theorem insAll_nil0 (l : List ByteArray) : insAll (candR l 0) = [(⟨#[]⟩ : ByteArray)] := by
  unfold candR; rw [List.take_zero]; rfl
theorem preS_step (l cs : List ByteArray) (x : ByteArray) (m : Nat) : insAll (cs ++ preR l x (m + 1)) = if alwA l (x.extract 0 (m + 1)) = true then insB (x.extract 0 (m + 1)) (insAll (cs ++ preR l x m)) else insAll (cs ++ preR l x m) := by
  rw [preR_succ]
  by_cases h : alwA l (x.extract 0 (m + 1)) = true
  · rw [if_pos h, if_pos h, ← List.append_assoc, insAll_snoc]
  · rw [if_neg h, if_neg h, List.append_nil]
theorem insAll_len : ∀ (l s : List ByteArray), (l.foldl (fun s x => insB x s) s).length ≤ s.length + l.length
  | [], s => by simp
  | x :: l, s => by
    have h1 := insAll_len l (insB x s)
    have h2 := insB_len x s
    rw [List.foldl_cons, List.length_cons]; omega
/-- The reference's search: what one step decides. -/
theorem rT_step (st : List ByteArray) (w : ByteArray) (t : Nat) (u x : ByteArray) (hu : st.getD t (⟨#[]⟩ : ByteArray) = u) (hx : st.getD (rT st w t) (⟨#[]⟩ : ByteArray) = x) : rT st w (t + 1) = if u.size ≤ w.size ∧ w.extract (w.size - u.size) w.size = u ∧ x.size ≤ u.size then t else rT st w t := by
  rw [rT, hu, hx]
theorem rT_bd (st : List ByteArray) (w : ByteArray) : ∀ t, rT st w t ≤ t - 1
  | 0 => by simp [rT]
  | t + 1 => by
    have := rT_bd st w t
    rw [rT]; split <;> omega

set_option maxRecDepth 100000 in
set_option maxHeartbeats 4000000 in
theorem rGraph14_any (q : Int) (l : List ByteArray) (p : Option Addr) (c : Nat) (w : World) (hin : Sl w Value.string p l) (hl : l.length ≤ 9223372036854775807) (hz : Sz l) :
    Calls Tryz.prog 9 #[.int .i64 q, .slice p l.length c] w (RetGf (graphB q l) w) := by
  have HIN := hidI hin; have HZ := hidI hz
  have hB0 : RowKit.Below w.heap.size w (w.alloc (.cells #[.int .i64 0, .int .i64 0, .slice none 0 0] 27)) := (RowKit.Below.refl _ _).alloc (Nat.le_refl _) _
  have b0 : VRow (w.alloc (.cells #[.int .i64 0, .int .i64 0, .slice none 0 0] 27)) w.heap.size 27 [.int .i64 0, .int .i64 0, .slice none 0 0] := VRow.new w _ _
  have HC := hidI (rCheck14_any q l p c _ (hin.below hB0) hl hz)
  clear hin hz
  obtain ⟨r, hr⟩ : ∃ r, chkF q l = r := ⟨_, rfl⟩
  rw [hr] at HC
  have HR := hidI hr
  clear hr
  by_cases hr0 : r = 0
  · subst hr0
    obtain ⟨hq1, hq2, hl64, hone⟩ := chkF_ok HR.out
    have H32 : Hid (∀ u ∈ l, u.size ≤ 32) := fun u hu => oneA_size (hone u hu)
    have HNE : Hid (∀ u ∈ l, u ≠ (⟨#[]⟩ : ByteArray)) := fun u hu => oneA_ne (hone u hu)
    clear hone
    go_enter Tryz.func9, Tryz.ntmps9
    go_wp2_with fail
    refine HC.out.mono ?_
    rintro e w1 ⟨rfl, hD1⟩
    have b1 := b0.below (hD1.below _) b0.lt
    have x1 := hB0.trans (hD1.below _)
    have hbz := b1.lt
    clear b0 hB0 hD1
    go_upto_block 0 with fail
    have o1 := StV.one w1 (⟨#[]⟩ : ByteArray)
    have b2 := b1.alloc (.cells #[.string (⟨#[]⟩ : ByteArray)] 9)
    have x2 := x1.alloc x1.size (.cells #[.string (⟨#[]⟩ : ByteArray)] 9)
    go_cut [6] (fun v6 W => StV (insAll (candR l l.length)) v6 W ∧ VRow W w.heap.size 27 [.int .i64 0, .int .i64 0, .slice none 0 0] ∧ RowKit.Below w.heap.size w W)
    case first =>
      go_wp2_with fail
      go_loopw [6, 7] (fun v6 iv W => ∃ k : Nat, k ≤ l.length ∧ iv = .int .i64 k ∧ StV (insAll (candR l k)) v6 W ∧ Hid ((insAll (candR l k)).length ≤ k * 32 + 1) ∧ VRow W w.heap.size 27 [.int .i64 0, .int .i64 0, .slice none 0 0] ∧ RowKit.Below w.heap.size w W) (fun _ iv _ => l.length - (intOf iv).toNat)
      case atStart => exact ⟨0, by omega, rfl, by rw [insAll_nil0]; exact o1, by rw [Hid, insAll_nil0]; simp, b2, x2⟩
      case round =>
        clear o1 b2 x2 b1 x1 hbz
        obtain ⟨k, hk, rfl, ho, hcl, hb, hB⟩ := hrel
        by_cases hlt : k < l.length
        · have hltI : (k : Int) < (l.length : Int) := by omega
          have hsz := H32.out _ (List.getElem_mem hlt)
          have hne : 0 < l[k].size := by
            rcases Nat.eq_zero_or_pos l[k].size with h | h
            · exact absurd (by
                cases hx : l[k] with
                | mk d => rw [hx] at h; have hd : d.size = 0 := h
                          rw [Array.eq_empty_of_size_eq_zero hd]) (HNE.out _ (List.getElem_mem hlt))
            · exact h
          have HE0 : Hid (∀ W, RowKit.Below w.heap.size w W → ∃ bb oo, p = some ⟨bb, oo, none⟩ ∧ W.cell? ⟨bb, oo + k, none⟩ = some (.string l[k])) := fun W hW => by
            obtain ⟨bb, oo, rfl, _, hc1⟩ := (HIN.out.below hW).get k hlt
            exact ⟨bb, oo, rfl, hc1 k hlt⟩
          have HN := hidI (candR_succ l k hlt)
          have HSS := hidI (fun (cs : List ByteArray) (m : Nat) => preS_step l cs l[k] m)
          generalize l[k] = x at *
          generalize candR l k = cs at *
          obtain ⟨wo, hwo⟩ : ∃ wo : World, wo = wr := ⟨_, rfl⟩
          go_wp2_with fail
          go_loopw [6, 8] (fun v6 iv W => ∃ m : Nat, m + 1 ≤ x.size ∧ iv = .int .i64 ((m : Int) + 1) ∧ StV (insAll (cs ++ preR l x m)) v6 W ∧ Hid ((insAll (cs ++ preR l x m)).length ≤ k * 32 + 1 + m) ∧ VRow W w.heap.size 27 [.int .i64 0, .int .i64 0, .slice none 0 0] ∧ RowKit.Below w.heap.size w W) (fun _ iv _ => x.size - (intOf iv).toNat)
          case atStart => exact ⟨0, by omega, rfl, by simpa [preR] using ho, by rw [Hid]; simpa [preR] using hcl.out, hb, hB⟩
          case round =>
            clear ho hb hB hwo hcl
            obtain ⟨m, hm, rfl, ho, hcl, hb, hB⟩ := hrel
            obtain ⟨bb, oo, rfl, e0⟩ := HE0.out _ hB
            by_cases hlt2 : m + 1 < x.size
            · have hI2 : (m : Int) + 1 < (x.size : Int) := by omega
              have hI3 : (m : Int) + 1 ≤ (x.size : Int) := by omega
              have hI4 : ((m : Int) + 1).toNat = m + 1 := by omega
              have hex : (x.extract 0 (m + 1)).size ≤ 32 := by simp; omega
              have HP := hidI (HSS.out cs m)
              have HA := hidI (fun W (hW : RowKit.Below w.heap.size w W) => rallow_any l (some ⟨bb, oo, none⟩) c (x.extract 0 (m + 1)) W (HIN.out.below hW) (by omega) HZ.out (by omega))
              obtain ⟨q6, c6, rfl, hc6, hsh6, hs6⟩ := ho
              have hcl2 := hcl.out
              have HCL : Hid ((insAll (cs ++ preR l x (m + 1))).length ≤ k * 32 + 1 + (m + 1)) := by
                rw [Hid, HP.out]; split
                · have := insB_len (x.extract 0 (m + 1)) (insAll (cs ++ preR l x m)); omega
                · omega
              generalize insAll (cs ++ preR l x m) = M at *
              generalize alwA l (x.extract 0 (m + 1)) = r at *
              go_wp2_with fail
              refine (HA.out _ hB).mono ?_
              rintro e w2 ⟨rfl, hw2⟩
              replace hw2 := hw2.symm
              subst hw2
              cases r
              · have HQ : Hid (insAll (cs ++ preR l x (m + 1)) = M) := by rw [Hid, HP.out]; simp
                clear hex HP
                go_wp2_with fail
                go_roundw
                case rel => exact ⟨m + 1, by omega, by go_num, by rw [HQ.out]; exact ⟨_, _, rfl, hc6, hsh6, hs6⟩, HCL, hb, hB⟩
                case measure => simp [intOf]; omega
              · have HQ : Hid (insAll (cs ++ preR l x (m + 1)) = insB (x.extract 0 (m + 1)) M) := by rw [Hid, HP.out]; simp
                have HI := hidI (rInsert_any (x.extract 0 (m + 1)) M q6 c6 _ hs6 hsh6 hc6 (by omega))
                clear hex HP hcl2 hcl
                go_wp2_with fail
                refine HI.out.mono ?_
                rintro e w3 ⟨q7, n7, c7, rfl, hn7, hc7, hsh7, hs7, hB7⟩
                subst hn7
                have hb3 := hb.below hB7 hb.lt
                have hB3 := hB.trans (hB7.mono hB.size)
                clear hb hB hB7
                go_wp2_with fail
                go_roundw
                case rel => exact ⟨m + 1, by omega, by go_num, by rw [HQ.out]; exact ⟨_, _, rfl, hc7, hsh7, hs7⟩, HCL, hb3, hB3⟩
                case measure => simp [intOf]; omega
            · have HM : Hid (m = x.size - 1) := by unfold Hid; omega
              have hI2 : ¬ (m : Int) + 1 < (x.size : Int) := by omega
              have HC2 : Hid (insAll (candR l (k + 1)) = insAll (cs ++ preR l x m)) := by rw [Hid, HN.out, HM.out]
              have HC3 : Hid ((insAll (candR l (k + 1))).length ≤ (k + 1) * 32 + 1) := by rw [Hid, HC2.out]; have := hcl.out; omega
              go_wp2_with fail
              go_roundw
              case rel => exact ⟨k + 1, by omega, by go_num, by rw [HC2.out]; exact ho, HC3, hb, hB⟩
              case measure => simp [intOf]; omega
        · obtain rfl : k = l.length := by omega
          have hltI : ¬ (l.length : Int) < (l.length : Int) := by omega
          go_wp2_with fail
          go_meet
          exact ⟨ho, hb, hB⟩
    case rest =>
      obtain ⟨ho, hb, hB⟩ := hcut
      clear o1 b2 x2 b1 x1 hbz
      rw [st_ref] at ho
      obtain ⟨qn, rfl⟩ := Int.eq_ofNat_of_zero_le (show 0 ≤ q by omega)
      have hbl := hb.lt
      have H0 := hidI (stA_nil l)
      have HS32 := hidI (stA_size H32.out)
      have HAL := hidI (fun z (hz : z ∈ stA l) => stA_alw HNE.out hz)
      have HSB : Hid (SrtB (stA l)) := insAll_srt _
      have HG64 : Hid (64 < (stA l).length → graphB (qn : Int) l = (⟨0, 0, []⟩, 4)) := fun h => by
        unfold graphB; rw [if_neg (by rw [HR.out]; simp), if_pos h]
      have HGOK : Hid ((stA l).length ≤ 64 → graphB (qn : Int) l = ((essA (grF (qn : Int) l)).1, (essA (grF (qn : Int) l)).2.2) ∧ makeA (qn : Int) (stA l).length (edAll l (stA l) qn (stA l).length) = (grF (qn : Int) l, 0) ∧ (grF (qn : Int) l).es.length ≤ 1024) := fun h => by
        have hv := grF_vg (l := l) hq1 hq2 h
        have hm : makeA (qn : Int) (stA l).length (edAll l (stA l) qn (stA l).length) = (grF (qn : Int) l, 0) := makeA_ok (chkG_ok.2 hv)
        refine ⟨?_, hm, hv.len⟩
        unfold graphB
        rw [if_neg (by rw [HR.out]; simp), if_neg (by omega), show (qn : Int).toNat = qn from rfl, hm]
        simp
      have hne0 : Hid ((stA l).getD 0 (⟨#[]⟩ : ByteArray) = (⟨#[]⟩ : ByteArray)) := by
        have hm := H0.out
        obtain ⟨i, hi, e⟩ := List.getElem_of_mem hm
        rw [Hid, getD_at (by omega)]
        have h1 := srt_size HSB.out (i := 0) (k := i) (by omega) hi (by omega)
        rw [e] at h1
        have h2 : (stA l)[0].size = 0 := by have : ((⟨#[]⟩ : ByteArray)).size = 0 := rfl; omega
        generalize (stA l)[0] = x at *
        cases x with
        | mk d => have hd : d.size = 0 := h2
                  rw [Array.eq_empty_of_size_eq_zero hd]
      have HTG := hidI (fun (w : ByteArray) (h : 0 < (stA l).length) => rT_tg HSB.out h hne0.out w)
      have HBA := hidI (fun (z : ByteArray) (a : Nat) (hz : z ∈ stA l) (ha : a < 16) => bad_iff (a := a) HNE.out ha (HAL.out z hz))
      generalize grF (qn : Int) l = GF at *
      generalize stA l = st at *
      obtain ⟨p6, c6, rfl, hc6, hsh6, hs6⟩ := ho
      clear hne0 HAL HSB
      by_cases h64 : 64 < st.length
      · have HG : Hid (graphB (qn : Int) l = (⟨0, 0, []⟩, 4)) := HG64.out h64
        have h64I : (64 : Int) < (st.length : Int) := by omega
        have z0 := hb.frozen 0; have z1 := hb.frozen 1; have z2 := hb.frozen 2
        have f0 := hb.at 0 rfl; have f1 := hb.at 1 rfl; have f2 := hb.at 2 rfl
        go_wp2
        have r6 := VRow.set (i := 2) (.slice none 0 0) (VRow.set (i := 1) (.int .i64 0) (VRow.set (i := 0) (.int .i64 0) hb))
        have y0 := r6.at 0 rfl; have y1 := r6.at 1 rfl; have y2 := r6.at 2 rfl
        refine bodyPost_ret (v := .tuple #[.agg #[.int .i64 0, .int .i64 0, .slice none 0 0], .int .i64 4]) (by simp [results, Tryz.results9, go_sem, y0, y1, y2]) rfl ?_
        exact RetGf.of HG.out rfl (Sg.nil _ _ _ _) (((hB.setCell (Nat.le_refl _) _).setCell (Nat.le_refl _) _).setCell (Nat.le_refl _) _)
      · obtain ⟨hGG, hMK, hGL⟩ := HGOK.out (by omega)
        have HGG := hidI hGG; have HMK := hidI hMK; have HGL := hidI hGL
        have h64I : ¬ (64 : Int) < (st.length : Int) := by omega
        clear hGG hMK hGL HGOK HG64
        obtain ⟨j0, hj0, hy0, hy1, hy2⟩ := info_parts infoE
        obtain ⟨w4, hw4⟩ : ∃ w4 : World, w4 = wc := ⟨_, rfl⟩
        have ho4 : OwE w4.heap.size [] (.slice (some ⟨w4.heap.size, 0, none⟩) 0 0) (w4.alloc (.cells #[] 47)) := World.ownsRow_made w4 #[] 0 (Nat.le_refl _) (by simp [maxLen]) rfl
        have hB4 : RowKit.Below w4.heap.size w4 (w4.alloc (.cells #[] 47)) := (RowKit.Below.refl _ _).alloc (Nat.le_refl _) _
        rw [← hw4] at hs6 hb hB
        have HS := hidI hs6; have HBX := hidI hb; have HB := hidI hB
        go_upto_region 15 with fail
        rw [← hw4]
        clear hs6 hb hB hw4
        go_wp2_with fail
        go_loopw [9, 10] (fun v9 iv W => ∃ s : Nat, s ≤ st.length ∧ iv = .int .i64 s ∧ OwE w4.heap.size (edAll l st qn s) v9 W ∧ RowKit.Below w4.heap.size w4 W) (fun _ iv _ => st.length - (intOf iv).toNat)
        case atStart => exact ⟨0, by omega, rfl, ho4, hB4⟩
        case round =>
          clear ho4 hB4
          obtain ⟨s, hs, rfl, ho, hB⟩ := hrel
          by_cases hlt2 : s < st.length
          · have hltI2 : (s : Int) < (st.length : Int) := by omega
            obtain ⟨bb, oo, hp6, _, _⟩ := HS.out.get s hlt2
            subst hp6
            have HCE : Hid (∀ W, RowKit.Below w4.heap.size w4 W → ∀ k (h : k < st.length), W.cell? ⟨bb, oo + k, none⟩ = some (.string st[k])) := fun W hW k h => by
              obtain ⟨bb', oo', he, _, hc1⟩ := (HS.out.below hW).get k h
              cases he; exact hc1 k h
            have HE0 : Hid (∀ W, RowKit.Below w4.heap.size w4 W → W.cell? ⟨bb, oo + s, none⟩ = some (.string st[s])) := fun W hW => HCE.out W hW s hlt2
            have hsz := HS32.out _ (List.getElem_mem hlt2)
            have HGD : Hid (st.getD s (⟨#[]⟩ : ByteArray) = st[s]) := by unfold Hid; simp [List.getD, List.getElem?_eq_getElem hlt2]
            have HA := hidI (show edAll l st qn (s + 1) = edAll l st qn s ++ edRow l st s qn from rfl)
            have hEl : (edAll l st qn s).length ≤ 64 * 16 := Nat.le_trans (edAll_len l st qn s) (Nat.mul_le_mul (by omega) (by omega))
            have HBS := hidI (fun (a : Nat) (ha : a < 16) => HBA.out st[s] a (List.getElem_mem hlt2) ha)
            generalize st[s] = x at *
            generalize edAll l st qn s = es at *
            go_wp2_with fail
            go_loopw [9, 11] (fun v9 iv W => ∃ a : Nat, a ≤ qn ∧ iv = .int .i64 a ∧ OwE w4.heap.size (es ++ edRow l st s a) v9 W ∧ RowKit.Below w4.heap.size w4 W) (fun _ iv _ => qn - (intOf iv).toNat)
            case atStart => exact ⟨0, by omega, rfl, by simpa [edRow] using ho, hB⟩
            case round =>
              clear ho hB
              obtain ⟨a, ha, rfl, ho, hB⟩ := hrel
              by_cases hlt3 : a < qn
              · have hltI3 : (a : Int) < (qn : Int) := by omega
                have hI1 : (a : Int) ≤ (a : Int) + 1 := by omega
                have hI2 : (a : Int) + 1 ≤ 16 := by omega
                have hI3 : ((a : Int) + 1).toNat = a + 1 := by omega
                have hwz := wdA_size x a hsz
                have e0 := HE0.out _ hB
                have hrl := edRow_len l st s a
                have HER : Hid (edRow l st s (a + 1) = edRow l st s a ++ (if badA l (wdA x a) = true then [] else [⟨(s : Int), (a : Int), tgA st (wdA x a)⟩])) := by rw [Hid, edRow, HGD.out]
                have HWD : Hid (wdA x a = x ++ ({ data := #[48, 49, 50, 51, 52, 53, 54, 55, 56, 57, 97, 98, 99, 100, 101, 102] } : ByteArray).extract a (a + 1)) := rfl
                have HBB := hidI (HBS.out a (by omega))
                have HTT := hidI (HTG.out (wdA x a) (by omega))
                have HRA := hidI (fun W (hW : RowKit.Below w.heap.size w W) => rallow_any l p c (wdA x a) W (HIN.out.below hW) (by omega) HZ.out (by omega))
                go_upto_region 21 with fail
                (refine wp_region_quiet_lit (by kernel_rfl) (by kernel_rfl) ?_; (repeat (first | go_big_quiet_step (fail) | quiet_step (fail))); refine wpQuiet_nil ?_; intro _ hwq; obtain ⟨nq, hwq2⟩ := hwq; subst hwq2)
                have hBd := hB.trans ((Dr.one (Dr.refl wr) nq).below _)
                have hod : OwE w4.heap.size (es ++ edRow l st s a) u9 (wr.drewN nq) := ho.below ((Dr.one (Dr.refl wr) nq).below _)
                clear e0 ho hB
                go_wp2_with fail
                rw [← HWD.out]
                generalize wdA x a = wd at *
                clear HWD
                refine (HRA.out _ (HB.out.trans (hBd.mono HB.out.size))).mono ?_
                rintro e w5 ⟨rfl, hw5⟩
                have hB5 : RowKit.Below w4.heap.size w4 w5 := by rw [hw5]; exact hBd
                have ho5 : OwE w4.heap.size (es ++ edRow l st s a) u9 w5 := by rw [hw5]; exact hod
                clear hw5 hBd hod HRA
                rw [HBB.out]
                cases hbd : badA l wd
                · have HQ : Hid (es ++ edRow l st s (a + 1) = es ++ edRow l st s a ++ [⟨(s : Int), (a : Int), tgA st wd⟩]) := by rw [Hid, HER.out, hbd]; simp
                  have HEL : Hid ((es ++ edRow l st s a).length = es.length + (edRow l st s a).length) := List.length_append
                  clear hbd HER HBB
                  generalize es ++ edRow l st s a = E at *
                  go_wp2_with fail
                  go_loopw [13, 14] (fun tv iv W => ∃ (t : Nat) (T : Int), t ≤ st.length ∧ iv = .int .i64 t ∧ tv = .int .i64 T ∧ Hid (T = ((rT st wd t : Nat) : Int)) ∧ Dr w5 W) (fun _ iv _ => st.length - (intOf iv).toNat)
                  case atStart => exact ⟨0, 0, by omega, rfl, rfl, rfl, Dr.refl _⟩
                  case round =>
                    obtain ⟨t, T, ht, rfl, rfl, hT, hD⟩ := hrel
                    by_cases hlt4 : t < st.length
                    · have hltI4 : (t : Int) < (st.length : Int) := by omega
                      have hbd := rT_bd st wd t
                      have hT0 : 0 ≤ T := by rw [hT.out]; omega
                      have hT1 : T < (st.length : Int) := by rw [hT.out]; omega
                      have hTN : T.toNat < st.length := by omega
                      have hTe : T.toNat = rT st wd t := by rw [hT.out]; omega
                      have e1 := HCE.out wr (hB5.trans (hD.below _)) t hlt4
                      have e2 := HCE.out wr (hB5.trans (hD.below _)) T.toNat hTN
                      have HST := hidI (rT_step st wd t st[t] st[T.toNat] (getD_at hlt4) (by rw [← hTe]; exact getD_at hTN))
                      have hsu := HS32.out _ (List.getElem_mem hlt4)
                      have hsv := HS32.out _ (List.getElem_mem hTN)
                      generalize st[t] = u at *
                      generalize st[T.toNat] = v at *
                      clear hbd hTe hTN
                      by_cases c1 : u.size ≤ wd.size
                      · have c1I : (u.size : Int) ≤ (wd.size : Int) := by omega
                        have i1 : 0 ≤ (wd.size : Int) - (u.size : Int) := by omega
                        have i2 : (wd.size : Int) - (u.size : Int) ≤ (wd.size : Int) := by omega
                        have i3 : ((wd.size : Int) - (u.size : Int)).toNat = wd.size - u.size := by omega
                        by_cases c2 : wd.extract (wd.size - u.size) wd.size = u
                        · have c2B := bts_t c2
                          have C2 := hidI c2
                          clear c2
                          by_cases c3 : v.size ≤ u.size
                          · have c3I : (v.size : Int) ≤ (u.size : Int) := by omega
                            have HN : Hid (((t : Nat) : Int) = ((rT st wd (t + 1) : Nat) : Int)) := by rw [Hid, HST.out, if_pos ⟨c1, C2.out, c3⟩]
                            clear c1 c3 HST
                            go_upto_region 28 with fail
                            (refine wp_region_quiet_lit (by kernel_rfl) (by kernel_rfl) ?_; (repeat (first | go_big_quiet_step (fail) | quiet_step (fail))); refine wpQuiet_nil ?_; intro _ hwq; obtain ⟨nq, hwq2⟩ := hwq; subst hwq2)
                            go_wp2_with fail
                            go_roundw
                            case rel => exact ⟨t + 1, (t : Int), by omega, by go_num, rfl, HN, hD.one _⟩
                            case measure => simp [intOf]; omega
                          · have c3I : ¬ (v.size : Int) ≤ (u.size : Int) := by omega
                            have c3B : decide ((v.size : Int) ≤ (u.size : Int)) = false := decide_eq_false c3I
                            have HN : Hid (T = ((rT st wd (t + 1) : Nat) : Int)) := by rw [Hid, HST.out, if_neg (fun h => c3 h.2.2)]; exact hT.out
                            clear c1 c3 HST
                            go_upto_region 28 with fail
                            (refine wp_region_quiet_lit (by kernel_rfl) (by kernel_rfl) ?_; (repeat (first | go_big_quiet_step (fail) | quiet_step (fail))); refine wpQuiet_nil ?_; intro _ hwq; obtain ⟨nq, hwq2⟩ := hwq; subst hwq2)
                            go_wp2_with fail
                            go_roundw
                            case rel => exact ⟨t + 1, T, by omega, by go_num, rfl, HN, hD.one _⟩
                            case measure => simp [intOf]; omega
                        · have c2B := bts_f c2
                          have HN : Hid (T = ((rT st wd (t + 1) : Nat) : Int)) := by rw [Hid, HST.out, if_neg (fun h => c2 h.2.1)]; exact hT.out
                          clear c1 c2 HST
                          go_upto_region 28 with fail
                          (refine wp_region_quiet_lit (by kernel_rfl) (by kernel_rfl) ?_; (repeat (first | go_big_quiet_step (fail) | quiet_step (fail))); refine wpQuiet_nil ?_; intro _ hwq; obtain ⟨nq, hwq2⟩ := hwq; subst hwq2)
                          go_wp2_with fail
                          go_roundw
                          case rel => exact ⟨t + 1, T, by omega, by go_num, rfl, HN, hD.one _⟩
                          case measure => simp [intOf]; omega
                      · have c1I : ¬ (u.size : Int) ≤ (wd.size : Int) := by omega
                        have c1B : decide ((u.size : Int) ≤ (wd.size : Int)) = false := decide_eq_false c1I
                        have HN : Hid (T = ((rT st wd (t + 1) : Nat) : Int)) := by rw [Hid, HST.out, if_neg (fun h => c1 h.1)]; exact hT.out
                        clear c1 HST
                        go_upto_region 28 with fail
                        (refine wp_region_quiet_lit (by kernel_rfl) (by kernel_rfl) ?_; (repeat (first | go_big_quiet_step (fail) | quiet_step (fail))); refine wpQuiet_nil ?_; intro _ hwq; obtain ⟨nq, hwq2⟩ := hwq; subst hwq2)
                        go_wp2_with fail
                        go_roundw
                        case rel => exact ⟨t + 1, T, by omega, by go_num, rfl, HN, hD.one _⟩
                        case measure => simp [intOf]; omega
                    · obtain rfl : t = st.length := by omega
                      have hltI4 : ¬ (st.length : Int) < (st.length : Int) := by omega
                      have HTE : Hid (T = tgA st wd) := by rw [Hid, hT.out]; exact HTT.out
                      have HQ2 : Hid (es ++ edRow l st s (a + 1) = E ++ [⟨(s : Int), (a : Int), T⟩]) := by rw [Hid, HQ.out, HTE.out]
                      have ho6 : OwE w4.heap.size E u9 wr := ho5.below (hD.below _)
                      have hB6 := hB5.trans (hD.below _)
                      clear hT HTE HQ HTT
                      have hlw := ho6.lt
                      have hownA := ho6.alloc (.cells (edE ⟨(s : Int), (a : Int), T⟩).toArray 47)
                      have hEl2 : E.length ≤ 2048 := by have := HEL.out; omega
                      have hnew := cell_new3 wr ⟨(s : Int), (a : Int), T⟩ 47 wr.heap.size rfl
                      have hszw := hB6.size
                      go_wp2_with (at_builtin; refine wpList_append_own _ rfl _ _ 25 rfl w4.heap.size 47 j0 _ 3 24 Tryz.underlying25 hj0 hy0 hy1 hy2 rfl (by decide) _ _ _ rfl hownA ⟨wr.heap.size, 0, none⟩ 1 1 (cat [⟨(s : Int), (a : Int), T⟩]) rfl rfl hnew (cat_one _) (by simp [maxLen]; omega) (by omega) (by rw [World.size_alloc]; omega) ?_; intro v' w6 hown' hgrow _; rw [← cat_app] at hown')
                      have hBf := (hB6.alloc hszw (.cells (edE ⟨(s : Int), (a : Int), T⟩).toArray 47)).grown hgrow (Nat.le_trans hszw (by simp)) (fun j e => (hlw j e).1)
                      go_roundw
                      case rel => exact ⟨a + 1, by omega, by go_num, by unfold OwE; rw [HQ2.out, List.length_append, List.length_singleton]; exact hown', hBf⟩
                      case measure => simp [intOf]; omega
                · have HQ : Hid (es ++ edRow l st s (a + 1) = es ++ edRow l st s a) := by rw [Hid, HER.out, hbd]; simp
                  clear hbd HER HBB HTT
                  go_wp2_with fail
                  go_roundw
                  case rel => exact ⟨a + 1, by omega, by go_num, by rw [HQ.out]; exact ho5, hB5⟩
                  case measure => simp [intOf]; omega
              · obtain rfl : a = qn := by omega
                have hltI3 : ¬ (a : Int) < (a : Int) := by omega
                go_wp2_with fail
                go_roundw
                case rel => exact ⟨s + 1, by omega, by go_num, by rw [HA.out]; exact ho, hB⟩
                case measure => simp [intOf]; omega
          · obtain rfl : s = st.length := by omega
            have hltI2 : ¬ (st.length : Int) < (st.length : Int) := by omega
            have hEl : (edAll l st qn st.length).length ≤ 64 * 16 := Nat.le_trans (edAll_len l st qn st.length) (Nat.mul_le_mul (by omega) (by omega))
            have br := HBX.out.below hB HBX.out.lt
            have xr := HB.out.trans (hB.mono HB.out.size)
            generalize edAll l st qn st.length = E at *
            obtain ⟨pe, ce, rfl, hse, _, _⟩ := own_sg ho
            clear ho hB HBX HB hlt2 hs
            go_wp2_with fail
            refine (rMake_any (qn : Int) (st.length : Int) E pe ce wr hse (by omega)).mono ?_
            rw [HMK.out]
            rintro e w5 ⟨p5, c5, rfl, hs5, hc5, hB5⟩
            have x5 := xr.trans (hB5.mono xr.size)
            have e5 := br.below hB5 br.lt
            obtain ⟨w6, hw6⟩ : ∃ w6, w6 = w5.alloc (.cells #[.int .i64 GF.q, .int .i64 GF.n, .slice p5 GF.es.length c5] 27) := ⟨_, rfl⟩
            have e6 : VRow w6 w.heap.size 27 [.int .i64 0, .int .i64 0, .slice none 0 0] := by subst hw6; exact e5.alloc _
            have g6 : VRow w6 w5.heap.size 27 [.int .i64 GF.q, .int .i64 GF.n, .slice p5 GF.es.length c5] := by subst hw6; exact VRow.new w5 _ _
            have s6 : Sg 3 w6 edE p5 GF.es := by subst hw6; exact hs5.below ((RowKit.Below.refl _ _).alloc (Nat.le_refl _) _)
            have x6 : RowKit.Below w.heap.size w w6 := by subst hw6; exact x5.alloc x5.size _
            have hgg0 := g6.at 0 rfl; have hgg1 := g6.at 1 rfl; have hgg2 := g6.at 2 rfl
            rw [hw6] at hgg0 hgg1 hgg2
            clear br xr hse hs5 hB5 x5 e5 g6
            simp only at *
            go_wp2_with fail
            rw [← hw6]
            clear hw6 hgg0 hgg1 hgg2
            refine (rEss_any GF p5 c5 w6 s6 (by have := HGL.out; omega)).mono ?_
            obtain ⟨y, hy⟩ : ∃ y, essA GF = y := ⟨_, rfl⟩
            rw [hy]
            rw [hy] at HGG
            obtain ⟨G2, ls, k2⟩ := y
            clear hy
            simp only at HGG ⊢
            intro e w7 hr
            obtain ⟨p7, m7, c7, q7, d7, rfl, ho7, _, hB7⟩ := hr
            obtain ⟨p7', c7', he7, hs7, _, _⟩ := own_sg ho7
            simp only [Value.slice.injEq] at he7
            obtain ⟨rfl, rfl, rfl⟩ := he7
            have e7 := e6.below hB7 e6.lt
            have x7 := x6.trans (hB7.mono x6.size)
            obtain ⟨w8, hw8⟩ : ∃ w8, w8 = w7.alloc (.cells #[.int .i64 G2.q, .int .i64 G2.n, .slice p7 G2.es.length c7] 27) := ⟨_, rfl⟩
            have e8 : VRow w8 w.heap.size 27 [.int .i64 0, .int .i64 0, .slice none 0 0] := by subst hw8; exact e7.alloc _
            have g8 : VRow w8 w7.heap.size 27 [.int .i64 G2.q, .int .i64 G2.n, .slice p7 G2.es.length c7] := by subst hw8; exact VRow.new w7 _ _
            have x8 : RowKit.Below w.heap.size w w8 := by subst hw8; exact x7.alloc x7.size _
            have o8 : w8.ownsRow w6.heap.size 47 3 (.slice p7 G2.es.length c7) G2.es.length (cat G2.es) := by subst hw8; exact ho7.alloc _
            have hlt6 := e6.lt
            have o9 := ownsRow_setCell_below (a := ⟨w.heap.size, 2, none⟩) (ownsRow_setCell_below (a := ⟨w.heap.size, 1, none⟩) (ownsRow_setCell_below (a := ⟨w.heap.size, 0, none⟩) o8 hlt6 (.int .i64 G2.q)) hlt6 (.int .i64 G2.n)) hlt6 (.slice p7 G2.es.length c7)
            have HO9 := hidI o9
            have a0 := g8.at 0 rfl; have a1 := g8.at 1 rfl; have a2 := g8.at 2 rfl
            have z0 := e8.frozen 0; have z1 := e8.frozen 1; have z2 := e8.frozen 2
            have f0 := e8.at 0 rfl; have f1 := e8.at 1 rfl; have f2 := e8.at 2 rfl
            have E8 := hidI e8; have X8 := hidI x8
            rw [hw8] at a0 a1 a2 z0 z1 z2 f0 f1 f2
            clear o8 o9 ho7 hs7 hB7 e6 s6 x6 e7 x7 e8 g8 x8
            go_wp2
            rw [← hw8]
            have r6 := VRow.set (i := 2) (.slice p7 G2.es.length c7) (VRow.set (i := 1) (.int .i64 G2.n) (VRow.set (i := 0) (.int .i64 G2.q) E8.out))
            have y0 := r6.at 0 rfl; have y1 := r6.at 1 rfl; have y2 := r6.at 2 rfl
            refine bodyPost_ret (v := .tuple #[.agg #[.int .i64 G2.q, .int .i64 G2.n, .slice p7 G2.es.length c7], .int .i64 k2]) (by simp [results, Tryz.results9, go_sem, y0, y1, y2]) rfl ?_
            obtain ⟨p9, c9, hv9, hs9, _, _⟩ := own_sg HO9.out
            simp only [Value.slice.injEq] at hv9
            obtain ⟨rfl, -, rfl⟩ := hv9
            exact RetGf.of HGG.out rfl hs9 (((X8.out.setCell (Nat.le_refl _) _).setCell (Nat.le_refl _) _).setCell (Nat.le_refl _) _)
  · have HX : Hid (graphB q l = (⟨0, 0, []⟩, 1)) := by unfold Hid graphB; rw [if_pos (by rw [HR.out]; exact hr0)]
    have hrb : (r != 0) = true := by simpa using hr0
    clear hr0
    go_enter Tryz.func9, Tryz.ntmps9
    go_wp2_with fail
    refine HC.out.mono ?_
    rintro e w1 ⟨rfl, hD1⟩
    have b1 := b0.below (hD1.below _) b0.lt
    have x1 := hB0.trans (hD1.below _)
    have f0 := b1.at 0 rfl; have f1 := b1.at 1 rfl; have f2 := b1.at 2 rfl
    have z0 := b1.frozen 0; have z1 := b1.frozen 1; have z2 := b1.frozen 2
    go_wp2
    have r6 := VRow.set (i := 2) (.slice none 0 0) (VRow.set (i := 1) (.int .i64 0) (VRow.set (i := 0) (.int .i64 0) b1))
    have y0 := r6.at 0 rfl; have y1 := r6.at 1 rfl; have y2 := r6.at 2 rfl
    refine bodyPost_ret (v := .tuple #[.agg #[.int .i64 0, .int .i64 0, .slice none 0 0], .int .i64 1]) (by simp [results, Tryz.results9, go_sem, y0, y1, y2]) rfl ?_
    exact RetGf.of HX.out rfl (Sg.nil _ _ _ _) (((x1.setCell (Nat.le_refl _) _).setCell (Nat.le_refl _) _).setCell (Nat.le_refl _) _)
end Go.Proofs.YthelgembcfdhdaaGreat
namespace Go.Proofs.YthelgembcfdhdaaGreat
open Go.RowKit Go.Sort Go.Shelf Go.Lib

theorem graphB_len (q : Int) (l : List ByteArray) : (graphB q l).1.es.length ≤ 1024 := by
  by_cases hc : chkF q l = 0
  · by_cases h3 : (stA l).length ≤ 64
    · rw [graphB_eq hc h3]
      obtain ⟨h1, h2, _, _⟩ := chkF_ok hc
      have hv := grF_vg h1 h2 h3
      exact (part_vg hv (essT_st hv)).len
    · unfold graphB; rw [if_neg (by rw [hc]; simp), if_pos (by omega)]; simp
  · unfold graphB; rw [if_pos hc]; simp

set_option maxRecDepth 100000 in
set_option maxHeartbeats 4000000 in
theorem lawGraph14_any (q : Int) (l : List ByteArray) (p : Option Addr) (c : Nat) (w : World) (hin : Sl w Value.string p l) (hl : l.length ≤ 9223372036854775807) (hm : Mx w) :
    Calls Tryz.prog 3 #[.int .i64 q, .slice p l.length c] w fun e w' => e = .returned (.bool true) ∧ RowKit.Below w.heap.size w w' := by
  have HIN := hidI hin
  have HMX := hidI hm
  have HGR := hidI (rGreat14_any l p c w hin hl)
  have HAW := hidI (fun W (hW : RowKit.Below w.heap.size w W) => awake14_any W (hm.below hW))
  clear hin hm
  cases hg : gr14 l
  · obtain ⟨hlen, hsz⟩ := gr14_f hg
    have HZ := hidI hsz
    rw [hg] at HGR
    clear hg hsz
    have HA := hidI (fun W (hW : RowKit.Below w.heap.size w W) => fGraph_any q l p c W (HIN.out.below hW) hl HZ.out (HMX.out.below hW))
    have HB := hidI (fun W (hW : RowKit.Below w.heap.size w W) => rGraph14_any q l p c W (HIN.out.below hW) hl HZ.out)
    have HL := hidI (graphB_len q l)
    generalize graphB q l = x at *
    obtain ⟨G, k⟩ := x
    simp only at HL
    have HQ : Hid (∀ W p p' c c', Sg 3 W edE p G.es → Sg 3 W edE p' G.es → Calls Tryz.prog 10 #[(.agg #[.int .i64 G.q, .int .i64 G.n, .slice p G.es.length c]), (.agg #[.int .i64 G.q, .int .i64 G.n, .slice p' G.es.length c'])] W fun e w' => e = .returned (.bool true) ∧ RowKit.Below W.heap.size W w') := fun W p p' c c' h1 h2 => by
      have h := rSame_any G G p p' c c' W h1 h2 (by have := HL.out; omega) (by have := HL.out; omega)
      rw [sameG_refl] at h; exact h
    go_enter Tryz.func3, Tryz.ntmps3
    go_wp2_with fail
    refine HGR.out.mono ?_
    rintro e w1 ⟨rfl, hw⟩
    have hB : RowKit.Below w.heap.size w w1 := by rw [hw]; exact RowKit.Below.refl _ _
    clear hw HGR
    go_wp2_with fail
    refine (HA.out w1 hB).mono ?_
    rintro e w2 ⟨p2, m2, c2, rfl, hm2, hs2, hB2⟩
    replace hm2 : m2 = G.es.length := hm2
    subst hm2
    have x2 := hB.trans (hB2.mono hB.size)
    have g2 : VRow (w2.alloc (.cells #[.int .i64 G.q, .int .i64 G.n, .slice p2 G.es.length c2] 27)) w2.heap.size 27 [.int .i64 G.q, .int .i64 G.n, .slice p2 G.es.length c2] := VRow.new w2 _ _
    have x3 := x2.alloc x2.size (.cells #[.int .i64 G.q, .int .i64 G.n, .slice p2 G.es.length c2] 27)
    have s3 := hidI (Sg.below hs2 ((RowKit.Below.refl w2.heap.size w2).alloc (Nat.le_refl _) (.cells #[.int .i64 G.q, .int .i64 G.n, .slice p2 G.es.length c2] 27)))
    have HB3 := hidI (HB.out _ x3)
    clear hB hB2 hs2 x2 HA
    have g2 := hidI g2
    have x3 := hidI x3
    go_wp2_with fail
    refine HB3.out.mono ?_
    rintro e w4 ⟨p4, m4, c4, rfl, hm4, hs4, hB4⟩
    replace hm4 : m4 = G.es.length := hm4
    subst hm4
    have x4 := x3.out.trans (hB4.mono x3.out.size)
    have g4 := g2.out.below hB4 g2.out.lt
    have s4 := s3.out.below hB4
    have g5 := g4.alloc (.cells #[.int .i64 G.q, .int .i64 G.n, .slice p4 G.es.length c4] 27)
    have h5 : VRow (w4.alloc (.cells #[.int .i64 G.q, .int .i64 G.n, .slice p4 G.es.length c4] 27)) w4.heap.size 27 [.int .i64 G.q, .int .i64 G.n, .slice p4 G.es.length c4] := VRow.new w4 _ _
    have hb5 := (RowKit.Below.refl w4.heap.size w4).alloc (Nat.le_refl _) (.cells #[.int .i64 G.q, .int .i64 G.n, .slice p4 G.es.length c4] 27)
    have x5 := x4.alloc x4.size (.cells #[.int .i64 G.q, .int .i64 G.n, .slice p4 G.es.length c4] 27)
    have HQ5 := hidI (HQ.out _ p2 p4 c2 c4 (s4.below hb5) (Sg.below hs4 hb5))
    have a0 := g5.at 0 rfl; have a1 := g5.at 1 rfl; have a2 := g5.at 2 rfl
    have d0 := h5.at 0 rfl; have d1 := h5.at 1 rfl; have d2 := h5.at 2 rfl
    clear g2 x3 s3 HB3 HB HQ x4 g4 s4 hB4 hs4 hb5 g5 h5
    go_wp2_with fail
    refine HQ5.out.mono ?_
    rintro e w6 ⟨rfl, hB6⟩
    have x6 := x5.trans (hB6.mono x5.size)
    clear a0 a1 a2 d0 d1 d2 HQ5 hB6 x5
    go_wp2_with fail
    refine (HAW.out w6 x6).mono ?_
    rintro e w7 ⟨rfl, hB7⟩
    have x7 := x6.trans (hB7.mono x6.size)
    go_wp2
    go_ret
    exact ⟨rfl, x7⟩
  · rw [hg] at HGR
    clear hg
    go_enter Tryz.func3, Tryz.ntmps3
    go_wp2_with fail
    refine HGR.out.mono ?_
    rintro e w1 ⟨rfl, hw⟩
    have hB : RowKit.Below w.heap.size w w1 := by rw [hw]; exact RowKit.Below.refl _ _
    clear hw
    go_wp2_with fail
    refine (HAW.out w1 hB).mono ?_
    rintro e w2 ⟨rfl, hB2⟩
    have hB3 := hB.trans (hB2.mono hB.size)
    go_wp2
    go_ret
    exact ⟨rfl, hB3⟩
end Go.Proofs.YthelgembcfdhdaaGreat
namespace Go.Proofs.YthelgembcfdhdaaGreat
open Go.ChangeShapes Go.WideShapes Go.ChangeAt Go.RowKit

theorem own : ownKnob Tryz.prog.godebug = none := by kernel_rfl
theorem laidOut : laidOutB Tryz.prog = true := by kernel_rfl

theorem trodAll_below {H : Type} {enc : TypeId × Value → H} {W W' : World} (hb : Below W.heap.size W W') :
    ∀ (ts : List TypeId) (vs : List Value) (ds : List (DataW H)) (p : List MemPlace), (∀ t ∈ ts, Tryz.prog.readableRec t = true ∧ t < Tryz.prog.types.size) →
      DataW.TrodAll enc Tryz.prog W 0 (fun _ => true) true ts vs ds p → (∀ x ∈ p, x.block < W.heap.size) →
      DataW.TrodAll enc Tryz.prog W' 0 (fun b => decide (b < W.heap.size)) true ts vs ds p
  | [], vs, ds, p, _, h, _ => by
    obtain ⟨rfl, rfl, rfl⟩ := trodAll_nil h
    exact trodAll_mk0
  | t :: ts, vs, ds, p, ht, h, hlt => by
    obtain ⟨v, vs', d, ds', p', q', rfl, rfl, rfl, h0, h1⟩ := trodAll_cons h
    exact trodAll_cons_mk (Below.trod laidOut (ht t List.mem_cons_self).1 (ht t List.mem_cons_self).2 h0 hb (fun x hx => hlt x (List.mem_append_left _ hx)))
      (trodAll_below hb ts vs' ds' q' (fun t h => ht t (List.mem_cons_of_mem _ h)) h1 (fun x hx => hlt x (List.mem_append_right _ hx)))

/-- What the row asks behind the call of a law. -/
theorem law_post {H : Type} {enc : TypeId × Value → H} {f : Func} {s : ChangeSpec} {W W' : World} {args : Array Value} {ds gs : List (DataW H)} {before : List MemPlace}
    (hW : DataW.Whole enc Tryz.prog f.params.toList s.vars false W args.toList ds gs before) (hv : s.vars = [])
    (hr : f.resultTypes = #[4]) (ht : ∀ t ∈ f.params.toList, Tryz.prog.readableRec t = true ∧ t < Tryz.prog.types.size)
    (hfr : (s.fn H (ds ++ gs)).results = [.lit (.bool true)]) (hfa : (s.fn H (ds ++ gs)).args = ds) (hfv : (s.fn H (ds ++ gs)).vars = [])
    (hB : Below W.heap.size W W') : s.post enc Tryz.prog f false true false false W args (.bool true) W' := by
  have hW' := hW
  obtain ⟨p, q, hA, hV, rfl, hfz, hnd⟩ := hW
  have hlt : ∀ x ∈ p, x.block < W.heap.size := fun x hx => hW'.lt x (List.mem_append_left _ hx)
  refine ⟨ds, gs, _, [] ++ [], p, [], hW', ?_, ?_, ?_, hB.frame _, fun h => by cases h⟩
  · rw [hfr, hr]; exact trodAll_mk1 (shut_bool Tryz.underlying4 true)
  · rw [hfa]; exact trodAll_below hB _ _ _ _ ht hA hlt
  · rw [hfv, hv]; exact rfl
end Go.Proofs.YthelgembcfdhdaaGreat
namespace Go.Proofs.YthelgembcfdhdaaGreat
open Go.ChangeShapes Go.WideShapes Go.ChangeAt Go.RowKit

theorem cellsString : Tryz.prog.cellsOf 9 = 1 := by kernel_rfl
theorem readStrings : Tryz.prog.readableRec 22 = true ∧ 22 < Tryz.prog.types.size := ⟨by kernel_rfl, of_decide_eq_true (by kernel_rfl)⟩
theorem readString1 : Tryz.prog.readableRec 9 = true ∧ 9 < Tryz.prog.types.size := ⟨by kernel_rfl, of_decide_eq_true (by kernel_rfl)⟩
theorem readIntS : Tryz.prog.readableRec 3 = true ∧ 3 < Tryz.prog.types.size := ⟨by kernel_rfl, of_decide_eq_true (by kernel_rfl)⟩

set_option maxRecDepth 10000 in
/-- A list of strings that came in, as the walks take it. -/
theorem strings_in {H : Type} {enc : TypeId × Value → H} {W : World} {ps : List MemPlace} {v : Value} {d : DataW H} {base : Nat} (hval : Value.okWide Tryz.prog W .any base 22 v)
    (h : DataW.Trod enc Tryz.prog W 0 (fun _ => true) true 22 v d ps) (hlt : ∀ x ∈ ps, x.block < W.heap.size) :
    ∃ (p : Option Addr) (l : List ByteArray) (c : Nat), v = .slice p l.length c ∧ Sl W Value.string p l ∧ (∀ j (hj : j < l.length), l[j].size ≤ maxLen) ∧ l.length ≤ 9223372036854775807 := by
  obtain ⟨a0, len, cap, rfl⟩ := okWide_slice Tryz.underlying22 hval
  obtain ⟨fuel, hf⟩ := h
  rcases open_strings Tryz.underlying22 Tryz.underlying9 cellsString hf with ⟨hcs, hx⟩ | ⟨a, len', cap', ss, hcs, _, hl, hm, hz, hx, hcell, hws⟩
  · simp [Value.cells] at hcs
    obtain ⟨rfl, rfl, rfl⟩ := hcs
    exact ⟨none, [], 0, rfl, Sl.nil _ _ _, fun j hj => by simp at hj, by simp⟩
  · simp [Value.cells] at hcs
    obtain ⟨rfl, rfl, rfl⟩ := hcs
    simp only [Prod.mk.injEq] at hx
    obtain ⟨_, rfl⟩ := hx
    simp only [if_true] at hz
    have hlen : (ss.take len).length = len := by simp; omega
    refine ⟨some a, ss.take len, cap, by rw [hlen], ?_, ?_, by rw [hlen]; unfold maxLen at hm; omega⟩
    · by_cases h0 : len = 0
      · subst h0; exact .inl (by simp)
      · obtain ⟨b, off, spot⟩ := a
        have hspot : spot = none := by simpa [Addr.add] using World.cell?_spot (hcell 0 (by omega))
        subst hspot
        refine .inr ⟨b, off, rfl, hlt (.cell b off) (MemPlace.mem_row.2 ⟨0, by omega, by simp⟩), fun i hi => ?_⟩
        rw [← add_plain, hcell i (by omega)]
        have : i < ss.length := by omega
        simp [List.getD_eq_getElem?_getD, this]
    · intro j hj
      rw [List.getElem_take]
      exact hws _ (List.getElem_mem _)

end Go.Proofs.YthelgembcfdhdaaGreat
namespace Go.Proofs.YthelgembcfdhdaaGreat
open Go.ChangeShapes Go.WideShapes Go.ChangeAt Go.RowKit

set_option maxRecDepth 100000 in
theorem graph14_lifted (os : Os) (started : os.Started) (H : Type) (enc : TypeId × Value → H) :
    ReturnsInHanded {} Tryz.checked os 3 .any (Rows.forbiddenGraphSpec.pre6 enc Tryz.prog Tryz.f3 Rows.forbiddenGraphRow.domain false) (Rows.forbiddenGraphSpec.post enc Tryz.prog Tryz.f3 false true false false) := by
  refine returnsInHanded_of_change_shaped (C := Tryz.checked) own started (by kernel_rfl) Tryz.func3
    (ChangeSpec.witness6 (enc := enc) (C := Tryz.checked) false ⟨#[], #[.int .i64 0, .slice none 0 0], []⟩ 8 (by kernel_rfl) (by kernel_rfl) (by kernel_rfl) (by kernel_rfl)) ?_
  intro W base args ds gs before hval0 hW hcnd _ hsh _
  have hval : ∀ (j : Nat) t v, Tryz.f3.params[j]? = some t → args[j]? = some v → Value.okWide Tryz.prog W .any base t v := hval0
  have hW' := hW
  obtain ⟨p, q, hA0, hV, rfl, hfz, hnd⟩ := hW
  have hA : DataW.TrodAll enc Tryz.prog W 0 (fun _ => true) true Tryz.f3.params.toList args.toList ds p := hA0
  rw [Tryz.params3] at hA hval
  obtain ⟨v0, v1, d0, d1, p0, p1, rfl, rfl, rfl, h0, h1⟩ := trodAll_two hA
  obtain ⟨rfl, rfl⟩ := trodVars_none hV
  have hlt : ∀ x ∈ p0 ++ p1, x.block < W.heap.size := fun x hx => hW'.lt x (List.mem_append_left _ (by simpa using hx))
  obtain ⟨x, rfl, rfl, rfl, wx⟩ := open_int Tryz.underlying3 (hval 0 3 v0 rfl rfl) h0
  obtain ⟨pa, l, c, rfl, hsl, hz, hl⟩ := strings_in (hval 1 22 v1 rfl rfl) h1 (fun x hx => hlt x (List.mem_append_right _ hx))
  have hmx : Mx W := Tryz.laysM144.s1_3 W hsh
  refine (lawGraph14_any x l pa c W hsl hl hmx).mono fun e W' ⟨he, hB⟩ => ?_
  subst he
  refine ⟨_, rfl, law_post hW' rfl (by kernel_rfl) ?_ rfl rfl rfl hB⟩
  rw [Tryz.params3]
  intro t ht
  simp only [List.mem_cons, List.not_mem_nil, or_false] at ht
  rcases ht with rfl | rfl
  · exact readIntS
  · exact readStrings

theorem forbiddenGraph_holds : Rows.ForbiddenGraphSaid :=
  OpenClaim.holds_of_wide 3 Tryz.f3 rfl rfl rfl rfl rfl rfl rfl ⟨rfl, rfl, rfl, rfl, rfl⟩ rfl rfl rfl rfl rfl (by kernel_rfl) Tryz.func3 (by kernel_rfl)
    (of_decide_eq_true (by kernel_rfl)) (by unfold Func.isWrapper; rw [if_neg (of_decide_eq_false (by kernel_rfl))]; exact ⟨rfl, rfl⟩)
    (fun os started H enc _ => graph14_lifted os started H enc)
#print axioms forbiddenGraph_holds
end Go.Proofs.YthelgembcfdhdaaGreat
