/-
  Walks: the essential part of a graph, of the reference.
-/
import Derived.Test.YtlgjhmenjfmpfaaHu
import Derived.Test.YtlgjhmenjfmpfaaGm
namespace Go.Proofs.Ytlgjhmenjfmpfaa
open Go.RowKit Go.Sort Go.Shelf Go.Lib

def inS (st : List Int) (s : Int) (x : Ed) : Bool := decide (x.t = s) && decide (x.f ∈ st)
def outS (st : List Int) (s : Int) (x : Ed) : Bool := decide (x.f = s) && decide (x.t ∈ st)
theorem own_sl' {w : World} {B e n c : Nat} {p : Option Addr} {l : List Int} (h : w.ownsRow B e 1 (.slice p l.length c) n (l.map (Value.int .i64))) : Sl w (Value.int .i64) p l := by
  obtain ⟨p', c', he, hs⟩ := own_sl h
  cases he
  exact hs
def boN : Value → Nat | .bool true => 1 | _ => 0
theorem essP_in (es : List Ed) (st : List Int) (s : Int) : essP es st s = (es.any (inS st s) && es.any (outS st s)) := rfl
theorem flen_le {α : Type} (f : α → Bool) (l : List α) (k : Nat) (h : k ≤ l.length) : ((l.take k).filter f).length ≤ k := Nat.le_trans (List.length_filter_le _ _) (by rw [List.length_take]; omega)

set_option maxRecDepth 100000 in
set_option maxHeartbeats 4000000 in
theorem rEss_any (G : Gr) (p : Option Addr) (c : Nat) (w : World) (hin : Sg 3 w edE p G.es) (hl : G.es.length ≤ 10000) :
    Calls Try.prog 28 #[(.agg #[.int .i64 G.q, .int .i64 G.n, .slice p G.es.length c])] w (RetEs (essA G).1 (essA G).2.1 (essA G).2.2 w) := by
  have HIN := hidI hin
  clear hin
  obtain ⟨i0, hi0, hz0, hz1, hz3⟩ := info_parts infoIn
  obtain ⟨w0, hw0⟩ : ∃ w0, w0 = (w.alloc (.cells #[.int .i64 G.q, .int .i64 G.n, .slice p G.es.length c] 24)).alloc (.cells #[.int .i64 0, .int .i64 0, .slice none 0 0] 24) := ⟨_, rfl⟩
  have b0 : VRow w0 w.heap.size 24 [.int .i64 G.q, .int .i64 G.n, .slice p G.es.length c] := by subst hw0; exact (VRow.new w _ _).alloc _
  have b1 : VRow w0 (w.heap.size + 1) 24 [.int .i64 0, .int .i64 0, .slice none 0 0] := by subst hw0; exact VRow.new1 w _ _ _
  have hB0 : RowKit.Below w.heap.size w w0 := by subst hw0; exact ((RowKit.Below.refl _ _).alloc (Nat.le_refl _) _).alloc (by simp) _
  obtain ⟨r, hr⟩ : ∃ r, chkG G = r := ⟨_, rfl⟩
  by_cases hr0 : r = 0
  · subst hr0
    have HR := hidI hr
    have HV := hidI (chkG_ok.1 hr)
    obtain ⟨N, hNt⟩ : ∃ N : Nat, N = G.n.toNat := ⟨_, rfl⟩
    have HK : Hid (essA G = (partA G (ess G.es (upto N)), ess G.es (upto N), 0)) := by rw [hNt]; exact essA_ok hr
    clear hr
    go_enter Try.func28, Try.ntmps28
    go_wp2_with fail
    rw [← hw0]
    clear hw0
    refine (rCheck_r G p c _ 0 HR.out (HIN.out.below hB0) (by omega)).mono ?_
    rintro e w1 ⟨rfl, hB1⟩
    have x1 := hB0.trans (hB1.mono hB0.size)
    have c0 := b0.below hB1 b0.lt
    have c1 := b1.below hB1 b1.lt
    have f1 := c0.at 1 rfl
    clear hB1 b0 b1 hB0
    have hz : w.heap.size + 1 < w1.heap.size := c1.lt
    have hn0 := HV.out.n1; have hn1 := HV.out.n2
    have HN : Hid ((N : Int) = G.n) := by unfold Hid; omega
    have HU : Hid (St G.n (upto N)) := by rw [hNt]; exact St.upto hn0
    clear hNt
    go_wp2
    go_loopw [5, 6] (fun ov iv wr => ∃ k : Nat, k ≤ N ∧ iv = .int .i64 k ∧ wr.ownsRow w1.heap.size 3 1 ov k ((upto k).map (Value.int .i64)) ∧ RowKit.Below w1.heap.size w1 wr) (fun _ iv _ => N - (intOf iv).toNat)
    case atStart => exact ⟨0, by omega, rfl, World.ownsRow_nil _ _ _ _, RowKit.Below.refl _ _⟩
    case round =>
      obtain ⟨k, hk, rfl, hown, hB⟩ := hrel
      have hNN := HN.out
      by_cases hlt : (k : Int) < G.n
      · have hkN : k + 1 ≤ N := by omega
        clear hNN
        have hnew := cell_one_at wr (.int .i64 (k : Int)) 3 wr.heap.size rfl
        have HUS := hidI (upto_succ k)
        generalize upto k = M at *
        have f1r := (c0.below hB c0.lt).at 1 rfl
        go_wp2_with (at_builtin; refine wpList_append_own _ rfl _ _ 50 rfl w1.heap.size 3 i0 (.int .i64 0) 1 8 Try.underlying50 hi0 hz0 hz1 hz3 rfl (by decide) _ _ _ rfl (hown.alloc _) ⟨wr.heap.size, 0, none⟩ 1 1 [.int .i64 (k : Int)] rfl rfl hnew (by simp [Value.oneCell']) (by simp [maxLen]; omega) (by omega) (by rw [World.size_alloc]; have := hB.size; omega) ?_; intro v' w2 hown' hgrow _)
        go_roundw
        case rel => exact ⟨k + 1, hkN, by go_num, by rw [HUS.out, List.map_append]; exact hown', (hB.alloc hB.size _).grown hgrow (Nat.le_trans hB.size (by simp)) (fun j e => (hown.lt j e).1)⟩
        case measure => simp [intOf]; omega
      · obtain rfl : N = k := by omega
        clear hNN
        obtain ⟨w2, rfl⟩ : ∃ w2 : World, w2 = wr := ⟨_, rfl⟩
        have x2 := x1.trans (hB.mono x1.size)
        have d0 := c0.below hB c0.lt
        have d1 := c1.below hB c1.lt
        have f1r := d0.at 1 rfl
        have hge := hB.size
        clear hB x1 c0 c1 f1
        go_wp2
        clear hlt f1r
        go_loopw [5, 7] (fun sv cv wr => ∃ (st : List Int) (ch : Bool), cv = .bool ch ∧ Hid (St G.n st) ∧ Hid (ess G.es st = ess G.es (upto N)) ∧ Hid (ch = false → (essS G.es st).length = st.length) ∧ wr.ownsRow w1.heap.size 3 1 sv st.length (st.map (Value.int .i64)) ∧ RowKit.Below w2.heap.size w2 wr) (fun sv cv _ => 2 * slLen sv + boN cv)
        case atStart => exact ⟨upto N, true, rfl, HU, rfl, (fun h => by simp at h), by rw [upto_len]; exact hown, RowKit.Below.refl _ _⟩
        case round =>
          clear hown
          obtain ⟨st, ch, rfl, HST, HE, HC, hown, hB⟩ := hrel
          obtain ⟨ps, cs, rfl, _⟩ := own_sl hown
          obtain ⟨wo, rfl⟩ : ∃ wo : World, wo = wr := ⟨_, rfl⟩
          have hsl : st.length ≤ 64 := by have := HST.out.len hn0; omega
          have x3 := x2.trans (hB.mono x2.size)
          have e0 := d0.below hB d0.lt
          have e1 := d1.below hB d1.lt
          have hge3 := hB.size
          cases ch
          · have HSE := hidI (HC.out rfl)
            have HKK : Hid (essA G = (partA G st, st, 0)) := by
              have := HE.out
              rw [ess_stop HSE.out] at this
              rw [Hid, HK.out, ← this]
            have hst3 := HST.out.srt
            clear HE HC HSE HK HU
            obtain ⟨ps', cs', hpe, hsl1⟩ := own_sl hown
            cases hpe
            have k0 := e0.at 0 rfl; have k1 := e0.at 1 rfl; have k2 := e0.at 2 rfl
            go_wp2_with fail
            refine (rPart_any G p c st ps cs wo (HIN.out.below x3) hsl1 hl (by omega)).mono ?_
            generalize partA G st = R at *
            rintro e w4 ⟨p4, m4, c4, rfl, hown4, hB4⟩
            have x4 := x3.trans (hB4.mono x3.size)
            have e14 := e1.below hB4 e1.lt
            have hz3 : w.heap.size + 1 < wo.heap.size := e1.lt
            have hown5 := hown.below hB4
            have j0 := e14.at 0 rfl; have j1 := e14.at 1 rfl; have j2 := e14.at 2 rfl
            have z0 := e14.frozen 0; have z1 := e14.frozen 1; have z2 := e14.frozen 2
            go_wp2
            have r6 := VRow.set (i := 2) (.slice p4 m4 c4) (VRow.set (i := 1) (.int .i64 R.n) (VRow.set (i := 0) (.int .i64 R.q) e14))
            have y0 := r6.at 0 rfl; have y1 := r6.at 1 rfl; have y2 := r6.at 2 rfl
            have o6 := ownsRow_setCell_below (a := (⟨w.heap.size + 1, 2, none⟩ : Addr)) (ownsRow_setCell_below (a := (⟨w.heap.size + 1, 1, none⟩ : Addr)) (ownsRow_setCell_below (a := (⟨w.heap.size + 1, 0, none⟩ : Addr)) hown4 hz3 (.int .i64 R.q)) hz3 (.int .i64 R.n)) hz3 (.slice p4 m4 c4)
            have o7 := ownsRow_setCell_below (a := (⟨w.heap.size + 1, 2, none⟩ : Addr)) (ownsRow_setCell_below (a := (⟨w.heap.size + 1, 1, none⟩ : Addr)) (ownsRow_setCell_below (a := (⟨w.heap.size + 1, 0, none⟩ : Addr)) hown5 hz (.int .i64 R.q)) hz (.int .i64 R.n)) hz (.slice p4 m4 c4)
            have x6 : RowKit.Below w.heap.size w (((w4.setCell (⟨w.heap.size + 1, 0, none⟩ : Addr) (.int .i64 R.q)).setCell (⟨w.heap.size + 1, 1, none⟩ : Addr) (.int .i64 R.n)).setCell (⟨w.heap.size + 1, 2, none⟩ : Addr) (.slice p4 m4 c4)) :=
              ((x4.setCell (show w.heap.size ≤ w.heap.size + 1 by omega) _).setCell (show w.heap.size ≤ w.heap.size + 1 by omega) _).setCell (show w.heap.size ≤ w.heap.size + 1 by omega) _
            refine bodyPost_ret (v := .tuple #[.agg #[.int .i64 R.q, .int .i64 R.n, .slice p4 m4 c4], .slice ps st.length cs, .int .i64 0]) (by simp [results, Try.results28, go_sem, y0, y1, y2]) rfl ?_
            exact RetEs.of HKK.out (own_conv o6 rfl (by omega)) ⟨o7.1, o7.2.imp id (fun ⟨g, cap, cur, a, b, z⟩ => ⟨g, cap, cur, a, Nat.le_trans (show w.heap.size ≤ w1.heap.size by omega) b, z⟩)⟩ x6
          · clear HC
            go_wp2
            go_loopw [7, 8, 9] (fun cv kv iv wr => ∃ (k : Nat) (ch : Bool) (v : Value), k ≤ st.length ∧ iv = .int .i64 k ∧ cv = .bool ch ∧ kv = v ∧ Hid (if ch = true then ((st.take k).filter (essP G.es st)).length < k else ((st.take k).filter (essP G.es st)).length = k) ∧
                wr.ownsRow wo.heap.size 3 1 v ((st.take k).filter (essP G.es st)).length (((st.take k).filter (essP G.es st)).map (Value.int .i64)) ∧ RowKit.Below wo.heap.size wo wr) (fun _ _ iv _ => st.length - (intOf iv).toNat)
            case atStart => exact ⟨0, false, _, by omega, rfl, rfl, rfl, (by rw [if_neg (by simp)]; rfl), World.ownsRow_nil _ _ _ _, RowKit.Below.refl _ _⟩
            case round =>
              obtain ⟨k, ch, kv, hk, rfl, rfl, rfl, HF, hownk, hBk⟩ := hrel
              obtain ⟨w3, rfl⟩ : ∃ w3 : World, w3 = wr := ⟨_, rfl⟩
              have hown3 := hown.below hBk
              have hgk := hBk.size
              by_cases hlt : k < st.length
              · have HFS := hidI (filter_snoc (essP G.es st) st k hlt)
                have HFL := hidI (flen_le (essP G.es st) st k hk)
                have HPI := hidI (essP_in G.es st st[k])
                obtain ⟨b1, o1, rfl, hb1, hc1⟩ := (own_sl' hown3).get k hlt
                have s1 := hc1 k hlt
                clear hc1
                generalize st[k] = s at *
                generalize (st.take k).filter (essP G.es st) = M at *
                go_wp2
                go_loopw [10, 11, 12] (fun iv ov jv wx => ∃ j : Nat, j ≤ G.es.length ∧ jv = .int .i64 j ∧ iv = .bool ((G.es.take j).any (inS st s)) ∧ ov = .bool ((G.es.take j).any (outS st s)) ∧ RowKit.Below w3.heap.size w3 wx) (fun _ _ jv _ => G.es.length - (intOf jv).toNat)
                case atStart => exact ⟨0, by omega, rfl, rfl, rfl, RowKit.Below.refl _ _⟩
                case round =>
                  obtain ⟨j, hj, rfl, rfl, rfl, hBx⟩ := hrel
                  have x5 := hBk.trans (hBx.mono hBk.size)
                  have g0 := e0.below x5 e0.lt
                  have hslx := own_sl' (hown3.below hBx)
                  have s1x := (hBx.cell (p := (⟨b1, o1 + k, none⟩ : Addr)) hb1).trans s1
                  have f2 := g0.at 2 rfl
                  by_cases hjl : j < G.es.length
                  · obtain ⟨b3, o3, rfl, hb3, q0, q1, q2⟩ := (HIN.out.below (x3.trans (x5.mono x3.size))).get3 j hjl rfl
                    have HA1 := hidI (any_snoc (inS st s) G.es j hjl); have HA2 := hidI (any_snoc (outS st s) G.es j hjl)
                    generalize (G.es.take j).any (inS st s) = a1 at *
                    generalize (G.es.take j).any (outS st s) = a2 at *
                    generalize G.es[j] = x at *
                    obtain ⟨r1, hr1⟩ : ∃ r, decide (x.f ∈ st) = r := ⟨_, rfl⟩
                    obtain ⟨r2, hr2⟩ : ∃ r, decide (x.t ∈ st) = r := ⟨_, rfl⟩
                    have ho1 : (a1 = true ∧ Hid ((G.es.take (j + 1)).any (inS st s) = true)) ∨ (a1 = false ∧ (x.t == s) = false ∧ Hid ((G.es.take (j + 1)).any (inS st s) = false)) ∨ (a1 = false ∧ (x.t == s) = true ∧ Hid ((G.es.take (j + 1)).any (inS st s) = r1)) := by
                      unfold Hid
                      rw [HA1.out]
                      cases a1
                      · by_cases h : x.t = s
                        · exact .inr (.inr ⟨rfl, by simpa using h, by simp [inS, h, hr1]⟩)
                        · exact .inr (.inl ⟨rfl, by simpa using h, by simp [inS, h]⟩)
                      · exact .inl ⟨rfl, rfl⟩
                    have ho2 : (a2 = true ∧ Hid ((G.es.take (j + 1)).any (outS st s) = true)) ∨ (a2 = false ∧ (x.f == s) = false ∧ Hid ((G.es.take (j + 1)).any (outS st s) = false)) ∨ (a2 = false ∧ (x.f == s) = true ∧ Hid ((G.es.take (j + 1)).any (outS st s) = r2)) := by
                      unfold Hid
                      rw [HA2.out]
                      cases a2
                      · by_cases h : x.f = s
                        · exact .inr (.inr ⟨rfl, by simpa using h, by simp [outS, h, hr2]⟩)
                        · exact .inr (.inl ⟨rfl, by simpa using h, by simp [outS, h]⟩)
                      · exact .inl ⟨rfl, rfl⟩
                    clear HA1 HA2
                    obtain ⟨W1, hW1⟩ : ∃ W1, W1 = wr.alloc (.cells #[.int .i64 x.f, .int .i64 x.l, .int .i64 x.t] 47) := ⟨_, rfl⟩
                    have y0 : VRow W1 wr.heap.size 47 [.int .i64 x.f, .int .i64 x.l, .int .i64 x.t] := by subst hW1; exact VRow.new wr _ _
                    have HS1 : Sl W1 (Value.int .i64) (some ⟨b1, o1, none⟩) st := by subst hW1; exact hslx.below ((RowKit.Below.refl _ _).alloc (Nat.le_refl _) _)
                    have hB1 : RowKit.Below w3.heap.size w3 W1 := by subst hW1; exact hBx.alloc hBx.size _
                    have s2 := (hB1.cell (p := (⟨b1, o1 + k, none⟩ : Addr)) hb1).trans s1
                    clear s1x
                    go_upto_region 20 with fail
                    rw [← hW1]
                    clear hW1 q0 q1 q2 f2
                    have u0 := y0.at 0 rfl; have u2 := y0.at 2 rfl
                    have HC1 := fun (n : Nat) => Calls.quiet_of_same (rHas_r st (some ⟨b1, o1, none⟩) cs x.f r1 (W1.drewN n) HS1 (by omega) hr1)
                    rcases ho1 with ⟨rfl, HV1⟩ | ⟨rfl, d1, HV1⟩ | ⟨rfl, d1, HV1⟩
                    all_goals
                      (refine wp_region_quiet_lit (by kernel_rfl) (by kernel_rfl) ?_; (repeat (first | go_big_quiet_step ((go_at_call 47; with_reducible exact HC1 _)) | quiet_step ((go_at_call 47; with_reducible exact HC1 _)))); refine wpQuiet_nil ?_; intro _ hwq; obtain ⟨nq, hwq2⟩ := hwq; subst hwq2)
                      have HS2 : Sl (W1.drewN nq) (Value.int .i64) (some ⟨b1, o1, none⟩) st := HS1
                      have hBq : RowKit.Below w3.heap.size w3 (W1.drewN nq) := below_dN hB1 nq
                      have u0q : (W1.drewN nq).cell? ⟨wr.heap.size, 0, none⟩ = some (.int .i64 x.f) := u0
                      have u2q : (W1.drewN nq).cell? ⟨wr.heap.size, 2, none⟩ = some (.int .i64 x.t) := u2
                      have s2q : (W1.drewN nq).cell? ⟨b1, o1 + k, none⟩ = some (.int .i64 s) := s2
                      clear u0 u2 s2 HS1 hB1 HC1 y0
                      generalize W1.drewN nq = W2 at *
                      have HC2 := fun (n : Nat) => Calls.quiet_of_same (rHas_r st (some ⟨b1, o1, none⟩) cs x.t r2 (W2.drewN n) HS2 (by omega) hr2)
                      rcases ho2 with ⟨rfl, HV2⟩ | ⟨rfl, d2, HV2⟩ | ⟨rfl, d2, HV2⟩
                      all_goals
                        go_wp2_with fail
                        (refine wp_region_quiet_lit (by kernel_rfl) (by kernel_rfl) ?_; (repeat (first | go_big_quiet_step ((go_at_call 47; with_reducible exact HC2 _)) | quiet_step ((go_at_call 47; with_reducible exact HC2 _)))); refine wpQuiet_nil ?_; intro _ hwq; obtain ⟨nq, hwq2⟩ := hwq; subst hwq2)
                        go_wp2_with fail
                        go_roundw
                        case rel => exact ⟨j + 1, by omega, by go_num, by rw [HV1.out], by rw [HV2.out], below_dN hBq nq⟩
                        case measure => simp [intOf]; omega
                  · obtain rfl : j = G.es.length := by omega
                    rw [List.take_length]
                    have HP : Hid ((G.es.any (inS st s) && G.es.any (outS st s)) = essP G.es st s) := HPI.out.symm
                    generalize G.es.any (inS st s) = a1 at *
                    generalize G.es.any (outS st s) = a2 at *
                    have hownx := hownk.below hBx
                    have hszx := hBx.size
                    cases ha : (a1 && a2)
                    · have HN : Hid (List.filter (essP G.es st) (st.take (k + 1)) = M) := by rw [Hid, HFS.out, ← HP.out, ha]; simp
                      have ha2 : a1 = false ∨ (a1 = true ∧ a2 = false) := by cases a1 <;> simp_all
                      rcases ha2 with rfl | ⟨rfl, rfl⟩
                      all_goals
                        go_wp2_with fail
                        go_roundw
                        case rel => exact ⟨k + 1, true, _, by omega, by go_num, rfl, rfl, (by rw [HN.out, if_pos rfl]; have := HFL.out; unfold Hid; omega), by rw [HN.out]; exact hownx, x5⟩
                        case measure => simp [intOf]; omega
                    · have HN : Hid (List.filter (essP G.es st) (st.take (k + 1)) = M ++ [s]) := by rw [Hid, HFS.out, ← HP.out, ha]; simp
                      have ha2 : a1 = true ∧ a2 = true := by cases a1 <;> simp_all
                      obtain ⟨rfl, rfl⟩ := ha2
                      have hnew := cell_one_at wr (.int .i64 s) 3 wr.heap.size rfl
                      have hML := HFL.out
                      go_wp2_with (at_builtin; refine wpList_append_own _ rfl _ _ 50 rfl wo.heap.size 3 i0 (.int .i64 0) 1 8 Try.underlying50 hi0 hz0 hz1 hz3 rfl (by decide) _ _ _ rfl (hownx.alloc _) ⟨wr.heap.size, 0, none⟩ 1 1 [.int .i64 s] rfl rfl hnew (by simp [Value.oneCell']) (by simp [maxLen]; omega) (by omega) (by rw [World.size_alloc]; omega) ?_; intro v' w4 hown' hgrow _)
                      go_roundw
                      case rel =>
                        refine ⟨k + 1, ch, _, by omega, by go_num, rfl, rfl, ?_, ?_, (x5.alloc x5.size _).grown hgrow (Nat.le_trans x5.size (by simp)) (fun j e => ?_)⟩
                        · rw [HN.out, List.length_append, List.length_singleton]
                          have := HF.out
                          unfold Hid
                          cases ch <;> simp at this ⊢ <;> omega
                        · rw [HN.out, List.length_append, List.map_append]; exact hown'
                        · exact (hownx.lt j e).1
                      case measure => simp [intOf]; omega
              · obtain rfl : k = st.length := by omega
                rw [List.take_length] at hownk
                have HF : Hid (if ch = true then (essS G.es st).length < st.length else (essS G.es st).length = st.length) := by have := HF.out; rw [List.take_length] at this; exact this
                have HSF : Hid (St G.n (essS G.es st)) := HST.out.filter _
                have HEG : Hid (ess G.es (essS G.es st) = ess G.es (upto N)) := by
                  have h := HF.out
                  cases ch
                  · rw [if_neg (by simp)] at h
                    rw [Hid, essS_eq h]; exact HE.out
                  · rw [if_pos rfl] at h
                    rw [Hid, ← ess_go (by omega)]; exact HE.out
                have HCC : Hid (ch = false → (essS G.es (essS G.es st)).length = (essS G.es st).length) := by
                  intro hc
                  have h := HF.out
                  rw [if_neg (by rw [hc]; simp)] at h
                  rw [essS_eq h, h]
                have hownk : w3.ownsRow wo.heap.size 3 1 _ (essS G.es st).length ((essS G.es st).map (Value.int .i64)) := hownk
                have hM : 2 * (essS G.es st).length + (if ch = true then 1 else 0) < 2 * st.length + 1 := by
                  have h := HF.out
                  cases ch
                  · rw [if_neg (by simp)] at h ⊢; omega
                  · rw [if_pos rfl] at h ⊢; omega
                clear HF HE
                obtain ⟨q, d, rfl, _⟩ := own_sl hownk
                go_wp2_with fail
                go_roundw
                case rel => exact ⟨essS G.es st, ch, rfl, HSF, HEG, HCC, ⟨hownk.1, hownk.2.imp id (fun ⟨g, cap, cur, a, b, z⟩ => ⟨g, cap, cur, a, Nat.le_trans (show w1.heap.size ≤ wo.heap.size by omega) b, z⟩)⟩, hB.trans (hBk.mono hB.size)⟩
                case measure => cases ch <;> simp [slLen, boN] at hM ⊢ <;> omega
  · have HK : Hid (essA G = (⟨0, 0, []⟩, [], 1)) := essA_bad (by rw [hr]; exact hr0)
    have hrb : (r == 0) = false := by simpa using hr0
    have HR := hidI hr
    clear hr
    go_enter Try.func28, Try.ntmps28
    go_wp2_with fail
    rw [← hw0]
    clear hw0
    refine (rCheck_r G p c _ r HR.out (HIN.out.below hB0) (by omega)).mono ?_
    rintro e w1 ⟨rfl, hB1⟩
    have x1 := hB0.trans (hB1.mono hB0.size)
    have c1 := b1.below hB1 b1.lt
    have j0 := c1.at 0 rfl; have j1 := c1.at 1 rfl; have j2 := c1.at 2 rfl
    have z0 := c1.frozen 0; have z1 := c1.frozen 1; have z2 := c1.frozen 2
    go_wp2
    have r6 := VRow.set (i := 2) (.slice none 0 0) (VRow.set (i := 1) (.int .i64 0) (VRow.set (i := 0) (.int .i64 0) c1))
    have y0 := r6.at 0 rfl; have y1 := r6.at 1 rfl; have y2 := r6.at 2 rfl
    have x6 : RowKit.Below w.heap.size w (((w1.setCell (⟨w.heap.size + 1, 0, none⟩ : Addr) (.int .i64 0)).setCell (⟨w.heap.size + 1, 1, none⟩ : Addr) (.int .i64 0)).setCell (⟨w.heap.size + 1, 2, none⟩ : Addr) (.slice none 0 0)) :=
      ((x1.setCell (show w.heap.size ≤ w.heap.size + 1 by omega) _).setCell (show w.heap.size ≤ w.heap.size + 1 by omega) _).setCell (show w.heap.size ≤ w.heap.size + 1 by omega) _
    refine bodyPost_ret (v := .tuple #[.agg #[.int .i64 0, .int .i64 0, .slice none 0 0], .slice none 0 0, .int .i64 1]) (by simp [results, Try.results28, go_sem, y0, y1, y2]) rfl ?_
    exact RetEs.of (G := ⟨0, 0, []⟩) (l := []) HK.out (World.ownsRow_nil _ _ _ _) (World.ownsRow_nil _ _ _ _) x6
end Go.Proofs.Ytlgjhmenjfmpfaa
