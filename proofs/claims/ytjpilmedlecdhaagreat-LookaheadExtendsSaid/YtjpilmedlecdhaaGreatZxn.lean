/-
  LookaheadExtends: whatever comes in, the law returns true, and its arguments read as they did.
-/
import Derived.Test.YtjpilmedlecdhaaGreatZxl
import Derived.Test.YtjpilmedlecdhaaGreatZxm
import Derived.Test.YtjpilmedlecdhaaGreatZxh
import Derived.Test.YtjpilmedlecdhaaGreatZxd
set_option linter.unusedVariables false
set_option linter.unusedSimpArgs false
namespace Go.Proofs.YtjpilmedlecdhaaGreat
open Go.RowKit Go.Sort Go.Shelf Go.Lib

theorem Sg.far {w : World} {p : Option Addr} {l : List Sw} (h : Sg 3 w swE p l) {a : Addr} (v : Value) (hne : l = [] ∨ ∀ b, p = some b → b.block ≠ a.block) : Sg 3 (w.setCell a v) swE p l := by
  rcases h with h | ⟨b, off, hp, hb, hc⟩
  · exact .inl h
  · rcases hne with hne | hne
    · exact .inl hne
    · refine .inr ⟨b, off, hp, by simpa using hb, fun i hi j hj => ?_⟩
      exact (World.cell?_setCell_far w a ⟨b, off + i * 3 + j, none⟩ v (fun e => hne _ hp e.symm)).trans (hc i hi j hj)
/-- The table under way: its box, its swaps in another block. -/
structure OutR (w2 W : World) (bo br : Nat) (T : Tb) (p1 : Option Addr) (c1 : Nat) (S : List Sw) (o2 : Option Addr) (d2 : Nat) : Prop where
  row : VRow W bo 25 [.int .i64 T.q, .int .i64 T.n, .slice p1 T.base.length c1, .slice o2 S.length d2]
  sw : Sg 3 W swE o2 S
  ne : S = [] ∨ ∀ b, o2 = some b → b.block ≠ bo ∧ b.block ≠ br
  bel : RowKit.Below bo w2 W
theorem OutR.below {w2 W W' : World} {bo br : Nat} {T : Tb} {p1 : Option Addr} {c1 : Nat} {S : List Sw} {o2 : Option Addr} {d2 : Nat} (h : OutR w2 W bo br T p1 c1 S o2 d2) (hB : RowKit.Below W.heap.size W W') : OutR w2 W' bo br T p1 c1 S o2 d2 :=
  ⟨h.row.below hB h.row.lt, h.sw.below hB, h.ne, h.bel.trans (hB.mono (Nat.le_of_lt h.row.lt))⟩
theorem own_blk {w : World} {B e s n m c : Nat} {p : Option Addr} {xs : List Value} (h : w.ownsRow B e s (.slice p m c) n xs) : ∀ b, p = some b → B ≤ b.block := by
  intro b hb
  rcases h.2 with ⟨h0, _⟩ | ⟨g, cap, cur, e1, hg, _⟩
  · cases h0; cases hb
  · cases e1; cases hb; exact hg
/-- Where the search for a word stands. -/
def KxP (all : List ByteArray) (T : Tb) (G : Gr) (S : List Sw) (i j k : Nat) (b : Bool) (S' : List Sw) : Prop :=
  (b = false ∧ S' = S ∧ ∀ m (hm : m < all.length), m < k → okE T G S ⟨T.q, T.n, T.base, S⟩ i j all[m] = false) ∨ (b = true ∧ RxP all T G i (j + 1) ⟨T.q, T.n, T.base, S'⟩)

set_option maxRecDepth 100000 in
set_option maxHeartbeats 4000000 in
theorem rlkExtend_any (T : Tb) (p1 p2 : Option Addr) (c1 c2 : Nat) (G : Gr) (pg : Option Addr) (cg : Nat) (w : World) (hin : TbIn w T p1 p2 c1 c2) (hG : Sg 3 w edE pg G.es) (hGl : G.es.length ≤ 9223372036854775807) :
    Calls Tryz.prog 8 #[(.agg #[.int .i64 T.q, .int .i64 T.n, .slice p1 T.base.length c1, .slice p2 T.swaps.length c2]), (.agg #[.int .i64 G.q, .int .i64 G.n, .slice pg G.es.length cg])] w (RetExt (extA T G) w) := by
  obtain ⟨w0, hw0⟩ : ∃ w0, w0 = ((w.alloc (.cells #[.int .i64 T.q, .int .i64 T.n, .slice p1 T.base.length c1, .slice p2 T.swaps.length c2] 25)).alloc (.cells #[.int .i64 G.q, .int .i64 G.n, .slice pg G.es.length cg] 28)).alloc (.cells #[.int .i64 0, .int .i64 0, .slice none 0 0, .slice none 0 0] 25) := ⟨_, rfl⟩
  have b0 : VRow w0 w.heap.size 25 [.int .i64 T.q, .int .i64 T.n, .slice p1 T.base.length c1, .slice p2 T.swaps.length c2] := by subst hw0; exact ((VRow.new w _ _).alloc _).alloc _
  have d0 : VRow w0 (w.heap.size + 1) 28 [.int .i64 G.q, .int .i64 G.n, .slice pg G.es.length cg] := by subst hw0; exact (VRow.new1 w _ _ _).alloc _
  have r0 : VRow w0 (w.heap.size + 1 + 1) 25 [.int .i64 0, .int .i64 0, .slice none 0 0, .slice none 0 0] := by subst hw0; exact VRow.new2 w _ _ _ _
  have hB0 : RowKit.Below w.heap.size w w0 := by subst hw0; exact (((RowKit.Below.refl _ _).alloc (Nat.le_refl _) _).alloc (by simp) _).alloc (by simp; omega) _
  have HC := hidI (rlkFits_any T p1 p2 c1 c2 G pg cg w0 (hin.below hB0) (hG.below hB0) hGl)
  have HFZ := hidI (@fit_zero T G)
  have HIN := hidI (hin.below hB0); have HG := hidI (hG.below hB0)
  have HX0 := hidI (@extA_fit T G); have HX1 := hidI (@extA_all T G); have HX2 := hidI (fun all => @extA_none T G all); have HX3 := hidI (fun all x => @extA_some T x G all)
  have a0 := b0.at 0 rfl; have a1 := b0.at 1 rfl; have a2 := b0.at 2 rfl; have a3 := b0.at 3 rfl
  have e0 := d0.at 0 rfl; have e1 := d0.at 1 rfl; have e2 := d0.at 2 rfl
  have HB0 := hidI hB0
  have HIN0 := hidI hin
  clear hin hG
  generalize extA T G = XA at *
  generalize fitA T G = k at *
  go_enter Tryz.func8, Tryz.ntmps8
  go_upto_region 1 with fail
  rw [← hw0]
  clear hw0
  go_wp2_with fail
  refine HC.out.mono ?_
  rintro e w1 ⟨rfl, hB1⟩
  have x1 := HB0.out.trans (hB1.mono HB0.out.size)
  have t1 := b0.below hB1 b0.lt
  have g1 := d0.below hB1 d0.lt
  have r1 := r0.below hB1 r0.lt
  have HIN1 := hidI (HIN.out.below hB1); have HG1 := hidI (HG.out.below hB1)
  clear a0 a1 a2 a3 e0 e1 e2 b0 d0 r0 hB1 HC hB0 HIN HG HB0
  by_cases hk : k = 0
  · obtain ⟨h1, h2, h3⟩ := HFZ.out hk
    have HF := hidI h1; have HV := hidI h2; have HGQ := hidI h3
    have hN := pre_all (fmd_split h1).1
    have hq1 : 2 ≤ T.q := hN.1
    have hq2 : T.q ≤ 16 := hN.2.1
    have hn1 : 1 ≤ T.n := hN.2.2.1
    have hn2 : T.n ≤ 8 := hN.2.2.2.1
    have hN16 : T.base.length ≤ 16 := hN.2.2.2.2.2.1
    have hS64 : T.swaps.length ≤ 64 := hN.2.2.2.2.2.2
    have HY1 := hidI (HX1.out hk); have HY2 := hidI (fun all => HX2.out all hk); have HY3 := hidI (fun all x => HX3.out all x hk)
    have HALL : Hid (∀ W : World, Calls Tryz.prog 32 #[.int .i64 T.q, .int .i64 (2 * T.n)] W (RetAll (allF T.q.toNat (2 * T.n.toNat)) W)) := fun W => by
      have e1 : ((T.q.toNat : Nat) : Int) = T.q := Int.toNat_of_nonneg (by omega)
      have e2 : ((2 * T.n.toNat : Nat) : Int) = 2 * T.n := by omega
      have h := rAll07_any T.q.toNat (2 * T.n.toNat) W (by omega) (by omega) (by omega)
      rw [e1, e2] at h; exact h
    have HOKA := hidI (fun l => allF_ok T.q.toNat (by omega) (2 * T.n.toNat) l)
    subst hk
    clear h1 h2 h3 hN HFZ HX0 HX1 HX2 HX3
    generalize allF T.q.toNat (2 * T.n.toNat) = AL at *
    have a0 := t1.at 0 rfl; have a1 := t1.at 1 rfl
    go_wp2_with fail
    refine (HALL.out w1).mono ?_
    cases AL with
    | none =>
      rintro e w2 ⟨hB2, rfl⟩
      have HR := hidI (HY1.out (by first | trivial | rfl))
      have x2 := x1.trans (hB2.mono x1.size)
      have r2 := r1.below hB2 r1.lt
      clear HALL HY1 HY2 HY3 a0 a1 t1 g1 r1 x1 hB2 HOKA
      have y0 := r2.at 0 rfl; have y1 := r2.at 1 rfl; have y2 := r2.at 2 rfl; have y3 := r2.at 3 rfl
      have f0 := r2.frozen 0; have f1 := r2.frozen 1; have f2 := r2.frozen 2; have f3 := r2.frozen 3
      have z2 := r2.lt
      go_wp2_with fail
      (have r6 := VRow.set (i := 3) (.slice none 0 0) (VRow.set (i := 2) (.slice none 0 0) (VRow.set (i := 1) (.int .i64 0) (VRow.set (i := 0) (.int .i64 0) r2))); have y0 := r6.at 0 rfl; have y1 := r6.at 1 rfl; have y2 := r6.at 2 rfl; have y3 := r6.at 3 rfl; exact bodyPost_ret (v := .tuple #[.agg #[.int .i64 0, .int .i64 0, .slice none 0 0, .slice none 0 0], .int .i64 4]) (by simp [results, Tryz.results8, go_sem, y0, y1, y2, y3]) rfl (RetExt.zero ⟨HR.out, set4 x2 (by omega)⟩))
    | some all =>
      rintro e w2 ⟨hB2, pa, ca, rfl, hAL⟩
      have x2 := x1.trans (hB2.mono x1.size)
      have r2 := r1.below hB2 r1.lt
      have t2 := t1.below hB2 t1.lt
      have g2 := g1.below hB2 g1.lt
      have HIN2 := hidI (HIN1.out.below hB2); have HG2 := hidI (HG1.out.below hB2)
      have HOK := hidI (HOKA.out all (by first | trivial | rfl))
      have HZ2 := hidI (HY2.out all (by first | trivial | rfl)); have HZ3 := hidI (fun x => HY3.out all x (by first | trivial | rfl))
      have HAL := hidI hAL
      clear HALL HY1 HY2 HY3 HOKA a0 a1 t1 g1 r1 x1 hB2 hAL HIN1 HG1
      have a0 := t2.at 0 rfl; have a1 := t2.at 1 rfl; have a2 := t2.at 2 rfl; have a3 := t2.at 3 rfl
      have e0 := g2.at 0 rfl; have e1 := g2.at 1 rfl; have e2 := g2.at 2 rfl
      obtain ⟨w3, hw3⟩ : ∃ w3, w3 = w2.alloc (.cells #[.int .i64 T.q, .int .i64 T.n, .slice p1 T.base.length c1, .slice p2 T.swaps.length c2] 25) := ⟨_, rfl⟩
      have hne0 : T.swaps = [] ∨ ∀ b, p2 = some b → b.block ≠ w2.heap.size ∧ b.block ≠ w.heap.size + 1 + 1 := by
        have hz := x2.size
        rcases HIN0.out.swaps with h | ⟨b, off, hp, hb, _⟩
        · exact .inl h
        · exact .inr (fun b' e => by rw [hp] at e; cases e; exact ⟨by show b ≠ _; omega, by show b ≠ _; omega⟩)
      have hal3 : RowKit.Below w2.heap.size w2 w3 := by subst hw3; exact (RowKit.Below.refl _ _).alloc (Nat.le_refl _) _
      have hO3 : OutR w2 w3 w2.heap.size (w.heap.size + 1 + 1) T p1 c1 T.swaps p2 c2 := ⟨by subst hw3; exact VRow.new w2 _ _, HIN2.out.swaps.below hal3, hne0, hal3⟩
      have HP3 := hidI (RxP.start (all := all) (T := T) (G := G) HF.out)
      go_upto_region 10 with fail
      rw [← hw3]
      clear hw3
      have HT := hidI t2; have HGR := hidI g2; have HRR := hidI r2
      have HBAD := hidI (fun (a b : Nat) (ha : a < T.base.length) (hb : b < T.base.length) (W : World) (h : RowKit.Below w2.heap.size w2 W) => rlkBad1_any T p1 p2 c1 c2 G pg cg a b W (HIN2.out.below h) (HG2.out.below h) HF.out HV.out HGQ.out ha hb)
      have HSWP := hidI (fun (a b : Nat) (W : World) (h : RowKit.Below w2.heap.size w2 W) => rlkSwap_any T a b p1 p2 c1 c2 W (HIN2.out.swaps.below h) HIN2.out.l2)
      have HSS := hidI (fun (i j : Int) (h : frW T i j = false) => swS_some HF.out h)
      have HSN := hidI (fun (i j : Int) (h : frW T i j = true) => swS_none h)
      have z1 := t2.lt; have z2 := g2.lt; have z3 := r2.lt
      clear a0 a1 a2 a3 e0 e1 e2 t2 g2 r2
      go_wp2_with fail
      go_loopw [10] (fun iv W => ∃ (i : Nat) (S : List Sw) (o2 : Option Addr) (d2 : Nat), i ≤ T.base.length ∧ iv = .int .i64 i ∧ Hid (RxP all T G i 0 ⟨T.q, T.n, T.base, S⟩) ∧ OutR w2 W w2.heap.size (w.heap.size + 1 + 1) T p1 c1 S o2 d2) (fun iv _ => T.base.length - (intOf iv).toNat)
      case atStart => exact ⟨0, T.swaps, p2, c2, by omega, rfl, HP3, hO3⟩
      case round =>
        clear HP3 hO3 hal3 hne0
        obtain ⟨i, S, o2, d2, hi, rfl, hP, hO⟩ := hrel
        have ti := HT.out.below hO.bel z1
        have f2 := ti.at 2 rfl
        by_cases hlt : i < T.base.length
        · have hltI : (i : Int) < (T.base.length : Int) := by omega
          obtain ⟨wI, hwI⟩ : ∃ wI : World, wI = wr := ⟨_, rfl⟩
          clear ti
          go_wp2_with fail
          clear f2
          go_loopw [11] (fun jv W => ∃ (j : Nat) (S : List Sw) (o2 : Option Addr) (d2 : Nat), j ≤ T.base.length ∧ jv = .int .i64 j ∧ Hid (RxP all T G i j ⟨T.q, T.n, T.base, S⟩) ∧ OutR w2 W w2.heap.size (w.heap.size + 1 + 1) T p1 c1 S o2 d2) (fun jv _ => T.base.length - (intOf jv).toNat)
          case atStart => exact ⟨0, S, o2, d2, by omega, rfl, hP, hO⟩
          case round =>
            clear hP hO hwI
            obtain ⟨j, S, o2, d2, hj, rfl, hP, hO⟩ := hrel
            have ti := HT.out.below hO.bel z1
            have tg := HGR.out.below hO.bel z2
            have a0 := ti.at 0 rfl; have a1 := ti.at 1 rfl; have a2 := ti.at 2 rfl; have a3 := ti.at 3 rfl
            have e0 := tg.at 0 rfl; have e1 := tg.at 1 rfl; have e2 := tg.at 2 rfl
            by_cases hltJ : j < T.base.length
            · have hltJI : (j : Int) < (T.base.length : Int) := by omega
              have HB1 := hidI (HBAD.out i j hlt hltJ wr hO.bel)
              have HS1 := hidI (fun W (h : RowKit.Below w2.heap.size w2 W) => HSWP.out i j W h)
              have HSK := hidI hP.out.skip
              have HST := hidI (@RxP.put all T G i j ⟨T.q, T.n, T.base, S⟩ hP.out)
              have HFL := hidI (@RxP.fail all T G i j ⟨T.q, T.n, T.base, S⟩ hP.out)
              have HFR := hidI (@RxP.free all T G i j ⟨T.q, T.n, T.base, S⟩ hP.out)
              obtain ⟨rb, hrb⟩ : ∃ rb, bdP T G i j = rb := ⟨_, rfl⟩
              have HB2 : Hid (Calls Tryz.prog 33 #[(.agg #[.int .i64 T.q, .int .i64 T.n, .slice p1 T.base.length c1, .slice p2 T.swaps.length c2]), (.agg #[.int .i64 G.q, .int .i64 G.n, .slice pg G.es.length cg]), .int .i64 i, .int .i64 j] wr fun e w' => e = .returned (.bool rb) ∧ RowKit.Below wr.heap.size wr w') := hidI (by rw [← hrb]; exact HB1.out)
              cases rb
              · have HX : Hid (RxP all T G i (j + 1) ⟨T.q, T.n, T.base, S⟩) := hidI (HSK.out (.inl hrb))
                clear HSK HST HFL HFR HS1 HB1 hrb ti tg
                go_wp2_with fail
                refine HB2.out.mono ?_
                rintro e w4 ⟨rfl, hB4⟩
                go_wp2_with fail
                go_roundw
                case rel => exact ⟨j + 1, S, o2, d2, by omega, by go_num, HX, hO.below hB4⟩
                case measure => simp [intOf]; omega
              · cases hfr : frW T (i : Int) (j : Int)
                · have hsn := ne_empty (HSS.out _ _ hfr)
                  have HX : Hid (RxP all T G i (j + 1) ⟨T.q, T.n, T.base, S⟩) := hidI (HSK.out (.inr (by have := frW_isSw T i j; rw [hfr] at this; simpa using this.symm)))
                  generalize swS T.swaps i j = sw at *
                  clear HSK HB1 hrb ti tg
                  go_wp2_with fail
                  refine HB2.out.mono ?_
                  rintro e w4 ⟨rfl, hB4⟩
                  have hO4 := hO.below hB4
                  have HS2 := hidI (HS1.out w4 hO4.bel)
                  have ti := HT.out.below hO4.bel z1
                  clear a0 a1 a2 a3 e0 e1 e2 HS1 HB2 hO hB4
                  have a0 := ti.at 0 rfl; have a1 := ti.at 1 rfl; have a2 := ti.at 2 rfl; have a3 := ti.at 3 rfl
                  clear ti
                  go_wp2_with fail
                  refine HS2.out.mono ?_
                  rintro e w5 ⟨rfl, hB5⟩
                  have hO5 := hO4.below hB5
                  clear hO4 hB5 HS2 a0 a1 a2 a3
                  go_wp2_with fail
                  go_roundw
                  case rel => exact ⟨j + 1, S, o2, d2, by omega, by go_num, HX, hO5⟩
                  case measure => simp [intOf]; omega
                · have hsn := HSN.out _ _ hfr
                  have hsi : isSw T.swaps i j = false := by have := frW_isSw T i j; rw [hfr] at this; simpa using this.symm
                  have HPT := hidI (fun k hk hn hp => HST.out hrb hsi (k := k) hk hn hp)
                  have HFT := hidI (fun hn => HFL.out hrb hsi hn hlt hltJ)
                  have HFE := hidI (HFR.out hsi)
                  rw [hsn] at HS1
                  clear hsn hfr hsi HST HFL HFR
                  clear HSK HB1 hrb ti tg
                  go_wp2_with fail
                  refine HB2.out.mono ?_
                  rintro e w4 ⟨rfl, hB4⟩
                  have hO4 := hO.below hB4
                  have HS2 := hidI (HS1.out w4 hO4.bel)
                  have ti := HT.out.below hO4.bel z1
                  clear a0 a1 a2 a3 e0 e1 e2 HS1 HB2 hO hB4
                  have a0 := ti.at 0 rfl; have a1 := ti.at 1 rfl; have a2 := ti.at 2 rfl; have a3 := ti.at 3 rfl
                  clear ti
                  go_wp2_with fail
                  refine HS2.out.mono ?_
                  rintro e w5 ⟨rfl, hB5⟩
                  have hO5 := hO4.below hB5
                  clear hO4 hB5 HS2 a0 a1 a2 a3
                  have HK0 : Hid (KxP all T G S i j 0 false S) := hidI (.inl ⟨rfl, rfl, fun m _ hm => absurd hm (Nat.not_lt_zero _)⟩)
                  go_wp2_with fail
                  go_loopw [12, 13] (fun v12 kv W => ∃ (k : Nat) (b : Bool) (S' : List Sw) (o3 : Option Addr) (d3 : Nat), k ≤ all.length ∧ kv = .int .i64 k ∧ v12 = .bool b ∧ Hid (KxP all T G S i j k b S') ∧ OutR w2 W w2.heap.size (w.heap.size + 1 + 1) T p1 c1 S' o3 d3) (fun _ kv _ => all.length - (intOf kv).toNat)
                  case atStart => exact ⟨0, false, S, o2, d2, by omega, rfl, rfl, HK0, hO5⟩
                  case round =>
                    clear HK0 hO5
                    obtain ⟨k, b, S', o3, d3, hk, rfl, rfl, hK, hO⟩ := hrel
                    cases b with
                    | true =>
                      have HX : Hid (RxP all T G i (j + 1) ⟨T.q, T.n, T.base, S'⟩) := by
                        rcases hK.out with ⟨h, _⟩ | ⟨_, h⟩
                        · cases h
                        · exact h
                      clear hK HPT HFT HFE
                      by_cases hltK : k < all.length
                      · have hltKI : (k : Int) < (all.length : Int) := by omega
                        go_wp2_with fail
                        go_roundw
                        case rel => exact ⟨j + 1, S', o3, d3, by omega, by go_num, HX, hO⟩
                        case measure => simp [intOf]; omega
                      · have hltKI : ¬ (k : Int) < (all.length : Int) := by omega
                        go_wp2_with fail
                        go_roundw
                        case rel => exact ⟨j + 1, S', o3, d3, by omega, by go_num, HX, hO⟩
                        case measure => simp [intOf]; omega
                    | false =>
                      have HKK : Hid (S' = S ∧ ∀ m (hm : m < all.length), m < k → okE T G S ⟨T.q, T.n, T.base, S⟩ i j all[m] = false) := by
                        rcases hK.out with ⟨_, h⟩ | ⟨h, _⟩
                        · exact h
                        · cases h
                      clear hK
                      obtain rfl := HKK.out.1
                      by_cases hltK : k < all.length
                      · have hltKI : (k : Int) < (all.length : Int) := by omega
                        have hal46 : all.length ≤ 4096 := HOK.out.1
                        obtain ⟨v, hv⟩ : ∃ v, v = all[k] := ⟨_, rfl⟩
                        obtain ⟨ba, oa, rfl, hba, hca⟩ := HAL.out.get k hltK
                        have hea := hca k hltK
                        rw [← hv] at hea
                        obtain ⟨hvs, hvo⟩ := HOK.out.2 v (by rw [hv]; exact List.getElem_mem hltK)
                        have hvs16 : v.size ≤ 16 := by omega
                        have HVO : Hid (Chg.okw T.q v.data.toList = true) := hidI (by rw [show ((T.q.toNat : Nat) : Int) = T.q from Int.toNat_of_nonneg (by omega)] at hvo; exact hvo)
                        have hS64 : S'.length ≤ 64 := (pre_all (fmd_split hP.out.fm).1).2.2.2.2.2.2
                        have HSZ := hidI (fun j (h : j < S'.length) => show S'[j].wd.size ≤ maxLen by have := swap_size hP.out.fm j h; unfold maxLen; simp only at this; omega)
                        have HW : Hid (∀ W, RowKit.Below wr.heap.size wr W → Calls Tryz.prog 35 #[(.agg #[.int .i64 T.q, .int .i64 T.n, .slice p1 T.base.length c1, .slice o3 S'.length d3]), .agg #[.int .i64 i, .int .i64 j, .string v]] W (fun e w' => ∃ pn cn, e = .returned (.agg #[.int .i64 T.q, .int .i64 T.n, .slice p1 T.base.length c1, .slice pn (insW S' ⟨i, j, v⟩).length cn]) ∧ w'.ownsRow W.heap.size 53 3 (.slice pn (insW S' ⟨i, j, v⟩).length cn) (insW S' ⟨i, j, v⟩).length (catS (insW S' ⟨i, j, v⟩)) ∧ RowKit.Below W.heap.size W w')) := hidI (fun W hW => by
                          have h := rlkWith_any ⟨T.q, T.n, T.base, S'⟩ ⟨i, j, v⟩ p1 o3 c1 d3 W (hO.sw.below hW) (by show S'.length ≤ 1000; omega)
                          have e1 := HFE.out v
                          have e2 := insW_len S' ⟨i, j, v⟩
                          refine h.mono ?_
                          rintro e w' ⟨pn, cn, rfl, ho, hb⟩
                          simp only at e1 ho
                          rw [e1] at ho
                          exact ⟨pn, cn, by rw [e2], by rw [e2]; exact ho, hb⟩)
                        have HPT2 : Hid (okE T G S' ⟨T.q, T.n, T.base, S'⟩ i j v = true → RxP all T G i (j + 1) ⟨T.q, T.n, T.base, insW S' ⟨i, j, v⟩⟩) := hidI (fun h => by
                          subst hv
                          exact HPT.out k hltK (fun m hm hmk => HKK.out.2 m hm hmk) h)
                        have HNO : Hid (okE T G S' ⟨T.q, T.n, T.base, S'⟩ i j v = false → KxP all T G S' i j (k + 1) false S') := hidI (fun h => .inl ⟨rfl, rfl, fun m hm hmk => by
                          by_cases e : m = k
                          · subst e; rw [← hv]; exact h
                          · exact HKK.out.2 m hm (by omega)⟩)
                        have HOE : Hid (okE T G S' ⟨T.q, T.n, T.base, S'⟩ i j v = ((fmd ⟨T.q, T.n, T.base, insW S' ⟨i, j, v⟩⟩ && rdbl ⟨T.q, T.n, T.base, insW S' ⟨i, j, v⟩⟩) && (List.range T.base.length).all (okB ⟨T.q, T.n, T.base, S'⟩ G S' i v))) := hidI (okE_split (out := ⟨T.q, T.n, T.base, S'⟩) rfl)
                        have HZW := hidI (insW_wd (s := ⟨i, j, v⟩) HSZ.out (by show v.size ≤ maxLen; unfold maxLen; omega))
                        have HFM0 := hP.out.fm
                        have HSTA := hidI (fun W (h : RowKit.Below w2.heap.size w2 W) (hsw : Sg 3 W swE o3 S') => rlkStands_any ⟨T.q, T.n, T.base, S'⟩ p1 o3 c1 d3 G pg cg i v W ⟨(HIN2.out.below h).base, hsw, (HIN2.out.below h).cap1, (HIN2.out.below h).l1, by show S'.length ≤ _; omega, (HIN2.out.below h).z1, HSZ.out⟩ (HG2.out.below h) HFM0 HV.out HGQ.out hlt hvs16 HVO.out)
                        have HL2 := hidI (show (insW S' ⟨i, j, v⟩).length ≤ 65 by rw [insW_len]; omega)
                        clear HPT HKK HFE hv hca HFT hvs hvo HFM0
                        generalize okE T G S' ⟨T.q, T.n, T.base, S'⟩ i j v = oe at *
                        generalize insW S' ⟨i, j, v⟩ = S2 at *
                        have hbel := hO.bel
                        have zb := hO.row.lt
                        have za : ba < wr.heap.size := Nat.lt_of_lt_of_le (Nat.lt_of_lt_of_le hba (Nat.le_refl _)) hbel.size
                        have hea2 := (hbel.cell (p := ⟨ba, oa + k, none⟩) hba).trans hea
                        have b0 := hO.row.at 0 rfl; have b1 := hO.row.at 1 rfl; have b2 := hO.row.at 2 rfl; have b3 := hO.row.at 3 rfl
                        have KS := hidI (fun (W : World) (hW : RowKit.Below wr.heap.size wr W) => show W.cell? ⟨w2.heap.size, 0, none⟩ = some (.int .i64 T.q) ∧ W.cell? ⟨w2.heap.size, 1, none⟩ = some (.int .i64 T.n) ∧ W.cell? ⟨w2.heap.size, 2, none⟩ = some (.slice p1 T.base.length c1) ∧ W.cell? ⟨w2.heap.size, 3, none⟩ = some (.slice o3 S'.length d3) ∧ W.cell? ⟨ba, oa + k, none⟩ = some (.string v) ∧ RowKit.Below wr.heap.size wr W from
                          ⟨(hW.cell (p := ⟨w2.heap.size, 0, none⟩) zb).trans b0, (hW.cell (p := ⟨w2.heap.size, 1, none⟩) zb).trans b1, (hW.cell (p := ⟨w2.heap.size, 2, none⟩) zb).trans b2, (hW.cell (p := ⟨w2.heap.size, 3, none⟩) zb).trans b3, (hW.cell (p := ⟨ba, oa + k, none⟩) za).trans hea2, hW⟩)
                        go_upto_region 19 with fail
                        (go_region_held3 (fun W => W.cell? ⟨w2.heap.size, 0, none⟩ = some (.int .i64 T.q) ∧ W.cell? ⟨w2.heap.size, 1, none⟩ = some (.int .i64 T.n) ∧ W.cell? ⟨w2.heap.size, 2, none⟩ = some (.slice p1 T.base.length c1) ∧ W.cell? ⟨w2.heap.size, 3, none⟩ = some (.slice o3 S'.length d3) ∧ W.cell? ⟨ba, oa + k, none⟩ = some (.string v) ∧ RowKit.Below wr.heap.size wr W)
                          (first | (go_split_ands; exact KS.out _ (by first | assumption | exact below_dN (RowKit.Below.refl _ _) 1 | exact RowKit.Below.trans (by assumption) (hBa.mono (RowKit.Below.size (by assumption))) | exact RowKit.Below.alloc (by assumption) (RowKit.Below.size (by assumption)) _ | exact hBx.out.alloc hBx.out.size _ | exact (((hBx.out.setCell (Nat.le_refl _) _).setCell (Nat.le_refl _) _).setCell (Nat.le_refl _) _).setCell (Nat.le_refl _) _)) | fail)
                          (first | (go_at_call 35; go_split_ands; (with_reducible refine (HW.out _ (by assumption)).mono ?_); rintro e wa ⟨pn, cn, rfl, hSn, hBa⟩; have hBx : Hid (RowKit.Below wr.heap.size wr wa) := RowKit.Below.trans (by assumption) (hBa.mono (RowKit.Below.size (by assumption))); have hnb : Hid (∀ b, pn = some b → wr.heap.size ≤ b.block) := hidI (fun b e => Nat.le_trans (RowKit.Below.size (by assumption)) (own_blk hSn b e)); (try (have nb : VRow wa wr.heap.size 25 [.int .i64 0, .int .i64 0, .slice none 0 0, .slice none 0 0] := (VRow.new wr.drew _ _).below hBa (by simp); have nb0 := nb.at 0 rfl; have nb1 := nb.at 1 rfl; have nb2 := nb.at 2 rfl; have nb3 := nb.at 3 rfl; have nf0 := nb.frozen 0; have nf1 := nb.frozen 1; have nf2 := nb.frozen 2; have nf3 := nb.frozen 3))) | fail))
                        · obtain ⟨WF, hWFe⟩ : ∃ WF, WF = wa.alloc (.cells #[.int .i64 T.q, .int .i64 T.n, .slice p1 T.base.length c1, .slice pn S2.length cn] 25) := ⟨_, rfl⟩
                          obtain ⟨nk, hnk⟩ : ∃ nk, nk = wa.heap.size := ⟨_, rfl⟩
                          have hal : RowKit.Below wa.heap.size wa WF := by subst hWFe; exact (RowKit.Below.refl wa.heap.size wa).alloc (Nat.le_refl _) _
                          have hSgF := (RetWith.sg hSn).below hal
                          have rowF : VRow WF nk 25 [.int .i64 T.q, .int .i64 T.n, .slice p1 T.base.length c1, .slice pn S2.length cn] := by subst hWFe hnk; exact VRow.new wa _ _
                          have hWF : RowKit.Below wr.heap.size wr WF := hBx.out.trans (hal.mono hBx.out.size)
                          rw [← hWFe, ← hnk]
                          clear hWFe hnk hSn hBa hBx hal
                          have hb2 := hbel.trans (hWF.mono hbel.size)
                          have HTF := hidI (show TbIn WF ⟨T.q, T.n, T.base, S2⟩ p1 pn c1 cn from ⟨(HIN2.out.below hb2).base, hSgF, (HIN2.out.below hb2).cap1, (HIN2.out.below hb2).l1, by show S2.length ≤ _; have := HL2.out; omega, (HIN2.out.below hb2).z1, HZW.out⟩)
                          obtain ⟨rf, hrf⟩ : ∃ rf, fmd ⟨T.q, T.n, T.base, S2⟩ = rf := ⟨_, rfl⟩
                          obtain ⟨rr, hrr⟩ : ∃ rr, rdbl ⟨T.q, T.n, T.base, S2⟩ = rr := ⟨_, rfl⟩
                          obtain ⟨rs, hrs⟩ : ∃ rs, (List.range T.base.length).all (okB ⟨T.q, T.n, T.base, S'⟩ G S' i v) = rs := ⟨_, rfl⟩
                          have HC1 : Hid (∀ W, RowKit.Below WF.heap.size WF W → Calls Tryz.prog 36 #[(.agg #[.int .i64 T.q, .int .i64 T.n, .slice p1 T.base.length c1, .slice pn S2.length cn])] W fun e w' => e = .returned (.bool rf) ∧ RowKit.Below W.heap.size W w') := hidI (fun W h => by rw [← hrf]; exact rlkFormed_any ⟨T.q, T.n, T.base, S2⟩ p1 pn c1 cn W (HTF.out.below h))
                          have HC2' : Hid (rf = true → ∀ W, RowKit.Below WF.heap.size WF W → Calls Tryz.prog 37 #[(.agg #[.int .i64 T.q, .int .i64 T.n, .slice p1 T.base.length c1, .slice pn S2.length cn])] W fun e w' => e = .returned (.bool rr) ∧ RowKit.Below W.heap.size W w') := hidI (fun hf W h => by rw [← hrr]; exact rlkReadable_any ⟨T.q, T.n, T.base, S2⟩ p1 pn c1 cn W (HTF.out.below h) (by rw [hrf]; exact hf))
                          have HC3 : Hid (∀ W, RowKit.Below WF.heap.size WF W → Calls Tryz.prog 38 #[(.agg #[.int .i64 T.q, .int .i64 T.n, .slice p1 T.base.length c1, .slice o3 S'.length d3]), (.agg #[.int .i64 G.q, .int .i64 G.n, .slice pg G.es.length cg]), .int .i64 i, .string v] W fun e w' => e = .returned (.bool rs) ∧ RowKit.Below W.heap.size W w') := hidI (fun W h => by rw [← hrs]; exact HSTA.out W (hb2.trans (h.mono hb2.size)) ((hO.sw.below hWF).below h))
                          rw [hrf, hrr, hrs] at HOE
                          have tg := HGR.out.below hb2 z2
                          have zn := rowF.lt
                          have KS2 := hidI (fun (W : World) (hW : RowKit.Below WF.heap.size WF W) => show W.cell? ⟨nk, 0, none⟩ = some (.int .i64 T.q) ∧ W.cell? ⟨nk, 1, none⟩ = some (.int .i64 T.n) ∧ W.cell? ⟨nk, 2, none⟩ = some (.slice p1 T.base.length c1) ∧ W.cell? ⟨nk, 3, none⟩ = some (.slice pn S2.length cn) ∧ W.cell? ⟨w2.heap.size, 0, none⟩ = some (.int .i64 T.q) ∧ W.cell? ⟨w2.heap.size, 1, none⟩ = some (.int .i64 T.n) ∧ W.cell? ⟨w2.heap.size, 2, none⟩ = some (.slice p1 T.base.length c1) ∧ W.cell? ⟨w2.heap.size, 3, none⟩ = some (.slice o3 S'.length d3) ∧ W.cell? ⟨w.heap.size + 1, 0, none⟩ = some (.int .i64 G.q) ∧ W.cell? ⟨w.heap.size + 1, 1, none⟩ = some (.int .i64 G.n) ∧ W.cell? ⟨w.heap.size + 1, 2, none⟩ = some (.slice pg G.es.length cg) ∧ W.cell? ⟨ba, oa + k, none⟩ = some (.string v) from by
                            have hWr := hWF.trans (hW.mono hWF.size)
                            obtain ⟨x0, x1, x2, x3, x4, _⟩ := KS.out W hWr
                            have rn := rowF.below hW zn
                            have tgw := tg.below hW tg.lt
                            exact ⟨rn.at 0 rfl, rn.at 1 rfl, rn.at 2 rfl, rn.at 3 rfl, x0, x1, x2, x3, tgw.at 0 rfl, tgw.at 1 rfl, tgw.at 2 rfl, x4⟩)
                          clear hrf hrr hrs HSTA KS HW HTF b0 b1 b2 b3 hea hea2 tg HZW HL2
                          cases rf
                          · clear HC2'
                            have HC2 := HC1
                            have HX := hidI (HNO.out HOE.out)
                            clear HNO HOE HPT2
                            go_upto_region 20 with fail
                            (refine region_detL (by kernel_rfl) [(81, (.agg #[.int .i64 T.q, .int .i64 T.n, .slice p1 T.base.length c1, .slice pn S2.length cn])), (82, .bool false), (83, .bool false), (84, undef), (85, undef), (86, .bool false), (87, .bool false), (88, undef), (89, undef), (90, undef), (91, undef), (92, undef), (93, undef), (94, undef), (95, undef), (96, .bool false)] (fun W => RowKit.Below WF.heap.size WF W) (by kernel_rfl) (by kernel_rfl) (by kernel_rfl) (by kernel_rfl) (below_dN (RowKit.Below.refl _ _) 1) ?_ ?_; focus (intro i0 o ho a W hS hdep hout K hK; obtain ⟨hc0, hc1, hc2, hc3, hc4, hc5, hc6, hc7, hc8, hc9, hc10, hc11⟩ := KS2.out W hS; have hil : i0 < 16 := (Array.getElem?_eq_some_iff.1 ho).1; have hcases : i0 = 0 ∨ i0 = 1 ∨ i0 = 2 ∨ i0 = 3 ∨ i0 = 4 ∨ i0 = 5 ∨ i0 = 6 ∨ i0 = 7 ∨ i0 = 8 ∨ i0 = 9 ∨ i0 = 10 ∨ i0 = 11 ∨ i0 = 12 ∨ i0 = 13 ∨ i0 = 14 ∨ i0 = 15 := (by omega); clear hil; have u3 := hout 3 (by kernel_rfl); have u7 := hout 7 (by kernel_rfl); have u9 := hout 9 (by kernel_rfl); have u10 := hout 10 (by kernel_rfl); have u13 := hout 13 (by kernel_rfl); have u14 := hout 14 (by kernel_rfl); simp at u3 u7 u9 u10 u13 u14; clear hout; rcases hcases with rfl | rfl | rfl | rfl | rfl | rfl | rfl | rfl | rfl | rfl | rfl | rfl | rfl | rfl | rfl | rfl; all_goals (simp only [List.getElem?_toArray, List.getElem?_cons_succ, List.getElem?_cons_zero, Option.some.injEq] at ho; subst ho; simp [Region.binds] at hdep; (try go_split_ands)); all_goals go_simp; all_goals first | exact hK _ hS | ((with_reducible refine (HC1.out W hS).mono ?_); rintro e wa ⟨rfl, hBa⟩; exact hK _ (hS.trans (hBa.mono hS.size))) | ((with_reducible refine (HC2.out W hS).mono ?_); rintro e wa ⟨rfl, hBa⟩; exact hK _ (hS.trans (hBa.mono hS.size))) | ((with_reducible refine (HC3.out W hS).mono ?_); rintro e wa ⟨rfl, hBa⟩; exact hK _ (hS.trans (hBa.mono hS.size)))))
                            (intro W hB9; simp only [putsD, List.foldl_cons, List.foldl_nil, Act.put, List.setIfInBounds_toArray, List.set_cons_zero, List.set_cons_succ])
                            have hWB := hWF.trans (hB9.mono hWF.size)
                            go_wp2_with fail
                            go_roundw
                            case rel => exact ⟨k + 1, false, S', o3, d3, by omega, by go_num, rfl, HX, hO.below hWB⟩
                            case measure => simp [intOf]; omega
                          · have HC2 := hidI (HC2'.out rfl)
                            clear HC2'
                            cases rr
                            · have HX := hidI (HNO.out HOE.out)
                              clear HNO HOE HPT2
                              go_upto_region 20 with fail
                              (refine region_detL (by kernel_rfl) [(81, (.agg #[.int .i64 T.q, .int .i64 T.n, .slice p1 T.base.length c1, .slice pn S2.length cn])), (82, .bool true), (83, .bool true), (84, (.agg #[.int .i64 T.q, .int .i64 T.n, .slice p1 T.base.length c1, .slice pn S2.length cn])), (85, .bool false), (86, .bool false), (87, .bool false), (88, undef), (89, undef), (90, undef), (91, undef), (92, undef), (93, undef), (94, undef), (95, undef), (96, .bool false)] (fun W => RowKit.Below WF.heap.size WF W) (by kernel_rfl) (by kernel_rfl) (by kernel_rfl) (by kernel_rfl) (below_dN (RowKit.Below.refl _ _) 1) ?_ ?_; focus (intro i0 o ho a W hS hdep hout K hK; obtain ⟨hc0, hc1, hc2, hc3, hc4, hc5, hc6, hc7, hc8, hc9, hc10, hc11⟩ := KS2.out W hS; have hil : i0 < 16 := (Array.getElem?_eq_some_iff.1 ho).1; have hcases : i0 = 0 ∨ i0 = 1 ∨ i0 = 2 ∨ i0 = 3 ∨ i0 = 4 ∨ i0 = 5 ∨ i0 = 6 ∨ i0 = 7 ∨ i0 = 8 ∨ i0 = 9 ∨ i0 = 10 ∨ i0 = 11 ∨ i0 = 12 ∨ i0 = 13 ∨ i0 = 14 ∨ i0 = 15 := (by omega); clear hil; have u3 := hout 3 (by kernel_rfl); have u7 := hout 7 (by kernel_rfl); have u9 := hout 9 (by kernel_rfl); have u10 := hout 10 (by kernel_rfl); have u13 := hout 13 (by kernel_rfl); have u14 := hout 14 (by kernel_rfl); simp at u3 u7 u9 u10 u13 u14; clear hout; rcases hcases with rfl | rfl | rfl | rfl | rfl | rfl | rfl | rfl | rfl | rfl | rfl | rfl | rfl | rfl | rfl | rfl; all_goals (simp only [List.getElem?_toArray, List.getElem?_cons_succ, List.getElem?_cons_zero, Option.some.injEq] at ho; subst ho; simp [Region.binds] at hdep; (try go_split_ands)); all_goals go_simp; all_goals first | exact hK _ hS | ((with_reducible refine (HC1.out W hS).mono ?_); rintro e wa ⟨rfl, hBa⟩; exact hK _ (hS.trans (hBa.mono hS.size))) | ((with_reducible refine (HC2.out W hS).mono ?_); rintro e wa ⟨rfl, hBa⟩; exact hK _ (hS.trans (hBa.mono hS.size))) | ((with_reducible refine (HC3.out W hS).mono ?_); rintro e wa ⟨rfl, hBa⟩; exact hK _ (hS.trans (hBa.mono hS.size)))))
                              (intro W hB9; simp only [putsD, List.foldl_cons, List.foldl_nil, Act.put, List.setIfInBounds_toArray, List.set_cons_zero, List.set_cons_succ])
                              have hWB := hWF.trans (hB9.mono hWF.size)
                              go_wp2_with fail
                              go_roundw
                              case rel => exact ⟨k + 1, false, S', o3, d3, by omega, by go_num, rfl, HX, hO.below hWB⟩
                              case measure => simp [intOf]; omega
                            · cases rs
                              · have HX := hidI (HNO.out HOE.out)
                                clear HNO HOE HPT2
                                go_upto_region 20 with fail
                                (refine region_detL (by kernel_rfl) [(81, (.agg #[.int .i64 T.q, .int .i64 T.n, .slice p1 T.base.length c1, .slice pn S2.length cn])), (82, .bool true), (83, .bool true), (84, (.agg #[.int .i64 T.q, .int .i64 T.n, .slice p1 T.base.length c1, .slice pn S2.length cn])), (85, .bool true), (86, .bool true), (87, .bool true), (88, (.agg #[.int .i64 T.q, .int .i64 T.n, .slice p1 T.base.length c1, .slice o3 S'.length d3])), (89, (.agg #[.int .i64 G.q, .int .i64 G.n, .slice pg G.es.length cg])), (90, .int .i64 i), (91, .slice (some ⟨ba, oa, none⟩) all.length ca), (92, .int .i64 k), (93, .pointer (some ⟨ba, oa + k, none⟩)), (94, .string v), (95, .bool false), (96, .bool false)] (fun W => RowKit.Below WF.heap.size WF W) (by kernel_rfl) (by kernel_rfl) (by kernel_rfl) (by kernel_rfl) (below_dN (RowKit.Below.refl _ _) 1) ?_ ?_; focus (intro i0 o ho a W hS hdep hout K hK; obtain ⟨hc0, hc1, hc2, hc3, hc4, hc5, hc6, hc7, hc8, hc9, hc10, hc11⟩ := KS2.out W hS; have hil : i0 < 16 := (Array.getElem?_eq_some_iff.1 ho).1; have hcases : i0 = 0 ∨ i0 = 1 ∨ i0 = 2 ∨ i0 = 3 ∨ i0 = 4 ∨ i0 = 5 ∨ i0 = 6 ∨ i0 = 7 ∨ i0 = 8 ∨ i0 = 9 ∨ i0 = 10 ∨ i0 = 11 ∨ i0 = 12 ∨ i0 = 13 ∨ i0 = 14 ∨ i0 = 15 := (by omega); clear hil; have u3 := hout 3 (by kernel_rfl); have u7 := hout 7 (by kernel_rfl); have u9 := hout 9 (by kernel_rfl); have u10 := hout 10 (by kernel_rfl); have u13 := hout 13 (by kernel_rfl); have u14 := hout 14 (by kernel_rfl); simp at u3 u7 u9 u10 u13 u14; clear hout; rcases hcases with rfl | rfl | rfl | rfl | rfl | rfl | rfl | rfl | rfl | rfl | rfl | rfl | rfl | rfl | rfl | rfl; all_goals (simp only [List.getElem?_toArray, List.getElem?_cons_succ, List.getElem?_cons_zero, Option.some.injEq] at ho; subst ho; simp [Region.binds] at hdep; (try go_split_ands)); all_goals go_simp; all_goals first | exact hK _ hS | ((with_reducible refine (HC1.out W hS).mono ?_); rintro e wa ⟨rfl, hBa⟩; exact hK _ (hS.trans (hBa.mono hS.size))) | ((with_reducible refine (HC2.out W hS).mono ?_); rintro e wa ⟨rfl, hBa⟩; exact hK _ (hS.trans (hBa.mono hS.size))) | ((with_reducible refine (HC3.out W hS).mono ?_); rintro e wa ⟨rfl, hBa⟩; exact hK _ (hS.trans (hBa.mono hS.size)))))
                                (intro W hB9; simp only [putsD, List.foldl_cons, List.foldl_nil, Act.put, List.setIfInBounds_toArray, List.set_cons_zero, List.set_cons_succ])
                                have hWB := hWF.trans (hB9.mono hWF.size)
                                go_wp2_with fail
                                go_roundw
                                case rel => exact ⟨k + 1, false, S', o3, d3, by omega, by go_num, rfl, HX, hO.below hWB⟩
                                case measure => simp [intOf]; omega
                              · have HX : Hid (KxP all T G S' i j (k + 1) true S2) := hidI (.inr ⟨rfl, HPT2.out HOE.out⟩)
                                clear HNO HOE HPT2
                                go_upto_region 20 with fail
                                (refine region_detL (by kernel_rfl) [(81, (.agg #[.int .i64 T.q, .int .i64 T.n, .slice p1 T.base.length c1, .slice pn S2.length cn])), (82, .bool true), (83, .bool true), (84, (.agg #[.int .i64 T.q, .int .i64 T.n, .slice p1 T.base.length c1, .slice pn S2.length cn])), (85, .bool true), (86, .bool true), (87, .bool true), (88, (.agg #[.int .i64 T.q, .int .i64 T.n, .slice p1 T.base.length c1, .slice o3 S'.length d3])), (89, (.agg #[.int .i64 G.q, .int .i64 G.n, .slice pg G.es.length cg])), (90, .int .i64 i), (91, .slice (some ⟨ba, oa, none⟩) all.length ca), (92, .int .i64 k), (93, .pointer (some ⟨ba, oa + k, none⟩)), (94, .string v), (95, .bool true), (96, .bool true)] (fun W => RowKit.Below WF.heap.size WF W) (by kernel_rfl) (by kernel_rfl) (by kernel_rfl) (by kernel_rfl) (below_dN (RowKit.Below.refl _ _) 1) ?_ ?_; focus (intro i0 o ho a W hS hdep hout K hK; obtain ⟨hc0, hc1, hc2, hc3, hc4, hc5, hc6, hc7, hc8, hc9, hc10, hc11⟩ := KS2.out W hS; have hil : i0 < 16 := (Array.getElem?_eq_some_iff.1 ho).1; have hcases : i0 = 0 ∨ i0 = 1 ∨ i0 = 2 ∨ i0 = 3 ∨ i0 = 4 ∨ i0 = 5 ∨ i0 = 6 ∨ i0 = 7 ∨ i0 = 8 ∨ i0 = 9 ∨ i0 = 10 ∨ i0 = 11 ∨ i0 = 12 ∨ i0 = 13 ∨ i0 = 14 ∨ i0 = 15 := (by omega); clear hil; have u3 := hout 3 (by kernel_rfl); have u7 := hout 7 (by kernel_rfl); have u9 := hout 9 (by kernel_rfl); have u10 := hout 10 (by kernel_rfl); have u13 := hout 13 (by kernel_rfl); have u14 := hout 14 (by kernel_rfl); simp at u3 u7 u9 u10 u13 u14; clear hout; rcases hcases with rfl | rfl | rfl | rfl | rfl | rfl | rfl | rfl | rfl | rfl | rfl | rfl | rfl | rfl | rfl | rfl; all_goals (simp only [List.getElem?_toArray, List.getElem?_cons_succ, List.getElem?_cons_zero, Option.some.injEq] at ho; subst ho; simp [Region.binds] at hdep; (try go_split_ands)); all_goals go_simp; all_goals first | exact hK _ hS | ((with_reducible refine (HC1.out W hS).mono ?_); rintro e wa ⟨rfl, hBa⟩; exact hK _ (hS.trans (hBa.mono hS.size))) | ((with_reducible refine (HC2.out W hS).mono ?_); rintro e wa ⟨rfl, hBa⟩; exact hK _ (hS.trans (hBa.mono hS.size))) | ((with_reducible refine (HC3.out W hS).mono ?_); rintro e wa ⟨rfl, hBa⟩; exact hK _ (hS.trans (hBa.mono hS.size)))))
                                (intro W hB9; simp only [putsD, List.foldl_cons, List.foldl_nil, Act.put, List.setIfInBounds_toArray, List.set_cons_zero, List.set_cons_succ])
                                have hWB := hWF.trans (hB9.mono hWF.size)
                                obtain ⟨hc0, hc1, hc2, hc3, _, _, _, _, _, _, _, _⟩ := KS2.out W hB9
                                have rb := hO.row.below hWB zb
                                have fz0 := rb.frozen 0; have fz1 := rb.frozen 1; have fz2 := rb.frozen 2; have fz3 := rb.frozen 3
                                have rb0 := rb.at 0 rfl; have rb1 := rb.at 1 rfl; have rb2 := rb.at 2 rfl; have rb3 := rb.at 3 rfl
                                go_wp2_with fail
                                have hne : S2 = [] ∨ ∀ b, pn = some b → b.block ≠ w2.heap.size := .inr (fun b e => by have := hnb.out b e; omega)
                                have hsw := ((((hSgF.below hB9).far (a := ⟨w2.heap.size, 0, none⟩) (.int .i64 T.q) hne).far (a := ⟨w2.heap.size, 1, none⟩) (.int .i64 T.n) hne).far (a := ⟨w2.heap.size, 2, none⟩) (.slice p1 T.base.length c1) hne).far (a := ⟨w2.heap.size, 3, none⟩) (.slice pn S2.length cn) hne
                                have hne2 : S2 = [] ∨ ∀ b, pn = some b → b.block ≠ w2.heap.size ∧ b.block ≠ w.heap.size + 1 + 1 := .inr (fun b e => by have := hnb.out b e; exact ⟨by omega, by omega⟩)
                                have r6 := VRow.set (i := 3) (.slice pn S2.length cn) (VRow.set (i := 2) (.slice p1 T.base.length c1) (VRow.set (i := 1) (.int .i64 T.n) (VRow.set (i := 0) (.int .i64 T.q) rb)))
                                have hx6 := set4 (v0 := .int .i64 T.q) (v1 := .int .i64 T.n) (v2 := .slice p1 T.base.length c1) (v3 := .slice pn S2.length cn) (hbel.trans (hWB.mono hbel.size)) (Nat.le_refl _)
                                go_roundw
                                case rel => exact ⟨k + 1, true, S2, pn, cn, by omega, by go_num, rfl, HX, ⟨r6, hsw, hne2, hx6⟩⟩
                                case measure => simp [intOf]; omega
                        · have hSn2 := ownsRow_setCell_below (a := ⟨wr.heap.size, 3, none⟩) (ownsRow_setCell_below (a := ⟨wr.heap.size, 2, none⟩) (ownsRow_setCell_below (a := ⟨wr.heap.size, 1, none⟩) (ownsRow_setCell_below (a := ⟨wr.heap.size, 0, none⟩) hSn (by simp) (.int .i64 T.q)) (by simp) (.int .i64 T.n)) (by simp) (.slice p1 T.base.length c1)) (by simp) (.slice pn S2.length cn)
                          have hSgF0 := RetWith.sg hSn2
                          have rowF0 := VRow.set (i := 3) (.slice pn S2.length cn) (VRow.set (i := 2) (.slice p1 T.base.length c1) (VRow.set (i := 1) (.int .i64 T.n) (VRow.set (i := 0) (.int .i64 T.q) nb)))
                          have hWF0 := set4 (v0 := .int .i64 T.q) (v1 := .int .i64 T.n) (v2 := .slice p1 T.base.length c1) (v3 := .slice pn S2.length cn) hBx.out (Nat.le_refl _)
                          obtain ⟨WF, hWFe⟩ : ∃ WF, WF = ((((wa.setCell ⟨wr.heap.size, 0, none⟩ (.int .i64 T.q)).setCell ⟨wr.heap.size, 1, none⟩ (.int .i64 T.n)).setCell ⟨wr.heap.size, 2, none⟩ (.slice p1 T.base.length c1)).setCell ⟨wr.heap.size, 3, none⟩ (.slice pn S2.length cn)) := ⟨_, rfl⟩
                          obtain ⟨nk, hnk⟩ : ∃ nk, nk = wr.heap.size := ⟨_, rfl⟩
                          have hSgF : Sg 3 WF swE pn S2 := by rw [hWFe]; exact hSgF0
                          have rowF : VRow WF nk 25 [.int .i64 T.q, .int .i64 T.n, .slice p1 T.base.length c1, .slice pn S2.length cn] := by rw [hWFe, hnk]; exact rowF0
                          have hWF : RowKit.Below wr.heap.size wr WF := by rw [hWFe]; exact hWF0
                          rw [← hWFe, ← hnk]
                          clear hWFe hnk hSn hSn2 hSgF0 rowF0 hWF0 hBa hBx nb nb0 nb1 nb2 nb3 nf0 nf1 nf2 nf3
                          have hb2 := hbel.trans (hWF.mono hbel.size)
                          have HTF := hidI (show TbIn WF ⟨T.q, T.n, T.base, S2⟩ p1 pn c1 cn from ⟨(HIN2.out.below hb2).base, hSgF, (HIN2.out.below hb2).cap1, (HIN2.out.below hb2).l1, by show S2.length ≤ _; have := HL2.out; omega, (HIN2.out.below hb2).z1, HZW.out⟩)
                          obtain ⟨rf, hrf⟩ : ∃ rf, fmd ⟨T.q, T.n, T.base, S2⟩ = rf := ⟨_, rfl⟩
                          obtain ⟨rr, hrr⟩ : ∃ rr, rdbl ⟨T.q, T.n, T.base, S2⟩ = rr := ⟨_, rfl⟩
                          obtain ⟨rs, hrs⟩ : ∃ rs, (List.range T.base.length).all (okB ⟨T.q, T.n, T.base, S'⟩ G S' i v) = rs := ⟨_, rfl⟩
                          have HC1 : Hid (∀ W, RowKit.Below WF.heap.size WF W → Calls Tryz.prog 36 #[(.agg #[.int .i64 T.q, .int .i64 T.n, .slice p1 T.base.length c1, .slice pn S2.length cn])] W fun e w' => e = .returned (.bool rf) ∧ RowKit.Below W.heap.size W w') := hidI (fun W h => by rw [← hrf]; exact rlkFormed_any ⟨T.q, T.n, T.base, S2⟩ p1 pn c1 cn W (HTF.out.below h))
                          have HC2' : Hid (rf = true → ∀ W, RowKit.Below WF.heap.size WF W → Calls Tryz.prog 37 #[(.agg #[.int .i64 T.q, .int .i64 T.n, .slice p1 T.base.length c1, .slice pn S2.length cn])] W fun e w' => e = .returned (.bool rr) ∧ RowKit.Below W.heap.size W w') := hidI (fun hf W h => by rw [← hrr]; exact rlkReadable_any ⟨T.q, T.n, T.base, S2⟩ p1 pn c1 cn W (HTF.out.below h) (by rw [hrf]; exact hf))
                          have HC3 : Hid (∀ W, RowKit.Below WF.heap.size WF W → Calls Tryz.prog 38 #[(.agg #[.int .i64 T.q, .int .i64 T.n, .slice p1 T.base.length c1, .slice o3 S'.length d3]), (.agg #[.int .i64 G.q, .int .i64 G.n, .slice pg G.es.length cg]), .int .i64 i, .string v] W fun e w' => e = .returned (.bool rs) ∧ RowKit.Below W.heap.size W w') := hidI (fun W h => by rw [← hrs]; exact HSTA.out W (hb2.trans (h.mono hb2.size)) ((hO.sw.below hWF).below h))
                          rw [hrf, hrr, hrs] at HOE
                          have tg := HGR.out.below hb2 z2
                          have zn := rowF.lt
                          have KS2 := hidI (fun (W : World) (hW : RowKit.Below WF.heap.size WF W) => show W.cell? ⟨nk, 0, none⟩ = some (.int .i64 T.q) ∧ W.cell? ⟨nk, 1, none⟩ = some (.int .i64 T.n) ∧ W.cell? ⟨nk, 2, none⟩ = some (.slice p1 T.base.length c1) ∧ W.cell? ⟨nk, 3, none⟩ = some (.slice pn S2.length cn) ∧ W.cell? ⟨w2.heap.size, 0, none⟩ = some (.int .i64 T.q) ∧ W.cell? ⟨w2.heap.size, 1, none⟩ = some (.int .i64 T.n) ∧ W.cell? ⟨w2.heap.size, 2, none⟩ = some (.slice p1 T.base.length c1) ∧ W.cell? ⟨w2.heap.size, 3, none⟩ = some (.slice o3 S'.length d3) ∧ W.cell? ⟨w.heap.size + 1, 0, none⟩ = some (.int .i64 G.q) ∧ W.cell? ⟨w.heap.size + 1, 1, none⟩ = some (.int .i64 G.n) ∧ W.cell? ⟨w.heap.size + 1, 2, none⟩ = some (.slice pg G.es.length cg) ∧ W.cell? ⟨ba, oa + k, none⟩ = some (.string v) from by
                            have hWr := hWF.trans (hW.mono hWF.size)
                            obtain ⟨x0, x1, x2, x3, x4, _⟩ := KS.out W hWr
                            have rn := rowF.below hW zn
                            have tgw := tg.below hW tg.lt
                            exact ⟨rn.at 0 rfl, rn.at 1 rfl, rn.at 2 rfl, rn.at 3 rfl, x0, x1, x2, x3, tgw.at 0 rfl, tgw.at 1 rfl, tgw.at 2 rfl, x4⟩)
                          clear hrf hrr hrs HSTA KS HW HTF b0 b1 b2 b3 hea hea2 tg HZW HL2
                          cases rf
                          · clear HC2'
                            have HC2 := HC1
                            have HX := hidI (HNO.out HOE.out)
                            clear HNO HOE HPT2
                            go_upto_region 20 with fail
                            (refine region_detL (by kernel_rfl) [(81, (.agg #[.int .i64 T.q, .int .i64 T.n, .slice p1 T.base.length c1, .slice pn S2.length cn])), (82, .bool false), (83, .bool false), (84, undef), (85, undef), (86, .bool false), (87, .bool false), (88, undef), (89, undef), (90, undef), (91, undef), (92, undef), (93, undef), (94, undef), (95, undef), (96, .bool false)] (fun W => RowKit.Below WF.heap.size WF W) (by kernel_rfl) (by kernel_rfl) (by kernel_rfl) (by kernel_rfl) (below_dN (RowKit.Below.refl _ _) 1) ?_ ?_; focus (intro i0 o ho a W hS hdep hout K hK; obtain ⟨hc0, hc1, hc2, hc3, hc4, hc5, hc6, hc7, hc8, hc9, hc10, hc11⟩ := KS2.out W hS; have hil : i0 < 16 := (Array.getElem?_eq_some_iff.1 ho).1; have hcases : i0 = 0 ∨ i0 = 1 ∨ i0 = 2 ∨ i0 = 3 ∨ i0 = 4 ∨ i0 = 5 ∨ i0 = 6 ∨ i0 = 7 ∨ i0 = 8 ∨ i0 = 9 ∨ i0 = 10 ∨ i0 = 11 ∨ i0 = 12 ∨ i0 = 13 ∨ i0 = 14 ∨ i0 = 15 := (by omega); clear hil; have u3 := hout 3 (by kernel_rfl); have u7 := hout 7 (by kernel_rfl); have u9 := hout 9 (by kernel_rfl); have u10 := hout 10 (by kernel_rfl); have u13 := hout 13 (by kernel_rfl); have u14 := hout 14 (by kernel_rfl); simp at u3 u7 u9 u10 u13 u14; clear hout; rcases hcases with rfl | rfl | rfl | rfl | rfl | rfl | rfl | rfl | rfl | rfl | rfl | rfl | rfl | rfl | rfl | rfl; all_goals (simp only [List.getElem?_toArray, List.getElem?_cons_succ, List.getElem?_cons_zero, Option.some.injEq] at ho; subst ho; simp [Region.binds] at hdep; (try go_split_ands)); all_goals go_simp; all_goals first | exact hK _ hS | ((with_reducible refine (HC1.out W hS).mono ?_); rintro e wa ⟨rfl, hBa⟩; exact hK _ (hS.trans (hBa.mono hS.size))) | ((with_reducible refine (HC2.out W hS).mono ?_); rintro e wa ⟨rfl, hBa⟩; exact hK _ (hS.trans (hBa.mono hS.size))) | ((with_reducible refine (HC3.out W hS).mono ?_); rintro e wa ⟨rfl, hBa⟩; exact hK _ (hS.trans (hBa.mono hS.size)))))
                            (intro W hB9; simp only [putsD, List.foldl_cons, List.foldl_nil, Act.put, List.setIfInBounds_toArray, List.set_cons_zero, List.set_cons_succ])
                            have hWB := hWF.trans (hB9.mono hWF.size)
                            go_wp2_with fail
                            go_roundw
                            case rel => exact ⟨k + 1, false, S', o3, d3, by omega, by go_num, rfl, HX, hO.below hWB⟩
                            case measure => simp [intOf]; omega
                          · have HC2 := hidI (HC2'.out rfl)
                            clear HC2'
                            cases rr
                            · have HX := hidI (HNO.out HOE.out)
                              clear HNO HOE HPT2
                              go_upto_region 20 with fail
                              (refine region_detL (by kernel_rfl) [(81, (.agg #[.int .i64 T.q, .int .i64 T.n, .slice p1 T.base.length c1, .slice pn S2.length cn])), (82, .bool true), (83, .bool true), (84, (.agg #[.int .i64 T.q, .int .i64 T.n, .slice p1 T.base.length c1, .slice pn S2.length cn])), (85, .bool false), (86, .bool false), (87, .bool false), (88, undef), (89, undef), (90, undef), (91, undef), (92, undef), (93, undef), (94, undef), (95, undef), (96, .bool false)] (fun W => RowKit.Below WF.heap.size WF W) (by kernel_rfl) (by kernel_rfl) (by kernel_rfl) (by kernel_rfl) (below_dN (RowKit.Below.refl _ _) 1) ?_ ?_; focus (intro i0 o ho a W hS hdep hout K hK; obtain ⟨hc0, hc1, hc2, hc3, hc4, hc5, hc6, hc7, hc8, hc9, hc10, hc11⟩ := KS2.out W hS; have hil : i0 < 16 := (Array.getElem?_eq_some_iff.1 ho).1; have hcases : i0 = 0 ∨ i0 = 1 ∨ i0 = 2 ∨ i0 = 3 ∨ i0 = 4 ∨ i0 = 5 ∨ i0 = 6 ∨ i0 = 7 ∨ i0 = 8 ∨ i0 = 9 ∨ i0 = 10 ∨ i0 = 11 ∨ i0 = 12 ∨ i0 = 13 ∨ i0 = 14 ∨ i0 = 15 := (by omega); clear hil; have u3 := hout 3 (by kernel_rfl); have u7 := hout 7 (by kernel_rfl); have u9 := hout 9 (by kernel_rfl); have u10 := hout 10 (by kernel_rfl); have u13 := hout 13 (by kernel_rfl); have u14 := hout 14 (by kernel_rfl); simp at u3 u7 u9 u10 u13 u14; clear hout; rcases hcases with rfl | rfl | rfl | rfl | rfl | rfl | rfl | rfl | rfl | rfl | rfl | rfl | rfl | rfl | rfl | rfl; all_goals (simp only [List.getElem?_toArray, List.getElem?_cons_succ, List.getElem?_cons_zero, Option.some.injEq] at ho; subst ho; simp [Region.binds] at hdep; (try go_split_ands)); all_goals go_simp; all_goals first | exact hK _ hS | ((with_reducible refine (HC1.out W hS).mono ?_); rintro e wa ⟨rfl, hBa⟩; exact hK _ (hS.trans (hBa.mono hS.size))) | ((with_reducible refine (HC2.out W hS).mono ?_); rintro e wa ⟨rfl, hBa⟩; exact hK _ (hS.trans (hBa.mono hS.size))) | ((with_reducible refine (HC3.out W hS).mono ?_); rintro e wa ⟨rfl, hBa⟩; exact hK _ (hS.trans (hBa.mono hS.size)))))
                              (intro W hB9; simp only [putsD, List.foldl_cons, List.foldl_nil, Act.put, List.setIfInBounds_toArray, List.set_cons_zero, List.set_cons_succ])
                              have hWB := hWF.trans (hB9.mono hWF.size)
                              go_wp2_with fail
                              go_roundw
                              case rel => exact ⟨k + 1, false, S', o3, d3, by omega, by go_num, rfl, HX, hO.below hWB⟩
                              case measure => simp [intOf]; omega
                            · cases rs
                              · have HX := hidI (HNO.out HOE.out)
                                clear HNO HOE HPT2
                                go_upto_region 20 with fail
                                (refine region_detL (by kernel_rfl) [(81, (.agg #[.int .i64 T.q, .int .i64 T.n, .slice p1 T.base.length c1, .slice pn S2.length cn])), (82, .bool true), (83, .bool true), (84, (.agg #[.int .i64 T.q, .int .i64 T.n, .slice p1 T.base.length c1, .slice pn S2.length cn])), (85, .bool true), (86, .bool true), (87, .bool true), (88, (.agg #[.int .i64 T.q, .int .i64 T.n, .slice p1 T.base.length c1, .slice o3 S'.length d3])), (89, (.agg #[.int .i64 G.q, .int .i64 G.n, .slice pg G.es.length cg])), (90, .int .i64 i), (91, .slice (some ⟨ba, oa, none⟩) all.length ca), (92, .int .i64 k), (93, .pointer (some ⟨ba, oa + k, none⟩)), (94, .string v), (95, .bool false), (96, .bool false)] (fun W => RowKit.Below WF.heap.size WF W) (by kernel_rfl) (by kernel_rfl) (by kernel_rfl) (by kernel_rfl) (below_dN (RowKit.Below.refl _ _) 1) ?_ ?_; focus (intro i0 o ho a W hS hdep hout K hK; obtain ⟨hc0, hc1, hc2, hc3, hc4, hc5, hc6, hc7, hc8, hc9, hc10, hc11⟩ := KS2.out W hS; have hil : i0 < 16 := (Array.getElem?_eq_some_iff.1 ho).1; have hcases : i0 = 0 ∨ i0 = 1 ∨ i0 = 2 ∨ i0 = 3 ∨ i0 = 4 ∨ i0 = 5 ∨ i0 = 6 ∨ i0 = 7 ∨ i0 = 8 ∨ i0 = 9 ∨ i0 = 10 ∨ i0 = 11 ∨ i0 = 12 ∨ i0 = 13 ∨ i0 = 14 ∨ i0 = 15 := (by omega); clear hil; have u3 := hout 3 (by kernel_rfl); have u7 := hout 7 (by kernel_rfl); have u9 := hout 9 (by kernel_rfl); have u10 := hout 10 (by kernel_rfl); have u13 := hout 13 (by kernel_rfl); have u14 := hout 14 (by kernel_rfl); simp at u3 u7 u9 u10 u13 u14; clear hout; rcases hcases with rfl | rfl | rfl | rfl | rfl | rfl | rfl | rfl | rfl | rfl | rfl | rfl | rfl | rfl | rfl | rfl; all_goals (simp only [List.getElem?_toArray, List.getElem?_cons_succ, List.getElem?_cons_zero, Option.some.injEq] at ho; subst ho; simp [Region.binds] at hdep; (try go_split_ands)); all_goals go_simp; all_goals first | exact hK _ hS | ((with_reducible refine (HC1.out W hS).mono ?_); rintro e wa ⟨rfl, hBa⟩; exact hK _ (hS.trans (hBa.mono hS.size))) | ((with_reducible refine (HC2.out W hS).mono ?_); rintro e wa ⟨rfl, hBa⟩; exact hK _ (hS.trans (hBa.mono hS.size))) | ((with_reducible refine (HC3.out W hS).mono ?_); rintro e wa ⟨rfl, hBa⟩; exact hK _ (hS.trans (hBa.mono hS.size)))))
                                (intro W hB9; simp only [putsD, List.foldl_cons, List.foldl_nil, Act.put, List.setIfInBounds_toArray, List.set_cons_zero, List.set_cons_succ])
                                have hWB := hWF.trans (hB9.mono hWF.size)
                                go_wp2_with fail
                                go_roundw
                                case rel => exact ⟨k + 1, false, S', o3, d3, by omega, by go_num, rfl, HX, hO.below hWB⟩
                                case measure => simp [intOf]; omega
                              · have HX : Hid (KxP all T G S' i j (k + 1) true S2) := hidI (.inr ⟨rfl, HPT2.out HOE.out⟩)
                                clear HNO HOE HPT2
                                go_upto_region 20 with fail
                                (refine region_detL (by kernel_rfl) [(81, (.agg #[.int .i64 T.q, .int .i64 T.n, .slice p1 T.base.length c1, .slice pn S2.length cn])), (82, .bool true), (83, .bool true), (84, (.agg #[.int .i64 T.q, .int .i64 T.n, .slice p1 T.base.length c1, .slice pn S2.length cn])), (85, .bool true), (86, .bool true), (87, .bool true), (88, (.agg #[.int .i64 T.q, .int .i64 T.n, .slice p1 T.base.length c1, .slice o3 S'.length d3])), (89, (.agg #[.int .i64 G.q, .int .i64 G.n, .slice pg G.es.length cg])), (90, .int .i64 i), (91, .slice (some ⟨ba, oa, none⟩) all.length ca), (92, .int .i64 k), (93, .pointer (some ⟨ba, oa + k, none⟩)), (94, .string v), (95, .bool true), (96, .bool true)] (fun W => RowKit.Below WF.heap.size WF W) (by kernel_rfl) (by kernel_rfl) (by kernel_rfl) (by kernel_rfl) (below_dN (RowKit.Below.refl _ _) 1) ?_ ?_; focus (intro i0 o ho a W hS hdep hout K hK; obtain ⟨hc0, hc1, hc2, hc3, hc4, hc5, hc6, hc7, hc8, hc9, hc10, hc11⟩ := KS2.out W hS; have hil : i0 < 16 := (Array.getElem?_eq_some_iff.1 ho).1; have hcases : i0 = 0 ∨ i0 = 1 ∨ i0 = 2 ∨ i0 = 3 ∨ i0 = 4 ∨ i0 = 5 ∨ i0 = 6 ∨ i0 = 7 ∨ i0 = 8 ∨ i0 = 9 ∨ i0 = 10 ∨ i0 = 11 ∨ i0 = 12 ∨ i0 = 13 ∨ i0 = 14 ∨ i0 = 15 := (by omega); clear hil; have u3 := hout 3 (by kernel_rfl); have u7 := hout 7 (by kernel_rfl); have u9 := hout 9 (by kernel_rfl); have u10 := hout 10 (by kernel_rfl); have u13 := hout 13 (by kernel_rfl); have u14 := hout 14 (by kernel_rfl); simp at u3 u7 u9 u10 u13 u14; clear hout; rcases hcases with rfl | rfl | rfl | rfl | rfl | rfl | rfl | rfl | rfl | rfl | rfl | rfl | rfl | rfl | rfl | rfl; all_goals (simp only [List.getElem?_toArray, List.getElem?_cons_succ, List.getElem?_cons_zero, Option.some.injEq] at ho; subst ho; simp [Region.binds] at hdep; (try go_split_ands)); all_goals go_simp; all_goals first | exact hK _ hS | ((with_reducible refine (HC1.out W hS).mono ?_); rintro e wa ⟨rfl, hBa⟩; exact hK _ (hS.trans (hBa.mono hS.size))) | ((with_reducible refine (HC2.out W hS).mono ?_); rintro e wa ⟨rfl, hBa⟩; exact hK _ (hS.trans (hBa.mono hS.size))) | ((with_reducible refine (HC3.out W hS).mono ?_); rintro e wa ⟨rfl, hBa⟩; exact hK _ (hS.trans (hBa.mono hS.size)))))
                                (intro W hB9; simp only [putsD, List.foldl_cons, List.foldl_nil, Act.put, List.setIfInBounds_toArray, List.set_cons_zero, List.set_cons_succ])
                                have hWB := hWF.trans (hB9.mono hWF.size)
                                obtain ⟨hc0, hc1, hc2, hc3, _, _, _, _, _, _, _, _⟩ := KS2.out W hB9
                                have rb := hO.row.below hWB zb
                                have fz0 := rb.frozen 0; have fz1 := rb.frozen 1; have fz2 := rb.frozen 2; have fz3 := rb.frozen 3
                                have rb0 := rb.at 0 rfl; have rb1 := rb.at 1 rfl; have rb2 := rb.at 2 rfl; have rb3 := rb.at 3 rfl
                                go_wp2_with fail
                                have hne : S2 = [] ∨ ∀ b, pn = some b → b.block ≠ w2.heap.size := .inr (fun b e => by have := hnb.out b e; omega)
                                have hsw := ((((hSgF.below hB9).far (a := ⟨w2.heap.size, 0, none⟩) (.int .i64 T.q) hne).far (a := ⟨w2.heap.size, 1, none⟩) (.int .i64 T.n) hne).far (a := ⟨w2.heap.size, 2, none⟩) (.slice p1 T.base.length c1) hne).far (a := ⟨w2.heap.size, 3, none⟩) (.slice pn S2.length cn) hne
                                have hne2 : S2 = [] ∨ ∀ b, pn = some b → b.block ≠ w2.heap.size ∧ b.block ≠ w.heap.size + 1 + 1 := .inr (fun b e => by have := hnb.out b e; exact ⟨by omega, by omega⟩)
                                have r6 := VRow.set (i := 3) (.slice pn S2.length cn) (VRow.set (i := 2) (.slice p1 T.base.length c1) (VRow.set (i := 1) (.int .i64 T.n) (VRow.set (i := 0) (.int .i64 T.q) rb)))
                                have hx6 := set4 (v0 := .int .i64 T.q) (v1 := .int .i64 T.n) (v2 := .slice p1 T.base.length c1) (v3 := .slice pn S2.length cn) (hbel.trans (hWB.mono hbel.size)) (Nat.le_refl _)
                                go_roundw
                                case rel => exact ⟨k + 1, true, S2, pn, cn, by omega, by go_num, rfl, HX, ⟨r6, hsw, hne2, hx6⟩⟩
                                case measure => simp [intOf]; omega
                      · have hltKI : ¬ (k : Int) < (all.length : Int) := by omega
                        have HR := hidI (HZ2.out (HFT.out (fun m hm => HKK.out.2 m hm (by omega))))
                        have rr := HRR.out.below hO.bel z3
                        have y0 := rr.at 0 rfl; have y1 := rr.at 1 rfl; have y2 := rr.at 2 rfl; have y3 := rr.at 3 rfl
                        have f0 := rr.frozen 0; have f1 := rr.frozen 1; have f2 := rr.frozen 2; have f3 := rr.frozen 3
                        have hB9 := x2.trans (hO.bel.mono x2.size)
                        clear HPT HFT HFE HKK
                        go_wp2_with fail
                        (have r6 := VRow.set (i := 3) (.slice none 0 0) (VRow.set (i := 2) (.slice none 0 0) (VRow.set (i := 1) (.int .i64 0) (VRow.set (i := 0) (.int .i64 0) rr))); have y0 := r6.at 0 rfl; have y1 := r6.at 1 rfl; have y2 := r6.at 2 rfl; have y3 := r6.at 3 rfl; exact bodyPost_ret (v := .tuple #[.agg #[.int .i64 0, .int .i64 0, .slice none 0 0, .slice none 0 0], .int .i64 6]) (by simp [results, Tryz.results8, go_sem, y0, y1, y2, y3]) rfl (RetExt.zero ⟨HR.out, set4 hB9 (by omega)⟩))
            · obtain rfl : j = T.base.length := by omega
              have hltJI : ¬ (T.base.length : Int) < (T.base.length : Int) := by omega
              have HX := hidI hP.out.down
              clear ti tg
              go_wp2_with fail
              go_roundw
              case rel => exact ⟨i + 1, S, o2, d2, by omega, by go_num, HX, hO⟩
              case measure => simp [intOf]; omega
        · obtain rfl : i = T.base.length := by omega
          have hltI : ¬ (T.base.length : Int) < (T.base.length : Int) := by omega
          have HX := hidI (HZ3.out _ hP.out.done)
          have hS64 : S.length ≤ 64 := (pre_all (fmd_split hP.out.fm).1).2.2.2.2.2.2
          have hSz := hidI (fun j (h : j < S.length) => show S[j].wd.size ≤ maxLen by have := swap_size hP.out.fm j h; unfold maxLen; simp only at this; omega)
          have rr := HRR.out.below hO.bel z3
          have y0 := rr.at 0 rfl; have y1 := rr.at 1 rfl; have y2 := rr.at 2 rfl; have y3 := rr.at 3 rfl
          have g0 := rr.frozen 0; have g1 := rr.frozen 1; have g2 := rr.frozen 2; have g3 := rr.frozen 3
          have o0 := hO.row.at 0 rfl; have o1 := hO.row.at 1 rfl; have o2' := hO.row.at 2 rfl; have o3 := hO.row.at 3 rfl
          have hB9 := x2.trans (hO.bel.mono x2.size)
          clear ti hP
          go_wp2_with fail
          have r6 := VRow.set (i := 3) (.slice o2 S.length d2) (VRow.set (i := 2) (.slice p1 T.base.length c1) (VRow.set (i := 1) (.int .i64 T.n) (VRow.set (i := 0) (.int .i64 T.q) rr)))
          have n0 := r6.at 0 rfl; have n1 := r6.at 1 rfl; have n2 := r6.at 2 rfl; have n3 := r6.at 3 rfl
          have hne : S = [] ∨ ∀ b, o2 = some b → b.block ≠ w.heap.size + 1 + 1 := hO.ne.imp id (fun h b e => (h b e).2)
          have hsw := (((hO.sw.far (a := ⟨w.heap.size + 1 + 1, 0, none⟩) (.int .i64 T.q) hne).far (a := ⟨w.heap.size + 1 + 1, 1, none⟩) (.int .i64 T.n) hne).far (a := ⟨w.heap.size + 1 + 1, 2, none⟩) (.slice p1 T.base.length c1) hne).far (a := ⟨w.heap.size + 1 + 1, 3, none⟩) (.slice o2 S.length d2) hne
          have hx6 := set4 (v0 := .int .i64 T.q) (v1 := .int .i64 T.n) (v2 := .slice p1 T.base.length c1) (v3 := .slice o2 S.length d2) hB9 (show w.heap.size ≤ w.heap.size + 1 + 1 by omega)
          have hb6 := HIN0.out.below hx6
          refine bodyPost_ret (v := .tuple #[.agg #[.int .i64 T.q, .int .i64 T.n, .slice p1 T.base.length c1, .slice o2 S.length d2], .int .i64 0]) (by simp [results, Tryz.results8, go_sem, n0, n1, n2, n3]) rfl ?_
          rw [HX.out]
          exact ⟨p1, o2, c1, d2, rfl, ⟨hb6.base, hsw, hb6.cap1, hb6.l1, by show S.length ≤ _; omega, hb6.z1, hSz.out⟩, hx6⟩
  · have HR := hidI (HX0.out hk)
    have hkn : (k != 0) = true := by simpa using hk
    clear hk HFZ HX0 HX1 HX2 HX3 t1 g1
    have y0 := r1.at 0 rfl; have y1 := r1.at 1 rfl; have y2 := r1.at 2 rfl; have y3 := r1.at 3 rfl
    have f0 := r1.frozen 0; have f1 := r1.frozen 1; have f2 := r1.frozen 2; have f3 := r1.frozen 3
    go_wp2_with fail
    (have r6 := VRow.set (i := 3) (.slice none 0 0) (VRow.set (i := 2) (.slice none 0 0) (VRow.set (i := 1) (.int .i64 0) (VRow.set (i := 0) (.int .i64 0) r1))); have y0 := r6.at 0 rfl; have y1 := r6.at 1 rfl; have y2 := r6.at 2 rfl; have y3 := r6.at 3 rfl; exact bodyPost_ret (v := .tuple #[.agg #[.int .i64 0, .int .i64 0, .slice none 0 0, .slice none 0 0], .int .i64 k]) (by simp [results, Tryz.results8, go_sem, y0, y1, y2, y3]) rfl (RetExt.zero ⟨HR.out, set4 x1 (by omega)⟩))
end Go.Proofs.YtjpilmedlecdhaaGreat
namespace Go.Proofs.YtjpilmedlecdhaaGreat
open Go.RowKit Go.Sort Go.Shelf Go.Lib

set_option maxRecDepth 100000 in
set_option maxHeartbeats 4000000 in
theorem rlkSame_eq (T : Tb) (p1 p2 q1 q2 : Option Addr) (c1 c2 d1 d2 : Nat) (w : World) (hin : TbIn w T p1 p2 c1 c2) (hin' : TbIn w T q1 q2 d1 d2) :
    Calls Tryz.prog 9 #[(.agg #[.int .i64 T.q, .int .i64 T.n, .slice p1 T.base.length c1, .slice p2 T.swaps.length c2]), .agg #[.int .i64 T.q, .int .i64 T.n, .slice q1 T.base.length d1, .slice q2 T.swaps.length d2]] w fun e w' => e = .returned (.bool true) ∧ RowKit.Below w.heap.size w w' := by
  obtain ⟨w0, hw0⟩ : ∃ w0, w0 = (w.alloc (.cells #[.int .i64 T.q, .int .i64 T.n, .slice p1 T.base.length c1, .slice p2 T.swaps.length c2] 25)).alloc (.cells #[.int .i64 T.q, .int .i64 T.n, .slice q1 T.base.length d1, .slice q2 T.swaps.length d2] 25) := ⟨_, rfl⟩
  have b0 : VRow w0 w.heap.size 25 [.int .i64 T.q, .int .i64 T.n, .slice p1 T.base.length c1, .slice p2 T.swaps.length c2] := by subst hw0; exact (VRow.new w _ _).alloc _
  have b1 : VRow w0 (w.heap.size + 1) 25 [.int .i64 T.q, .int .i64 T.n, .slice q1 T.base.length d1, .slice q2 T.swaps.length d2] := by subst hw0; exact VRow.new1 w _ _ _
  have hB0 : RowKit.Below w.heap.size w w0 := by subst hw0; exact ((RowKit.Below.refl _ _).alloc (Nat.le_refl _) _).alloc (by simp) _
  have HA := hidI (hin.below hB0); have HB := hidI (hin'.below hB0)
  have HB0 := hidI hB0; have HR := hidI b0; have HS := hidI b1
  have h1 := hin.l1; have h2 := hin.l2
  have k1 : (T.q != T.q) = false := by simp
  have k2 : (T.n != T.n) = false := by simp
  have k3 : ((T.base.length : Int) != (T.base.length : Int)) = false := by simp
  have k4 : ((T.swaps.length : Int) != (T.swaps.length : Int)) = false := by simp
  have f0 := b0.at 0 rfl; have f1 := b0.at 1 rfl; have f2 := b0.at 2 rfl; have f3 := b0.at 3 rfl
  have g0 := b1.at 0 rfl; have g1 := b1.at 1 rfl; have g2 := b1.at 2 rfl; have g3 := b1.at 3 rfl
  clear hin hin' hB0 b0 b1
  go_enter Tryz.func9, Tryz.ntmps9
  go_upto_region 1 with fail
  rw [← hw0]
  clear hw0
  go_wp2_with fail
  clear k1 k2 k3 k4 f0 f1 f2 f3 g0 g1 g2 g3
  go_loopw [5] (fun iv wr => ∃ k : Nat, k ≤ T.base.length ∧ iv = .int .i64 k ∧ Dr w0 wr) (fun iv _ => T.base.length - (intOf iv).toNat)
  case atStart => exact ⟨0, by omega, rfl, Dr.refl _⟩
  case round =>
    obtain ⟨k, hk, rfl, hD⟩ := hrel
    have ha := HR.out.dr hD; have hb := HS.out.dr hD
    have f2 := ha.at 2 rfl; have g2 := hb.at 2 rfl
    by_cases hlt : k < T.base.length
    · have hltI : (k : Int) < (T.base.length : Int) := by omega
      obtain ⟨bb, oo, rfl, hbb, hc⟩ := (HA.out.base.dr hD).get k hlt
      obtain ⟨bb', oo', rfl, hbb', hc'⟩ := (HB.out.base.dr hD).get k hlt
      have e0 := hc k hlt
      have e1 := hc' k hlt
      have hbt := bts_t (rfl : T.base[k] = T.base[k])
      have hbn : (T.base[k].toList != T.base[k].toList) = false := by simp
      clear hc hc' ha hb
      generalize T.base[k] = s at *
      go_wp2_with fail
      (refine wp_region_quiet_lit (by kernel_rfl) (by kernel_rfl) ?_; (repeat (first | go_big_quiet_step (fail) | quiet_step (fail))); refine wpQuiet_nil ?_; intro _ hwq; obtain ⟨nq, hwq2⟩ := hwq; subst hwq2)
      go_wp2_with fail
      go_roundw
      case rel => exact ⟨k + 1, by omega, by go_num, hD.one _⟩
      case measure => simp [intOf]; omega
    · obtain rfl : k = T.base.length := by omega
      have hltI : ¬ (T.base.length : Int) < (T.base.length : Int) := by omega
      obtain ⟨wo, hwo⟩ : ∃ wo, wo = wr := ⟨_, rfl⟩
      clear ha hb
      go_wp2_with fail
      clear f2 g2
      go_loopw [6] (fun iv wr => ∃ k : Nat, k ≤ T.swaps.length ∧ iv = .int .i64 k ∧ Dr w0 wr) (fun iv _ => T.swaps.length - (intOf iv).toNat)
      case atStart => exact ⟨0, by omega, rfl, hD⟩
      case round =>
        clear hD hwo
        obtain ⟨k, hk, rfl, hD⟩ := hrel
        have ha := HR.out.dr hD; have hb := HS.out.dr hD
        have f3 := ha.at 3 rfl; have g3 := hb.at 3 rfl
        by_cases hlt : k < T.swaps.length
        · have hltI : (k : Int) < (T.swaps.length : Int) := by omega
          obtain ⟨bb, oo, rfl, hbb, e0, e1, e2⟩ := (HA.out.swaps.below (hD.below _)).get3 k hlt rfl
          obtain ⟨bb', oo', rfl, hbb', n0, n1, n2⟩ := (HB.out.swaps.below (hD.below _)).get3 k hlt rfl
          generalize T.swaps[k] = s at *
          obtain ⟨si, sj, sw⟩ := s
          have hbt := bts_t (rfl : sw = sw)
          have hi1 : (si == si) = true := by simp
          have hj1 : (sj == sj) = true := by simp
          clear ha hb
          go_wp2_with fail
          (refine wp_region_quiet_lit (by kernel_rfl) (by kernel_rfl) ?_; (repeat (first | go_big_quiet_step (fail) | quiet_step (fail))); refine wpQuiet_nil ?_; intro _ hwq; obtain ⟨nq, hwq2⟩ := hwq; subst hwq2)
          go_wp2_with fail
          go_roundw
          case rel => exact ⟨k + 1, by omega, by go_num, hD.one _⟩
          case measure => simp [intOf]; omega
        · obtain rfl : k = T.swaps.length := by omega
          have hltI : ¬ (T.swaps.length : Int) < (T.swaps.length : Int) := by omega
          go_wp2_with fail
          go_ret
          exact ⟨rfl, HB0.out.trans (hD.below _)⟩
end Go.Proofs.YtjpilmedlecdhaaGreat
namespace Go.Proofs.YtjpilmedlecdhaaGreat
open Go.RowKit Go.Sort Go.Shelf Go.Lib

theorem RetExt.g {X : Tb} {k : Int} {w w' : World} {e : Ending} (h : RetExt (X, k) w e w') : ∃ q1 q2 f1 f2, e = .returned (.tuple #[.agg #[.int .i64 X.q, .int .i64 X.n, .slice q1 X.base.length f1, .slice q2 X.swaps.length f2], .int .i64 k]) ∧ TbIn w' X q1 q2 f1 f2 ∧ RowKit.Below w.heap.size w w' := h

set_option maxRecDepth 100000 in
set_option maxHeartbeats 4000000 in
theorem lawExtends_any (T : Tb) (p1 p2 : Option Addr) (c1 c2 : Nat) (G : Gr) (pg : Option Addr) (cg : Nat) (w : World) (hin : TbIn w T p1 p2 c1 c2) (hG : Sg 3 w edE pg G.es) (hGl : G.es.length ≤ 9223372036854775807) :
    Calls Tryz.prog 3 #[(.agg #[.int .i64 T.q, .int .i64 T.n, .slice p1 T.base.length c1, .slice p2 T.swaps.length c2]), (.agg #[.int .i64 G.q, .int .i64 G.n, .slice pg G.es.length cg])] w fun e w' => e = .returned (.bool true) ∧ RowKit.Below w.heap.size w w' := by
  obtain ⟨w0, hw0⟩ : ∃ w0, w0 = (w.alloc (.cells #[.int .i64 T.q, .int .i64 T.n, .slice p1 T.base.length c1, .slice p2 T.swaps.length c2] 25)).alloc (.cells #[.int .i64 G.q, .int .i64 G.n, .slice pg G.es.length cg] 28) := ⟨_, rfl⟩
  have b0 : VRow w0 w.heap.size 25 [.int .i64 T.q, .int .i64 T.n, .slice p1 T.base.length c1, .slice p2 T.swaps.length c2] := by subst hw0; exact (VRow.new w _ _).alloc _
  have d0 : VRow w0 (w.heap.size + 1) 28 [.int .i64 G.q, .int .i64 G.n, .slice pg G.es.length cg] := by subst hw0; exact VRow.new1 w _ _ _
  have hB0 : RowKit.Below w.heap.size w w0 := by subst hw0; exact ((RowKit.Below.refl _ _).alloc (Nat.le_refl _) _).alloc (by simp) _
  have h1 := hin.l1; have h2 := hin.l2
  have a0 := b0.at 0 rfl; have a1 := b0.at 1 rfl; have a2 := b0.at 2 rfl; have a3 := b0.at 3 rfl
  have HIN := hidI hin; have HG := hidI hG
  have HB0 := hidI b0; have HD0 := hidI d0; have HX0 := hidI hB0
  clear hin hG
  go_enter Tryz.func3, Tryz.ntmps3
  go_upto_region 1 with fail
  rw [← hw0]
  clear hw0
  go_cut [24] (fun v W => ∃ b, v = .bool b ∧ RowKit.Below w0.heap.size w0 W)
  case first =>
    go_wp2_with fail
    refine (great_any T p1 p2 c1 c2 w0 h1 h2).mono ?_
    rintro e w1 ⟨rfl, hB1⟩
    have t1 := HB0.out.below hB1 HB0.out.lt
    have g1 := HD0.out.below hB1 HD0.out.lt
    clear a0 a1 a2 a3
    have e0 := g1.at 0 rfl; have e1 := g1.at 1 rfl; have e2 := g1.at 2 rfl
    generalize greatT T = gt at *
    cases gt
    · go_wp2_with fail
      refine (rGreat_any G pg cg w1 hGl).mono ?_
      rintro e w2 ⟨rfl, hB2⟩
      have x2 := hB1.trans (hB2.mono hB1.size)
      have t2 := t1.below hB2 t1.lt
      have f0 := t2.at 0 rfl; have f1 := t2.at 1 rfl
      clear e0 e1 e2
      generalize greatG G = gg at *
      cases gg
      · obtain ⟨rn, hrn⟩ : ∃ r, (T.n == 3) = r := ⟨_, rfl⟩
        obtain ⟨rq, hrq⟩ : ∃ r, (T.q == 3) = r := ⟨_, rfl⟩
        cases rn <;> cases rq <;> (go_wp2_with fail; go_meet; exact ⟨_, rfl, x2⟩)
      · go_wp2_with fail
        go_meet
        exact ⟨true, rfl, x2⟩
    · go_wp2_with fail
      go_meet
      exact ⟨true, rfl, hB1⟩
  case rest =>
    obtain ⟨b, rfl, hBc⟩ := hcut
    have xc := HX0.out.trans (hBc.mono HX0.out.size)
    cases b
    rotate_left
    · (go_wp2_with fail; refine (lkAwake_any _).mono ?_; rintro e w99 ⟨rfl, hB99⟩; go_wp2; go_ret; exact ⟨rfl, xc.trans (hB99.mono (xc).size)⟩)
    have tc := HB0.out.below hBc HB0.out.lt
    have gc := HD0.out.below hBc HD0.out.lt
    have HE1 := hidI (lkExtend_any T p1 p2 c1 c2 G pg cg wc (HIN.out.below xc) (HG.out.below xc) hGl)
    have HE2 := hidI (fun W (hW : RowKit.Below w.heap.size w W) => rlkExtend_any T p1 p2 c1 c2 G pg cg W (HIN.out.below hW) (HG.out.below hW) hGl)
    clear a0 a1 a2 a3 HB0 HD0 HX0 hBc
    have a0 := tc.at 0 rfl; have a1 := tc.at 1 rfl; have a2 := tc.at 2 rfl; have a3 := tc.at 3 rfl
    have e0 := gc.at 0 rfl; have e1 := gc.at 1 rfl; have e2 := gc.at 2 rfl
    generalize extA T G = XA at *
    obtain ⟨X, k⟩ := XA
    go_wp2_with fail
    refine HE1.out.mono ?_
    intro e w1 h
    obtain ⟨q1, q2, f1, f2, rfl, hT1, hB1⟩ := h.g
    clear h
    have x1 := xc.trans (hB1.mono xc.size)
    have t1 := tc.below hB1 tc.lt
    have g1 := gc.below hB1 gc.lt
    clear a0 a1 a2 a3 e0 e1 e2
    go_upto_region 4 with fail
    obtain ⟨w2, hw2⟩ : ∃ w2, w2 = w1.alloc (.cells #[.int .i64 X.q, .int .i64 X.n, .slice q1 X.base.length f1, .slice q2 X.swaps.length f2] 25) := ⟨_, rfl⟩
    have hB2 : RowKit.Below w1.heap.size w1 w2 := by subst hw2; exact (RowKit.Below.refl _ _).alloc (Nat.le_refl _) _
    have xa : VRow w2 w1.heap.size 25 [.int .i64 X.q, .int .i64 X.n, .slice q1 X.base.length f1, .slice q2 X.swaps.length f2] := by subst hw2; exact VRow.new w1 _ _
    rw [← hw2]
    clear hw2
    have x2 := x1.trans (hB2.mono x1.size)
    have t2 := t1.below hB2 t1.lt
    have g2 := g1.below hB2 g1.lt
    have a0 := t2.at 0 rfl; have a1 := t2.at 1 rfl; have a2 := t2.at 2 rfl; have a3 := t2.at 3 rfl
    have e0 := g2.at 0 rfl; have e1 := g2.at 1 rfl; have e2 := g2.at 2 rfl
    have HE3 := hidI (HE2.out w2 x2)
    have kk : (k == k) = true := by simp
    go_wp2_with fail
    refine HE3.out.mono ?_
    intro e w3 h
    obtain ⟨r1, r2, h1, h2, rfl, hT3, hB3⟩ := h.g
    clear h
    have x3 := x2.trans (hB3.mono x2.size)
    clear a0 a1 a2 a3 e0 e1 e2
    go_upto_region 5 with fail
    obtain ⟨w4, hw4⟩ : ∃ w4, w4 = w3.alloc (.cells #[.int .i64 X.q, .int .i64 X.n, .slice r1 X.base.length h1, .slice r2 X.swaps.length h2] 25) := ⟨_, rfl⟩
    have hB4 : RowKit.Below w3.heap.size w3 w4 := by subst hw4; exact (RowKit.Below.refl _ _).alloc (Nat.le_refl _) _
    have xb : VRow w4 w3.heap.size 25 [.int .i64 X.q, .int .i64 X.n, .slice r1 X.base.length h1, .slice r2 X.swaps.length h2] := by subst hw4; exact VRow.new w3 _ _
    rw [← hw4]
    clear hw4
    have x4 := x3.trans (hB4.mono x3.size)
    have xa4 := (xa.below hB3 xa.lt).below hB4 (Nat.lt_of_lt_of_le xa.lt hB3.size)
    have HSM := hidI (rlkSame_eq X q1 q2 r1 r2 f1 f2 h1 h2 w4 (((hT1.below hB2).below hB3).below hB4) (hT3.below hB4))
    have a0 := xa4.at 0 rfl; have a1 := xa4.at 1 rfl; have a2 := xa4.at 2 rfl; have a3 := xa4.at 3 rfl
    have e0 := xb.at 0 rfl; have e1 := xb.at 1 rfl; have e2 := xb.at 2 rfl; have e3 := xb.at 3 rfl
    go_wp2_with fail
    refine HSM.out.mono ?_
    rintro e w5 ⟨rfl, hB5⟩
    have x5 := x4.trans (hB5.mono x4.size)
    (go_wp2_with fail; refine (lkAwake_any _).mono ?_; rintro e w99 ⟨rfl, hB99⟩; go_wp2; go_ret; exact ⟨rfl, x5.trans (hB99.mono (x5).size)⟩)
#print axioms lawExtends_any
end Go.Proofs.YtjpilmedlecdhaaGreat
namespace Go.Proofs.YtjpilmedlecdhaaGreat
open Go.Joins Go.ChangeShapes Go.WideShapes Go.ChangeAt Go.RowKit Go.Deep

set_option maxRecDepth 100000 in
theorem lookaheadExtends_lifted (os : Os) (started : os.Started) (H : Type) (enc : TypeId × Value → H) :
    ReturnsInHanded {} Tryz.checked os 3 .any (Rows.lookaheadExtendsSpec.pre6 enc Tryz.prog Tryz.f3 Rows.lookaheadExtendsRow.domain false) (Rows.lookaheadExtendsSpec.post enc Tryz.prog Tryz.f3 false true false false) := by
  refine returnsInHanded_of_change (C := Tryz.checked) own started (by kernel_rfl) Tryz.func3
    (ChangeSpec.witness6 (enc := enc) (C := Tryz.checked) false ⟨#[], #[.agg #[.int .i64 0, .int .i64 0, .slice none 0 0, .slice none 0 0], .agg #[.int .i64 0, .int .i64 0, .slice none 0 0]], []⟩ 8 (by kernel_rfl) (by kernel_rfl) (by kernel_rfl) (by kernel_rfl)) ?_
  intro W base args ds gs before hval0 hW hcnd _
  have hval : ∀ (j : Nat) t v, Tryz.f3.params[j]? = some t → args[j]? = some v → Value.okWide Tryz.prog W .any base t v := hval0
  have hW' := hW
  obtain ⟨p, q, hA0, hV, rfl, hfz, hnd⟩ := hW
  have hA : DataW.TrodAll enc Tryz.prog W 0 (fun _ => true) true Tryz.f3.params.toList args.toList ds p := hA0
  rw [Tryz.params3] at hA hval
  obtain ⟨v0, v1, d0, d1, p0, p1, rfl, rfl, rfl, h0, h1⟩ := trodAll_two hA
  obtain ⟨rfl, rfl⟩ := trodVars_none hV
  have hlt : ∀ x ∈ p0 ++ p1, x.block < W.heap.size := fun x hx => hW'.lt x (List.mem_append_left _ (by simpa using hx))
  obtain ⟨T0, q0, r0, c0, e0, rfl, hin0⟩ := table_in (hval 0 25 v0 rfl rfl) h0 (fun x hx => hlt x (by simp only [List.mem_append]; simp [hx]))
  obtain ⟨G1, q1, c1, rfl, s1, l1⟩ := graph_in (hval 1 28 v1 rfl rfl) h1 (fun x hx => hlt x (by simp only [List.mem_append]; simp [hx]))
  refine (lawExtends_any T0 q0 r0 c0 e0 G1 q1 c1 W hin0 s1 l1).mono fun e W' ⟨he, hB⟩ => ?_
  subst he
  refine ⟨_, rfl, law_post hW' rfl (by kernel_rfl) ?_ rfl rfl rfl hB⟩
  rw [Tryz.params3]
  intro t ht
  simp only [List.mem_cons, List.not_mem_nil, or_false] at ht
  rcases ht with rfl | rfl
  · exact readLook
  · exact readGraph

theorem lookaheadExtends_holds : Rows.LookaheadExtendsSaid :=
  OpenClaim.holds_of_wide 3 Tryz.f3 rfl rfl rfl rfl rfl rfl rfl ⟨rfl, rfl, rfl, rfl, rfl⟩ rfl rfl rfl rfl rfl (by kernel_rfl) Tryz.func3 (by kernel_rfl)
    (of_decide_eq_true (by kernel_rfl)) (by unfold Func.isWrapper; rw [if_neg (of_decide_eq_false (by kernel_rfl))]; exact ⟨rfl, rfl⟩)
    (fun os started H enc _ => lookaheadExtends_lifted os started H enc)
#print axioms lookaheadExtends_holds
end Go.Proofs.YtjpilmedlecdhaaGreat
