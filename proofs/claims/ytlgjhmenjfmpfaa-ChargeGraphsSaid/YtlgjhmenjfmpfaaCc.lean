/-
  Walks: the graph of numbered pairs, of the program.
-/
import Derived.Test.YtlgjhmenjfmpfaaCa
import Derived.Test.YtlgjhmenjfmpfaaGw
namespace Go.Proofs.Ytlgjhmenjfmpfaa
open Go.RowKit Go.Sort Go.Shelf Go.Lib

theorem sg_box {w : World} {B : Nat} {x y : Int} {q : Option Addr} {n c : Nat} {p : Option Addr} {l : List Ed} (hb : VRow w B 24 [.int .i64 x, .int .i64 y, .slice q n c]) (h : Sg 3 w edE p l) (i : Nat) (v : Value) : Sg 3 (w.setCell ⟨B, i, none⟩ v) edE p l := by
  rcases h with h | ⟨b, off, hp, hlt, hc⟩
  · exact .inl h
  · rcases l with _ | ⟨e, l⟩
    · exact .inl rfl
    · have hne : B ≠ b := by
        intro he
        subst he
        have h2 := hc 0 (by simp) 2 (by omega)
        rw [hb.cell] at h2
        rcases off with _ | off
        · simp [edE] at h2
        · simp [edE] at h2
      exact .inr ⟨b, off, hp, by rw [World.size_setCell]; exact hlt, fun i hi j hj => (World.cell?_setCell_far _ _ _ _ hne).trans (hc i hi j hj)⟩
theorem own_after {w : World} {B B' e n : Nat} {v : Value} {xs : List Value} (h : w.ownsRow B' e 3 v n xs) (hB : B ≤ B') : w.ownsRow B e 3 v n xs := ⟨h.1, h.2.imp id (fun ⟨g, cap, cur, a, b, z⟩ => ⟨g, cap, cur, a, Nat.le_trans hB b, z⟩)⟩

/-- What a function value for the numbers of pairs gives. -/
def NumAt (A B : Int) (num : Int → Int → Int) (g : Nat) (lb : Array Value) (w : World) : Prop :=
  ∀ (W : World) (a b : Int), RowKit.Below w.heap.size w W → 0 ≤ a → a < A → 0 ≤ b → b < B → Calls Try.prog g (#[.int .i64 a, .int .i64 b] ++ lb) W fun e w' => e = .returned (.int .i64 (num a b)) ∧ Dr W w'
/-- What a function value for the next pairs gives. -/
def NxtAt (A B : Int) (nx : Int → Int → Int → Int × Int) (g : Nat) (lb : Array Value) (w : World) : Prop :=
  ∀ (W : World) (a b l : Int), RowKit.Below w.heap.size w W → 0 ≤ a → a < A → 0 ≤ b → b < B → 0 ≤ l → l < 2 → Calls Try.prog g (#[.int .i64 a, .int .i64 b, .int .i64 l] ++ lb) W fun e w' => e = .returned (.tuple #[.int .i64 (nx a b l).1, .int .i64 (nx a b l).2]) ∧ Dr W w'

set_option maxRecDepth 100000 in
set_option maxHeartbeats 4000000 in
theorem cMade_any (A B : Int) (num : Int → Int → Int) (nx : Int → Int → Int → Int × Int) (g1 g2 : Nat) (lb1 lb2 : Array Value) (w : World) (hA0 : 1 ≤ A) (hA1 : A ≤ 64) (hB0 : 1 ≤ B) (hB1 : B ≤ 64)
    (eg1 : ∀ args w, (callFunc g1 args).run Try.prog w = .ok (.enter g1 args) w) (eg2 : ∀ args w, (callFunc g2 args).run Try.prog w = .ok (.enter g2 args) w) (hn : NumAt A B num g1 lb1 w) (hx : NxtAt A B nx g2 lb2 w) :
    Calls Try.prog 21 #[.int .i64 A, .int .i64 B, .func (.func g1) #[] lb1, .func (.func g2) #[] lb2] w (RetGo (makeA 2 (A * B) (mdA A B num nx)).1 (makeA 2 (A * B) (mdA A B num nx)).2 w) := by
  have HNU := hidI hn; have HNX := hidI hx
  clear hn hx
  obtain ⟨i0, hi0, hz0, hz1, hz2⟩ := info_parts infoE
  obtain ⟨w0, hw0⟩ : ∃ w0, w0 = w.alloc (.cells #[.int .i64 0, .int .i64 0, .slice none 0 0] 24) := ⟨_, rfl⟩
  have b0 : VRow w0 w.heap.size 24 [.int .i64 0, .int .i64 0, .slice none 0 0] := by subst hw0; exact VRow.new w _ _
  have hW0 : RowKit.Below w.heap.size w w0 := by subst hw0; exact (RowKit.Below.refl _ _).alloc (Nat.le_refl _) _
  have hlt0 : w.heap.size < w0.heap.size := b0.lt
  have hsz0 := hW0.size
  obtain ⟨M, hM⟩ : ∃ M : Nat, (M : Int) = A := ⟨A.toNat, by omega⟩
  obtain ⟨N, hN⟩ : ∃ N : Nat, (N : Int) = B := ⟨B.toNat, by omega⟩
  obtain ⟨x, hx⟩ : ∃ x, makeA 2 (A * B) (mdA A B num nx) = x := ⟨_, rfl⟩
  rw [hx]
  obtain ⟨R, k⟩ := x
  have HMD : Hid (makeA 2 (A * B) (md3 A B num nx M) = (R, k)) := by rw [Hid, ← hx]; unfold mdA; rw [← hM, Int.toNat_natCast]
  clear hx
  have HNB : Hid (B.toNat = N) := by rw [Hid, ← hN, Int.toNat_natCast]
  go_enter Try.func21, Try.ntmps21
  go_wp2
  rw [← hw0]
  clear hw0
  go_loopw [10, 17] (fun lv iv wr => ∃ k : Nat, k ≤ M ∧ iv = .int .i64 k ∧ (md3 A B num nx k).length ≤ 128 * k ∧ wr.ownsRow w0.heap.size 47 3 lv (md3 A B num nx k).length (cat (md3 A B num nx k)) ∧ RowKit.Below w0.heap.size w0 wr) (fun _ iv _ => M - (intOf iv).toNat)
  case atStart => exact ⟨0, by omega, rfl, by rw [md3_zero]; simp, World.ownsRow_nil _ _ _ _, RowKit.Below.refl _ _⟩
  case round =>
    obtain ⟨a, ha, rfl, hL3, hown, hB⟩ := hrel
    by_cases hlt : a < M
    · have hltA : (a : Int) < A := by omega
      have H3S : Hid (md3 A B num nx (a + 1) = md3 A B num nx a ++ md2 A B num nx a N) := by rw [Hid, md3_succ, HNB.out]
      generalize md3 A B num nx a = L3 at *
      obtain ⟨wo, rfl⟩ : ∃ wo : World, wo = wr := ⟨_, rfl⟩
      go_wp2
      go_loopw [10, 21] (fun lv iv wr => ∃ k : Nat, k ≤ N ∧ iv = .int .i64 k ∧ (L3 ++ md2 A B num nx a k).length ≤ 128 * a + 2 * k ∧ wr.ownsRow w0.heap.size 47 3 lv (L3 ++ md2 A B num nx a k).length (cat (L3 ++ md2 A B num nx a k)) ∧ RowKit.Below w0.heap.size w0 wr) (fun _ iv _ => N - (intOf iv).toNat)
      case atStart => exact ⟨0, by omega, rfl, by rw [md2_zero, List.append_nil]; omega, by rw [md2_zero, List.append_nil]; exact hown, hB⟩
      case round =>
        clear hown hB hL3
        obtain ⟨b, hb, rfl, hL2, hown, hB⟩ := hrel
        by_cases hltb : b < N
        · have hltB : (b : Int) < B := by omega
          have H2S : Hid (L3 ++ md2 A B num nx a (b + 1) = (L3 ++ md2 A B num nx a b) ++ md1 A B num nx a b 2) := by rw [Hid, md2_succ, List.append_assoc]
          generalize L3 ++ md2 A B num nx a b = L2 at *
          obtain ⟨wp, rfl⟩ : ∃ wp : World, wp = wr := ⟨_, rfl⟩
          go_wp2
          go_loopw [10, 24] (fun lv iv wr => ∃ k : Nat, k ≤ 2 ∧ iv = .int .i64 k ∧ (L2 ++ md1 A B num nx a b k).length ≤ 128 * a + 2 * b + k ∧ wr.ownsRow w0.heap.size 47 3 lv (L2 ++ md1 A B num nx a b k).length (cat (L2 ++ md1 A B num nx a b k)) ∧ RowKit.Below w0.heap.size w0 wr) (fun _ iv _ => 2 - (intOf iv).toNat)
          case atStart => exact ⟨0, by omega, rfl, by rw [md1_zero, List.append_nil]; omega, by rw [md1_zero, List.append_nil]; exact hown, hB⟩
          case round =>
            clear hown hB hL2
            obtain ⟨l, hl, rfl, hL1, hown, hB⟩ := hrel
            by_cases hltl : l < 2
            · have hl2 : (l : Int) < 2 := by omega
              have H1S : Hid (L2 ++ md1 A B num nx a b (l + 1) = (L2 ++ md1 A B num nx a b l) ++ mdB A B num nx a b l) := by rw [Hid, md1_succ, List.append_assoc]
              have HB1 := hidI (@mdB_go A B num nx a b l); have HB2 := hidI (@mdB_stop A B num nx a b l)
              have HCX := hidI (HNX.out wr a b l (hW0.trans (hB.mono hsz0)) (by omega) hltA (by omega) hltB (by omega) hl2)
              have HCN := hidI (fun W h => HNU.out W a b h (by omega) hltA (by omega) hltB)
              generalize L2 ++ md1 A B num nx a b l = L1 at *
              generalize nx a b l = cd at *
              obtain ⟨c, d⟩ := cd
              obtain ⟨wq, rfl⟩ : ∃ wq : World, wq = wr := ⟨_, rfl⟩
              have HIN := hidI (⟨hltA, hltB, hl2⟩ : (a : Int) < A ∧ (b : Int) < B ∧ (l : Int) < 2)
              clear hltA hltB hl2
              go_wp2_with fail
              go_at_fn g2
              refine HCX.out.mono ?_
              rintro e w1 ⟨rfl, hD⟩
              have hBw := hB.trans (hD.below _)
              have hownw := hown.dr hD
              clear hD hB hown
              by_cases hm : 0 ≤ c ∧ c < A ∧ 0 ≤ d ∧ d < B
              · have H1E := hidI (HB1.out hm)
                obtain ⟨hc0, hcA, hd0, hdB⟩ := hm
                have HY1 := hidI (HCN.out w1 (hW0.trans (hBw.mono hsz0)))
                have HCM := hidI (fun W h => HNU.out W c d h hc0 hcA hd0 hdB)
                generalize num a b = na at *
                generalize num c d = nc at *
                go_wp2_with fail
                go_at_fn g1
                refine HY1.out.mono ?_
                rintro e w2 ⟨rfl, hD2⟩
                have hB2 := hBw.trans (hD2.below _)
                have hown2 := hownw.dr hD2
                have HY2 := hidI (HCM.out w2 (hW0.trans (hB2.mono hsz0)))
                clear hBw hownw hD2
                go_wp2_with fail
                go_at_fn g1
                refine HY2.out.mono ?_
                rintro e w3 ⟨rfl, hD3⟩
                have hB3 := hB2.trans (hD3.below _)
                have hown3 := hown2.dr hD3
                clear hB2 hown2 hD3
                have hszw := hB3.size
                have hnew := cell_new3 w3 ⟨na, (l : Int), nc⟩ 47 w3.heap.size rfl
                have hownA := hown3.alloc (.cells (edE ⟨na, (l : Int), nc⟩).toArray 47)
                have hBA := hB3.alloc hB3.size (.cells (edE ⟨na, (l : Int), nc⟩).toArray 47)
                have hne := fun j e => (hown3.lt j e).1
                clear hc0 hcA hd0 hdB
                go_wp2_with (at_builtin; refine wpList_append_own _ rfl _ _ 22 rfl w0.heap.size 47 i0 _ 3 24 Try.underlying22 hi0 hz0 hz1 hz2 rfl (by decide) _ _ _ rfl hownA ⟨w3.heap.size, 0, none⟩ 1 1 (cat [⟨na, (l : Int), nc⟩]) rfl rfl hnew (cat_one _) (by simp [maxLen]; omega) (by omega) (by rw [World.size_alloc]; omega) ?_; intro v' w4 hown' hgrow _; rw [← cat_app] at hown')
                have hBf := hBA.grown hgrow (Nat.le_trans hszw (by simp)) hne
                go_roundw
                case rel =>
                  refine ⟨l + 1, by omega, by go_num, ?_, ?_, hBf⟩
                  · rw [H1S.out, H1E.out, List.length_append, List.length_singleton]; omega
                  · rw [H1S.out, H1E.out]; exact own_conv hown' rfl (Nat.le_refl _)
                case measure => simp [intOf]; omega
              · have H1E : Hid (L2 ++ md1 A B num nx a b (l + 1) = L1) := by rw [Hid, H1S.out, HB2.out hm, List.append_nil]
                have hor : decide (0 ≤ c) = false ∨ (0 ≤ c ∧ decide (c < A) = false) ∨ (0 ≤ c ∧ c < A ∧ decide (0 ≤ d) = false) ∨ (0 ≤ c ∧ c < A ∧ 0 ≤ d ∧ decide (d < B) = false) := by
                  by_cases h1 : 0 ≤ c
                  · by_cases h2 : c < A
                    · by_cases h3 : 0 ≤ d
                      · exact .inr (.inr (.inr ⟨h1, h2, h3, decide_eq_false (fun h4 => hm ⟨h1, h2, h3, h4⟩)⟩))
                      · exact .inr (.inr (.inl ⟨h1, h2, decide_eq_false h3⟩))
                    · exact .inr (.inl ⟨h1, decide_eq_false h2⟩)
                  · exact .inl (decide_eq_false h1)
                clear hm HB1 HB2
                rcases hor with h1 | ⟨h1, h2⟩ | ⟨h1, h2, h3⟩ | ⟨h1, h2, h3, h4⟩
                all_goals
                  go_wp2_with fail
                  go_roundw
                  case rel => exact ⟨l + 1, by omega, by go_num, by rw [H1E.out]; omega, by rw [H1E.out]; exact hownw, hBw⟩
                  case measure => simp [intOf]; omega
            · have HL : Hid (l = 2) := by unfold Hid; omega
              have hl2 : ¬ (l : Int) < 2 := by omega
              have HR : Hid (L2 ++ md1 A B num nx a b l = L3 ++ md2 A B num nx a (b + 1)) := by rw [Hid, H2S.out, HL.out]
              go_wp2
              go_roundw
              case rel => exact ⟨b + 1, by omega, by go_num, by rw [← HR.out]; omega, by rw [← HR.out]; exact hown, hB⟩
              case measure => simp [intOf]; omega
        · obtain rfl : b = N := by omega
          have hbB : ¬ (b : Int) < B := by omega
          go_wp2
          go_roundw
          case rel => exact ⟨a + 1, by omega, by go_num, by rw [H3S.out]; omega, by rw [H3S.out]; exact hown, hB⟩
          case measure => simp [intOf]; omega
    · obtain rfl : a = M := by omega
      have haA : ¬ (a : Int) < A := by omega
      generalize md3 A B num nx a = L at *
      have hAB0 : 0 ≤ A * B := Int.mul_nonneg (by omega) (by omega)
      have hAB1 : A * B ≤ 64 * 64 := Int.mul_le_mul hA1 hB1 (by omega) (by omega)
      obtain ⟨p, c, rfl, hsg, _⟩ := own_sg hown
      have br := b0.below hB b0.lt
      have xr := hW0.trans (hB.mono hsz0)
      generalize hAB : A * B = K at *
      go_wp2_with fail
      refine (gMake_own 2 K L p c wr hsg (by omega)).mono ?_
      rw [HMD.out]
      rintro e w4 ⟨p4, m4, c4, rfl, hown4, hB4⟩
      have x4 := xr.trans (hB4.mono xr.size)
      have e14 := br.below hB4 br.lt
      have hz3 : w.heap.size < wr.heap.size := br.lt
      have j0 := e14.at 0 rfl; have j1 := e14.at 1 rfl; have j2 := e14.at 2 rfl
      have z0 := e14.frozen 0; have z1 := e14.frozen 1; have z2 := e14.frozen 2
      go_wp2
      have r6 := VRow.set (i := 2) (.slice p4 m4 c4) (VRow.set (i := 1) (.int .i64 R.n) (VRow.set (i := 0) (.int .i64 R.q) e14))
      have y0 := r6.at 0 rfl; have y1 := r6.at 1 rfl; have y2 := r6.at 2 rfl
      have o6 := ownsRow_setCell_below (a := (⟨w.heap.size, 2, none⟩ : Addr)) (ownsRow_setCell_below (a := (⟨w.heap.size, 1, none⟩ : Addr)) (ownsRow_setCell_below (a := (⟨w.heap.size, 0, none⟩ : Addr)) hown4 hz3 (.int .i64 R.q)) hz3 (.int .i64 R.n)) hz3 (.slice p4 m4 c4)
      have x6 : RowKit.Below w.heap.size w (((w4.setCell (⟨w.heap.size, 0, none⟩ : Addr) (.int .i64 R.q)).setCell (⟨w.heap.size, 1, none⟩ : Addr) (.int .i64 R.n)).setCell (⟨w.heap.size, 2, none⟩ : Addr) (.slice p4 m4 c4)) :=
        ((x4.setCell (Nat.le_refl _) _).setCell (Nat.le_refl _) _).setCell (Nat.le_refl _) _
      refine bodyPost_ret (v := .tuple #[.agg #[.int .i64 R.q, .int .i64 R.n, .slice p4 m4 c4], .int .i64 k]) (by simp [results, Try.results21, go_sem, y0, y1, y2]) rfl ?_
      exact ⟨p4, m4, c4, rfl, own_conv o6 rfl (by omega), x6⟩
end Go.Proofs.Ytlgjhmenjfmpfaa
