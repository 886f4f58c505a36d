/-
  Words, plain lemmas and walks, merged: Cd, Ck, Pe, Cp, Cb, Ce.
-/
import Derived.Test.YtlgjhmenjfmpfaaMcg
import Derived.Test.YtlgjhmenjfmpfaaMcf
namespace Go.Proofs.Ytlgjhmenjfmpfaa
open Go.RowKit Go.Sort Go.Shelf Go.Lib

/-! ### What the functions answer -/
def crgA (n : Int) : Gr × Int := if 1 ≤ n ∧ n < 64 then makeA 2 (n + 1) (crgE n.toNat) else (⟨0, 0, []⟩, 2)
def nulA (n : Int) : Gr × Int := if 1 ≤ n ∧ n ≤ 31 then ((essA (makeA 2 (2 * n + 2) (nulE n (n + 1).toNat)).1).1, (essA (makeA 2 (2 * n + 2) (nulE n (n + 1).toNat)).1).2.2) else (⟨0, 0, []⟩, 2)
def secA (n m : Int) : Gr × Int := if 2 ≤ n ∧ n ≤ 62 ∧ n.tmod 2 = 0 ∧ 1 ≤ m ∧ m ≤ 62 then
    (if (n + 1) * (m + 1) ≤ 64 then ((essA (makeA 2 ((n + 1) * (m + 1)) (mdA (n + 1) (m + 1) (numS m) (nxS (n.tdiv 2)))).1).1, (essA (makeA 2 ((n + 1) * (m + 1)) (mdA (n + 1) (m + 1) (numS m) (nxS (n.tdiv 2)))).1).2.2)
    else (⟨0, 0, []⟩, 4)) else (⟨0, 0, []⟩, 2)
theorem crgA_ok {n : Int} (h1 : 1 ≤ n) (h2 : n < 64) : makeA 2 ((n + 1) * 1) (mdA (n + 1) 1 numC nxC) = crgA n := by
  unfold crgA
  rw [if_pos ⟨h1, h2⟩, Int.mul_one]
  exact makeA_same (crg_same n (by omega))
theorem crgA_ref {n : Int} (h1 : 1 ≤ n) (h2 : n < 64) : crgA n = makeA 2 (n + 1) (crgE n.toNat) := if_pos ⟨h1, h2⟩
theorem crgA_bad {n : Int} (h : ¬ (1 ≤ n ∧ n < 64)) : crgA n = (⟨0, 0, []⟩, 2) := if_neg h
theorem nulA_ref {n : Int} (h1 : 1 ≤ n) (h2 : n ≤ 31) : nulA n = ((essA (makeA 2 (2 * n + 2) (nulE n (n + 1).toNat)).1).1, (essA (makeA 2 (2 * n + 2) (nulE n (n + 1).toNat)).1).2.2) := if_pos ⟨h1, h2⟩
theorem nulA_bad {n : Int} (h : ¬ (1 ≤ n ∧ n ≤ 31)) : nulA n = (⟨0, 0, []⟩, 2) := if_neg h
/-- An essential part, where the making before it did well. -/
def esP (x : Gr × Int) : Gr × Int := if x.2 = 0 then ((essA x.1).1, (essA x.1).2.2) else (⟨0, 0, []⟩, x.2)
theorem esP_ok {q n : Int} {l : List Ed} (h : chkG ⟨q, n, norm l⟩ = 0) : esP (makeA q n l) = ((essA (makeA q n l).1).1, (essA (makeA q n l).1).2.2) := by
  unfold esP; rw [if_pos (by rw [makeA_ok h])]
theorem nul_num {n a b : Int} (h1 : 1 ≤ n) (ha : 0 ≤ a) (hb : a < n + 1) (hc : 0 ≤ b) (hd : b < 2) : 0 ≤ numN a b ∧ numN a b < (n + 1) * 2 := by unfold numN; omega
theorem nulA_ok {n : Int} (h1 : 1 ≤ n) (h2 : n ≤ 31) : esP (makeA 2 ((n + 1) * 2) (mdA (n + 1) 2 numN nxN)) = nulA n := by
  rw [esP_ok (mdA_chk (by omega) (by omega) (by omega) (fun a b ha hb hc hd => nul_num h1 ha hb hc hd)), nulA_ref h1 h2, makeA_same (nul_same n (by omega)), show (n + 1) * 2 = 2 * n + 2 by omega]
theorem sec_num {n m a b : Int} (hm : 1 ≤ m) (ha : 0 ≤ a) (hb : a < n + 1) (hc : 0 ≤ b) (hd : b < m + 1) : 0 ≤ numS m a b ∧ numS m a b < (n + 1) * (m + 1) := by
  unfold numS
  have h1 : 0 ≤ a * (m + 1) := Int.mul_nonneg ha (by omega)
  have h2 : (a + 1) * (m + 1) ≤ (n + 1) * (m + 1) := Int.mul_le_mul_of_nonneg_right (by omega) (by omega)
  rw [Int.add_mul, Int.one_mul] at h2
  omega
theorem secA_ok {n m : Int} (h : 2 ≤ n ∧ n ≤ 62 ∧ n.tmod 2 = 0 ∧ 1 ≤ m ∧ m ≤ 62) (h2 : (n + 1) * (m + 1) ≤ 64) : esP (makeA 2 ((n + 1) * (m + 1)) (mdA (n + 1) (m + 1) (numS m) (nxS (n.tdiv 2)))) = secA n m := by
  rw [esP_ok (mdA_chk (by omega) (by omega) h2 (fun a b ha hb hc hd => sec_num h.2.2.2.1 ha hb hc hd))]
  unfold secA
  rw [if_pos h, if_pos h2]
theorem secA_ref {n m : Int} (h : 2 ≤ n ∧ n ≤ 62 ∧ n.tmod 2 = 0 ∧ 1 ≤ m ∧ m ≤ 62) (h2 : (n + 1) * (m + 1) ≤ 64) :
    secA n m = ((essA (makeA 2 ((n + 1) * (m + 1)) (mdA (n + 1) (m + 1) (numS m) (nxS (n.tdiv 2)))).1).1, (essA (makeA 2 ((n + 1) * (m + 1)) (mdA (n + 1) (m + 1) (numS m) (nxS (n.tdiv 2)))).1).2.2) := by
  unfold secA; rw [if_pos h, if_pos h2]
theorem secA_big {n m : Int} (h : 2 ≤ n ∧ n ≤ 62 ∧ n.tmod 2 = 0 ∧ 1 ≤ m ∧ m ≤ 62) (h2 : ¬ (n + 1) * (m + 1) ≤ 64) : secA n m = (⟨0, 0, []⟩, 4) := by unfold secA; rw [if_pos h, if_neg h2]
theorem secA_bad {n m : Int} (h : ¬ (2 ≤ n ∧ n ≤ 62 ∧ n.tmod 2 = 0 ∧ 1 ≤ m ∧ m ≤ 62)) : secA n m = (⟨0, 0, []⟩, 2) := by unfold secA; rw [if_neg h]

/-! ### A graph stored into the result's box -/
def set3 (w : World) (B : Nat) (x y z : Value) : World := ((w.setCell ⟨B, 0, none⟩ x).setCell ⟨B, 1, none⟩ y).setCell ⟨B, 2, none⟩ z
theorem box3 {w w4 : World} {B : Nat} {G : Gr} {p : Option Addr} {c : Nat} (e : VRow w4 B 24 [.int .i64 0, .int .i64 0, .slice none 0 0]) (hs : Sg 3 w4 edE p G.es) (hB : RowKit.Below w.heap.size w w4) (hw : w.heap.size ≤ B) :
    VRow (set3 w4 B (.int .i64 G.q) (.int .i64 G.n) (.slice p G.es.length c)) B 24 [.int .i64 G.q, .int .i64 G.n, .slice p G.es.length c] ∧ Sg 3 (set3 w4 B (.int .i64 G.q) (.int .i64 G.n) (.slice p G.es.length c)) edE p G.es ∧
      RowKit.Below w.heap.size w (set3 w4 B (.int .i64 G.q) (.int .i64 G.n) (.slice p G.es.length c)) := by
  unfold set3
  have r1 := VRow.set (i := 0) (.int .i64 G.q) e
  have r2 := VRow.set (i := 1) (.int .i64 G.n) r1
  have r3 := VRow.set (i := 2) (.slice p G.es.length c) r2
  exact ⟨r3, sg_box r2 (sg_box r1 (sg_box e hs _ _) _ _) _ _, ((hB.setCell (show w.heap.size ≤ B from hw) _).setCell (show w.heap.size ≤ B from hw) _).setCell (show w.heap.size ≤ B from hw) _⟩
theorem RetGo.open {G : Gr} {k : Int} {w w' : World} {e : Ending} (h : RetGo G k w e w') : ∃ p c, e = .returned (.tuple #[(.agg #[.int .i64 G.q, .int .i64 G.n, .slice p G.es.length c]), .int .i64 k]) ∧ Sg 3 w' edE p G.es ∧ G.es.length ≤ c ∧ w'.ownsRow w.heap.size 47 3 (.slice p G.es.length c) G.es.length (cat G.es) ∧ RowKit.Below w.heap.size w w' := by
  obtain ⟨p, m, c, rfl, ho, hB⟩ := h
  obtain ⟨p', c', he, hs, hc, _⟩ := own_sg ho
  cases he
  exact ⟨p, c, rfl, hs, hc, ho, hB⟩
theorem RetEs.open {G : Gr} {l : List Int} {k : Int} {w w' : World} {e : Ending} (h : RetEs G l k w e w') : ∃ p c v, e = .returned (.tuple #[(.agg #[.int .i64 G.q, .int .i64 G.n, .slice p G.es.length c]), v, .int .i64 k]) ∧ Sg 3 w' edE p G.es ∧ G.es.length ≤ c ∧ w'.ownsRow w.heap.size 47 3 (.slice p G.es.length c) G.es.length (cat G.es) ∧ RowKit.Below w.heap.size w w' := by
  obtain ⟨p, m, c, q, d, rfl, ho, _, hB⟩ := h
  obtain ⟨p', c', he, hs, hc, _⟩ := own_sg ho
  cases he
  exact ⟨p, c, _, rfl, hs, hc, ho, hB⟩

/-! ### The function values -/
theorem numC_at (n : Int) (h : n < 64) (w : World) : NumAt (n + 1) 1 numC 22 #[] w := by
  intro W a b _ h1 h2 h3 h4
  show Calls Try.prog 22 #[.int .i64 a, .int .i64 b] W _
  go_enter Try.func22, Try.ntmps22
  go_wp2
  go_ret
  exact ⟨rfl, Dr.refl _⟩
theorem nxC_at (n : Int) (h : n < 64) (w : World) : NxtAt (n + 1) 1 nxC 23 #[] w := by
  intro W a b l _ h1 h2 h3 h4 h5 h6
  show Calls Try.prog 23 #[.int .i64 a, .int .i64 b, .int .i64 l] W _
  have HX : Hid (nxC a b l = (a + 2 * l - 1, 0)) := rfl
  go_enter Try.func23, Try.ntmps23
  go_wp2
  go_ret2
  exact ⟨by rw [HX.out]; rfl, Dr.refl _⟩
theorem numN_at (n : Int) (h : n < 64) (w : World) : NumAt (n + 1) 2 numN 26 #[] w := by
  intro W a b _ h1 h2 h3 h4
  show Calls Try.prog 26 #[.int .i64 a, .int .i64 b] W _
  have HX : Hid (numN a b = 2 * a + b) := rfl
  go_enter Try.func26, Try.ntmps26
  go_wp2
  go_ret
  exact ⟨by rw [HX.out]; rfl, Dr.refl _⟩
theorem nxN_at (n : Int) (h : n < 64) (w : World) : NxtAt (n + 1) 2 nxN 27 #[] w := by
  intro W a b l _ h1 h2 h3 h4 h5 h6
  show Calls Try.prog 27 #[.int .i64 a, .int .i64 b, .int .i64 l] W _
  by_cases hb : b = 1
  · have HX : Hid (nxN a b l = (a + 2 * (1 - l) - 1, 0)) := by unfold Hid nxN; rw [if_pos hb, hb]; rfl
    have hbb : (b == 1) = true := by simpa using hb
    go_enter Try.func27, Try.ntmps27
    go_wp2
    go_ret2
    exact ⟨by rw [HX.out]; rfl, Dr.refl _⟩
  · have HX : Hid (nxN a b l = (a + 2 * l - 1, 1 - b)) := by unfold Hid nxN; rw [if_neg hb]
    have hbb : (b == 1) = false := by simpa using hb
    go_enter Try.func27, Try.ntmps27
    go_wp2
    go_ret2
    exact ⟨by rw [HX.out]; rfl, Dr.refl _⟩
theorem numS_at (n m : Int) (h : n < 64) (hm0 : 1 ≤ m) (hm : m < 64) (b0 : Nat) (w : World) (hb : VRow w b0 3 [.int .i64 m]) : NumAt (n + 1) (m + 1) (numS m) 29 #[.pointer (some ⟨b0, 0, none⟩)] w := by
  intro W a b hW h1 h2 h3 h4
  show Calls Try.prog 29 #[.int .i64 a, .int .i64 b, .pointer (some ⟨b0, 0, none⟩)] W _
  have e0 := (hb.below hW hb.lt).at 0 rfl
  have HX : Hid (numS m a b = a * (m + 1) + b) := rfl
  have g1 : 0 ≤ a * (m + 1) := Int.mul_nonneg h1 (by omega)
  have g2 : a * (m + 1) ≤ 64 * 64 := Int.mul_le_mul (by omega) (by omega) (by omega) (by omega)
  go_enter Try.func29, Try.ntmps29
  go_wp2
  go_ret
  exact ⟨by rw [HX.out]; rfl, Dr.refl _⟩
theorem nxS_at (n m : Int) (hn0 : 2 ≤ n) (h : n < 64) (hm : m < 64) (b0 : Nat) (w : World) (hb : VRow w b0 3 [.int .i64 n]) : NxtAt (n + 1) (m + 1) (nxS (n.tdiv 2)) 30 #[.pointer (some ⟨b0, 0, none⟩)] w := by
  intro W a b l hW h1 h2 h3 h4 h5 h6
  show Calls Try.prog 30 #[.int .i64 a, .int .i64 b, .int .i64 l, .pointer (some ⟨b0, 0, none⟩)] W _
  have e0 := (hb.below hW hb.lt).at 0 rfl
  have HX : Hid (nxS (n.tdiv 2) a b l = (a + (2 * l - 1), b + (a + (2 * l - 1)) - n.tdiv 2)) := rfl
  have g1 : 0 ≤ n.tdiv 2 := Int.tdiv_nonneg (by omega) (by decide)
  have g2 : n.tdiv 2 ≤ 64 := by rw [Int.tdiv_eq_ediv_of_nonneg (by omega)]; omega
  go_enter Try.func30, Try.ntmps30
  go_wp2_with fail
  (refine wp_region_quiet_lit (by kernel_rfl) (by kernel_rfl) ?_; (repeat (first | go_big_quiet_step (fail) | quiet_step (fail))); refine wpQuiet_nil ?_; intro _ hwq; obtain ⟨nq, hwq2⟩ := hwq; subst hwq2)
  go_wp2
  go_ret2
  exact ⟨by rw [HX.out]; rfl, ⟨nq, rfl⟩⟩

/-! ### The functions -/
set_option maxHeartbeats 1000000 in
theorem cGraph_any (n : Int) (w : World) : Calls Try.prog 7 #[.int .i64 n] w (RetGr (crgA n).1 (crgA n).2 w) := by
  obtain ⟨w0, hw0⟩ : ∃ w0, w0 = w.alloc (.cells #[.int .i64 0, .int .i64 0, .slice none 0 0] 24) := ⟨_, rfl⟩
  have b0 : VRow w0 w.heap.size 24 [.int .i64 0, .int .i64 0, .slice none 0 0] := by subst hw0; exact VRow.new w _ _
  have hB0 : RowKit.Below w.heap.size w w0 := by subst hw0; exact (RowKit.Below.refl _ _).alloc (Nat.le_refl _) _
  by_cases h : 1 ≤ n ∧ n < 64
  · obtain ⟨h1, h2⟩ := h
    have HK0 := crgA_ok h1 h2
    obtain ⟨x, hx⟩ : ∃ x, crgA n = x := ⟨_, rfl⟩
    rw [hx] at HK0 ⊢
    obtain ⟨R, k⟩ := x
    have HK := hidI HK0
    clear hx HK0
    have HNA := hidI (numC_at n h2 w0)
    have HXA := hidI (nxC_at n h2 w0)
    go_enter Try.func7, Try.ntmps7
    go_wp2_with fail
    rw [← hw0]
    clear hw0
    refine (cMade_any (n + 1) 1 numC nxC 22 23 #[] #[] w0 (by omega) (by omega) (by decide) (by decide) (enters_of Try.func22 (by kernel_rfl) rfl) (enters_of Try.func23 (by kernel_rfl) rfl) HNA.out HXA.out).mono ?_
    rw [HK.out]
    intro e w4 hr
    obtain ⟨p, c, rfl, hs, hc, _, hB4⟩ := hr.open
    have x4 := hB0.trans (hB4.mono hB0.size)
    have e14 := b0.below hB4 b0.lt
    have HB := hidI (box3 (w := w) (c := c) e14 hs x4 (Nat.le_refl _))
    have j0 := e14.at 0 rfl; have j1 := e14.at 1 rfl; have j2 := e14.at 2 rfl
    have z0 := e14.frozen 0; have z1 := e14.frozen 1; have z2 := e14.frozen 2
    go_wp2
    obtain ⟨r6, s6, x6⟩ := HB.out
    unfold set3 at r6 s6 x6
    have y0 := r6.at 0 rfl; have y1 := r6.at 1 rfl; have y2 := r6.at 2 rfl
    refine bodyPost_ret (v := .tuple #[(.agg #[.int .i64 R.q, .int .i64 R.n, .slice p R.es.length c]), .int .i64 k]) (by simp [results, Try.results7, go_sem, y0, y1, y2]) rfl ?_
    exact ⟨p, c, rfl, s6, hc, x6⟩
  · have HK := hidI (crgA_bad h)
    rcases (show n < 1 ∨ (¬ n < 1 ∧ 64 ≤ n) by omega) with h1 | ⟨h1, h2⟩
    all_goals
      have y0 := b0.at 0 rfl; have y1 := b0.at 1 rfl; have y2 := b0.at 2 rfl
      go_enter Try.func7, Try.ntmps7
      go_wp2
      rw [← hw0]
      refine bodyPost_ret (v := .tuple #[.agg #[.int .i64 0, .int .i64 0, .slice none 0 0], .int .i64 2]) (by simp [results, Try.results7, go_sem, y0, y1, y2]) rfl ?_
      exact RetGr.of (G' := ⟨0, 0, []⟩) HK.out (Sg.nil _ _ _ _) (Nat.zero_le _) hB0

theorem makeA_len (q n : Int) (l : List Ed) : (makeA q n l).1.es.length ≤ l.length := by
  unfold makeA
  split
  · exact normC_len l
  · exact Nat.zero_le _

set_option maxRecDepth 100000 in
set_option maxHeartbeats 1000000 in
theorem cEss_any (G : Gr) (k : Int) (p : Option Addr) (c : Nat) (w : World) (hin : Sg 3 w edE p G.es) (hl : G.es.length ≤ 10000) : Calls Try.prog 25 #[(.agg #[.int .i64 G.q, .int .i64 G.n, .slice p G.es.length c]), .int .i64 k] w (RetGr (esP (G, k)).1 (esP (G, k)).2 w) := by
  have HIN := hidI hin
  clear hin
  obtain ⟨w0, hw0⟩ : ∃ w0, w0 = (w.alloc (.cells #[.int .i64 G.q, .int .i64 G.n, .slice p G.es.length c] 24)).alloc (.cells #[.int .i64 0, .int .i64 0, .slice none 0 0] 24) := ⟨_, rfl⟩
  have b1 : VRow w0 (w.heap.size + 1) 24 [.int .i64 0, .int .i64 0, .slice none 0 0] := by subst hw0; exact VRow.new1 w _ _ _
  have hB0 : RowKit.Below w.heap.size w w0 := by subst hw0; exact ((RowKit.Below.refl _ _).alloc (Nat.le_refl _) _).alloc (by simp) _
  by_cases hk : k = 0
  · subst hk
    obtain ⟨x, hx⟩ : ∃ x, essA G = x := ⟨_, rfl⟩
    obtain ⟨R, l, kk⟩ := x
    have HX := hidI hx
    have HK : esP (G, 0) = (R, kk) := by
      have h : esP (G, 0) = ((essA G).1, (essA G).2.2) := if_pos rfl
      rw [h, hx]
    rw [HK]
    clear hx HK
    go_enter Try.func25, Try.ntmps25
    go_wp2_with fail
    rw [← hw0]
    clear hw0
    refine (gEss_any G p c w0 (HIN.out.below hB0) hl).mono ?_
    rw [HX.out]
    intro e w4 hr
    obtain ⟨p4, c4, v, rfl, hs, hc, _, hB4⟩ := hr.open
    have x4 := hB0.trans (hB4.mono hB0.size)
    have e14 := b1.below hB4 b1.lt
    obtain ⟨w5, hw5⟩ : ∃ w5, w5 = w4.alloc (.cells #[.int .i64 R.q, .int .i64 R.n, .slice p4 R.es.length c4] 24) := ⟨_, rfl⟩
    have e15 : VRow w5 (w.heap.size + 1) 24 [.int .i64 0, .int .i64 0, .slice none 0 0] := by subst hw5; exact e14.alloc _
    have s5 : Sg 3 w5 edE p4 R.es := by subst hw5; exact hs.below ((RowKit.Below.refl _ _).alloc (Nat.le_refl _) _)
    have x5 : RowKit.Below w.heap.size w w5 := by subst hw5; exact x4.alloc x4.size _
    have HB := hidI (box3 (w := w) (B := w.heap.size + 1) (c := c4) e15 s5 x5 (by omega))
    have j0 := e15.at 0 rfl; have j1 := e15.at 1 rfl; have j2 := e15.at 2 rfl
    have z0 := e15.frozen 0; have z1 := e15.frozen 1; have z2 := e15.frozen 2
    rw [hw5] at j0 j1 j2 z0 z1 z2
    go_wp2
    rw [← hw5]
    obtain ⟨r6, s6, x6⟩ := HB.out
    unfold set3 at r6 s6 x6
    have y0 := r6.at 0 rfl; have y1 := r6.at 1 rfl; have y2 := r6.at 2 rfl
    refine bodyPost_ret (v := .tuple #[(.agg #[.int .i64 R.q, .int .i64 R.n, .slice p4 R.es.length c4]), .int .i64 kk]) (by simp [results, Try.results25, go_sem, y0, y1, y2]) rfl ?_
    exact ⟨p4, c4, rfl, s6, hc, x6⟩
  · have HK : Hid (esP (G, k) = (⟨0, 0, []⟩, k)) := if_neg hk
    have hkb : (k == 0) = false := by simpa using hk
    have y0 := b1.at 0 rfl; have y1 := b1.at 1 rfl; have y2 := b1.at 2 rfl
    go_enter Try.func25, Try.ntmps25
    go_wp2
    rw [← hw0]
    refine bodyPost_ret (v := .tuple #[.agg #[.int .i64 0, .int .i64 0, .slice none 0 0], .int .i64 k]) (by simp [results, Try.results25, go_sem, y0, y1, y2]) rfl ?_
    exact RetGr.of (G' := ⟨0, 0, []⟩) HK.out (Sg.nil _ _ _ _) (Nat.zero_le _) hB0

set_option maxHeartbeats 1000000 in
theorem cNull_any (n : Int) (w : World) : Calls Try.prog 9 #[.int .i64 n] w (RetGr (nulA n).1 (nulA n).2 w) := by
  obtain ⟨w0, hw0⟩ : ∃ w0, w0 = w.alloc (.cells #[.int .i64 0, .int .i64 0, .slice none 0 0] 24) := ⟨_, rfl⟩
  have b0 : VRow w0 w.heap.size 24 [.int .i64 0, .int .i64 0, .slice none 0 0] := by subst hw0; exact VRow.new w _ _
  have hB0 : RowKit.Below w.heap.size w w0 := by subst hw0; exact (RowKit.Below.refl _ _).alloc (Nat.le_refl _) _
  by_cases h : 1 ≤ n ∧ n ≤ 31
  · obtain ⟨h1, h2⟩ := h
    have HK0 := nulA_ok h1 h2
    obtain ⟨x, hx⟩ : ∃ x, nulA n = x := ⟨_, rfl⟩
    rw [hx] at HK0 ⊢
    obtain ⟨R', k'⟩ := x
    have HK := hidI HK0
    clear hx HK0
    have HL : Hid ((makeA 2 ((n + 1) * 2) (mdA (n + 1) 2 numN nxN)).1.es.length ≤ 10000) := by
      have h3 := makeA_len 2 ((n + 1) * 2) (mdA (n + 1) 2 numN nxN)
      have h4 := mdA_len (n + 1) 2 numN nxN
      have h5 : (n + 1).toNat ≤ 32 := by omega
      have h6 : 2 * Int.toNat 2 * (n + 1).toNat = 4 * (n + 1).toNat := rfl
      unfold Hid; omega
    have HNA := hidI (numN_at n (by omega) w0)
    have HXA := hidI (nxN_at n (by omega) w0)
    go_enter Try.func9, Try.ntmps9
    go_wp2_with fail
    rw [← hw0]
    clear hw0
    refine (cMade_any (n + 1) 2 numN nxN 26 27 #[] #[] w0 (by omega) (by omega) (by decide) (by decide) (enters_of Try.func26 (by kernel_rfl) rfl) (enters_of Try.func27 (by kernel_rfl) rfl) HNA.out HXA.out).mono ?_
    generalize makeA 2 ((n + 1) * 2) (mdA (n + 1) 2 numN nxN) = y at *
    obtain ⟨R, k⟩ := y
    intro e w4 hr
    obtain ⟨p, c, rfl, hs, _, _, hB4⟩ := hr.open
    have x4 := hB0.trans (hB4.mono hB0.size)
    have e14 := b0.below hB4 b0.lt
    go_wp2_with fail
    refine (cEss_any R k p c w4 hs HL.out).mono ?_
    rw [HK.out]
    rintro e w5 ⟨p5, c5, rfl, hs5, hc5, hB5⟩
    have x5 := x4.trans (hB5.mono x4.size)
    have e15 := e14.below hB5 e14.lt
    have HB := hidI (box3 (w := w) (c := c5) e15 hs5 x5 (Nat.le_refl _))
    have j0 := e15.at 0 rfl; have j1 := e15.at 1 rfl; have j2 := e15.at 2 rfl
    have z0 := e15.frozen 0; have z1 := e15.frozen 1; have z2 := e15.frozen 2
    go_wp2
    obtain ⟨r6, s6, x6⟩ := HB.out
    unfold set3 at r6 s6 x6
    have y0 := r6.at 0 rfl; have y1 := r6.at 1 rfl; have y2 := r6.at 2 rfl
    refine bodyPost_ret (v := .tuple #[(.agg #[.int .i64 R'.q, .int .i64 R'.n, .slice p5 R'.es.length c5]), .int .i64 k']) (by simp [results, Try.results9, go_sem, y0, y1, y2]) rfl ?_
    exact ⟨p5, c5, rfl, s6, hc5, x6⟩
  · have HK := hidI (nulA_bad h)
    rcases (show n < 1 ∨ (¬ n < 1 ∧ 31 < n) by omega) with h1 | ⟨h1, h2⟩
    all_goals
      have y0 := b0.at 0 rfl; have y1 := b0.at 1 rfl; have y2 := b0.at 2 rfl
      go_enter Try.func9, Try.ntmps9
      go_wp2
      rw [← hw0]
      refine bodyPost_ret (v := .tuple #[.agg #[.int .i64 0, .int .i64 0, .slice none 0 0], .int .i64 2]) (by simp [results, Try.results9, go_sem, y0, y1, y2]) rfl ?_
      exact RetGr.of (G' := ⟨0, 0, []⟩) HK.out (Sg.nil _ _ _ _) (Nat.zero_le _) hB0
end Go.Proofs.Ytlgjhmenjfmpfaa
namespace Go.Proofs.Ytlgjhmenjfmpfaa
open Go.RowKit

theorem mem_crgE {K : Nat} {x : Ed} : x ∈ crgE K ↔ ∃ s : Int, (0 ≤ s ∧ s < K) ∧ (x = ⟨s, 1, s + 1⟩ ∨ x = ⟨s + 1, 0, s⟩) := by
  unfold crgE; simp only [List.mem_flatMap, mem_uptoC, List.mem_cons, List.not_mem_nil, or_false]
def crgG (k : Int) : Gr := ⟨2, k + 1, norm (crgE k.toNat)⟩
theorem crg_chk {k : Int} (h1 : 1 ≤ k) (h2 : k < 64) : chkG (crgG k) = 0 := by
  refine chkG_norm (by omega) (by omega) (by omega) (by omega) (Nat.le_trans (crgE_len _) (by omega)) (fun x hx => ?_)
  obtain ⟨s, hs, rfl | rfl⟩ := mem_crgE.1 hx
  · exact ⟨hs.1, by show (0 : Int) ≤ 1; decide, by show (0 : Int) ≤ s + 1; omega, by show s < k + 1; omega, by show s + 1 < k + 1; omega, by show (1 : Int) < 2; decide⟩
  · exact ⟨by show (0 : Int) ≤ s + 1; omega, by show (0 : Int) ≤ 0; decide, hs.1, by show s + 1 < k + 1; omega, by show s < k + 1; omega, by show (0 : Int) < 2; decide⟩
theorem crgA_eq {k : Int} (h1 : 1 ≤ k) (h2 : k < 64) : crgA k = (crgG k, 0) := by
  rw [crgA_ref h1 h2]; exact makeA_ok (crg_chk h1 h2)
theorem crg_next {k : Int} (h1 : 1 ≤ k) (h2 : k < 64) {st : List Int} (hst : ∀ x ∈ st, 0 ≤ x ∧ x ≤ k) {b v : Int} (hb : (b = 0 ∧ v = -1) ∨ (b = 1 ∧ v = 1)) (t : Int) :
    t ∈ nextA (crgG k) st b ↔ (0 ≤ t ∧ t ≤ k) ∧ t - v ∈ st := by
  rw [mem_nextA (chkG_ok.1 (crg_chk h1 h2))]
  constructor
  · rintro ⟨x, hx, ht, hl, hf⟩
    have hx' : x ∈ crgE k.toNat := mem_norm.1 hx
    obtain ⟨s, hs, rfl | rfl⟩ := mem_crgE.1 hx'
    · have ht : s + 1 = t := ht
      have hl : (1 : Int) = b := hl
      have hf : s ∈ st := hf
      refine ⟨by omega, ?_⟩
      rw [show t - v = s by omega]; exact hf
    · have ht : s = t := ht
      have hl : (0 : Int) = b := hl
      have hf : s + 1 ∈ st := hf
      refine ⟨by omega, ?_⟩
      rw [show t - v = s + 1 by omega]; exact hf
  · rintro ⟨ht, hm⟩
    have hr := hst _ hm
    rcases hb with ⟨rfl, rfl⟩ | ⟨rfl, rfl⟩
    · exact ⟨⟨t + 1, 0, t⟩, mem_norm.2 (mem_crgE.2 ⟨t, by omega, .inr rfl⟩), rfl, rfl, by show t + 1 ∈ st; rwa [show t - -1 = t + 1 by omega] at hm⟩
    · exact ⟨⟨t - 1, 1, t⟩, mem_norm.2 (mem_crgE.2 ⟨t - 1, by omega, .inl (by rw [Int.sub_add_cancel])⟩), rfl, rfl, hm⟩
/-- A letter's label and value. -/
theorem bin_val {c : UInt8} (h : (c.toNat : Int) = 48 ∨ (c.toNat : Int) = 49) : (Chg.dig (c.toNat : Int) = 0 ∧ Chg.val1 (c.toNat : Int) = -1) ∨ (Chg.dig (c.toNat : Int) = 1 ∧ Chg.val1 (c.toNat : Int) = 1) := by
  rcases h with h | h <;> rw [h] <;> decide
theorem lo_le_su (v : Nat → Int) (k : Nat) : Chg.Lo v k ≤ Chg.Su v k := by
  cases k with
  | zero => simp [Chg.Lo, Chg.Su]
  | succ k => exact Int.min_le_right _ _
theorem su_le_hi (v : Nat → Int) (k : Nat) : Chg.Su v k ≤ Chg.Hi v k := by
  cases k with
  | zero => simp [Chg.Hi, Chg.Su]
  | succ k => exact Int.le_max_right _ _
theorem lo_le (v : Nat → Int) (k : Nat) : Chg.Lo v k ≤ 0 := by
  induction k with
  | zero => simp [Chg.Lo]
  | succ k ih => exact Int.le_trans (Int.min_le_left _ _) ih
theorem hi_ge (v : Nat → Int) (k : Nat) : 0 ≤ Chg.Hi v k := by
  induction k with
  | zero => simp [Chg.Hi]
  | succ k ih => exact Int.le_trans ih (Int.le_max_left _ _)
theorem crg_inv {k : Int} (h1 : 1 ≤ k) (h2 : k < 64) (s : ByteArray) (hc : Chg.wchk 2 s.data.toList = 0) : ∀ i, i ≤ s.size → ∀ t,
    t ∈ endA (crgG k) (upto (k + 1).toNat) ((ltr s).take i) ↔ 0 ≤ t - Chg.Su (Chg.vAt false s) i + Chg.Lo (Chg.vAt false s) i ∧ t - Chg.Su (Chg.vAt false s) i + Chg.Hi (Chg.vAt false s) i ≤ k
  | 0, _, t => by
    show t ∈ upto (k + 1).toNat ↔ _
    rw [mem_uptoC]
    simp only [Chg.Su, Chg.Lo, Chg.Hi]
    omega
  | i + 1, hi, t => by
    have hlt : i < s.size := hi
    have ih := crg_inv h1 h2 s hc i (by omega)
    have hv := bin_val (Chg.vals_bin s hc i hlt)
    have e : Chg.vAt false s i = Chg.val1 (s[i].toNat : Int) := Chg.vAt_f s i hlt
    rw [← e] at hv
    rw [ltr_take s i hlt, endA_snoc]
    have hr : ∀ x ∈ endA (crgG k) (upto (k + 1).toNat) ((ltr s).take i), 0 ≤ x ∧ x ≤ k := by
      intro x hx
      have := (ih x).1 hx
      have a1 := lo_le_su (Chg.vAt false s) i
      have a2 := su_le_hi (Chg.vAt false s) i
      omega
    rw [crg_next h1 h2 hr hv t, ih]
    simp only [Chg.Su, Chg.Lo, Chg.Hi]
    have a1 := lo_le_su (Chg.vAt false s) i
    have a2 := su_le_hi (Chg.vAt false s) i
    generalize Chg.vAt false s i = v at *
    generalize Chg.Su (Chg.vAt false s) i = u at *
    generalize Chg.Lo (Chg.vAt false s) i = lo at *
    generalize Chg.Hi (Chg.vAt false s) i = hi at *
    omega
theorem crg_acc {k : Int} (h1 : 1 ≤ k) (h2 : k < 64) (s : ByteArray) (hc : Chg.wchk 2 s.data.toList = 0) : accA (crgG k) s = decide (Chg.wid false s ≤ k) := by
  have hI := crg_inv h1 h2 s hc s.size (Nat.le_refl _)
  rw [ltr_all] at hI
  unfold accA Chg.wid
  show decide (0 < (endA (crgG k) (upto (k + 1).toNat) (ltr s)).length) = _
  rw [decide_eq_decide, List.length_pos_iff_exists_mem]
  constructor
  · rintro ⟨t, ht⟩
    have := (hI t).1 ht
    omega
  · intro h
    exact ⟨Chg.Su (Chg.vAt false s) s.size - Chg.Lo (Chg.vAt false s) s.size, (hI _).2 ⟨by omega, by omega⟩⟩
end Go.Proofs.Ytlgjhmenjfmpfaa
namespace Go.Proofs.Ytlgjhmenjfmpfaa
open Go.RowKit

/-- A set of states each of which has an edge from one of the set, and one to one of it. -/
def Sup (es : List Ed) (C : Int → Prop) : Prop := ∀ s, C s → (∃ x ∈ es, x.t = s ∧ C x.f) ∧ ∃ x ∈ es, x.f = s ∧ C x.t
theorem essP_iff {es : List Ed} {st : List Int} {s : Int} : essP es st s = true ↔ (∃ x ∈ es, x.t = s ∧ x.f ∈ st) ∧ ∃ x ∈ es, x.f = s ∧ x.t ∈ st := by
  simp [essP, cmsE, goesE, List.any_eq_true]
theorem sup_ess {es : List Ed} {C : Int → Prop} (hC : Sup es C) : ∀ n (st : List Int), st.length ≤ n → (∀ s, C s → s ∈ st) → ∀ s, C s → s ∈ ess es st := by
  intro n
  induction n with
  | zero =>
    intro st h hs
    have := essS_le es st
    rw [ess_stop (by omega)]; exact hs
  | succ n ih =>
    intro st h hs
    by_cases e : (essS es st).length = st.length
    · rw [ess_stop e]; exact hs
    · rw [ess_go e]
      refine ih _ (by have := essS_le es st; omega) (fun s hc => ?_)
      obtain ⟨⟨x, hx, e1, c1⟩, y, hy, e2, c2⟩ := hC s hc
      exact List.mem_filter.2 ⟨hs s hc, essP_iff.2 ⟨⟨x, hx, e1, hs _ c1⟩, y, hy, e2, hs _ c2⟩⟩
theorem ess_fix {es : List Ed} : ∀ n (st : List Int), st.length ≤ n → essS es (ess es st) = ess es st ∧ (ess es st).Sublist st := by
  intro n
  induction n with
  | zero =>
    intro st h
    have := essS_le es st
    rw [ess_stop (by omega)]; exact ⟨essS_eq (by omega), List.Sublist.refl _⟩
  | succ n ih =>
    intro st h
    by_cases e : (essS es st).length = st.length
    · rw [ess_stop e]; exact ⟨essS_eq e, List.Sublist.refl _⟩
    · rw [ess_go e]
      obtain ⟨a, b⟩ := ih (essS es st) (by have := essS_le es st; omega)
      exact ⟨a, b.trans List.filter_sublist⟩
/-- The states of the essential part. -/
def essT (G : Gr) : List Int := ess G.es (upto G.n.toNat)
theorem essT_st {G : Gr} (h : Vg G) : St G.n (essT G) := by
  have hs := (ess_fix (es := G.es) _ (upto G.n.toNat) (Nat.le_refl _)).2
  have hu := St.upto h.n1
  exact ⟨hu.srt.sublist hs, fun x hx => hu.ins x (hs.subset hx)⟩
theorem essT_P {G : Gr} {s : Int} (hs : s ∈ essT G) : essP G.es (essT G) s = true := by
  have h := (ess_fix (es := G.es) _ (upto G.n.toNat) (Nat.le_refl _)).1
  have : s ∈ essS G.es (essT G) := by rw [show essS G.es (essT G) = essT G from h]; exact hs
  exact (List.mem_filter.1 this).2
theorem essA_t {G : Gr} (h : Vg G) : essA G = (partA G (essT G), essT G, 0) := essA_ok (chkG_ok.2 h)
theorem iof_at {l : List Int} (hs : l.Pairwise (· < ·)) {i : Nat} (hi : i < l.length) : l.idxOf l[i] = i := by
  have hm : l[i] ∈ l := List.getElem_mem _
  have e := iof_get hm
  have hl := iof_lt hm
  rcases Nat.lt_trichotomy (l.idxOf l[i]) i with h | h | h
  · have := List.pairwise_iff_getElem.1 hs _ _ hl hi h; omega
  · exact h
  · have := List.pairwise_iff_getElem.1 hs _ _ hi hl h; omega
/-- Each state of the essential part has an edge to it and one from it. -/
theorem ess_edges {G : Gr} (h : Vg G) {t : Int} (h0 : 0 ≤ t) (h1 : t < (partA G (essT G)).n) : (∃ y ∈ (partA G (essT G)).es, y.t = t) ∧ ∃ y ∈ (partA G (essT G)).es, y.f = t := by
  have hs := essT_st h
  have hl : t.toNat < (essT G).length := by have : t < ((essT G).length : Int) := h1; omega
  have hm : (essT G)[t.toNat] ∈ essT G := List.getElem_mem _
  have hx := iof_at hs.srt hl
  obtain ⟨⟨x, hx1, e1, c1⟩, y, hy1, e2, c2⟩ := essP_iff.1 (essT_P hm)
  refine ⟨⟨_, List.mem_filterMap.2 ⟨x, hx1, part_go ⟨c1, by rw [e1]; exact hm⟩⟩, ?_⟩, ⟨_, List.mem_filterMap.2 ⟨y, hy1, part_go ⟨by rw [e2]; exact hm, c2⟩⟩, ?_⟩⟩
  · show (((essT G).idxOf x.t : Nat) : Int) = t
    rw [e1, hx]; omega
  · show (((essT G).idxOf y.f : Nat) : Int) = t
    rw [e2, hx]; omega
/-- The essential part of an essential part is itself. -/
theorem ess_ess {G : Gr} (h : Vg G) : essA (partA G (essT G)) = (partA G (essT G), upto (essT G).length, 0) := by
  have hs := essT_st h
  have hv := part_vg h hs
  have hn : (partA G (essT G)).n.toNat = (essT G).length := by show ((essT G).length : Int).toNat = _; omega
  have hst : ess (partA G (essT G)).es (upto (essT G).length) = upto (essT G).length := by
    refine ess_stop ?_
    have : essS (partA G (essT G)).es (upto (essT G).length) = upto (essT G).length := List.filter_eq_self.2 (fun t ht => by
      rw [mem_upto] at ht
      obtain ⟨⟨x, hx, e1⟩, y, hy, e2⟩ := ess_edges h ht.1 ht.2
      have ix := hv.ins x hx; have iy := hv.ins y hy
      have hnn : (partA G (essT G)).n = ((essT G).length : Int) := rfl
      exact essP_iff.2 ⟨⟨x, hx, e1, mem_upto.2 (by omega)⟩, y, hy, e2, mem_upto.2 (by omega)⟩)
    rw [this]
  rw [essA_ok (chkG_ok.2 hv), hn, hst]
  have := part_all hv
  rw [hn] at this
  rw [this]

/-! ### Closed paths -/
inductive Rch (es : List Ed) (a : Int) : Int → Prop
  | one {x : Ed} : x ∈ es → x.f = a → Rch es a x.t
  | more {x : Ed} : Rch es a x.f → x ∈ es → Rch es a x.t
theorem Rch.trans {es : List Ed} {a b c : Int} (h : Rch es a b) (k : Rch es b c) : Rch es a c := by
  induction k with
  | one hx e => subst e; exact .more h hx
  | more _ hx ih => exact .more ih hx
theorem Rch.head {es : List Ed} {a b : Int} (h : Rch es a b) : ∃ x ∈ es, x.f = a ∧ (x.t = b ∨ Rch es x.t b) := by
  induction h with
  | one hx e => exact ⟨_, hx, e, .inl rfl⟩
  | more _ hx ih =>
    obtain ⟨y, hy, e, h | h⟩ := ih
    · exact ⟨y, hy, e, .inr (.one hx h.symm)⟩
    · exact ⟨y, hy, e, .inr (.more h hx)⟩
theorem Rch.last {es : List Ed} {a b : Int} (h : Rch es a b) : ∃ x ∈ es, x.t = b ∧ (x.f = a ∨ Rch es a x.f) := by
  cases h with
  | one hx e => exact ⟨_, hx, rfl, .inl e⟩
  | more h hx => exact ⟨_, hx, rfl, .inr h⟩
theorem closed_ess {G : Gr} (h : Vg G) {a : Int} (hr : Rch G.es a a) : a ∈ essT G := by
  refine sup_ess (C := fun s => Rch G.es a s ∧ Rch G.es s a) (fun s hs => ⟨?_, ?_⟩) _ _ (Nat.le_refl _) (fun s hs => ?_) a ⟨hr, hr⟩
  · obtain ⟨x, hx, e, h1⟩ := hs.1.last
    refine ⟨x, hx, e, ?_⟩
    rcases h1 with h1 | h1
    · rw [h1]; exact ⟨hr, hr⟩
    · refine ⟨h1, Rch.trans (.one hx rfl) ?_⟩; rw [e]; exact hs.2
  · obtain ⟨x, hx, e, h1⟩ := hs.2.head
    refine ⟨x, hx, e, ?_⟩
    rcases h1 with h1 | h1
    · rw [h1]; exact ⟨hr, hr⟩
    · refine ⟨?_, h1⟩; exact Rch.trans hs.1 (.one hx e)
  · obtain ⟨x, hx, e, _⟩ := hs.1.last
    have := h.ins x hx; have := h.n1
    rw [mem_upto]; omega
end Go.Proofs.Ytlgjhmenjfmpfaa
namespace Go.Proofs.Ytlgjhmenjfmpfaa
open Go.RowKit

/-! ### Paths -/
def pth (es : List Ed) : Int → List Int → Int → Prop
  | u, [], t => u = t
  | u, b :: l, t => ∃ x ∈ es, x.f = u ∧ x.l = b ∧ pth es x.t l t
theorem mem_endA {G : Gr} (hv : Vg G) : ∀ (l st : List Int) (t : Int), t ∈ endA G st l ↔ ∃ u ∈ st, pth G.es u l t
  | [], st, t => by
    show t ∈ st ↔ _
    constructor
    · intro h; exact ⟨t, h, rfl⟩
    · rintro ⟨u, hu, rfl⟩; exact hu
  | b :: l, st, t => by
    show t ∈ endA G (nextA G st b) l ↔ _
    rw [mem_endA hv l]
    constructor
    · rintro ⟨u, hu, hp⟩
      obtain ⟨x, hx, rfl, h1, h2⟩ := (mem_nextA hv).1 hu
      exact ⟨x.f, h2, x, hx, rfl, h1, hp⟩
    · rintro ⟨u, hu, x, hx, rfl, h1, hp⟩
      exact ⟨x.t, (mem_nextA hv).2 ⟨x, hx, rfl, h1, hu⟩, hp⟩
theorem acc_iff {G : Gr} (hv : Vg G) (s : ByteArray) : accA G s = true ↔ ∃ u t, 0 ≤ u ∧ u < G.n ∧ pth G.es u (ltr s) t := by
  have hn := hv.n1
  unfold accA
  rw [decide_eq_true_eq, List.length_pos_iff_exists_mem]
  constructor
  · rintro ⟨t, ht⟩
    obtain ⟨u, hu, hp⟩ := (mem_endA hv _ _ _).1 ht
    have := mem_uptoC.1 hu
    exact ⟨u, t, this.1, by omega, hp⟩
  · rintro ⟨u, t, h0, h1, hp⟩
    exact ⟨t, (mem_endA hv _ _ _).2 ⟨u, mem_uptoC.2 ⟨h0, by omega⟩, hp⟩⟩
theorem pth_app {es : List Ed} : ∀ {l m : List Int} {u t : Int}, pth es u (l ++ m) t ↔ ∃ v, pth es u l v ∧ pth es v m t
  | [], m, u, t => by
    constructor
    · intro h; exact ⟨u, rfl, h⟩
    · rintro ⟨v, rfl, h⟩; exact h
  | b :: l, m, u, t => by
    show (∃ x ∈ es, x.f = u ∧ x.l = b ∧ pth es x.t (l ++ m) t) ↔ _
    constructor
    · rintro ⟨x, hx, h1, h2, h3⟩
      obtain ⟨v, h4, h5⟩ := pth_app.1 h3
      exact ⟨v, ⟨x, hx, h1, h2, h4⟩, h5⟩
    · rintro ⟨v, ⟨x, hx, h1, h2, h4⟩, h5⟩
      exact ⟨x, hx, h1, h2, pth_app.2 ⟨v, h4, h5⟩⟩
/-- A path of a part is one of the graph. -/
theorem pth_part {G : Gr} {st : List Int} : ∀ {l : List Int} {i j u : Int}, u ∈ st → ((st.idxOf u : Nat) : Int) = i → pth (partA G st).es i l j → ∃ v ∈ st, ((st.idxOf v : Nat) : Int) = j ∧ pth G.es u l v
  | [], i, j, u, hu, hi, hp => ⟨u, hu, by rw [hi]; exact hp, rfl⟩
  | b :: l, i, j, u, hu, hi, hp => by
    obtain ⟨y, hy, h1, h2, h3⟩ := hp
    obtain ⟨x, hx, hxy⟩ := List.mem_filterMap.1 (show y ∈ G.es.filterMap (partE st) from hy)
    obtain ⟨a1, a2, rfl⟩ := partE_some hxy
    have e : x.f = u := iof_inj a1 hu (by
      have h1 : ((st.idxOf x.f : Nat) : Int) = i := h1
      omega)
    obtain ⟨v, hv, hv2, hv3⟩ := pth_part a2 rfl h3
    exact ⟨v, hv, hv2, x, hx, e, h2, hv3⟩

/-! ### The second-order graph -/
def secH (n m : Int) : Gr := ⟨2, (n + 1) * (m + 1), norm (mdA (n + 1) (m + 1) (numS m) (nxS (n.tdiv 2)))⟩
def secG (n m : Int) : Gr := partA (secH n m) (essT (secH n m))
theorem secH_vg {n m : Int} (h : 2 ≤ n ∧ n ≤ 62 ∧ n.tmod 2 = 0 ∧ 1 ≤ m ∧ m ≤ 62) (h2 : (n + 1) * (m + 1) ≤ 64) : Vg (secH n m) :=
  chkG_ok.1 (mdA_chk (by omega) (by omega) h2 (fun a b ha hb hc hd => sec_num h.2.2.2.1 ha hb hc hd))
theorem secA_eq {n m : Int} (h : 2 ≤ n ∧ n ≤ 62 ∧ n.tmod 2 = 0 ∧ 1 ≤ m ∧ m ≤ 62) (h2 : (n + 1) * (m + 1) ≤ 64) : secA n m = (secG n m, 0) := by
  have hv := secH_vg h h2
  have hm : makeA 2 ((n + 1) * (m + 1)) (mdA (n + 1) (m + 1) (numS m) (nxS (n.tdiv 2))) = (secH n m, 0) := makeA_ok (chkG_ok.2 hv)
  rw [secA_ref h h2, hm]
  show ((essA (secH n m)).1, (essA (secH n m)).2.2) = _
  rw [essA_t hv]; rfl
theorem secG_vg {n m : Int} (h : 2 ≤ n ∧ n ≤ 62 ∧ n.tmod 2 = 0 ∧ 1 ≤ m ∧ m ≤ 62) (h2 : (n + 1) * (m + 1) ≤ 64) : Vg (secG n m) :=
  part_vg (secH_vg h h2) (essT_st (secH_vg h h2))
theorem numS_inj {m a b c d : Int} (hb : 0 ≤ b) (hb2 : b ≤ m) (hd : 0 ≤ d) (hd2 : d ≤ m) (e : numS m a b = numS m c d) : a = c ∧ b = d := by
  unfold numS at e
  have key : ∀ x y : Int, x + 1 ≤ y → x * (m + 1) + (m + 1) ≤ y * (m + 1) := by
    intro x y hxy
    have := Int.mul_le_mul_of_nonneg_right (a := x + 1) (b := y) (c := m + 1) hxy (by omega)
    rw [Int.add_mul, Int.one_mul] at this
    exact this
  rcases Int.lt_trichotomy a c with h | h | h
  · have := key a c (by omega); omega
  · subst h; exact ⟨rfl, by omega⟩
  · have := key c a (by omega); omega
/-- One letter more: the charge, and the sum of the charges. -/
def chS (h : Int) (p : Int × Int) (l : Int) : Int × Int := (p.1 + (2 * l - 1), p.2 + (p.1 + (2 * l - 1)) - h)
def inSc (n m : Int) (p : Int × Int) : Bool := decide (0 ≤ p.1) && (decide (p.1 ≤ n) && (decide (0 ≤ p.2) && decide (p.2 ≤ m)))
theorem inSc_iff {n m : Int} {p : Int × Int} : inSc n m p = true ↔ 0 ≤ p.1 ∧ p.1 ≤ n ∧ 0 ≤ p.2 ∧ p.2 ≤ m := by simp [inSc]
def okS (n m h : Int) : Int × Int → List Int → Bool
  | _, [] => true
  | p, l :: ls => inSc n m (chS h p l) && okS n m h (chS h p l) ls
theorem sec_ok {n m h : Int} (hh : h = n.tdiv 2) : ∀ {l : List Int} {c s t : Int}, 0 ≤ s → s ≤ m → pth (secH n m).es (numS m c s) l t → okS n m h (c, s) l = true
  | [], _, _, _, _, _, _ => rfl
  | b :: l, c, s, t, h0, h1, hp => by
    obtain ⟨x, hx, e1, e2, hp⟩ := hp
    obtain ⟨a, d, l', ha, hd, hl, hc, rfl⟩ := mem_mdA.1 (mem_norm.1 hx)
    obtain ⟨rfl, rfl⟩ := numS_inj hd.1 (by omega) h0 h1 e1
    have e3 : b = l' := e2.symm
    clear e2
    subst e3
    have e : chS h (a, d) b = nxS (n.tdiv 2) a d b := by subst hh; rfl
    rw [okS, e, Bool.and_eq_true]
    refine ⟨inSc_iff.2 ⟨hc.1, by omega, hc.2.2.1, by omega⟩, ?_⟩
    exact sec_ok (c := (nxS (n.tdiv 2) a d b).1) (s := (nxS (n.tdiv 2) a d b).2) hh hc.2.2.1 (by omega) hp
/-- The charge, the sum of the charges, and whether all stayed in their ranges. -/
def fS (n m h : Int) (x : (Int × Int) × Bool) (l : Int) : (Int × Int) × Bool := (chS h x.1 l, x.2 && inSc n m (chS h x.1 l))
def runS (n m h : Int) (p : Int × Int) (l : List Int) : (Int × Int) × Bool := l.foldl (fS n m h) (p, true)
theorem runS_ok (n m h : Int) : ∀ (l : List Int) (p : Int × Int) (b : Bool), (l.foldl (fS n m h) (p, b)).2 = (b && okS n m h p l)
  | [], p, b => by simp [okS]
  | x :: l, p, b => by
    rw [List.foldl_cons]
    show (l.foldl (fS n m h) (chS h p x, b && inSc n m (chS h p x))).2 = _
    rw [runS_ok n m h l, okS, Bool.and_assoc]
theorem runS_snoc (n m h : Int) (p : Int × Int) (l : List Int) (x : Int) : runS n m h p (l ++ [x]) = fS n m h (runS n m h p l) x := by simp [runS]
theorem runS_bd {n m h : Int} (hh : 0 ≤ h) (hh2 : h ≤ 10) : ∀ (l : List Int) (p : Int × Int) (K : Nat), (∀ x ∈ l, 0 ≤ x ∧ x ≤ 1) → K + l.length ≤ 40 → -(K : Int) ≤ p.1 ∧ p.1 ≤ 10 + K → -(60 * K : Int) ≤ p.2 ∧ p.2 ≤ 10 + 60 * K → ∀ b,
    -((K + l.length : Nat) : Int) ≤ (l.foldl (fS n m h) (p, b)).1.1 ∧ (l.foldl (fS n m h) (p, b)).1.1 ≤ 10 + ((K + l.length : Nat) : Int) ∧ -(60 * ((K + l.length : Nat) : Int)) ≤ (l.foldl (fS n m h) (p, b)).1.2 ∧ (l.foldl (fS n m h) (p, b)).1.2 ≤ 10 + 60 * ((K + l.length : Nat) : Int)
  | [], p, K, _, _, h1, h2, b => by
    show _ ≤ p.1 ∧ p.1 ≤ _ ∧ _ ≤ p.2 ∧ p.2 ≤ _
    simp only [List.length_nil, Nat.add_zero]
    omega
  | x :: l, p, K, hx, hk, h1, h2, b => by
    have hx0 := hx x (by simp)
    have ih := runS_bd (n := n) (m := m) hh hh2 l (chS h p x) (K + 1) (fun y hy => hx y (by simp [hy])) (by simp at hk; omega) (by simp only [chS]; simp at hk; omega) (by simp only [chS]; simp at hk; omega) (b && inSc n m (chS h p x))
    rw [List.foldl_cons, List.length_cons, show K + (l.length + 1) = K + 1 + l.length by omega]
    exact ih
/-- What is accepted stays in the ranges from some beginning. -/
theorem sec_found {n m h : Int} (hr : 2 ≤ n ∧ n ≤ 62 ∧ n.tmod 2 = 0 ∧ 1 ≤ m ∧ m ≤ 62) (h2 : (n + 1) * (m + 1) ≤ 64) (hh : h = n.tdiv 2) {s : ByteArray} (ha : accA (secG n m) s = true) :
    ∃ c d : Int, (0 ≤ c ∧ c ≤ n) ∧ (0 ≤ d ∧ d ≤ m) ∧ okS n m h (c, d) (ltr s) = true := by
  have hv := secH_vg hr h2
  have hst := essT_st hv
  obtain ⟨i, t, h0, h1, hp⟩ := (acc_iff (secG_vg hr h2) s).1 ha
  have hi : i.toNat < (essT (secH n m)).length := by
    have h1 : i < ((essT (secH n m)).length : Int) := h1
    omega
  obtain ⟨v, _, _, hp2⟩ := pth_part (List.getElem_mem hi) (by rw [iof_at hst.srt hi]; omega) hp
  have hu := hst.ins _ (List.getElem_mem hi)
  generalize (essT (secH n m))[i.toNat] = u at *
  have hu : 0 ≤ u ∧ u < (n + 1) * (m + 1) := hu
  have e : u = numS m (u / (m + 1)) (u % (m + 1)) := by unfold numS; rw [Int.mul_comm]; exact (Int.mul_ediv_add_emod u (m + 1)).symm
  have b1 := Int.emod_nonneg u (show (m + 1) ≠ 0 by omega)
  have b2 := Int.emod_lt_of_pos u (show 0 < m + 1 by omega)
  refine ⟨u / (m + 1), u % (m + 1), ⟨Int.ediv_nonneg hu.1 (by omega), ?_⟩, ⟨b1, by omega⟩, ?_⟩
  · have := Int.ediv_lt_of_lt_mul (show 0 < m + 1 by omega) hu.2
    omega
  · rw [e] at hp2
    exact sec_ok hh b1 (by omega) hp2
theorem ltr_app (a b : ByteArray) : ltr (a ++ b) = ltr a ++ ltr b := by
  unfold ltr
  rw [show (a ++ b).data.toList = a.data.toList ++ b.data.toList by simp, List.map_append]
def lt0 : ByteArray := ⟨#[48]⟩
def lt1 : ByteArray := ⟨#[49]⟩
theorem ltr_0 : ltr lt0 = [0] := by decide
theorem ltr_1 : ltr lt1 = [1] := by decide
/-- Each word can be extended on both sides. -/
theorem sec_ext {n m : Int} (hr : 2 ≤ n ∧ n ≤ 62 ∧ n.tmod 2 = 0 ∧ 1 ≤ m ∧ m ≤ 62) (h2 : (n + 1) * (m + 1) ≤ 64) {s : ByteArray} (ha : accA (secG n m) s = true) :
    (accA (secG n m) (lt0 ++ s) || accA (secG n m) (lt1 ++ s)) = true ∧ (accA (secG n m) (s ++ lt0) || accA (secG n m) (s ++ lt1)) = true := by
  have hv := secH_vg hr h2
  have hg := secG_vg hr h2
  obtain ⟨i, t, h0, h1, hp⟩ := (acc_iff hg s).1 ha
  have hlab : ∀ y ∈ (secG n m).es, y.l = 0 ∨ y.l = 1 := fun y hy => by
    have := hg.ins y hy
    have hq : (secG n m).q = 2 := rfl
    omega
  constructor
  · obtain ⟨⟨y, hy, hyt⟩, _⟩ := ess_edges hv h0 h1
    have hb := hg.ins y hy
    rw [Bool.or_eq_true]
    rcases hlab y hy with e | e
    · left
      rw [acc_iff hg, ltr_app, ltr_0]
      exact ⟨y.f, t, hb.1, hb.2.2.2.1, y, hy, rfl, e, by rw [hyt]; exact hp⟩
    · right
      rw [acc_iff hg, ltr_app, ltr_1]
      exact ⟨y.f, t, hb.1, hb.2.2.2.1, y, hy, rfl, e, by rw [hyt]; exact hp⟩
  · have ht : 0 ≤ t ∧ t < (secG n m).n := by
      have hm : t ∈ endA (secG n m) (upto (secG n m).n.toNat) (ltr s) := (mem_endA hg _ _ _).2 ⟨i, mem_uptoC.2 ⟨h0, by have := hg.n1; omega⟩, hp⟩
      exact (endA_st (secG n m) _ (St.upto hg.n1) _).ins t hm
    obtain ⟨_, y, hy, hyf⟩ := ess_edges hv ht.1 ht.2
    rw [Bool.or_eq_true]
    rcases hlab y hy with e | e
    · left
      rw [acc_iff hg, ltr_app, ltr_0]
      exact ⟨i, y.t, h0, h1, pth_app.2 ⟨t, hp, y, hy, hyf, e, rfl⟩⟩
    · right
      rw [acc_iff hg, ltr_app, ltr_1]
      exact ⟨i, y.t, h0, h1, pth_app.2 ⟨t, hp, y, hy, hyf, e, rfl⟩⟩
/-- Charges that stay in a range of n make a word's range at most n. -/
theorem okS_su {n m h : Int} {s : ByteArray} (hc : Chg.wchk 2 s.data.toList = 0) : ∀ (k : Nat), k ≤ s.size → ∀ {c d : Int}, (0 ≤ c ∧ c ≤ n) → okS n m h (c, d) ((ltr s).take k) = true →
    0 ≤ c + Chg.Lo (Chg.vAt false s) k ∧ c + Chg.Hi (Chg.vAt false s) k ≤ n ∧ ((ltr s).take k).foldl (chS h) (c, d) = (c + Chg.Su (Chg.vAt false s) k, (((ltr s).take k).foldl (chS h) (c, d)).2)
  | 0, _, c, d, h0, _ => by simp [Chg.Lo, Chg.Hi, Chg.Su]; omega
  | k + 1, hk, c, d, h0, hok => by
    have hlt : k < s.size := hk
    rw [ltr_take s k hlt] at hok ⊢
    have key : ∀ (l : List Int) (p : Int × Int) (x : Int), okS n m h p (l ++ [x]) = (okS n m h p l && inSc n m (chS h (l.foldl (chS h) p) x)) := by
      intro l
      induction l with
      | nil => intro p x; simp [okS]
      | cons y l ih => intro p x; rw [List.cons_append, okS, ih, okS, List.foldl_cons, Bool.and_assoc]
    rw [key, Bool.and_eq_true] at hok
    obtain ⟨i1, i2, i3⟩ := okS_su hc k (by omega) h0 hok.1
    have hin := inSc_iff.1 hok.2
    rw [i3] at hin
    have e : Chg.vAt false s k = Chg.val1 (s[k].toNat : Int) := Chg.vAt_f s k hlt
    have hv := bin_val (Chg.vals_bin s hc k hlt)
    rw [← e] at hv
    have e2 : 2 * Chg.dig (s[k].toNat : Int) - 1 = Chg.vAt false s k := by rcases hv with ⟨h1, h2⟩ | ⟨h1, h2⟩ <;> rw [h1, h2] <;> rfl
    rw [List.foldl_append, i3]
    simp only [List.foldl_cons, List.foldl_nil, chS, Chg.Lo, Chg.Hi, Chg.Su, e2] at hin ⊢
    refine ⟨by omega, by omega, ?_⟩
    rw [show c + Chg.Su (Chg.vAt false s) k + Chg.vAt false s k = c + (Chg.Su (Chg.vAt false s) k + Chg.vAt false s k) by omega]
theorem sec_wid {n m h : Int} {s : ByteArray} (hc : Chg.wchk 2 s.data.toList = 0) {c d : Int} (h0 : 0 ≤ c ∧ c ≤ n) (hok : okS n m h (c, d) (ltr s) = true) : Chg.wid false s ≤ n := by
  have := okS_su hc s.size (Nat.le_refl _) (d := d) h0 (by rw [ltr_all]; exact hok)
  unfold Chg.wid
  omega
end Go.Proofs.Ytlgjhmenjfmpfaa
namespace Go.Proofs.Ytlgjhmenjfmpfaa
open Go.RowKit Go.Sort Go.Shelf Go.Lib

def inS (st : List Int) (s : Int) (x : Ed) : Bool := decide (x.t = s) && decide (x.f ∈ st)
def outS (st : List Int) (s : Int) (x : Ed) : Bool := decide (x.f = s) && decide (x.t ∈ st)
theorem own_sl' {w : World} {B e n c : Nat} {p : Option Addr} {l : List Int} (h : w.ownsRow B e 1 (.slice p l.length c) n (l.map (Value.int .i64))) : Sl w (Value.int .i64) p l := by
  obtain ⟨p', c', he, hs⟩ := own_sl h
  cases he
  exact hs
def boN : Value → Nat | .bool true => 1 | _ => 0
theorem essP_in (es : List Ed) (st : List Int) (s : Int) : essP es st s = (es.any (inS st s) && es.any (outS st s)) := rfl
theorem flen_le {α : Type} (f : α → Bool) (l : List α) (k : Nat) (h : k ≤ l.length) : ((l.take k).filter f).length ≤ k := Nat.le_trans (List.length_filter_le _ _) (by rw [List.length_take]; omega)

set_option maxRecDepth 100000 in
set_option maxHeartbeats 4000000 in
theorem rEss_any (G : Gr) (p : Option Addr) (c : Nat) (w : World) (hin : Sg 3 w edE p G.es) (hl : G.es.length ≤ 10000) :
    Calls Try.prog 28 #[(.agg #[.int .i64 G.q, .int .i64 G.n, .slice p G.es.length c])] w (RetEs (essA G).1 (essA G).2.1 (essA G).2.2 w) := by
  have HIN := hidI hin
  clear hin
  obtain ⟨i0, hi0, hz0, hz1, hz3⟩ := info_parts infoIn
  obtain ⟨w0, hw0⟩ : ∃ w0, w0 = (w.alloc (.cells #[.int .i64 G.q, .int .i64 G.n, .slice p G.es.length c] 24)).alloc (.cells #[.int .i64 0, .int .i64 0, .slice none 0 0] 24) := ⟨_, rfl⟩
  have b0 : VRow w0 w.heap.size 24 [.int .i64 G.q, .int .i64 G.n, .slice p G.es.length c] := by subst hw0; exact (VRow.new w _ _).alloc _
  have b1 : VRow w0 (w.heap.size + 1) 24 [.int .i64 0, .int .i64 0, .slice none 0 0] := by subst hw0; exact VRow.new1 w _ _ _
  have hB0 : RowKit.Below w.heap.size w w0 := by subst hw0; exact ((RowKit.Below.refl _ _).alloc (Nat.le_refl _) _).alloc (by simp) _
  obtain ⟨r, hr⟩ : ∃ r, chkG G = r := ⟨_, rfl⟩
  by_cases hr0 : r = 0
  · subst hr0
    have HR := hidI hr
    have HV := hidI (chkG_ok.1 hr)
    obtain ⟨N, hNt⟩ : ∃ N : Nat, N = G.n.toNat := ⟨_, rfl⟩
    have HK : Hid (essA G = (partA G (ess G.es (upto N)), ess G.es (upto N), 0)) := by rw [hNt]; exact essA_ok hr
    clear hr
    go_enter Try.func28, Try.ntmps28
    go_wp2_with fail
    rw [← hw0]
    clear hw0
    refine (rCheck_r G p c _ 0 HR.out (HIN.out.below hB0) (by omega)).mono ?_
    rintro e w1 ⟨rfl, hB1⟩
    have x1 := hB0.trans (hB1.mono hB0.size)
    have c0 := b0.below hB1 b0.lt
    have c1 := b1.below hB1 b1.lt
    have f1 := c0.at 1 rfl
    clear hB1 b0 b1 hB0
    have hz : w.heap.size + 1 < w1.heap.size := c1.lt
    have hn0 := HV.out.n1; have hn1 := HV.out.n2
    have HN : Hid ((N : Int) = G.n) := by unfold Hid; omega
    have HU : Hid (St G.n (upto N)) := by rw [hNt]; exact St.upto hn0
    clear hNt
    go_wp2
    go_loopw [5, 6] (fun ov iv wr => ∃ k : Nat, k ≤ N ∧ iv = .int .i64 k ∧ wr.ownsRow w1.heap.size 3 1 ov k ((upto k).map (Value.int .i64)) ∧ RowKit.Below w1.heap.size w1 wr) (fun _ iv _ => N - (intOf iv).toNat)
    case atStart => exact ⟨0, by omega, rfl, World.ownsRow_nil _ _ _ _, RowKit.Below.refl _ _⟩
    case round =>
      obtain ⟨k, hk, rfl, hown, hB⟩ := hrel
      have hNN := HN.out
      by_cases hlt : (k : Int) < G.n
      · have hkN : k + 1 ≤ N := by omega
        clear hNN
        have hnew := cell_one_at wr (.int .i64 (k : Int)) 3 wr.heap.size rfl
        have HUS := hidI (upto_succ k)
        generalize upto k = M at *
        have f1r := (c0.below hB c0.lt).at 1 rfl
        go_wp2_with (at_builtin; refine wpList_append_own _ rfl _ _ 50 rfl w1.heap.size 3 i0 (.int .i64 0) 1 8 Try.underlying50 hi0 hz0 hz1 hz3 rfl (by decide) _ _ _ rfl (hown.alloc _) ⟨wr.heap.size, 0, none⟩ 1 1 [.int .i64 (k : Int)] rfl rfl hnew (by simp [Value.oneCell']) (by simp [maxLen]; omega) (by omega) (by rw [World.size_alloc]; have := hB.size; omega) ?_; intro v' w2 hown' hgrow _)
        go_roundw
        case rel => exact ⟨k + 1, hkN, by go_num, by rw [HUS.out, List.map_append]; exact hown', (hB.alloc hB.size _).grown hgrow (Nat.le_trans hB.size (by simp)) (fun j e => (hown.lt j e).1)⟩
        case measure => simp [intOf]; omega
      · obtain rfl : N = k := by omega
        clear hNN
        obtain ⟨w2, rfl⟩ : ∃ w2 : World, w2 = wr := ⟨_, rfl⟩
        have x2 := x1.trans (hB.mono x1.size)
        have d0 := c0.below hB c0.lt
        have d1 := c1.below hB c1.lt
        have f1r := d0.at 1 rfl
        have hge := hB.size
        clear hB x1 c0 c1 f1
        go_wp2
        clear hlt f1r
        go_loopw [5, 7] (fun sv cv wr => ∃ (st : List Int) (ch : Bool), cv = .bool ch ∧ Hid (St G.n st) ∧ Hid (ess G.es st = ess G.es (upto N)) ∧ Hid (ch = false → (essS G.es st).length = st.length) ∧ wr.ownsRow w1.heap.size 3 1 sv st.length (st.map (Value.int .i64)) ∧ RowKit.Below w2.heap.size w2 wr) (fun sv cv _ => 2 * slLen sv + boN cv)
        case atStart => exact ⟨upto N, true, rfl, HU, rfl, (fun h => by simp at h), by rw [upto_len]; exact hown, RowKit.Below.refl _ _⟩
        case round =>
          clear hown
          obtain ⟨st, ch, rfl, HST, HE, HC, hown, hB⟩ := hrel
          obtain ⟨ps, cs, rfl, _⟩ := own_sl hown
          obtain ⟨wo, rfl⟩ : ∃ wo : World, wo = wr := ⟨_, rfl⟩
          have hsl : st.length ≤ 64 := by have := HST.out.len hn0; omega
          have x3 := x2.trans (hB.mono x2.size)
          have e0 := d0.below hB d0.lt
          have e1 := d1.below hB d1.lt
          have hge3 := hB.size
          cases ch
          · have HSE := hidI (HC.out rfl)
            have HKK : Hid (essA G = (partA G st, st, 0)) := by
              have := HE.out
              rw [ess_stop HSE.out] at this
              rw [Hid, HK.out, ← this]
            have hst3 := HST.out.srt
            clear HE HC HSE HK HU
            obtain ⟨ps', cs', hpe, hsl1⟩ := own_sl hown
            cases hpe
            have k0 := e0.at 0 rfl; have k1 := e0.at 1 rfl; have k2 := e0.at 2 rfl
            go_wp2_with fail
            refine (rPart_any G p c st ps cs wo (HIN.out.below x3) hsl1 hl (by omega)).mono ?_
            generalize partA G st = R at *
            rintro e w4 ⟨p4, m4, c4, rfl, hown4, hB4⟩
            have x4 := x3.trans (hB4.mono x3.size)
            have e14 := e1.below hB4 e1.lt
            have hz3 : w.heap.size + 1 < wo.heap.size := e1.lt
            have hown5 := hown.below hB4
            have j0 := e14.at 0 rfl; have j1 := e14.at 1 rfl; have j2 := e14.at 2 rfl
            have z0 := e14.frozen 0; have z1 := e14.frozen 1; have z2 := e14.frozen 2
            go_wp2
            have r6 := VRow.set (i := 2) (.slice p4 m4 c4) (VRow.set (i := 1) (.int .i64 R.n) (VRow.set (i := 0) (.int .i64 R.q) e14))
            have y0 := r6.at 0 rfl; have y1 := r6.at 1 rfl; have y2 := r6.at 2 rfl
            have o6 := ownsRow_setCell_below (a := (⟨w.heap.size + 1, 2, none⟩ : Addr)) (ownsRow_setCell_below (a := (⟨w.heap.size + 1, 1, none⟩ : Addr)) (ownsRow_setCell_below (a := (⟨w.heap.size + 1, 0, none⟩ : Addr)) hown4 hz3 (.int .i64 R.q)) hz3 (.int .i64 R.n)) hz3 (.slice p4 m4 c4)
            have o7 := ownsRow_setCell_below (a := (⟨w.heap.size + 1, 2, none⟩ : Addr)) (ownsRow_setCell_below (a := (⟨w.heap.size + 1, 1, none⟩ : Addr)) (ownsRow_setCell_below (a := (⟨w.heap.size + 1, 0, none⟩ : Addr)) hown5 hz (.int .i64 R.q)) hz (.int .i64 R.n)) hz (.slice p4 m4 c4)
            have x6 : RowKit.Below w.heap.size w (((w4.setCell (⟨w.heap.size + 1, 0, none⟩ : Addr) (.int .i64 R.q)).setCell (⟨w.heap.size + 1, 1, none⟩ : Addr) (.int .i64 R.n)).setCell (⟨w.heap.size + 1, 2, none⟩ : Addr) (.slice p4 m4 c4)) :=
              ((x4.setCell (show w.heap.size ≤ w.heap.size + 1 by omega) _).setCell (show w.heap.size ≤ w.heap.size + 1 by omega) _).setCell (show w.heap.size ≤ w.heap.size + 1 by omega) _
            refine bodyPost_ret (v := .tuple #[.agg #[.int .i64 R.q, .int .i64 R.n, .slice p4 m4 c4], .slice ps st.length cs, .int .i64 0]) (by simp [results, Try.results28, go_sem, y0, y1, y2]) rfl ?_
            exact RetEs.of HKK.out (own_conv o6 rfl (by omega)) ⟨o7.1, o7.2.imp id (fun ⟨g, cap, cur, a, b, z⟩ => ⟨g, cap, cur, a, Nat.le_trans (show w.heap.size ≤ w1.heap.size by omega) b, z⟩)⟩ x6
          · clear HC
            go_wp2
            go_loopw [7, 8, 9] (fun cv kv iv wr => ∃ (k : Nat) (ch : Bool) (v : Value), k ≤ st.length ∧ iv = .int .i64 k ∧ cv = .bool ch ∧ kv = v ∧ Hid (if ch = true then ((st.take k).filter (essP G.es st)).length < k else ((st.take k).filter (essP G.es st)).length = k) ∧
                wr.ownsRow wo.heap.size 3 1 v ((st.take k).filter (essP G.es st)).length (((st.take k).filter (essP G.es st)).map (Value.int .i64)) ∧ RowKit.Below wo.heap.size wo wr) (fun _ _ iv _ => st.length - (intOf iv).toNat)
            case atStart => exact ⟨0, false, _, by omega, rfl, rfl, rfl, (by rw [if_neg (by simp)]; rfl), World.ownsRow_nil _ _ _ _, RowKit.Below.refl _ _⟩
            case round =>
              obtain ⟨k, ch, kv, hk, rfl, rfl, rfl, HF, hownk, hBk⟩ := hrel
              obtain ⟨w3, rfl⟩ : ∃ w3 : World, w3 = wr := ⟨_, rfl⟩
              have hown3 := hown.below hBk
              have hgk := hBk.size
              by_cases hlt : k < st.length
              · have HFS := hidI (filter_snoc (essP G.es st) st k hlt)
                have HFL := hidI (flen_le (essP G.es st) st k hk)
                have HPI := hidI (essP_in G.es st st[k])
                obtain ⟨b1, o1, rfl, hb1, hc1⟩ := (own_sl' hown3).get k hlt
                have s1 := hc1 k hlt
                clear hc1
                generalize st[k] = s at *
                generalize (st.take k).filter (essP G.es st) = M at *
                go_wp2
                go_loopw [10, 11, 12] (fun iv ov jv wx => ∃ j : Nat, j ≤ G.es.length ∧ jv = .int .i64 j ∧ iv = .bool ((G.es.take j).any (inS st s)) ∧ ov = .bool ((G.es.take j).any (outS st s)) ∧ RowKit.Below w3.heap.size w3 wx) (fun _ _ jv _ => G.es.length - (intOf jv).toNat)
                case atStart => exact ⟨0, by omega, rfl, rfl, rfl, RowKit.Below.refl _ _⟩
                case round =>
                  obtain ⟨j, hj, rfl, rfl, rfl, hBx⟩ := hrel
                  have x5 := hBk.trans (hBx.mono hBk.size)
                  have g0 := e0.below x5 e0.lt
                  have hslx := own_sl' (hown3.below hBx)
                  have s1x := (hBx.cell (p := (⟨b1, o1 + k, none⟩ : Addr)) hb1).trans s1
                  have f2 := g0.at 2 rfl
                  by_cases hjl : j < G.es.length
                  · obtain ⟨b3, o3, rfl, hb3, q0, q1, q2⟩ := (HIN.out.below (x3.trans (x5.mono x3.size))).get3 j hjl rfl
                    have HA1 := hidI (any_snoc (inS st s) G.es j hjl); have HA2 := hidI (any_snoc (outS st s) G.es j hjl)
                    generalize (G.es.take j).any (inS st s) = a1 at *
                    generalize (G.es.take j).any (outS st s) = a2 at *
                    generalize G.es[j] = x at *
                    obtain ⟨r1, hr1⟩ : ∃ r, decide (x.f ∈ st) = r := ⟨_, rfl⟩
                    obtain ⟨r2, hr2⟩ : ∃ r, decide (x.t ∈ st) = r := ⟨_, rfl⟩
                    have ho1 : (a1 = true ∧ Hid ((G.es.take (j + 1)).any (inS st s) = true)) ∨ (a1 = false ∧ (x.t == s) = false ∧ Hid ((G.es.take (j + 1)).any (inS st s) = false)) ∨ (a1 = false ∧ (x.t == s) = true ∧ Hid ((G.es.take (j + 1)).any (inS st s) = r1)) := by
                      unfold Hid
                      rw [HA1.out]
                      cases a1
                      · by_cases h : x.t = s
                        · exact .inr (.inr ⟨rfl, by simpa using h, by simp [inS, h, hr1]⟩)
                        · exact .inr (.inl ⟨rfl, by simpa using h, by simp [inS, h]⟩)
                      · exact .inl ⟨rfl, rfl⟩
                    have ho2 : (a2 = true ∧ Hid ((G.es.take (j + 1)).any (outS st s) = true)) ∨ (a2 = false ∧ (x.f == s) = false ∧ Hid ((G.es.take (j + 1)).any (outS st s) = false)) ∨ (a2 = false ∧ (x.f == s) = true ∧ Hid ((G.es.take (j + 1)).any (outS st s) = r2)) := by
                      unfold Hid
                      rw [HA2.out]
                      cases a2
                      · by_cases h : x.f = s
                        · exact .inr (.inr ⟨rfl, by simpa using h, by simp [outS, h, hr2]⟩)
                        · exact .inr (.inl ⟨rfl, by simpa using h, by simp [outS, h]⟩)
                      · exact .inl ⟨rfl, rfl⟩
                    clear HA1 HA2
                    obtain ⟨W1, hW1⟩ : ∃ W1, W1 = wr.alloc (.cells #[.int .i64 x.f, .int .i64 x.l, .int .i64 x.t] 47) := ⟨_, rfl⟩
                    have y0 : VRow W1 wr.heap.size 47 [.int .i64 x.f, .int .i64 x.l, .int .i64 x.t] := by subst hW1; exact VRow.new wr _ _
                    have HS1 : Sl W1 (Value.int .i64) (some ⟨b1, o1, none⟩) st := by subst hW1; exact hslx.below ((RowKit.Below.refl _ _).alloc (Nat.le_refl _) _)
                    have hB1 : RowKit.Below w3.heap.size w3 W1 := by subst hW1; exact hBx.alloc hBx.size _
                    have s2 := (hB1.cell (p := (⟨b1, o1 + k, none⟩ : Addr)) hb1).trans s1
                    clear s1x
                    go_upto_region 20 with fail
                    rw [← hW1]
                    clear hW1 q0 q1 q2 f2
                    have u0 := y0.at 0 rfl; have u2 := y0.at 2 rfl
                    have HC1 := fun (n : Nat) => Calls.quiet_of_same (rHas_r st (some ⟨b1, o1, none⟩) cs x.f r1 (W1.drewN n) HS1 (by omega) hr1)
                    rcases ho1 with ⟨rfl, HV1⟩ | ⟨rfl, d1, HV1⟩ | ⟨rfl, d1, HV1⟩
                    all_goals
                      (refine wp_region_quiet_lit (by kernel_rfl) (by kernel_rfl) ?_; (repeat (first | go_big_quiet_step ((go_at_call 47; with_reducible exact HC1 _)) | quiet_step ((go_at_call 47; with_reducible exact HC1 _)))); refine wpQuiet_nil ?_; intro _ hwq; obtain ⟨nq, hwq2⟩ := hwq; subst hwq2)
                      have HS2 : Sl (W1.drewN nq) (Value.int .i64) (some ⟨b1, o1, none⟩) st := HS1
                      have hBq : RowKit.Below w3.heap.size w3 (W1.drewN nq) := below_dN hB1 nq
                      have u0q : (W1.drewN nq).cell? ⟨wr.heap.size, 0, none⟩ = some (.int .i64 x.f) := u0
                      have u2q : (W1.drewN nq).cell? ⟨wr.heap.size, 2, none⟩ = some (.int .i64 x.t) := u2
                      have s2q : (W1.drewN nq).cell? ⟨b1, o1 + k, none⟩ = some (.int .i64 s) := s2
                      clear u0 u2 s2 HS1 hB1 HC1 y0
                      generalize W1.drewN nq = W2 at *
                      have HC2 := fun (n : Nat) => Calls.quiet_of_same (rHas_r st (some ⟨b1, o1, none⟩) cs x.t r2 (W2.drewN n) HS2 (by omega) hr2)
                      rcases ho2 with ⟨rfl, HV2⟩ | ⟨rfl, d2, HV2⟩ | ⟨rfl, d2, HV2⟩
                      all_goals
                        go_wp2_with fail
                        (refine wp_region_quiet_lit (by kernel_rfl) (by kernel_rfl) ?_; (repeat (first | go_big_quiet_step ((go_at_call 47; with_reducible exact HC2 _)) | quiet_step ((go_at_call 47; with_reducible exact HC2 _)))); refine wpQuiet_nil ?_; intro _ hwq; obtain ⟨nq, hwq2⟩ := hwq; subst hwq2)
                        go_wp2_with fail
                        go_roundw
                        case rel => exact ⟨j + 1, by omega, by go_num, by rw [HV1.out], by rw [HV2.out], below_dN hBq nq⟩
                        case measure => simp [intOf]; omega
                  · obtain rfl : j = G.es.length := by omega
                    rw [List.take_length]
                    have HP : Hid ((G.es.any (inS st s) && G.es.any (outS st s)) = essP G.es st s) := HPI.out.symm
                    generalize G.es.any (inS st s) = a1 at *
                    generalize G.es.any (outS st s) = a2 at *
                    have hownx := hownk.below hBx
                    have hszx := hBx.size
                    cases ha : (a1 && a2)
                    · have HN : Hid (List.filter (essP G.es st) (st.take (k + 1)) = M) := by rw [Hid, HFS.out, ← HP.out, ha]; simp
                      have ha2 : a1 = false ∨ (a1 = true ∧ a2 = false) := by cases a1 <;> simp_all
                      rcases ha2 with rfl | ⟨rfl, rfl⟩
                      all_goals
                        go_wp2_with fail
                        go_roundw
                        case rel => exact ⟨k + 1, true, _, by omega, by go_num, rfl, rfl, (by rw [HN.out, if_pos rfl]; have := HFL.out; unfold Hid; omega), by rw [HN.out]; exact hownx, x5⟩
                        case measure => simp [intOf]; omega
                    · have HN : Hid (List.filter (essP G.es st) (st.take (k + 1)) = M ++ [s]) := by rw [Hid, HFS.out, ← HP.out, ha]; simp
                      have ha2 : a1 = true ∧ a2 = true := by cases a1 <;> simp_all
                      obtain ⟨rfl, rfl⟩ := ha2
                      have hnew := cell_one_at wr (.int .i64 s) 3 wr.heap.size rfl
                      have hML := HFL.out
                      go_wp2_with (at_builtin; refine wpList_append_own _ rfl _ _ 50 rfl wo.heap.size 3 i0 (.int .i64 0) 1 8 Try.underlying50 hi0 hz0 hz1 hz3 rfl (by decide) _ _ _ rfl (hownx.alloc _) ⟨wr.heap.size, 0, none⟩ 1 1 [.int .i64 s] rfl rfl hnew (by simp [Value.oneCell']) (by simp [maxLen]; omega) (by omega) (by rw [World.size_alloc]; omega) ?_; intro v' w4 hown' hgrow _)
                      go_roundw
                      case rel =>
                        refine ⟨k + 1, ch, _, by omega, by go_num, rfl, rfl, ?_, ?_, (x5.alloc x5.size _).grown hgrow (Nat.le_trans x5.size (by simp)) (fun j e => ?_)⟩
                        · rw [HN.out, List.length_append, List.length_singleton]
                          have := HF.out
                          unfold Hid
                          cases ch <;> simp at this ⊢ <;> omega
                        · rw [HN.out, List.length_append, List.map_append]; exact hown'
                        · exact (hownx.lt j e).1
                      case measure => simp [intOf]; omega
              · obtain rfl : k = st.length := by omega
                rw [List.take_length] at hownk
                have HF : Hid (if ch = true then (essS G.es st).length < st.length else (essS G.es st).length = st.length) := by have := HF.out; rw [List.take_length] at this; exact this
                have HSF : Hid (St G.n (essS G.es st)) := HST.out.filter _
                have HEG : Hid (ess G.es (essS G.es st) = ess G.es (upto N)) := by
                  have h := HF.out
                  cases ch
                  · rw [if_neg (by simp)] at h
                    rw [Hid, essS_eq h]; exact HE.out
                  · rw [if_pos rfl] at h
                    rw [Hid, ← ess_go (by omega)]; exact HE.out
                have HCC : Hid (ch = false → (essS G.es (essS G.es st)).length = (essS G.es st).length) := by
                  intro hc
                  have h := HF.out
                  rw [if_neg (by rw [hc]; simp)] at h
                  rw [essS_eq h, h]
                have hownk : w3.ownsRow wo.heap.size 3 1 _ (essS G.es st).length ((essS G.es st).map (Value.int .i64)) := hownk
                have hM : 2 * (essS G.es st).length + (if ch = true then 1 else 0) < 2 * st.length + 1 := by
                  have h := HF.out
                  cases ch
                  · rw [if_neg (by simp)] at h ⊢; omega
                  · rw [if_pos rfl] at h ⊢; omega
                clear HF HE
                obtain ⟨q, d, rfl, _⟩ := own_sl hownk
                go_wp2_with fail
                go_roundw
                case rel => exact ⟨essS G.es st, ch, rfl, HSF, HEG, HCC, ⟨hownk.1, hownk.2.imp id (fun ⟨g, cap, cur, a, b, z⟩ => ⟨g, cap, cur, a, Nat.le_trans (show w1.heap.size ≤ wo.heap.size by omega) b, z⟩)⟩, hB.trans (hBk.mono hB.size)⟩
                case measure => cases ch <;> simp [slLen, boN] at hM ⊢ <;> omega
  · have HK : Hid (essA G = (⟨0, 0, []⟩, [], 1)) := essA_bad (by rw [hr]; exact hr0)
    have hrb : (r == 0) = false := by simpa using hr0
    have HR := hidI hr
    clear hr
    go_enter Try.func28, Try.ntmps28
    go_wp2_with fail
    rw [← hw0]
    clear hw0
    refine (rCheck_r G p c _ r HR.out (HIN.out.below hB0) (by omega)).mono ?_
    rintro e w1 ⟨rfl, hB1⟩
    have x1 := hB0.trans (hB1.mono hB0.size)
    have c1 := b1.below hB1 b1.lt
    have j0 := c1.at 0 rfl; have j1 := c1.at 1 rfl; have j2 := c1.at 2 rfl
    have z0 := c1.frozen 0; have z1 := c1.frozen 1; have z2 := c1.frozen 2
    go_wp2
    have r6 := VRow.set (i := 2) (.slice none 0 0) (VRow.set (i := 1) (.int .i64 0) (VRow.set (i := 0) (.int .i64 0) c1))
    have y0 := r6.at 0 rfl; have y1 := r6.at 1 rfl; have y2 := r6.at 2 rfl
    have x6 : RowKit.Below w.heap.size w (((w1.setCell (⟨w.heap.size + 1, 0, none⟩ : Addr) (.int .i64 0)).setCell (⟨w.heap.size + 1, 1, none⟩ : Addr) (.int .i64 0)).setCell (⟨w.heap.size + 1, 2, none⟩ : Addr) (.slice none 0 0)) :=
      ((x1.setCell (show w.heap.size ≤ w.heap.size + 1 by omega) _).setCell (show w.heap.size ≤ w.heap.size + 1 by omega) _).setCell (show w.heap.size ≤ w.heap.size + 1 by omega) _
    refine bodyPost_ret (v := .tuple #[.agg #[.int .i64 0, .int .i64 0, .slice none 0 0], .slice none 0 0, .int .i64 1]) (by simp [results, Try.results28, go_sem, y0, y1, y2]) rfl ?_
    exact RetEs.of (G := ⟨0, 0, []⟩) (l := []) HK.out (World.ownsRow_nil _ _ _ _) (World.ownsRow_nil _ _ _ _) x6
end Go.Proofs.Ytlgjhmenjfmpfaa
namespace Go.Proofs.Ytlgjhmenjfmpfaa
open Go.RowKit Go.Sort Go.Shelf Go.Lib

theorem cell_newA (W : World) (a : Array Value) (l : List Ed) (t n : Nat) (ha : a = (cat l).toArray) (hn : W.heap.size = n) : ∀ (j : Nat) (u : Value), (cat l)[j]? = some u → (W.alloc (.cells a t)).cell? ((⟨n, 0, none⟩ : Addr).add j) = some u := by
  subst hn; subst ha
  intro j u hu
  rw [show (⟨W.heap.size, 0, none⟩ : Addr).add j = ⟨W.heap.size, j, none⟩ by unfold Addr.add; split <;> simp_all, (VRow.new W t (cat l)).cell]
  exact hu

set_option maxRecDepth 100000 in
set_option maxHeartbeats 2000000 in
theorem rcGraph_any (n : Int) (w : World) : Calls Try.prog 8 #[.int .i64 n] w (RetGr (crgA n).1 (crgA n).2 w) := by
  obtain ⟨w0, hw0⟩ : ∃ w0, w0 = w.alloc (.cells #[.int .i64 0, .int .i64 0, .slice none 0 0] 24) := ⟨_, rfl⟩
  have b0 : VRow w0 w.heap.size 24 [.int .i64 0, .int .i64 0, .slice none 0 0] := by subst hw0; exact VRow.new w _ _
  have hB0 : RowKit.Below w.heap.size w w0 := by subst hw0; exact (RowKit.Below.refl _ _).alloc (Nat.le_refl _) _
  by_cases h : 1 ≤ n ∧ n < 64
  · obtain ⟨h1, h2⟩ := h
    obtain ⟨i0, hi0, hz0, hz1, hz2⟩ := info_parts infoE
    obtain ⟨N, rfl⟩ : ∃ N : Nat, (N : Int) = n := ⟨n.toNat, by omega⟩
    have HK0 : crgA N = makeA 2 (N + 1) (crgE N) := by rw [crgA_ref h1 h2, Int.toNat_natCast]
    obtain ⟨x, hx⟩ : ∃ x, crgA N = x := ⟨_, rfl⟩
    rw [hx] at HK0 ⊢
    obtain ⟨R, kk⟩ := x
    have HK : Hid (makeA 2 (N + 1) (crgE N) = (R, kk)) := HK0.symm
    clear hx HK0
    have hs0 : w0.heap.size = w.heap.size + 1 := by subst hw0; simp
    have hs00 := hB0.size
    obtain ⟨w1, hw1⟩ : ∃ w1, w1 = w0.alloc (.cells #[] 47) := ⟨_, rfl⟩
    have hown0 : w1.ownsRow w0.heap.size 47 3 (.slice (some ⟨w.heap.size + 1, 0, none⟩) 0 0) 0 [] := by subst hw1; rw [← hs0]; exact World.ownsRow_made w0 #[] 0 (Nat.le_refl _) (by simp [maxLen]) rfl
    have hB1 : RowKit.Below w0.heap.size w0 w1 := by subst hw1; exact (RowKit.Below.refl _ _).alloc (Nat.le_refl _) _
    go_enter Try.func8, Try.ntmps8
    go_wp2
    rw [← hw0, ← hw1]
    clear hw0 hw1
    go_loopw [4, 5] (fun lv iv wr => ∃ k : Nat, k ≤ N ∧ iv = .int .i64 k ∧ wr.ownsRow w0.heap.size 47 3 lv (crgE k).length (cat (crgE k)) ∧ RowKit.Below w0.heap.size w0 wr) (fun _ iv _ => N - (intOf iv).toNat)
    case atStart => exact ⟨0, by omega, rfl, hown0, hB1⟩
    case round =>
      clear hown0 hB1
      obtain ⟨k, hk, rfl, hown, hB⟩ := hrel
      by_cases hlt : k < N
      · have hltN : (k : Int) < (N : Int) := by omega
        have HS := hidI (crgE_succ k)
        have hL := crgE_len k
        generalize crgE k = L at *
        have hszw := hB.size
        have hnew := cell_newA wr #[.int .i64 k, .int .i64 1, .int .i64 ((k : Int) + 1), .int .i64 ((k : Int) + 1), .int .i64 0, .int .i64 k] [⟨k, 1, (k : Int) + 1⟩, ⟨(k : Int) + 1, 0, k⟩] 47 wr.heap.size rfl rfl
        (go_wp2_with (at_builtin; refine wpList_append_own _ rfl _ _ 22 rfl w0.heap.size 47 i0 _ 3 24 Try.underlying22 hi0 hz0 hz1 hz2 rfl (by decide) _ _ _ rfl (hown.alloc _) ⟨wr.heap.size, 0, none⟩ 2 2 (cat [⟨(k : Int), 1, (k : Int) + 1⟩, ⟨(k : Int) + 1, 0, (k : Int)⟩]) rfl rfl hnew (cat_one _) (by simp [maxLen]; omega) (by omega) (by rw [World.size_alloc]; omega) ?_; intro v' w4 hown' hgrow _; rw [← cat_app] at hown'))
        have hBf := (hB.alloc hszw _).grown hgrow (Nat.le_trans hszw (by simp)) (fun j e => (hown.lt j e).1)
        go_roundw
        case rel =>
          refine ⟨k + 1, by omega, by go_num, ?_, hBf⟩
          rw [HS.out]; exact own_conv hown' rfl (Nat.le_refl _)
        case measure => simp [intOf]; omega
      · obtain rfl : k = N := by omega
        have hkN : ¬ (k : Int) < (k : Int) := by omega
        have hL := crgE_len k
        generalize crgE k = L at *
        obtain ⟨p, c, rfl, hsg, _⟩ := own_sg hown
        have br := b0.below hB b0.lt
        have xr := hB0.trans (hB.mono hs00)
        go_wp2_with fail
        refine (rMake_any 2 ((k : Int) + 1) L p c wr hsg (by omega)).mono ?_
        rw [HK.out]
        rintro e w4 ⟨p4, c4, rfl, hs, hc, hB4⟩
        have x4 := xr.trans (hB4.mono xr.size)
        have e14 := br.below hB4 br.lt
        have HB := hidI (box3 (w := w) (c := c4) e14 hs x4 (Nat.le_refl _))
        have j0 := e14.at 0 rfl; have j1 := e14.at 1 rfl; have j2 := e14.at 2 rfl
        have z0 := e14.frozen 0; have z1 := e14.frozen 1; have z2 := e14.frozen 2
        go_wp2
        obtain ⟨r6, s6, x6⟩ := HB.out
        unfold set3 at r6 s6 x6
        have y0 := r6.at 0 rfl; have y1 := r6.at 1 rfl; have y2 := r6.at 2 rfl
        refine bodyPost_ret (v := .tuple #[(.agg #[.int .i64 R.q, .int .i64 R.n, .slice p4 R.es.length c4]), .int .i64 kk]) (by simp [results, Try.results8, go_sem, y0, y1, y2]) rfl ?_
        exact ⟨p4, c4, rfl, s6, hc, x6⟩
  · have HK := hidI (crgA_bad h)
    rcases (show n < 1 ∨ (¬ n < 1 ∧ 64 ≤ n) by omega) with h1 | ⟨h1, h2⟩
    all_goals
      have y0 := b0.at 0 rfl; have y1 := b0.at 1 rfl; have y2 := b0.at 2 rfl
      go_enter Try.func8, Try.ntmps8
      go_wp2
      rw [← hw0]
      refine bodyPost_ret (v := .tuple #[.agg #[.int .i64 0, .int .i64 0, .slice none 0 0], .int .i64 2]) (by simp [results, Try.results8, go_sem, y0, y1, y2]) rfl ?_
      exact RetGr.of (G' := ⟨0, 0, []⟩) HK.out (Sg.nil _ _ _ _) (Nat.zero_le _) hB0

theorem nulB_both {n v t : Int} (h1 : v < n) (h2 : 0 < v) : nulB n v t = [⟨2 * v + t, 1 - t, 2 * (v + 1) + 1 - t⟩] ++ [⟨2 * v + t, t, 2 * (v - 1) + 1 - t⟩] := by unfold nulB; rw [if_pos h1, if_pos h2]
theorem nulB_up {n v t : Int} (h1 : v < n) (h2 : ¬ 0 < v) : nulB n v t = [⟨2 * v + t, 1 - t, 2 * (v + 1) + 1 - t⟩] := by unfold nulB; rw [if_pos h1, if_neg h2, List.append_nil]
theorem nulB_dn {n v t : Int} (h1 : ¬ v < n) (h2 : 0 < v) : nulB n v t = [⟨2 * v + t, t, 2 * (v - 1) + 1 - t⟩] := by unfold nulB; rw [if_neg h1, if_pos h2, List.nil_append]

set_option maxRecDepth 100000 in
set_option maxHeartbeats 4000000 in
theorem rcNull_any (n : Int) (w : World) : Calls Try.prog 10 #[.int .i64 n] w (RetGr (nulA n).1 (nulA n).2 w) := by
  obtain ⟨wi, hwi⟩ : ∃ wi, wi = w.alloc (.cells #[.int .i64 0, .int .i64 0, .slice none 0 0] 24) := ⟨_, rfl⟩
  have b0 : VRow wi w.heap.size 24 [.int .i64 0, .int .i64 0, .slice none 0 0] := by subst hwi; exact VRow.new w _ _
  have hB0 : RowKit.Below w.heap.size w wi := by subst hwi; exact (RowKit.Below.refl _ _).alloc (Nat.le_refl _) _
  by_cases h : 1 ≤ n ∧ n ≤ 31
  · obtain ⟨h1, h2⟩ := h
    obtain ⟨i0, hi0, hz0, hz1, hz2⟩ := info_parts infoE
    obtain ⟨N, rfl⟩ : ∃ N : Nat, (N : Int) = n := ⟨n.toNat, by omega⟩
    have HK0 : nulA N = ((essA (makeA 2 (2 * (N : Int) + 2) (nulE N (N + 1))).1).1, (essA (makeA 2 (2 * (N : Int) + 2) (nulE N (N + 1))).1).2.2) := by
      rw [nulA_ref h1 h2, show ((N : Int) + 1).toNat = N + 1 by omega]
    obtain ⟨y, hy⟩ : ∃ y, makeA 2 (2 * (N : Int) + 2) (nulE N (N + 1)) = y := ⟨_, rfl⟩
    obtain ⟨x, hx⟩ : ∃ x, essA y.1 = x := ⟨_, rfl⟩
    obtain ⟨R, k⟩ := y
    obtain ⟨R', l', k'⟩ := x
    rw [hy, hx] at HK0
    rw [HK0]
    have HY := hidI hy
    have HX := hidI hx
    clear HK0 hx
    have HL : Hid ((makeA 2 (2 * (N : Int) + 2) (nulE N (N + 1))).1.es.length ≤ 10000) := by
      have h3 := makeA_len 2 (2 * (N : Int) + 2) (nulE N (N + 1))
      have h4 := nulE_len N (N + 1)
      unfold Hid; omega
    rw [hy] at HL
    clear hy
    have hs0 : wi.heap.size = w.heap.size + 1 := by subst hwi; simp
    have hs00 := hB0.size
    obtain ⟨w0, hw0⟩ : ∃ w0, w0 = wi := ⟨_, rfl⟩
    rw [← hw0] at b0 hB0 hs0 hs00 hwi
    obtain ⟨w1, hw1⟩ : ∃ w1, w1 = w0.alloc (.cells #[] 47) := ⟨_, rfl⟩
    have hown0 : w1.ownsRow w0.heap.size 47 3 (.slice (some ⟨w.heap.size + 1, 0, none⟩) 0 0) 0 [] := by subst hw1; rw [← hs0]; exact World.ownsRow_made w0 #[] 0 (Nat.le_refl _) (by simp [maxLen]) rfl
    have hB1 : RowKit.Below w0.heap.size w0 w1 := by subst hw1; exact (RowKit.Below.refl _ _).alloc (Nat.le_refl _) _
    clear hw0
    go_enter Try.func10, Try.ntmps10
    go_wp2
    rw [← hwi, ← hw1]
    clear hwi hw1
    go_loopw [4, 5] (fun lv iv wr => ∃ k : Nat, k ≤ N + 1 ∧ iv = .int .i64 k ∧ wr.ownsRow w0.heap.size 47 3 lv (nulE N k).length (cat (nulE N k)) ∧ RowKit.Below w0.heap.size w0 wr) (fun _ iv _ => N + 1 - (intOf iv).toNat)
    case atStart => exact ⟨0, by omega, rfl, hown0, hB1⟩
    case round =>
      clear hown0 hB1
      obtain ⟨v, hk, rfl, hown, hB⟩ := hrel
      by_cases hlt : v ≤ N
      · have hltN : (v : Int) ≤ (N : Int) := by omega
        have HS := hidI (nulE_succ N v)
        have hL := nulE_len N v
        generalize nulE N v = L3 at *
        obtain ⟨wo, rfl⟩ : ∃ wo : World, wo = wr := ⟨_, rfl⟩
        go_wp2
        go_loopw [4, 6] (fun lv iv wr => ∃ k : Nat, k ≤ 2 ∧ iv = .int .i64 k ∧ (L3 ++ nul1 N v k).length ≤ 4 * v + 2 * k ∧ wr.ownsRow w0.heap.size 47 3 lv (L3 ++ nul1 N v k).length (cat (L3 ++ nul1 N v k)) ∧ RowKit.Below w0.heap.size w0 wr) (fun _ iv _ => 2 - (intOf iv).toNat)
        case atStart => exact ⟨0, by omega, rfl, by rw [nul1_zero, List.append_nil]; omega, by rw [nul1_zero, List.append_nil]; exact hown, hB⟩
        case round =>
          clear hown hB hL
          obtain ⟨t, ht, rfl, hL, hown, hB⟩ := hrel
          by_cases hltt : t < 2
          · have hltt' : (t : Int) < 2 := by omega
            have H2S : Hid (L3 ++ nul1 N v (t + 1) = (L3 ++ nul1 N v t) ++ nulB N v t) := by rw [Hid, nul1_succ, List.append_assoc]
            generalize L3 ++ nul1 N v t = L at *
            have hszw := hB.size
            have hne0 := fun j e => (hown.lt j e).1
            by_cases hv : (v : Int) < (N : Int)
            · have hnew := cell_newA wr #[.int .i64 (2 * v + t), .int .i64 (1 - t), .int .i64 (2 * ((v : Int) + 1) + 1 - t)] [⟨2 * v + t, 1 - t, 2 * ((v : Int) + 1) + 1 - t⟩] 47 wr.heap.size rfl rfl
              by_cases hv0 : (0 : Int) < (v : Int)
              · have HX := hidI (nulB_both (t := (t : Int)) hv hv0)
                (go_upto_region 13 with (at_builtin; refine wpList_append_own _ rfl _ _ 22 rfl w0.heap.size 47 i0 _ 3 24 Try.underlying22 hi0 hz0 hz1 hz2 rfl (by decide) _ _ _ rfl (hown.alloc _) ⟨wr.heap.size, 0, none⟩ 1 1 (cat [⟨2 * (v : Int) + (t : Int), 1 - (t : Int), 2 * ((v : Int) + 1) + 1 - (t : Int)⟩]) rfl rfl hnew (cat_one _) (by simp [maxLen]; omega) (by omega) (by rw [World.size_alloc]; omega) ?_; intro v' w4 hown' hgrow _; rw [← cat_app] at hown'))
                have hB4 := (hB.alloc hszw _).grown hgrow (Nat.le_trans hszw (by simp)) hne0
                have hown4 := own_conv hown' rfl (Nat.le_refl _)
                clear hown hB hgrow hown' hnew hne0
                have hszw := hB4.size
                have hne0 := fun j e => (hown4.lt j e).1
                have hL4 : (L ++ [(⟨2 * (v : Int) + (t : Int), 1 - (t : Int), 2 * ((v : Int) + 1) + 1 - (t : Int)⟩ : Ed)]).length ≤ 4 * v + 2 * t + 1 := by rw [List.length_append, List.length_singleton]; omega
                have H2S : Hid (L3 ++ nul1 N v (t + 1) = (L ++ [⟨2 * (v : Int) + (t : Int), 1 - (t : Int), 2 * ((v : Int) + 1) + 1 - (t : Int)⟩]) ++ [⟨2 * (v : Int) + (t : Int), (t : Int), 2 * ((v : Int) - 1) + 1 - (t : Int)⟩]) := by rw [Hid, H2S.out, HX.out, List.append_assoc]
                generalize L ++ [(⟨2 * (v : Int) + (t : Int), 1 - (t : Int), 2 * ((v : Int) + 1) + 1 - (t : Int)⟩ : Ed)] = L' at *
                have hnew := cell_newA w4 #[.int .i64 (2 * v + t), .int .i64 t, .int .i64 (2 * ((v : Int) - 1) + 1 - t)] [⟨2 * v + t, t, 2 * ((v : Int) - 1) + 1 - t⟩] 47 w4.heap.size rfl rfl
                (go_wp2_with (at_builtin; refine wpList_append_own _ rfl _ _ 22 rfl w0.heap.size 47 i0 _ 3 24 Try.underlying22 hi0 hz0 hz1 hz2 rfl (by decide) _ _ _ rfl (hown4.alloc _) ⟨w4.heap.size, 0, none⟩ 1 1 (cat [⟨2 * (v : Int) + (t : Int), (t : Int), 2 * ((v : Int) - 1) + 1 - (t : Int)⟩]) rfl rfl hnew (cat_one _) (by simp [maxLen]; omega) (by omega) (by rw [World.size_alloc]; omega) ?_; intro v' w5 hown' hgrow _; rw [← cat_app] at hown'))
                have hBf := (hB4.alloc hszw _).grown hgrow (Nat.le_trans hszw (by simp)) hne0
                go_roundw
                case rel =>
                  refine ⟨t + 1, by omega, by go_num, ?_, ?_, hBf⟩
                  · rw [H2S.out, List.length_append, List.length_singleton]; omega
                  · rw [H2S.out]; exact own_conv hown' rfl (Nat.le_refl _)
                case measure => simp [intOf]; omega
              · have HX := hidI (nulB_up (t := (t : Int)) hv hv0)
                (go_wp2_with (at_builtin; refine wpList_append_own _ rfl _ _ 22 rfl w0.heap.size 47 i0 _ 3 24 Try.underlying22 hi0 hz0 hz1 hz2 rfl (by decide) _ _ _ rfl (hown.alloc _) ⟨wr.heap.size, 0, none⟩ 1 1 (cat [⟨2 * (v : Int) + (t : Int), 1 - (t : Int), 2 * ((v : Int) + 1) + 1 - (t : Int)⟩]) rfl rfl hnew (cat_one _) (by simp [maxLen]; omega) (by omega) (by rw [World.size_alloc]; omega) ?_; intro v' w4 hown' hgrow _; rw [← cat_app] at hown'))
                have hBf := (hB.alloc hszw _).grown hgrow (Nat.le_trans hszw (by simp)) hne0
                go_roundw
                case rel =>
                  refine ⟨t + 1, by omega, by go_num, ?_, ?_, hBf⟩
                  · rw [H2S.out, HX.out, List.length_append, List.length_singleton]; omega
                  · rw [H2S.out, HX.out]; exact own_conv hown' rfl (Nat.le_refl _)
                case measure => simp [intOf]; omega
            · have hv0 : (0 : Int) < (v : Int) := by omega
              have HX := hidI (nulB_dn (t := (t : Int)) hv hv0)
              have hnew := cell_newA wr #[.int .i64 (2 * v + t), .int .i64 t, .int .i64 (2 * ((v : Int) - 1) + 1 - t)] [⟨2 * v + t, t, 2 * ((v : Int) - 1) + 1 - t⟩] 47 wr.heap.size rfl rfl
              (go_wp2_with (at_builtin; refine wpList_append_own _ rfl _ _ 22 rfl w0.heap.size 47 i0 _ 3 24 Try.underlying22 hi0 hz0 hz1 hz2 rfl (by decide) _ _ _ rfl (hown.alloc _) ⟨wr.heap.size, 0, none⟩ 1 1 (cat [⟨2 * (v : Int) + (t : Int), (t : Int), 2 * ((v : Int) - 1) + 1 - (t : Int)⟩]) rfl rfl hnew (cat_one _) (by simp [maxLen]; omega) (by omega) (by rw [World.size_alloc]; omega) ?_; intro v' w4 hown' hgrow _; rw [← cat_app] at hown'))
              have hBf := (hB.alloc hszw _).grown hgrow (Nat.le_trans hszw (by simp)) hne0
              go_roundw
              case rel =>
                refine ⟨t + 1, by omega, by go_num, ?_, ?_, hBf⟩
                · rw [H2S.out, HX.out, List.length_append, List.length_singleton]; omega
                · rw [H2S.out, HX.out]; exact own_conv hown' rfl (Nat.le_refl _)
              case measure => simp [intOf]; omega
          · have HT : Hid (t = 2) := by unfold Hid; omega
            have htt : ¬ (t : Int) < 2 := by omega
            have HR : Hid (L3 ++ nul1 N v t = nulE N (v + 1)) := by rw [Hid, HS.out, HT.out]
            go_wp2
            go_roundw
            case rel => exact ⟨v + 1, by omega, by go_num, by rw [← HR.out]; exact hown, hB⟩
            case measure => simp [intOf]; omega
      · have HV : Hid (v = N + 1) := by unfold Hid; omega
        have hvN : ¬ (v : Int) ≤ (N : Int) := by omega
        have hL := nulE_len N v
        rw [← HV.out] at HY
        generalize nulE N v = L at *
        obtain ⟨p, c, rfl, hsg, _⟩ := own_sg hown
        have br := b0.below hB b0.lt
        have xr := hB0.trans (hB.mono hs00)
        clear hlt hk
        go_wp2_with fail
        refine (rMake_any 2 (2 * (N : Int) + 2) L p c wr hsg (by have := HV.out; omega)).mono ?_
        rw [HY.out]
        rintro e w4 ⟨p4, c4, rfl, hs, hc, hB4⟩
        have x4 := xr.trans (hB4.mono xr.size)
        have e14 := br.below hB4 br.lt
        obtain ⟨w5, hw5⟩ : ∃ w5, w5 = w4.alloc (.cells #[.int .i64 R.q, .int .i64 R.n, .slice p4 R.es.length c4] 24) := ⟨_, rfl⟩
        have e15 : VRow w5 w.heap.size 24 [.int .i64 0, .int .i64 0, .slice none 0 0] := by subst hw5; exact e14.alloc _
        have s5 : Sg 3 w5 edE p4 R.es := by subst hw5; exact hs.below ((RowKit.Below.refl _ _).alloc (Nat.le_refl _) _)
        have x5 : RowKit.Below w.heap.size w w5 := by subst hw5; exact x4.alloc x4.size _
        go_wp2_with fail
        rw [← hw5]
        clear hw5
        refine (rEss_any R p4 c4 w5 s5 HL.out).mono ?_
        rw [HX.out]
        intro e w6 hr
        obtain ⟨p6, c6, v6, rfl, hs6, hc6, _, hB6⟩ := hr.open
        have x6 := x5.trans (hB6.mono x5.size)
        have e16 := e15.below hB6 e15.lt
        obtain ⟨w7, hw7⟩ : ∃ w7, w7 = w6.alloc (.cells #[.int .i64 R'.q, .int .i64 R'.n, .slice p6 R'.es.length c6] 24) := ⟨_, rfl⟩
        have e17 : VRow w7 w.heap.size 24 [.int .i64 0, .int .i64 0, .slice none 0 0] := by subst hw7; exact e16.alloc _
        have s7 : Sg 3 w7 edE p6 R'.es := by subst hw7; exact hs6.below ((RowKit.Below.refl _ _).alloc (Nat.le_refl _) _)
        have x7 : RowKit.Below w.heap.size w w7 := by subst hw7; exact x6.alloc x6.size _
        have HB := hidI (box3 (w := w) (B := w.heap.size) (c := c6) e17 s7 x7 (Nat.le_refl _))
        have j0 := e17.at 0 rfl; have j1 := e17.at 1 rfl; have j2 := e17.at 2 rfl
        have z0 := e17.frozen 0; have z1 := e17.frozen 1; have z2 := e17.frozen 2
        rw [hw7] at j0 j1 j2 z0 z1 z2
        go_wp2
        rw [← hw7]
        obtain ⟨r8, s8, x8⟩ := HB.out
        unfold set3 at r8 s8 x8
        have y0 := r8.at 0 rfl; have y1 := r8.at 1 rfl; have y2 := r8.at 2 rfl
        refine bodyPost_ret (v := .tuple #[(.agg #[.int .i64 R'.q, .int .i64 R'.n, .slice p6 R'.es.length c6]), .int .i64 k']) (by simp [results, Try.results10, go_sem, y0, y1, y2]) rfl ?_
        exact ⟨p6, c6, rfl, s8, hc6, x8⟩
  · have HK := hidI (nulA_bad h)
    rcases (show n < 1 ∨ (¬ n < 1 ∧ 31 < n) by omega) with h1 | ⟨h1, h2⟩
    all_goals
      have y0 := b0.at 0 rfl; have y1 := b0.at 1 rfl; have y2 := b0.at 2 rfl
      go_enter Try.func10, Try.ntmps10
      go_wp2
      rw [← hwi]
      refine bodyPost_ret (v := .tuple #[.agg #[.int .i64 0, .int .i64 0, .slice none 0 0], .int .i64 2]) (by simp [results, Try.results10, go_sem, y0, y1, y2]) rfl ?_
      exact RetGr.of (G' := ⟨0, 0, []⟩) HK.out (Sg.nil _ _ _ _) (Nat.zero_le _) hB0
end Go.Proofs.Ytlgjhmenjfmpfaa
