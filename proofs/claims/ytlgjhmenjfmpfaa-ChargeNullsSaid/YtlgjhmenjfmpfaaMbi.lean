/-
  ChargeNulls: for every number and word the law returns true, and its arguments read as they did.
-/
import Derived.Test.YtlgjhmenjfmpfaaMbh
import Derived.Test.YtlgjhmenjfmpfaaMbg
import Derived.Test.YtlgjhmenjfmpfaaMba
import Derived.Test.YtlgjhmenjfmpfaaMbd
import Derived.Test.YtlgjhmenjfmpfaaProg
import Derived.Lib.ConvBytes
import Derived.Lib.AtoiErrMem
import Derived.Lib.OwnBridge
import Derived.Lib.SlBytesRow
import Derived.Test.YtlgjhmenjfmpfaaRows
import Derived.ProofKit
import Derived.OpenShut
import Derived.ShutString
import Derived.SliceStrings
import Derived.Test.YtlgjhmenjfmpfaaMbb
import Derived.Test.YtlgjhmenjfmpfaaMbc
namespace Go.Proofs.Ytlgjhmenjfmpfaa
open Go.RowKit Go.Sort Go.Shelf Go.Lib

/-! ### What the functions answer -/
def crgA (n : Int) : Gr × Int := if 1 ≤ n ∧ n < 64 then makeA 2 (n + 1) (crgE n.toNat) else (⟨0, 0, []⟩, 2)
def nulA (n : Int) : Gr × Int := if 1 ≤ n ∧ n ≤ 31 then ((essA (makeA 2 (2 * n + 2) (nulE n (n + 1).toNat)).1).1, (essA (makeA 2 (2 * n + 2) (nulE n (n + 1).toNat)).1).2.2) else (⟨0, 0, []⟩, 2)
def secA (n m : Int) : Gr × Int := if 2 ≤ n ∧ n ≤ 62 ∧ n.tmod 2 = 0 ∧ 1 ≤ m ∧ m ≤ 62 then
    (if (n + 1) * (m + 1) ≤ 64 then ((essA (makeA 2 ((n + 1) * (m + 1)) (mdA (n + 1) (m + 1) (numS m) (nxS (n.tdiv 2)))).1).1, (essA (makeA 2 ((n + 1) * (m + 1)) (mdA (n + 1) (m + 1) (numS m) (nxS (n.tdiv 2)))).1).2.2)
    else (⟨0, 0, []⟩, 4)) else (⟨0, 0, []⟩, 2)
theorem crgA_ok {n : Int} (h1 : 1 ≤ n) (h2 : n < 64) : makeA 2 ((n + 1) * 1) (mdA (n + 1) 1 numC nxC) = crgA n := by
  unfold crgA
  rw [if_pos ⟨h1, h2⟩, Int.mul_one]
  exact makeA_same (crg_same n (by omega))
theorem crgA_ref {n : Int} (h1 : 1 ≤ n) (h2 : n < 64) : crgA n = makeA 2 (n + 1) (crgE n.toNat) := if_pos ⟨h1, h2⟩
theorem crgA_bad {n : Int} (h : ¬ (1 ≤ n ∧ n < 64)) : crgA n = (⟨0, 0, []⟩, 2) := if_neg h
theorem nulA_ref {n : Int} (h1 : 1 ≤ n) (h2 : n ≤ 31) : nulA n = ((essA (makeA 2 (2 * n + 2) (nulE n (n + 1).toNat)).1).1, (essA (makeA 2 (2 * n + 2) (nulE n (n + 1).toNat)).1).2.2) := if_pos ⟨h1, h2⟩
theorem nulA_bad {n : Int} (h : ¬ (1 ≤ n ∧ n ≤ 31)) : nulA n = (⟨0, 0, []⟩, 2) := if_neg h
/-- An essential part, where the making before it did well. -/
def esP (x : Gr × Int) : Gr × Int := if x.2 = 0 then ((essA x.1).1, (essA x.1).2.2) else (⟨0, 0, []⟩, x.2)
theorem esP_ok {q n : Int} {l : List Ed} (h : chkG ⟨q, n, norm l⟩ = 0) : esP (makeA q n l) = ((essA (makeA q n l).1).1, (essA (makeA q n l).1).2.2) := by
  unfold esP; rw [if_pos (by rw [makeA_ok h])]
theorem nul_num {n a b : Int} (h1 : 1 ≤ n) (ha : 0 ≤ a) (hb : a < n + 1) (hc : 0 ≤ b) (hd : b < 2) : 0 ≤ numN a b ∧ numN a b < (n + 1) * 2 := by unfold numN; omega
theorem nulA_ok {n : Int} (h1 : 1 ≤ n) (h2 : n ≤ 31) : esP (makeA 2 ((n + 1) * 2) (mdA (n + 1) 2 numN nxN)) = nulA n := by
  rw [esP_ok (mdA_chk (by omega) (by omega) (by omega) (fun a b ha hb hc hd => nul_num h1 ha hb hc hd)), nulA_ref h1 h2, makeA_same (nul_same n (by omega)), show (n + 1) * 2 = 2 * n + 2 by omega]
theorem sec_num {n m a b : Int} (hm : 1 ≤ m) (ha : 0 ≤ a) (hb : a < n + 1) (hc : 0 ≤ b) (hd : b < m + 1) : 0 ≤ numS m a b ∧ numS m a b < (n + 1) * (m + 1) := by
  unfold numS
  have h1 : 0 ≤ a * (m + 1) := Int.mul_nonneg ha (by omega)
  have h2 : (a + 1) * (m + 1) ≤ (n + 1) * (m + 1) := Int.mul_le_mul_of_nonneg_right (by omega) (by omega)
  rw [Int.add_mul, Int.one_mul] at h2
  omega
theorem secA_ok {n m : Int} (h : 2 ≤ n ∧ n ≤ 62 ∧ n.tmod 2 = 0 ∧ 1 ≤ m ∧ m ≤ 62) (h2 : (n + 1) * (m + 1) ≤ 64) : esP (makeA 2 ((n + 1) * (m + 1)) (mdA (n + 1) (m + 1) (numS m) (nxS (n.tdiv 2)))) = secA n m := by
  rw [esP_ok (mdA_chk (by omega) (by omega) h2 (fun a b ha hb hc hd => sec_num h.2.2.2.1 ha hb hc hd))]
  unfold secA
  rw [if_pos h, if_pos h2]
theorem secA_ref {n m : Int} (h : 2 ≤ n ∧ n ≤ 62 ∧ n.tmod 2 = 0 ∧ 1 ≤ m ∧ m ≤ 62) (h2 : (n + 1) * (m + 1) ≤ 64) :
    secA n m = ((essA (makeA 2 ((n + 1) * (m + 1)) (mdA (n + 1) (m + 1) (numS m) (nxS (n.tdiv 2)))).1).1, (essA (makeA 2 ((n + 1) * (m + 1)) (mdA (n + 1) (m + 1) (numS m) (nxS (n.tdiv 2)))).1).2.2) := by
  unfold secA; rw [if_pos h, if_pos h2]
theorem secA_big {n m : Int} (h : 2 ≤ n ∧ n ≤ 62 ∧ n.tmod 2 = 0 ∧ 1 ≤ m ∧ m ≤ 62) (h2 : ¬ (n + 1) * (m + 1) ≤ 64) : secA n m = (⟨0, 0, []⟩, 4) := by unfold secA; rw [if_pos h, if_neg h2]
theorem secA_bad {n m : Int} (h : ¬ (2 ≤ n ∧ n ≤ 62 ∧ n.tmod 2 = 0 ∧ 1 ≤ m ∧ m ≤ 62)) : secA n m = (⟨0, 0, []⟩, 2) := by unfold secA; rw [if_neg h]

/-! ### A graph stored into the result's box -/
def set3 (w : World) (B : Nat) (x y z : Value) : World := ((w.setCell ⟨B, 0, none⟩ x).setCell ⟨B, 1, none⟩ y).setCell ⟨B, 2, none⟩ z
theorem box3 {w w4 : World} {B : Nat} {G : Gr} {p : Option Addr} {c : Nat} (e : VRow w4 B 24 [.int .i64 0, .int .i64 0, .slice none 0 0]) (hs : Sg 3 w4 edE p G.es) (hB : RowKit.Below w.heap.size w w4) (hw : w.heap.size ≤ B) :
    VRow (set3 w4 B (.int .i64 G.q) (.int .i64 G.n) (.slice p G.es.length c)) B 24 [.int .i64 G.q, .int .i64 G.n, .slice p G.es.length c] ∧ Sg 3 (set3 w4 B (.int .i64 G.q) (.int .i64 G.n) (.slice p G.es.length c)) edE p G.es ∧
      RowKit.Below w.heap.size w (set3 w4 B (.int .i64 G.q) (.int .i64 G.n) (.slice p G.es.length c)) := by
  unfold set3
  have r1 := VRow.set (i := 0) (.int .i64 G.q) e
  have r2 := VRow.set (i := 1) (.int .i64 G.n) r1
  have r3 := VRow.set (i := 2) (.slice p G.es.length c) r2
  exact ⟨r3, sg_box r2 (sg_box r1 (sg_box e hs _ _) _ _) _ _, ((hB.setCell (show w.heap.size ≤ B from hw) _).setCell (show w.heap.size ≤ B from hw) _).setCell (show w.heap.size ≤ B from hw) _⟩
theorem RetGo.open {G : Gr} {k : Int} {w w' : World} {e : Ending} (h : RetGo G k w e w') : ∃ p c, e = .returned (.tuple #[(.agg #[.int .i64 G.q, .int .i64 G.n, .slice p G.es.length c]), .int .i64 k]) ∧ Sg 3 w' edE p G.es ∧ G.es.length ≤ c ∧ w'.ownsRow w.heap.size 47 3 (.slice p G.es.length c) G.es.length (cat G.es) ∧ RowKit.Below w.heap.size w w' := by
  obtain ⟨p, m, c, rfl, ho, hB⟩ := h
  obtain ⟨p', c', he, hs, hc, _⟩ := own_sg ho
  cases he
  exact ⟨p, c, rfl, hs, hc, ho, hB⟩
theorem RetEs.open {G : Gr} {l : List Int} {k : Int} {w w' : World} {e : Ending} (h : RetEs G l k w e w') : ∃ p c v, e = .returned (.tuple #[(.agg #[.int .i64 G.q, .int .i64 G.n, .slice p G.es.length c]), v, .int .i64 k]) ∧ Sg 3 w' edE p G.es ∧ G.es.length ≤ c ∧ w'.ownsRow w.heap.size 47 3 (.slice p G.es.length c) G.es.length (cat G.es) ∧ RowKit.Below w.heap.size w w' := by
  obtain ⟨p, m, c, q, d, rfl, ho, _, hB⟩ := h
  obtain ⟨p', c', he, hs, hc, _⟩ := own_sg ho
  cases he
  exact ⟨p, c, _, rfl, hs, hc, ho, hB⟩

/-! ### The function values -/
theorem numC_at (n : Int) (h : n < 64) (w : World) : NumAt (n + 1) 1 numC 22 #[] w := by
  intro W a b _ h1 h2 h3 h4
  show Calls Try.prog 22 #[.int .i64 a, .int .i64 b] W _
  go_enter Try.func22, Try.ntmps22
  go_wp2
  go_ret
  exact ⟨rfl, Dr.refl _⟩
theorem nxC_at (n : Int) (h : n < 64) (w : World) : NxtAt (n + 1) 1 nxC 23 #[] w := by
  intro W a b l _ h1 h2 h3 h4 h5 h6
  show Calls Try.prog 23 #[.int .i64 a, .int .i64 b, .int .i64 l] W _
  have HX : Hid (nxC a b l = (a + 2 * l - 1, 0)) := rfl
  go_enter Try.func23, Try.ntmps23
  go_wp2
  go_ret2
  exact ⟨by rw [HX.out]; rfl, Dr.refl _⟩
theorem numN_at (n : Int) (h : n < 64) (w : World) : NumAt (n + 1) 2 numN 26 #[] w := by
  intro W a b _ h1 h2 h3 h4
  show Calls Try.prog 26 #[.int .i64 a, .int .i64 b] W _
  have HX : Hid (numN a b = 2 * a + b) := rfl
  go_enter Try.func26, Try.ntmps26
  go_wp2
  go_ret
  exact ⟨by rw [HX.out]; rfl, Dr.refl _⟩
theorem nxN_at (n : Int) (h : n < 64) (w : World) : NxtAt (n + 1) 2 nxN 27 #[] w := by
  intro W a b l _ h1 h2 h3 h4 h5 h6
  show Calls Try.prog 27 #[.int .i64 a, .int .i64 b, .int .i64 l] W _
  by_cases hb : b = 1
  · have HX : Hid (nxN a b l = (a + 2 * (1 - l) - 1, 0)) := by unfold Hid nxN; rw [if_pos hb, hb]; rfl
    have hbb : (b == 1) = true := by simpa using hb
    go_enter Try.func27, Try.ntmps27
    go_wp2
    go_ret2
    exact ⟨by rw [HX.out]; rfl, Dr.refl _⟩
  · have HX : Hid (nxN a b l = (a + 2 * l - 1, 1 - b)) := by unfold Hid nxN; rw [if_neg hb]
    have hbb : (b == 1) = false := by simpa using hb
    go_enter Try.func27, Try.ntmps27
    go_wp2
    go_ret2
    exact ⟨by rw [HX.out]; rfl, Dr.refl _⟩
theorem numS_at (n m : Int) (h : n < 64) (hm0 : 1 ≤ m) (hm : m < 64) (b0 : Nat) (w : World) (hb : VRow w b0 3 [.int .i64 m]) : NumAt (n + 1) (m + 1) (numS m) 29 #[.pointer (some ⟨b0, 0, none⟩)] w := by
  intro W a b hW h1 h2 h3 h4
  show Calls Try.prog 29 #[.int .i64 a, .int .i64 b, .pointer (some ⟨b0, 0, none⟩)] W _
  have e0 := (hb.below hW hb.lt).at 0 rfl
  have HX : Hid (numS m a b = a * (m + 1) + b) := rfl
  have g1 : 0 ≤ a * (m + 1) := Int.mul_nonneg h1 (by omega)
  have g2 : a * (m + 1) ≤ 64 * 64 := Int.mul_le_mul (by omega) (by omega) (by omega) (by omega)
  go_enter Try.func29, Try.ntmps29
  go_wp2
  go_ret
  exact ⟨by rw [HX.out]; rfl, Dr.refl _⟩
theorem nxS_at (n m : Int) (hn0 : 2 ≤ n) (h : n < 64) (hm : m < 64) (b0 : Nat) (w : World) (hb : VRow w b0 3 [.int .i64 n]) : NxtAt (n + 1) (m + 1) (nxS (n.tdiv 2)) 30 #[.pointer (some ⟨b0, 0, none⟩)] w := by
  intro W a b l hW h1 h2 h3 h4 h5 h6
  show Calls Try.prog 30 #[.int .i64 a, .int .i64 b, .int .i64 l, .pointer (some ⟨b0, 0, none⟩)] W _
  have e0 := (hb.below hW hb.lt).at 0 rfl
  have HX : Hid (nxS (n.tdiv 2) a b l = (a + (2 * l - 1), b + (a + (2 * l - 1)) - n.tdiv 2)) := rfl
  have g1 : 0 ≤ n.tdiv 2 := Int.tdiv_nonneg (by omega) (by decide)
  have g2 : n.tdiv 2 ≤ 64 := by rw [Int.tdiv_eq_ediv_of_nonneg (by omega)]; omega
  go_enter Try.func30, Try.ntmps30
  go_wp2_with fail
  (refine wp_region_quiet_lit (by kernel_rfl) (by kernel_rfl) ?_; (repeat (first | go_big_quiet_step (fail) | quiet_step (fail))); refine wpQuiet_nil ?_; intro _ hwq; obtain ⟨nq, hwq2⟩ := hwq; subst hwq2)
  go_wp2
  go_ret2
  exact ⟨by rw [HX.out]; rfl, ⟨nq, rfl⟩⟩

/-! ### The functions -/
set_option maxHeartbeats 1000000 in
theorem cGraph_any (n : Int) (w : World) : Calls Try.prog 7 #[.int .i64 n] w (RetGr (crgA n).1 (crgA n).2 w) := by
  obtain ⟨w0, hw0⟩ : ∃ w0, w0 = w.alloc (.cells #[.int .i64 0, .int .i64 0, .slice none 0 0] 24) := ⟨_, rfl⟩
  have b0 : VRow w0 w.heap.size 24 [.int .i64 0, .int .i64 0, .slice none 0 0] := by subst hw0; exact VRow.new w _ _
  have hB0 : RowKit.Below w.heap.size w w0 := by subst hw0; exact (RowKit.Below.refl _ _).alloc (Nat.le_refl _) _
  by_cases h : 1 ≤ n ∧ n < 64
  · obtain ⟨h1, h2⟩ := h
    have HK0 := crgA_ok h1 h2
    obtain ⟨x, hx⟩ : ∃ x, crgA n = x := ⟨_, rfl⟩
    rw [hx] at HK0 ⊢
    obtain ⟨R, k⟩ := x
    have HK := hidI HK0
    clear hx HK0
    have HNA := hidI (numC_at n h2 w0)
    have HXA := hidI (nxC_at n h2 w0)
    go_enter Try.func7, Try.ntmps7
    go_wp2_with fail
    rw [← hw0]
    clear hw0
    refine (cMade_any (n + 1) 1 numC nxC 22 23 #[] #[] w0 (by omega) (by omega) (by decide) (by decide) (enters_of Try.func22 (by kernel_rfl) rfl) (enters_of Try.func23 (by kernel_rfl) rfl) HNA.out HXA.out).mono ?_
    rw [HK.out]
    intro e w4 hr
    obtain ⟨p, c, rfl, hs, hc, _, hB4⟩ := hr.open
    have x4 := hB0.trans (hB4.mono hB0.size)
    have e14 := b0.below hB4 b0.lt
    have HB := hidI (box3 (w := w) (c := c) e14 hs x4 (Nat.le_refl _))
    have j0 := e14.at 0 rfl; have j1 := e14.at 1 rfl; have j2 := e14.at 2 rfl
    have z0 := e14.frozen 0; have z1 := e14.frozen 1; have z2 := e14.frozen 2
    go_wp2
    obtain ⟨r6, s6, x6⟩ := HB.out
    unfold set3 at r6 s6 x6
    have y0 := r6.at 0 rfl; have y1 := r6.at 1 rfl; have y2 := r6.at 2 rfl
    refine bodyPost_ret (v := .tuple #[(.agg #[.int .i64 R.q, .int .i64 R.n, .slice p R.es.length c]), .int .i64 k]) (by simp [results, Try.results7, go_sem, y0, y1, y2]) rfl ?_
    exact ⟨p, c, rfl, s6, hc, x6⟩
  · have HK := hidI (crgA_bad h)
    rcases (show n < 1 ∨ (¬ n < 1 ∧ 64 ≤ n) by omega) with h1 | ⟨h1, h2⟩
    all_goals
      have y0 := b0.at 0 rfl; have y1 := b0.at 1 rfl; have y2 := b0.at 2 rfl
      go_enter Try.func7, Try.ntmps7
      go_wp2
      rw [← hw0]
      refine bodyPost_ret (v := .tuple #[.agg #[.int .i64 0, .int .i64 0, .slice none 0 0], .int .i64 2]) (by simp [results, Try.results7, go_sem, y0, y1, y2]) rfl ?_
      exact RetGr.of (G' := ⟨0, 0, []⟩) HK.out (Sg.nil _ _ _ _) (Nat.zero_le _) hB0

theorem makeA_len (q n : Int) (l : List Ed) : (makeA q n l).1.es.length ≤ l.length := by
  unfold makeA
  split
  · exact normC_len l
  · exact Nat.zero_le _

set_option maxRecDepth 100000 in
set_option maxHeartbeats 1000000 in
theorem cEss_any (G : Gr) (k : Int) (p : Option Addr) (c : Nat) (w : World) (hin : Sg 3 w edE p G.es) (hl : G.es.length ≤ 10000) : Calls Try.prog 25 #[(.agg #[.int .i64 G.q, .int .i64 G.n, .slice p G.es.length c]), .int .i64 k] w (RetGr (esP (G, k)).1 (esP (G, k)).2 w) := by
  have HIN := hidI hin
  clear hin
  obtain ⟨w0, hw0⟩ : ∃ w0, w0 = (w.alloc (.cells #[.int .i64 G.q, .int .i64 G.n, .slice p G.es.length c] 24)).alloc (.cells #[.int .i64 0, .int .i64 0, .slice none 0 0] 24) := ⟨_, rfl⟩
  have b1 : VRow w0 (w.heap.size + 1) 24 [.int .i64 0, .int .i64 0, .slice none 0 0] := by subst hw0; exact VRow.new1 w _ _ _
  have hB0 : RowKit.Below w.heap.size w w0 := by subst hw0; exact ((RowKit.Below.refl _ _).alloc (Nat.le_refl _) _).alloc (by simp) _
  by_cases hk : k = 0
  · subst hk
    obtain ⟨x, hx⟩ : ∃ x, essA G = x := ⟨_, rfl⟩
    obtain ⟨R, l, kk⟩ := x
    have HX := hidI hx
    have HK : esP (G, 0) = (R, kk) := by
      have h : esP (G, 0) = ((essA G).1, (essA G).2.2) := if_pos rfl
      rw [h, hx]
    rw [HK]
    clear hx HK
    go_enter Try.func25, Try.ntmps25
    go_wp2_with fail
    rw [← hw0]
    clear hw0
    refine (gEss_any G p c w0 (HIN.out.below hB0) hl).mono ?_
    rw [HX.out]
    intro e w4 hr
    obtain ⟨p4, c4, v, rfl, hs, hc, _, hB4⟩ := hr.open
    have x4 := hB0.trans (hB4.mono hB0.size)
    have e14 := b1.below hB4 b1.lt
    obtain ⟨w5, hw5⟩ : ∃ w5, w5 = w4.alloc (.cells #[.int .i64 R.q, .int .i64 R.n, .slice p4 R.es.length c4] 24) := ⟨_, rfl⟩
    have e15 : VRow w5 (w.heap.size + 1) 24 [.int .i64 0, .int .i64 0, .slice none 0 0] := by subst hw5; exact e14.alloc _
    have s5 : Sg 3 w5 edE p4 R.es := by subst hw5; exact hs.below ((RowKit.Below.refl _ _).alloc (Nat.le_refl _) _)
    have x5 : RowKit.Below w.heap.size w w5 := by subst hw5; exact x4.alloc x4.size _
    have HB := hidI (box3 (w := w) (B := w.heap.size + 1) (c := c4) e15 s5 x5 (by omega))
    have j0 := e15.at 0 rfl; have j1 := e15.at 1 rfl; have j2 := e15.at 2 rfl
    have z0 := e15.frozen 0; have z1 := e15.frozen 1; have z2 := e15.frozen 2
    rw [hw5] at j0 j1 j2 z0 z1 z2
    go_wp2
    rw [← hw5]
    obtain ⟨r6, s6, x6⟩ := HB.out
    unfold set3 at r6 s6 x6
    have y0 := r6.at 0 rfl; have y1 := r6.at 1 rfl; have y2 := r6.at 2 rfl
    refine bodyPost_ret (v := .tuple #[(.agg #[.int .i64 R.q, .int .i64 R.n, .slice p4 R.es.length c4]), .int .i64 kk]) (by simp [results, Try.results25, go_sem, y0, y1, y2]) rfl ?_
    exact ⟨p4, c4, rfl, s6, hc, x6⟩
  · have HK : Hid (esP (G, k) = (⟨0, 0, []⟩, k)) := if_neg hk
    have hkb : (k == 0) = false := by simpa using hk
    have y0 := b1.at 0 rfl; have y1 := b1.at 1 rfl; have y2 := b1.at 2 rfl
    go_enter Try.func25, Try.ntmps25
    go_wp2
    rw [← hw0]
    refine bodyPost_ret (v := .tuple #[.agg #[.int .i64 0, .int .i64 0, .slice none 0 0], .int .i64 k]) (by simp [results, Try.results25, go_sem, y0, y1, y2]) rfl ?_
    exact RetGr.of (G' := ⟨0, 0, []⟩) HK.out (Sg.nil _ _ _ _) (Nat.zero_le _) hB0

set_option maxHeartbeats 1000000 in
theorem cNull_any (n : Int) (w : World) : Calls Try.prog 9 #[.int .i64 n] w (RetGr (nulA n).1 (nulA n).2 w) := by
  obtain ⟨w0, hw0⟩ : ∃ w0, w0 = w.alloc (.cells #[.int .i64 0, .int .i64 0, .slice none 0 0] 24) := ⟨_, rfl⟩
  have b0 : VRow w0 w.heap.size 24 [.int .i64 0, .int .i64 0, .slice none 0 0] := by subst hw0; exact VRow.new w _ _
  have hB0 : RowKit.Below w.heap.size w w0 := by subst hw0; exact (RowKit.Below.refl _ _).alloc (Nat.le_refl _) _
  by_cases h : 1 ≤ n ∧ n ≤ 31
  · obtain ⟨h1, h2⟩ := h
    have HK0 := nulA_ok h1 h2
    obtain ⟨x, hx⟩ : ∃ x, nulA n = x := ⟨_, rfl⟩
    rw [hx] at HK0 ⊢
    obtain ⟨R', k'⟩ := x
    have HK := hidI HK0
    clear hx HK0
    have HL : Hid ((makeA 2 ((n + 1) * 2) (mdA (n + 1) 2 numN nxN)).1.es.length ≤ 10000) := by
      have h3 := makeA_len 2 ((n + 1) * 2) (mdA (n + 1) 2 numN nxN)
      have h4 := mdA_len (n + 1) 2 numN nxN
      have h5 : (n + 1).toNat ≤ 32 := by omega
      have h6 : 2 * Int.toNat 2 * (n + 1).toNat = 4 * (n + 1).toNat := rfl
      unfold Hid; omega
    have HNA := hidI (numN_at n (by omega) w0)
    have HXA := hidI (nxN_at n (by omega) w0)
    go_enter Try.func9, Try.ntmps9
    go_wp2_with fail
    rw [← hw0]
    clear hw0
    refine (cMade_any (n + 1) 2 numN nxN 26 27 #[] #[] w0 (by omega) (by omega) (by decide) (by decide) (enters_of Try.func26 (by kernel_rfl) rfl) (enters_of Try.func27 (by kernel_rfl) rfl) HNA.out HXA.out).mono ?_
    generalize makeA 2 ((n + 1) * 2) (mdA (n + 1) 2 numN nxN) = y at *
    obtain ⟨R, k⟩ := y
    intro e w4 hr
    obtain ⟨p, c, rfl, hs, _, _, hB4⟩ := hr.open
    have x4 := hB0.trans (hB4.mono hB0.size)
    have e14 := b0.below hB4 b0.lt
    go_wp2_with fail
    refine (cEss_any R k p c w4 hs HL.out).mono ?_
    rw [HK.out]
    rintro e w5 ⟨p5, c5, rfl, hs5, hc5, hB5⟩
    have x5 := x4.trans (hB5.mono x4.size)
    have e15 := e14.below hB5 e14.lt
    have HB := hidI (box3 (w := w) (c := c5) e15 hs5 x5 (Nat.le_refl _))
    have j0 := e15.at 0 rfl; have j1 := e15.at 1 rfl; have j2 := e15.at 2 rfl
    have z0 := e15.frozen 0; have z1 := e15.frozen 1; have z2 := e15.frozen 2
    go_wp2
    obtain ⟨r6, s6, x6⟩ := HB.out
    unfold set3 at r6 s6 x6
    have y0 := r6.at 0 rfl; have y1 := r6.at 1 rfl; have y2 := r6.at 2 rfl
    refine bodyPost_ret (v := .tuple #[(.agg #[.int .i64 R'.q, .int .i64 R'.n, .slice p5 R'.es.length c5]), .int .i64 k']) (by simp [results, Try.results9, go_sem, y0, y1, y2]) rfl ?_
    exact ⟨p5, c5, rfl, s6, hc5, x6⟩
  · have HK := hidI (nulA_bad h)
    rcases (show n < 1 ∨ (¬ n < 1 ∧ 31 < n) by omega) with h1 | ⟨h1, h2⟩
    all_goals
      have y0 := b0.at 0 rfl; have y1 := b0.at 1 rfl; have y2 := b0.at 2 rfl
      go_enter Try.func9, Try.ntmps9
      go_wp2
      rw [← hw0]
      refine bodyPost_ret (v := .tuple #[.agg #[.int .i64 0, .int .i64 0, .slice none 0 0], .int .i64 2]) (by simp [results, Try.results9, go_sem, y0, y1, y2]) rfl ?_
      exact RetGr.of (G' := ⟨0, 0, []⟩) HK.out (Sg.nil _ _ _ _) (Nat.zero_le _) hB0
end Go.Proofs.Ytlgjhmenjfmpfaa
namespace Go.Proofs.Ytlgjhmenjfmpfaa
open Go.RowKit

theorem mem_crgE {K : Nat} {x : Ed} : x ∈ crgE K ↔ ∃ s : Int, (0 ≤ s ∧ s < K) ∧ (x = ⟨s, 1, s + 1⟩ ∨ x = ⟨s + 1, 0, s⟩) := by
  unfold crgE; simp only [List.mem_flatMap, mem_uptoC, List.mem_cons, List.not_mem_nil, or_false]
def crgG (k : Int) : Gr := ⟨2, k + 1, norm (crgE k.toNat)⟩
theorem crg_chk {k : Int} (h1 : 1 ≤ k) (h2 : k < 64) : chkG (crgG k) = 0 := by
  refine chkG_norm (by omega) (by omega) (by omega) (by omega) (Nat.le_trans (crgE_len _) (by omega)) (fun x hx => ?_)
  obtain ⟨s, hs, rfl | rfl⟩ := mem_crgE.1 hx
  · exact ⟨hs.1, by show (0 : Int) ≤ 1; decide, by show (0 : Int) ≤ s + 1; omega, by show s < k + 1; omega, by show s + 1 < k + 1; omega, by show (1 : Int) < 2; decide⟩
  · exact ⟨by show (0 : Int) ≤ s + 1; omega, by show (0 : Int) ≤ 0; decide, hs.1, by show s + 1 < k + 1; omega, by show s < k + 1; omega, by show (0 : Int) < 2; decide⟩
theorem crgA_eq {k : Int} (h1 : 1 ≤ k) (h2 : k < 64) : crgA k = (crgG k, 0) := by
  rw [crgA_ref h1 h2]; exact makeA_ok (crg_chk h1 h2)
theorem crg_next {k : Int} (h1 : 1 ≤ k) (h2 : k < 64) {st : List Int} (hst : ∀ x ∈ st, 0 ≤ x ∧ x ≤ k) {b v : Int} (hb : (b = 0 ∧ v = -1) ∨ (b = 1 ∧ v = 1)) (t : Int) :
    t ∈ nextA (crgG k) st b ↔ (0 ≤ t ∧ t ≤ k) ∧ t - v ∈ st := by
  rw [mem_nextA (chkG_ok.1 (crg_chk h1 h2))]
  constructor
  · rintro ⟨x, hx, ht, hl, hf⟩
    have hx' : x ∈ crgE k.toNat := mem_norm.1 hx
    obtain ⟨s, hs, rfl | rfl⟩ := mem_crgE.1 hx'
    · have ht : s + 1 = t := ht
      have hl : (1 : Int) = b := hl
      have hf : s ∈ st := hf
      refine ⟨by omega, ?_⟩
      rw [show t - v = s by omega]; exact hf
    · have ht : s = t := ht
      have hl : (0 : Int) = b := hl
      have hf : s + 1 ∈ st := hf
      refine ⟨by omega, ?_⟩
      rw [show t - v = s + 1 by omega]; exact hf
  · rintro ⟨ht, hm⟩
    have hr := hst _ hm
    rcases hb with ⟨rfl, rfl⟩ | ⟨rfl, rfl⟩
    · exact ⟨⟨t + 1, 0, t⟩, mem_norm.2 (mem_crgE.2 ⟨t, by omega, .inr rfl⟩), rfl, rfl, by show t + 1 ∈ st; rwa [show t - -1 = t + 1 by omega] at hm⟩
    · exact ⟨⟨t - 1, 1, t⟩, mem_norm.2 (mem_crgE.2 ⟨t - 1, by omega, .inl (by rw [Int.sub_add_cancel])⟩), rfl, rfl, hm⟩
/-- A letter's label and value. -/
theorem bin_val {c : UInt8} (h : (c.toNat : Int) = 48 ∨ (c.toNat : Int) = 49) : (Chg.dig (c.toNat : Int) = 0 ∧ Chg.val1 (c.toNat : Int) = -1) ∨ (Chg.dig (c.toNat : Int) = 1 ∧ Chg.val1 (c.toNat : Int) = 1) := by
  rcases h with h | h <;> rw [h] <;> decide
theorem lo_le_su (v : Nat → Int) (k : Nat) : Chg.Lo v k ≤ Chg.Su v k := by
  cases k with
  | zero => simp [Chg.Lo, Chg.Su]
  | succ k => exact Int.min_le_right _ _
theorem su_le_hi (v : Nat → Int) (k : Nat) : Chg.Su v k ≤ Chg.Hi v k := by
  cases k with
  | zero => simp [Chg.Hi, Chg.Su]
  | succ k => exact Int.le_max_right _ _
theorem lo_le (v : Nat → Int) (k : Nat) : Chg.Lo v k ≤ 0 := by
  induction k with
  | zero => simp [Chg.Lo]
  | succ k ih => exact Int.le_trans (Int.min_le_left _ _) ih
theorem hi_ge (v : Nat → Int) (k : Nat) : 0 ≤ Chg.Hi v k := by
  induction k with
  | zero => simp [Chg.Hi]
  | succ k ih => exact Int.le_trans ih (Int.le_max_left _ _)
theorem crg_inv {k : Int} (h1 : 1 ≤ k) (h2 : k < 64) (s : ByteArray) (hc : Chg.wchk 2 s.data.toList = 0) : ∀ i, i ≤ s.size → ∀ t,
    t ∈ endA (crgG k) (upto (k + 1).toNat) ((ltr s).take i) ↔ 0 ≤ t - Chg.Su (Chg.vAt false s) i + Chg.Lo (Chg.vAt false s) i ∧ t - Chg.Su (Chg.vAt false s) i + Chg.Hi (Chg.vAt false s) i ≤ k
  | 0, _, t => by
    show t ∈ upto (k + 1).toNat ↔ _
    rw [mem_uptoC]
    simp only [Chg.Su, Chg.Lo, Chg.Hi]
    omega
  | i + 1, hi, t => by
    have hlt : i < s.size := hi
    have ih := crg_inv h1 h2 s hc i (by omega)
    have hv := bin_val (Chg.vals_bin s hc i hlt)
    have e : Chg.vAt false s i = Chg.val1 (s[i].toNat : Int) := Chg.vAt_f s i hlt
    rw [← e] at hv
    rw [ltr_take s i hlt, endA_snoc]
    have hr : ∀ x ∈ endA (crgG k) (upto (k + 1).toNat) ((ltr s).take i), 0 ≤ x ∧ x ≤ k := by
      intro x hx
      have := (ih x).1 hx
      have a1 := lo_le_su (Chg.vAt false s) i
      have a2 := su_le_hi (Chg.vAt false s) i
      omega
    rw [crg_next h1 h2 hr hv t, ih]
    simp only [Chg.Su, Chg.Lo, Chg.Hi]
    have a1 := lo_le_su (Chg.vAt false s) i
    have a2 := su_le_hi (Chg.vAt false s) i
    generalize Chg.vAt false s i = v at *
    generalize Chg.Su (Chg.vAt false s) i = u at *
    generalize Chg.Lo (Chg.vAt false s) i = lo at *
    generalize Chg.Hi (Chg.vAt false s) i = hi at *
    omega
theorem crg_acc {k : Int} (h1 : 1 ≤ k) (h2 : k < 64) (s : ByteArray) (hc : Chg.wchk 2 s.data.toList = 0) : accA (crgG k) s = decide (Chg.wid false s ≤ k) := by
  have hI := crg_inv h1 h2 s hc s.size (Nat.le_refl _)
  rw [ltr_all] at hI
  unfold accA Chg.wid
  show decide (0 < (endA (crgG k) (upto (k + 1).toNat) (ltr s)).length) = _
  rw [decide_eq_decide, List.length_pos_iff_exists_mem]
  constructor
  · rintro ⟨t, ht⟩
    have := (hI t).1 ht
    omega
  · intro h
    exact ⟨Chg.Su (Chg.vAt false s) s.size - Chg.Lo (Chg.vAt false s) s.size, (hI _).2 ⟨by omega, by omega⟩⟩
end Go.Proofs.Ytlgjhmenjfmpfaa
namespace Go.Proofs.Ytlgjhmenjfmpfaa
open Go.RowKit

theorem mem_nulE {n : Int} (h : 0 ≤ n) {x : Ed} : x ∈ nulE n (n + 1).toNat ↔ ∃ v t l, (0 ≤ v ∧ v < n + 1) ∧ (0 ≤ t ∧ t < 2) ∧ (0 ≤ l ∧ l < 2) ∧
    (0 ≤ v + 2 * (if t = 1 then 1 - l else l) - 1 ∧ v + 2 * (if t = 1 then 1 - l else l) - 1 < n + 1) ∧ x = ⟨2 * v + t, l, 2 * (v + 2 * (if t = 1 then 1 - l else l) - 1) + (1 - t)⟩ := by
  rw [← nul_same n h x, mem_mdA]
  constructor
  · rintro ⟨a, b, l, ha, hb, hl, ⟨h1, h2, _, _⟩, rfl⟩
    exact ⟨a, b, l, ha, hb, hl, ⟨h1, h2⟩, rfl⟩
  · rintro ⟨a, b, l, ha, hb, hl, ⟨h1, h2⟩, rfl⟩
    exact ⟨a, b, l, ha, hb, hl, ⟨h1, h2, by show (0 : Int) ≤ 1 - b; omega, by show (1 : Int) - b < 2; omega⟩, rfl⟩
def nulG (n : Int) : Gr := ⟨2, 2 * n + 2, norm (nulE n (n + 1).toNat)⟩
theorem nul_chk {n : Int} (h1 : 1 ≤ n) (h2 : n ≤ 31) : chkG (nulG n) = 0 := by
  refine chkG_norm (by omega) (by omega) (by omega) (by omega) (Nat.le_trans (nulE_len _ _) (by omega)) (fun x hx => ?_)
  obtain ⟨v, t, l, hv, ht, hl, hc, rfl⟩ := (mem_nulE (by omega)).1 hx
  show 0 ≤ 2 * v + t ∧ 0 ≤ l ∧ 0 ≤ 2 * (v + 2 * (if t = 1 then 1 - l else l) - 1) + (1 - t) ∧ 2 * v + t < 2 * n + 2 ∧ 2 * (v + 2 * (if t = 1 then 1 - l else l) - 1) + (1 - t) < 2 * n + 2 ∧ l < 2
  generalize (if t = 1 then 1 - l else l) = z at *
  omega
/-- States that all have an edge to them and one from them. -/
theorem ess_all {G : Gr} (h : ∀ s, 0 ≤ s → s < G.n → (∃ x ∈ G.es, x.t = s ∧ 0 ≤ x.f ∧ x.f < G.n) ∧ ∃ x ∈ G.es, x.f = s ∧ 0 ≤ x.t ∧ x.t < G.n) : ess G.es (upto G.n.toNat) = upto G.n.toNat := by
  refine ess_stop ?_
  unfold essS
  rw [List.filter_eq_self.2 ?_]
  intro s hs
  have hs' := mem_uptoC.1 hs
  obtain ⟨⟨x, hx, h1, h2, h3⟩, y, hy, h4, h5, h6⟩ := h s (by omega) (by omega)
  unfold essP cmsE goesE
  rw [Bool.and_eq_true, List.any_eq_true, List.any_eq_true]
  exact ⟨⟨x, hx, by simp only [Bool.and_eq_true, decide_eq_true_eq]; exact ⟨h1, mem_uptoC.2 (by omega)⟩⟩, y, hy, by simp only [Bool.and_eq_true, decide_eq_true_eq]; exact ⟨h4, mem_uptoC.2 (by omega)⟩⟩
theorem nul_ess {n : Int} (h1 : 1 ≤ n) : ess (nulG n).es (upto (nulG n).n.toNat) = upto (nulG n).n.toNat := by
  refine ess_all (fun s h0 hs => ?_)
  have hs : s < 2 * n + 2 := hs
  obtain ⟨v, t, ht, rfl⟩ : ∃ v t : Int, (t = 0 ∨ t = 1) ∧ s = 2 * v + t := ⟨s / 2, s % 2, by omega, by omega⟩
  have hv : 0 ≤ v ∧ v ≤ n := by omega
  have mk : ∀ a b l : Int, 0 ≤ a → a < n + 1 → 0 ≤ b → b < 2 → 0 ≤ l → l < 2 → 0 ≤ a + 2 * (if b = 1 then 1 - l else l) - 1 → a + 2 * (if b = 1 then 1 - l else l) - 1 < n + 1 →
      (⟨2 * a + b, l, 2 * (a + 2 * (if b = 1 then 1 - l else l) - 1) + (1 - b)⟩ : Ed) ∈ (nulG n).es := fun a b l g1 g2 g3 g4 g5 g6 g7 g8 =>
    mem_norm.2 ((mem_nulE (by omega)).2 ⟨a, b, l, ⟨g1, g2⟩, ⟨g3, g4⟩, ⟨g5, g6⟩, ⟨g7, g8⟩, rfl⟩)
  constructor
  · -- an edge to it
    by_cases hvn : 0 < v
    · rcases ht with rfl | rfl
      · exact ⟨_, mk (v - 1) 1 0 (by omega) (by omega) (by omega) (by omega) (by omega) (by omega) (by simp <;> omega) (by simp <;> omega), by simp <;> omega, by simp <;> omega, by show 2 * (v - 1) + 1 < 2 * n + 2; omega⟩
      · exact ⟨_, mk (v - 1) 0 1 (by omega) (by omega) (by omega) (by omega) (by omega) (by omega) (by simp <;> omega) (by simp <;> omega), by simp <;> omega, by simp <;> omega, by show 2 * (v - 1) + 0 < 2 * n + 2; omega⟩
    · rcases ht with rfl | rfl
      · exact ⟨_, mk (v + 1) 1 1 (by omega) (by omega) (by omega) (by omega) (by omega) (by omega) (by simp <;> omega) (by simp <;> omega), by simp <;> omega, by simp <;> omega, by show 2 * (v + 1) + 1 < 2 * n + 2; omega⟩
      · exact ⟨_, mk (v + 1) 0 0 (by omega) (by omega) (by omega) (by omega) (by omega) (by omega) (by simp <;> omega) (by simp <;> omega), by simp <;> omega, by simp <;> omega, by show 2 * (v + 1) + 0 < 2 * n + 2; omega⟩
  · by_cases hvn : 0 < v
    · rcases ht with rfl | rfl
      · exact ⟨_, mk v 0 0 (by omega) (by omega) (by omega) (by omega) (by omega) (by omega) (by simp <;> omega) (by simp <;> omega), rfl, by simp <;> omega, by simp [nulG] <;> omega⟩
      · exact ⟨_, mk v 1 1 (by omega) (by omega) (by omega) (by omega) (by omega) (by omega) (by simp <;> omega) (by simp <;> omega), rfl, by simp <;> omega, by simp [nulG] <;> omega⟩
    · rcases ht with rfl | rfl
      · exact ⟨_, mk v 0 1 (by omega) (by omega) (by omega) (by omega) (by omega) (by omega) (by simp <;> omega) (by simp <;> omega), rfl, by simp <;> omega, by simp [nulG] <;> omega⟩
      · exact ⟨_, mk v 1 0 (by omega) (by omega) (by omega) (by omega) (by omega) (by omega) (by simp <;> omega) (by simp <;> omega), rfl, by simp <;> omega, by simp [nulG] <;> omega⟩
theorem nulA_eq {n : Int} (h1 : 1 ≤ n) (h2 : n ≤ 31) : nulA n = (nulG n, 0) := by
  have hm : makeA 2 (2 * n + 2) (nulE n (n + 1).toNat) = (nulG n, 0) := makeA_ok (nul_chk h1 h2)
  rw [nulA_ref h1 h2, hm]
  show ((essA (nulG n)).1, (essA (nulG n)).2.2) = _
  rw [essA_ok (nul_chk h1 h2), nul_ess h1, part_all (chkG_ok.1 (nul_chk h1 h2))]
theorem nul_next {n : Int} (h1 : 1 ≤ n) (h2 : n ≤ 31) {st : List Int} (hst : ∀ x ∈ st, 0 ≤ x ∧ x < 2 * n + 2) {b v : Int} (hb : (b = 0 ∧ v = -1) ∨ (b = 1 ∧ v = 1)) (a t : Int) (ht : t = 0 ∨ t = 1) :
    2 * a + t ∈ nextA (nulG n) st b ↔ (0 ≤ a ∧ a ≤ n) ∧ 2 * (a - (if t = 0 then -v else v)) + (1 - t) ∈ st := by
  rw [mem_nextA (chkG_ok.1 (nul_chk h1 h2))]
  constructor
  · rintro ⟨x, hx, hxt, hxl, hxf⟩
    obtain ⟨v', t', l, hv', ht', hl, hc, rfl⟩ := (mem_nulE (by omega)).1 (mem_norm.1 hx)
    have hxl : l = b := hxl
    subst hxl
    have hxt : 2 * (v' + 2 * (if t' = 1 then 1 - l else l) - 1) + (1 - t') = 2 * a + t := hxt
    have hxf : 2 * v' + t' ∈ st := hxf
    have e : 2 * (a - (if t = 0 then -v else v)) + (1 - t) = 2 * v' + t' := by
      rcases ht with rfl | rfl <;> rcases (show t' = 0 ∨ t' = 1 by omega) with rfl | rfl <;> rcases hb with ⟨rfl, rfl⟩ | ⟨rfl, rfl⟩ <;> simp at hxt ⊢ <;> omega
    rw [e]
    refine ⟨?_, hxf⟩
    generalize (if t' = 1 then 1 - l else l) = z at *
    omega
  · rintro ⟨ha, hm⟩
    have hr := hst _ hm
    refine ⟨⟨2 * (a - (if t = 0 then -v else v)) + (1 - t), b, 2 * a + t⟩, mem_norm.2 ((mem_nulE (by omega)).2 ⟨a - (if t = 0 then -v else v), 1 - t, b, ?_⟩), rfl, rfl, hm⟩
    rcases ht with rfl | rfl <;> rcases hb with ⟨rfl, rfl⟩ | ⟨rfl, rfl⟩ <;> simp at hr ⊢ <;> omega
theorem vAt_t0 (s : ByteArray) (i : Nat) (h : i < s.size) (hi : i % 2 = 0) : Chg.vAt true s i = Chg.val1 (s[i].toNat : Int) := by
  rw [Chg.vAt, Chg.byteAt_eq s i h]
  simp [hi]
theorem vAt_t1 (s : ByteArray) (i : Nat) (h : i < s.size) (hi : i % 2 = 1) : Chg.vAt true s i = -Chg.val1 (s[i].toNat : Int) := by
  rw [Chg.vAt, Chg.byteAt_eq s i h]
  simp [hi]
theorem nul_inv {n : Int} (h1 : 1 ≤ n) (h2 : n ≤ 31) (s : ByteArray) (hc : Chg.wchk 2 s.data.toList = 0) : ∀ i, i ≤ s.size → ∀ a,
    (2 * a + ((i % 2 : Nat) : Int) ∈ endA (nulG n) (upto (2 * n + 2).toNat) ((ltr s).take i) ↔ 0 ≤ a - Chg.Su (Chg.vAt true s) i + Chg.Lo (Chg.vAt true s) i ∧ a - Chg.Su (Chg.vAt true s) i + Chg.Hi (Chg.vAt true s) i ≤ n) ∧
    (2 * a + (1 - ((i % 2 : Nat) : Int)) ∈ endA (nulG n) (upto (2 * n + 2).toNat) ((ltr s).take i) ↔ 0 ≤ a + Chg.Su (Chg.vAt true s) i - Chg.Hi (Chg.vAt true s) i ∧ a + Chg.Su (Chg.vAt true s) i - Chg.Lo (Chg.vAt true s) i ≤ n)
  | 0, _, a => by
    constructor
    · show 2 * a + 0 ∈ upto (2 * n + 2).toNat ↔ _
      rw [mem_uptoC]
      simp only [Chg.Su, Chg.Lo, Chg.Hi]
      omega
    · show 2 * a + (1 - 0) ∈ upto (2 * n + 2).toNat ↔ _
      rw [mem_uptoC]
      simp only [Chg.Su, Chg.Lo, Chg.Hi]
      omega
  | i + 1, hi, a => by
    have hlt : i < s.size := hi
    have ih := nul_inv h1 h2 s hc i (by omega)
    have hv := bin_val (Chg.vals_bin s hc i hlt)
    have hst : ∀ x ∈ endA (nulG n) (upto (2 * n + 2).toNat) ((ltr s).take i), 0 ≤ x ∧ x < 2 * n + 2 :=
      (endA_st (nulG n) _ (St.upto (by show (0 : Int) ≤ 2 * n + 2; omega)) _).ins
    have a1 := lo_le_su (Chg.vAt true s) i
    have a2 := su_le_hi (Chg.vAt true s) i
    rw [ltr_take s i hlt, endA_snoc]
    rcases Nat.mod_two_eq_zero_or_one i with h0 | h0
    · have e := vAt_t0 s i hlt h0
      rw [← e] at hv
      rw [show (i + 1) % 2 = 1 by omega, nul_next h1 h2 hst hv a ((1 : Nat) : Int) (.inr rfl), nul_next h1 h2 hst hv a (1 - ((1 : Nat) : Int)) (.inl rfl)]
      rw [h0] at ih
      have i1 := (ih (a - Chg.vAt true s i)).1
      have i2 := (ih (a + Chg.vAt true s i)).2
      simp only [Chg.Su, Chg.Lo, Chg.Hi]
      simp at i1 i2 ⊢
      rw [show a + Chg.vAt true s i = a + Chg.vAt true s i from rfl] at i2
      generalize Chg.vAt true s i = v at *
      generalize Chg.Su (Chg.vAt true s) i = u at *
      generalize Chg.Lo (Chg.vAt true s) i = lo at *
      generalize Chg.Hi (Chg.vAt true s) i = hi at *
      rw [i1, i2]
      omega
    · have e := vAt_t1 s i hlt h0
      have hv' : (Chg.dig (s[i].toNat : Int) = 0 ∧ -Chg.vAt true s i = -1) ∨ (Chg.dig (s[i].toNat : Int) = 1 ∧ -Chg.vAt true s i = 1) := by rw [e, Int.neg_neg]; exact hv
      rw [show (i + 1) % 2 = 0 by omega, nul_next h1 h2 hst hv' a ((0 : Nat) : Int) (.inl rfl), nul_next h1 h2 hst hv' a (1 - ((0 : Nat) : Int)) (.inr rfl)]
      rw [h0] at ih
      have i1 := (ih (a - Chg.vAt true s i)).1
      have i2 := (ih (a + Chg.vAt true s i)).2
      simp only [Chg.Su, Chg.Lo, Chg.Hi]
      simp at i1 i2 ⊢
      generalize Chg.vAt true s i = v at *
      generalize Chg.Su (Chg.vAt true s) i = u at *
      generalize Chg.Lo (Chg.vAt true s) i = lo at *
      generalize Chg.Hi (Chg.vAt true s) i = hi at *
      rw [i1, i2]
      omega
theorem nul_acc {n : Int} (h1 : 1 ≤ n) (h2 : n ≤ 31) (s : ByteArray) (hc : Chg.wchk 2 s.data.toList = 0) : accA (nulG n) s = decide (Chg.wid true s ≤ n) := by
  have hI := nul_inv h1 h2 s hc s.size (Nat.le_refl _)
  rw [ltr_all] at hI
  unfold accA Chg.wid
  show decide (0 < (endA (nulG n) (upto (2 * n + 2).toNat) (ltr s)).length) = _
  rw [decide_eq_decide, List.length_pos_iff_exists_mem]
  constructor
  · rintro ⟨t, ht⟩
    rcases (show t % 2 = ((s.size % 2 : Nat) : Int) ∨ t % 2 = 1 - ((s.size % 2 : Nat) : Int) by omega) with h | h
    · have := (hI (t / 2)).1.1 (by rw [← h, show 2 * (t / 2) + t % 2 = t by omega]; exact ht)
      omega
    · have := (hI (t / 2)).2.1 (by rw [← h, show 2 * (t / 2) + t % 2 = t by omega]; exact ht)
      omega
  · intro h
    exact ⟨_, (hI (Chg.Su (Chg.vAt true s) s.size - Chg.Lo (Chg.vAt true s) s.size)).1.2 ⟨by omega, by omega⟩⟩
end Go.Proofs.Ytlgjhmenjfmpfaa
namespace Go.Proofs.Ytlgjhmenjfmpfaa
open Go.RowKit

/-! ### The word -/
def altC (i : Nat) (c : UInt8) : UInt8 := if i % 2 = 1 then 97 - c else c
def altS (s : ByteArray) : ByteArray := ⟨(s.data.toList.mapIdx altC).toArray⟩
theorem altS_size (s : ByteArray) : (altS s).size = s.size := by
  show (s.data.toList.mapIdx altC).toArray.size = s.size
  simp
theorem altS_list (s : ByteArray) : (altS s).data.toList = s.data.toList.mapIdx altC := by unfold altS; simp
theorem altS_get (s : ByteArray) (i : Nat) (h : i < s.size) : (altS s)[i]'(by rw [altS_size]; exact h) = altC i s[i] := by
  have e : (altS s)[i]'(by rw [altS_size]; exact h) = (altS s).data.toList[i]'(by simpa [altS_size] using h) := rfl
  have e2 : s[i] = s.data.toList[i]'(by simpa using h) := rfl
  rw [e, e2]
  simp only [altS_list, List.getElem_mapIdx]
theorem alt_bin {c : UInt8} (h : (c.toNat : Int) = 48 ∨ (c.toNat : Int) = 49) : c = 48 ∨ c = 49 := by
  rcases h with h | h
  · exact .inl (UInt8.toNat_inj.1 (by simp; omega))
  · exact .inr (UInt8.toNat_inj.1 (by simp; omega))
theorem alt_val {c : UInt8} (h : c = 48 ∨ c = 49) : Chg.val1 ((97 - c : UInt8).toNat : Int) = -Chg.val1 (c.toNat : Int) := by
  rcases h with rfl | rfl <;> decide
theorem alt_xor {c : UInt8} (h : c = 48 ∨ c = 49) : bits BinOp.xor IntKind.u8 (c.toNat : Int) 1 = ((97 - c : UInt8).toNat : Int) := by
  rcases h with rfl | rfl <;> kernel_rfl
theorem alt_wchk {s : ByteArray} (h : Chg.wchk 2 s.data.toList = 0) : Chg.wchk 2 (altS s).data.toList = 0 := by
  have hv := Chg.vals_bin s h
  have hl := Chg.wchk_long2 s h
  refine Chg.wchk_ok 2 _ (by omega) (by omega) (by rw [altS_list]; simpa using hl) ?_
  unfold Chg.okw
  rw [List.all_eq_true]
  intro x hx
  rw [altS_list, List.mem_mapIdx] at hx
  obtain ⟨i, hi, rfl⟩ := hx
  have hi' : i < s.size := by simpa using hi
  have e2 : s.data.toList[i] = s[i] := rfl
  rw [e2]
  rcases alt_bin (hv i hi') with e | e <;> rw [e] <;> unfold altC <;> split <;> decide
theorem alt_vAt {s : ByteArray} (h : Chg.wchk 2 s.data.toList = 0) {i : Nat} (hi : i < s.size) : Chg.vAt false (altS s) i = Chg.vAt true s i := by
  have hb := alt_bin (Chg.vals_bin s h i hi)
  unfold Chg.vAt
  rw [Chg.byteAt_eq s i hi, Chg.byteAt_eq (altS s) i (by rw [altS_size]; exact hi), altS_get s i hi]
  unfold altC
  by_cases e : i % 2 = 1
  · rw [if_pos e]; simp [e, alt_val hb]
  · rw [if_neg e]; simp [e]
theorem rng_congr {v v' : Nat → Int} {n : Nat} (h : ∀ i, i < n → v i = v' i) : ∀ k, k ≤ n → Chg.Su v k = Chg.Su v' k ∧ Chg.Lo v k = Chg.Lo v' k ∧ Chg.Hi v k = Chg.Hi v' k
  | 0, _ => ⟨rfl, rfl, rfl⟩
  | k + 1, hk => by
    obtain ⟨h1, h2, h3⟩ := rng_congr h k (by omega)
    have h4 : Chg.Su v (k + 1) = Chg.Su v' (k + 1) := by simp only [Chg.Su]; rw [h1, h k (by omega)]
    exact ⟨h4, by simp only [Chg.Lo]; rw [h2, h4], by simp only [Chg.Hi]; rw [h3, h4]⟩
theorem alt_wid {s : ByteArray} (h : Chg.wchk 2 s.data.toList = 0) : Chg.wid false (altS s) = Chg.wid true s := by
  unfold Chg.wid
  obtain ⟨_, h2, h3⟩ := rng_congr (fun i hi => alt_vAt h hi) s.size (Nat.le_refl _)
  rw [altS_size, h2, h3]

/-! ### In memory -/
def altAt (s : ByteArray) (k i : Nat) (h : i < s.size) : UInt8 := if i < k then altC i s[i] else s[i]
def AltM (w : World) (B : Nat) (s : ByteArray) (k : Nat) : Prop := ∀ i (h : i < s.size), w.cell? ⟨B, i, none⟩ = some (.int .u8 ((altAt s k i h).toNat : Int)) ∧ w.frozen? ⟨B, i, none⟩ = false
theorem AltM.first (w : World) (t : TypeId) (s : ByteArray) : AltM (Lib.bytesWorld w t s) w.heap.size s 1 := by
  intro i hi
  have e : altAt s 1 i hi = s[i] := by
    unfold altAt altC
    split
    · rw [if_neg (by omega)]
    · rfl
  constructor
  · rw [Lib.bytesWorld_cell w t s i hi, e, List.getD_eq_getElem?_getD, List.getElem?_eq_getElem (by simpa using hi)]
    rfl
  · have h := Lib.bytesWorld_at_new w t s
    unfold World.frozen?
    simp only [h]
    have hz : s.size ≤ (Lib.bytesCells w t s).size := by simp [Lib.bytesCells]
    rw [decide_eq_false (by omega)]
    rfl
theorem AltM.next {w : World} {B k : Nat} {s : ByteArray} (h : AltM w B s k) (hk : k < s.size) (ho : k % 2 = 1) : AltM (w.setCell ⟨B, k, none⟩ (.int .u8 ((97 - s[k] : UInt8).toNat : Int))) B s (k + 2) := by
  intro i hi
  have hs := h i hi
  refine ⟨?_, by rw [World.frozen?_setCell]; exact hs.2⟩
  by_cases e : i = k
  · subst e
    rw [World.cell?_setCell_same' _ _ _ (by rw [hs.1]; rfl)]
    unfold altAt altC; rw [if_pos (by omega), if_pos ho]
  · rw [World.cell?_setCell_other _ _ _ _ (fun he => e (by cases he; rfl)), hs.1]
    have e2 : altAt s (k + 2) i hi = altAt s k i hi := by
      unfold altAt
      by_cases h1 : i < k
      · rw [if_pos h1, if_pos (by omega)]
      · rw [if_neg h1]
        by_cases h2 : i < k + 2
        · rw [if_pos h2]; unfold altC; rw [if_neg (by omega)]
        · rw [if_neg h2]
    rw [e2]
theorem AltM.bytes {w : World} {B k : Nat} {s : ByteArray} (h : AltM w B s k) (hk : s.size ≤ k) : Lib.Bytes w B 0 (altS s) := fun i hi => by
  have hi' : i < s.size := by rw [← altS_size]; exact hi
  rw [Nat.zero_add, (h i hi').1, altS_get s i hi']
  unfold altAt; rw [if_pos (by omega)]

set_option maxRecDepth 100000 in
set_option maxHeartbeats 1000000 in
theorem alternate_any (s : ByteArray) (w : World) (hs : s.size ≤ 65536) (hc : Chg.wchk 2 s.data.toList = 0) : Calls Try.prog 20 #[.string s] w fun e w' => e = .returned (.string (altS s)) ∧ RowKit.Below w.heap.size w w' := by
  have hcv := Lib.run_convert_string_bytes (P := Try.prog) w 9 40 5 s (u := .string) Try.underlying9 Try.underlying40 Try.underlying5
  have hbw := Lib.bytesWorld_below w 5 s
  have hH := AltM.first w 5 s
  have HV := hidI (Chg.vals_bin s hc)
  generalize Lib.bytesWorld w 5 s = W1 at *
  clear hc
  go_enter Try.func20, Try.ntmps20
  go_wp2
  clear hcv
  go_loopw [4] (fun iv wr => ∃ k : Nat, k ≤ s.size + 1 ∧ k % 2 = 1 ∧ iv = .int .i64 k ∧ AltM wr w.heap.size s k ∧ RowKit.Below w.heap.size w wr) (fun iv _ => s.size + 1 - (intOf iv).toNat)
  case atStart => exact ⟨1, by omega, rfl, rfl, hH, hbw⟩
  case round =>
    clear hH hbw
    obtain ⟨k, hk, hodd, rfl, hM, hB⟩ := hrel
    by_cases hlt : k < s.size
    · have hltI : (k : Int) < (s.size : Int) := by omega
      obtain ⟨e1, e2⟩ := hM k hlt
      have e3 : altAt s k k hlt = s[k] := by unfold altAt; rw [if_neg (by omega)]
      rw [e3] at e1
      have HX := hidI (alt_xor (alt_bin (HV.out k hlt)))
      have hM2 := hM.next hlt hodd
      rw [← HX.out] at hM2
      have HM := hidI hM2
      generalize s[k] = c at *
      clear hM hM2
      go_wp2
      go_roundw
      case rel => exact ⟨k + 2, by omega, by omega, by go_num, HM.out, hB.setCell (p := ⟨w.heap.size, k, none⟩) (Nat.le_refl _) _⟩
      case measure => simp [intOf]; omega
    · have hltI : ¬ (k : Int) < (s.size : Int) := by omega
      have hby := hM.bytes (by omega)
      have hcw := Lib.run_convert_whole (P := Try.prog) wr 40 5 9 Try.underlying40 Try.underlying5 Try.underlying9 _ _ (altS s) hby (grownCap w s.size 0 5)
      rw [altS_size] at hcw
      clear hM hby
      go_wp2
      go_ret
      exact ⟨rfl, hB⟩
end Go.Proofs.Ytlgjhmenjfmpfaa
namespace Go.Proofs.Ytlgjhmenjfmpfaa
open Go.ChangeShapes Go.WideShapes Go.ChangeAt Go.RowKit

theorem own : ownKnob Try.prog.godebug = none := by kernel_rfl
theorem laidOut : laidOutB Try.prog = true := by kernel_rfl

theorem trodAll_below {H : Type} {enc : TypeId × Value → H} {W W' : World} (hb : Below W.heap.size W W') :
    ∀ (ts : List TypeId) (vs : List Value) (ds : List (DataW H)) (p : List MemPlace), (∀ t ∈ ts, Try.prog.readableRec t = true ∧ t < Try.prog.types.size) →
      DataW.TrodAll enc Try.prog W 0 (fun _ => true) true ts vs ds p → (∀ x ∈ p, x.block < W.heap.size) →
      DataW.TrodAll enc Try.prog W' 0 (fun b => decide (b < W.heap.size)) true ts vs ds p
  | [], vs, ds, p, _, h, _ => by
    obtain ⟨rfl, rfl, rfl⟩ := trodAll_nil h
    exact trodAll_mk0
  | t :: ts, vs, ds, p, ht, h, hlt => by
    obtain ⟨v, vs', d, ds', p', q', rfl, rfl, rfl, h0, h1⟩ := trodAll_cons h
    exact trodAll_cons_mk (Below.trod laidOut (ht t List.mem_cons_self).1 (ht t List.mem_cons_self).2 h0 hb (fun x hx => hlt x (List.mem_append_left _ hx)))
      (trodAll_below hb ts vs' ds' q' (fun t h => ht t (List.mem_cons_of_mem _ h)) h1 (fun x hx => hlt x (List.mem_append_right _ hx)))

/-- What the row asks behind the call of a law. -/
theorem law_post {H : Type} {enc : TypeId × Value → H} {f : Func} {s : ChangeSpec} {W W' : World} {args : Array Value} {ds gs : List (DataW H)} {before : List MemPlace}
    (hW : DataW.Whole enc Try.prog f.params.toList s.vars false W args.toList ds gs before) (hv : s.vars = [])
    (hr : f.resultTypes = #[4]) (ht : ∀ t ∈ f.params.toList, Try.prog.readableRec t = true ∧ t < Try.prog.types.size)
    (hfr : (s.fn H (ds ++ gs)).results = [.lit (.bool true)]) (hfa : (s.fn H (ds ++ gs)).args = ds) (hfv : (s.fn H (ds ++ gs)).vars = [])
    (hB : Below W.heap.size W W') : s.post enc Try.prog f false true false false W args (.bool true) W' := by
  have hW' := hW
  obtain ⟨p, q, hA, hV, rfl, hfz, hnd⟩ := hW
  have hlt : ∀ x ∈ p, x.block < W.heap.size := fun x hx => hW'.lt x (List.mem_append_left _ hx)
  refine ⟨ds, gs, _, [] ++ [], p, [], hW', ?_, ?_, ?_, hB.frame _, fun h => by cases h⟩
  · rw [hfr, hr]; exact trodAll_mk1 (shut_bool Try.underlying4 true)
  · rw [hfa]; exact trodAll_below hB _ _ _ _ ht hA hlt
  · rw [hfv, hv]; exact rfl
end Go.Proofs.Ytlgjhmenjfmpfaa
namespace Go.Proofs.Ytlgjhmenjfmpfaa
open Go.ChangeShapes Go.WideShapes Go.ChangeAt Go.RowKit
open Go.ChangeMaps (open_string shut_string)

theorem bin_okN {s : ByteArray} {n : Int} (h : Chg.bin s n = true) : (s.size : Int) ≤ n ∧ Chg.wchk 2 s.data.toList = 0 := by
  unfold Chg.bin at h
  simpa using h

set_option maxRecDepth 100000 in
set_option maxHeartbeats 4000000 in
theorem lawNulls_any (n : Int) (s : ByteArray) (w : World) (hn0 : 0 ≤ n) (hn1 : n ≤ 255) (hs : s.size ≤ maxLen) :
    Calls Try.prog 5 #[.int .u8 n, .string s] w fun e w' => e = .returned (.bool true) ∧ Below w.heap.size w w' := by
  cases hb : Chg.bin s 30
  · have HB := hidI hb
    clear hb
    go_enter Try.func5, Try.ntmps5
    go_wp2_with fail
    refine (Chg.binary_any s 30 _ hs).mono ?_
    rintro e w1 ⟨rfl, hD⟩
    have hD' : Dr w w1 := hD
    rw [HB.out]
    go_wp2_with fail
    refine (Chg.awake_any w1).mono ?_
    rintro e w2 ⟨rfl, hB⟩
    go_wp2
    go_ret
    exact ⟨rfl, (hD'.below _).trans (hB.mono (hD'.below 0).size)⟩
  · have HB := hidI hb
    obtain ⟨hl, hok⟩ := bin_okN hb
    have HOK := hidI hok
    clear hb hok
    obtain ⟨k, hk⟩ : ∃ k, k = 1 + n % 10 := ⟨_, rfl⟩
    have hk1 : 1 ≤ k := by omega
    have hk2 : k ≤ 10 := by omega
    have HKK : Hid (1 + n % 10 = k) := hk.symm
    clear hk
    have HG := hidI (fun W => cNull_any k W)
    rw [nulA_eq hk1 (by omega)] at HG
    have HV := hidI (chkG_ok.1 (nul_chk hk1 (show k ≤ 31 by omega)))
    have HA := hidI (nul_acc hk1 (by omega) s HOK.out)
    have HVL := hidI (Chg.vld_ok true 31 k s hk1 (by omega) HOK.out)
    have HVM := hidI (Chg.vld_ok false 63 k (altS s) hk1 (by omega) (alt_wchk HOK.out))
    have HWW := hidI (alt_wid HOK.out)
    have HQ : Hid ((nulG k).q = 2) := rfl
    have hs2 : s.size ≤ 65536 := by omega
    have HVA := fun W => Chg.nullv_any k s W hs
    have HVB := fun W => Chg.valid_any k (altS s) W (by rw [altS_size]; exact hs)
    have HAL := hidI (fun W => alternate_any s W hs2 HOK.out)
    rw [HVL.out] at HVA
    rw [HVM.out, HWW.out] at HVB
    generalize hG : nulG k = G at *
    generalize Chg.wid true s = wd at *
    clear hG HVL HVM HWW
    have HVA := hidI HVA; have HVB := hidI HVB
    generalize altS s = s2 at *
    go_enter Try.func5, Try.ntmps5
    go_wp2_with fail
    refine (Chg.binary_any s 30 _ hs).mono ?_
    rintro e w1 ⟨rfl, hD⟩
    have hD' : Dr w w1 := hD
    have x1 : RowKit.Below w.heap.size w w1 := hD'.below _
    rw [HB.out]
    go_wp2_with fail
    rw [HKK.out]
    clear HKK hD hD'
    refine (HG.out w1).mono ?_
    rintro e w2 ⟨p, c, rfl, hs2, _, hB2⟩
    have x2 := x1.trans (hB2.mono x1.size)
    obtain ⟨w3, hw3⟩ : ∃ w3, w3 = w2.alloc (.cells #[.int .i64 G.q, .int .i64 G.n, .slice p G.es.length c] 24) := ⟨_, rfl⟩
    have hq : RowKit.Below w2.heap.size w2 w3 := by subst hw3; exact (RowKit.Below.refl _ _).alloc (Nat.le_refl _) _
    have s3 := hs2.below hq
    have x3 := x2.trans (hq.mono x2.size)
    clear hs2 hq hB2 x2
    go_wp2_with fail
    first | rw [← hw3] | skip
    refine (lAccepts_any G p c s _ (by first | exact s3 | (subst hw3; exact s3)) HV.out (by have := HQ.out; omega) hs (by rw [HQ.out]; exact HOK.out) (by omega)).mono ?_
    rw [HA.out]
    rintro e w4 ⟨rfl, hB4⟩
    have x4 := x3.trans (hB4.mono x3.size)
    clear s3 x3
    go_wp2_with fail
    refine (HVA.out w4).mono ?_
    rintro e w5 ⟨rfl, hB5⟩
    have x5 := x4.trans (hB5.mono x4.size)
    clear x4
    go_wp2_with fail
    refine (HAL.out w5).mono ?_
    rintro e w6 ⟨rfl, hB6⟩
    have x6 := x5.trans (hB6.mono x5.size)
    clear x5
    go_wp2_with fail
    refine (HVB.out w6).mono ?_
    rintro e w7 ⟨rfl, hB7⟩
    have x7 := x6.trans (hB7.mono x6.size)
    clear x6
    cases hd1 : decide (wd ≤ k)
    · go_wp2_with fail
      refine (Chg.awake_any w7).mono ?_
      rintro e w8 ⟨rfl, hB8⟩
      go_wp2
      go_ret
      exact ⟨rfl, x7.trans (hB8.mono x7.size)⟩
    · go_wp2_with fail
      refine (Chg.awake_any w7).mono ?_
      rintro e w8 ⟨rfl, hB8⟩
      go_wp2
      go_ret
      exact ⟨rfl, x7.trans (hB8.mono x7.size)⟩
theorem readU8N : Try.prog.readableRec 5 = true ∧ 5 < Try.prog.types.size := ⟨by kernel_rfl, of_decide_eq_true (by kernel_rfl)⟩
theorem readStringN : Try.prog.readableRec 9 = true ∧ 9 < Try.prog.types.size := ⟨by kernel_rfl, of_decide_eq_true (by kernel_rfl)⟩

set_option maxRecDepth 100000 in
theorem nulls_lifted (os : Os) (started : os.Started) (H : Type) (enc : TypeId × Value → H) :
    ReturnsInHanded {} Try.checked os 5 .any (Rows.chargeNullsSpec.pre6 enc Try.prog Try.f5 Rows.chargeNullsRow.domain false) (Rows.chargeNullsSpec.post enc Try.prog Try.f5 false true false false) := by
  refine returnsInHanded_of_change (C := Try.checked) own started (by kernel_rfl) Try.func5
    (ChangeSpec.witness6 (enc := enc) (C := Try.checked) false ⟨#[], #[.int .u8 0, .string ByteArray.empty], []⟩ 8 (by kernel_rfl) (by kernel_rfl) (by kernel_rfl) (by kernel_rfl)) ?_
  intro W base args ds gs before hval0 hW hcnd _
  have hval : ∀ (j : Nat) t v, Try.f5.params[j]? = some t → args[j]? = some v → Value.okWide Try.prog W .any base t v := hval0
  have hW' := hW
  obtain ⟨p, q, hA0, hV, rfl, hfz, hnd⟩ := hW
  have hA : DataW.TrodAll enc Try.prog W 0 (fun _ => true) true Try.f5.params.toList args.toList ds p := hA0
  rw [Try.params5] at hA hval
  obtain ⟨v0, v1, d0, d1, p0, p1, rfl, rfl, rfl, h0, h1⟩ := trodAll_two hA
  obtain ⟨rfl, rfl⟩ := trodVars_none hV
  obtain ⟨a0, rfl, rfl, rfl, w0⟩ := open_int Try.underlying5 (hval 0 5 v0 rfl rfl) h0
  obtain ⟨a1, rfl, rfl, rfl, w1⟩ := open_string Try.underlying9 (hval 1 9 v1 rfl rfl) h1
  have hb := bounds_u8 w0
  refine (lawNulls_any a0 a1 W hb.1 hb.2 w1).mono fun e W' ⟨he, hB⟩ => ?_
  subst he
  refine ⟨_, rfl, law_post hW' rfl (by kernel_rfl) ?_ rfl rfl rfl hB⟩
  rw [Try.params5]
  intro t ht
  simp only [List.mem_cons, List.not_mem_nil, or_false] at ht
  rcases ht with rfl | rfl
  · exact readU8N
  · exact readStringN

theorem chargeNulls_holds : Rows.ChargeNullsSaid :=
  OpenClaim.holds_of_wide 5 Try.f5 rfl rfl rfl rfl rfl rfl rfl ⟨rfl, rfl, rfl, rfl, rfl⟩ rfl rfl rfl rfl rfl (by kernel_rfl) Try.func5 (by kernel_rfl)
    (of_decide_eq_true (by kernel_rfl)) (by unfold Func.isWrapper; rw [if_neg (of_decide_eq_false (by kernel_rfl))]; exact ⟨rfl, rfl⟩)
    (fun os started H enc _ => nulls_lifted os started H enc)
#print axioms chargeNulls_holds
end Go.Proofs.Ytlgjhmenjfmpfaa
