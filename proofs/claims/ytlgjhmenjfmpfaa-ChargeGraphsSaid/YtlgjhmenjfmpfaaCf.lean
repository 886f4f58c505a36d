/-
  Walks: the second-order graph, of the program and of the reference.
-/
import Derived.Test.YtlgjhmenjfmpfaaCe
namespace Go.Proofs.Ytlgjhmenjfmpfaa
open Go.RowKit Go.Sort Go.Shelf Go.Lib

theorem nxS_len {n m : Int} (hn : n ≤ 62) (hm : m ≤ 62) : (mdA (n + 1) (m + 1) (numS m) (nxS (n.tdiv 2))).length ≤ 2 * 63 * 63 := by
  refine Nat.le_trans (mdA_len _ _ _ _) ?_
  exact Nat.mul_le_mul (Nat.mul_le_mul_left 2 (by omega)) (by omega)
/-- What is out of range, tested in order. -/
theorem sec_out {n m : Int} (h : ¬ (2 ≤ n ∧ n ≤ 62 ∧ n.tmod 2 = 0 ∧ 1 ≤ m ∧ m ≤ 62)) :
    n < 2 ∨ (¬ n < 2 ∧ 62 < n) ∨ (¬ n < 2 ∧ ¬ 62 < n ∧ (n.tmod 2 == 0) = false ∧ (n % 2 == 0) = false ∧ ¬ n % 2 = 0) ∨ (¬ n < 2 ∧ ¬ 62 < n ∧ (n % 2 == 0) = true ∧ n % 2 = 0 ∧ m < 1) ∨ (¬ n < 2 ∧ ¬ 62 < n ∧ (n % 2 == 0) = true ∧ n % 2 = 0 ∧ ¬ m < 1 ∧ 62 < m) := by
  by_cases h1 : n < 2
  · exact .inl h1
  by_cases h2 : 62 < n
  · exact .inr (.inl ⟨h1, h2⟩)
  by_cases h3 : n.tmod 2 = 0
  · have h3' : n % 2 = 0 := by rwa [Int.tmod_eq_emod_of_nonneg (by omega)] at h3
    by_cases h4 : m < 1
    · exact .inr (.inr (.inr (.inl ⟨h1, h2, by simpa using h3', h3', h4⟩)))
    · exact .inr (.inr (.inr (.inr ⟨h1, h2, by simpa using h3', h3', h4, by omega⟩)))
  · have h4 : ¬ n % 2 = 0 := by rwa [Int.tmod_eq_emod_of_nonneg (by omega)] at h3
    exact .inr (.inr (.inl ⟨h1, h2, by simpa using h3, by simpa using h4, h4⟩))

set_option maxRecDepth 100000 in
set_option maxHeartbeats 4000000 in
theorem cSecond_any (n m : Int) (w : World) : Calls Try.prog 11 #[.int .i64 n, .int .i64 m] w (RetGr (secA n m).1 (secA n m).2 w) := by
  have hmf : ∀ (fn : Fn) (first cap : Array Value) (w : World), (Instr.makeFunc fn first cap).run Try.prog w = .ok (.func fn first cap) w := fun _ _ _ _ => rfl
  obtain ⟨w0, hw0⟩ : ∃ w0, w0 = ((w.alloc (.cells #[.int .i64 n] 3)).alloc (.cells #[.int .i64 m] 3)).alloc (.cells #[.int .i64 0, .int .i64 0, .slice none 0 0] 24) := ⟨_, rfl⟩
  have bn : VRow w0 w.heap.size 3 [.int .i64 n] := by subst hw0; exact ((VRow.new w _ _).alloc _).alloc _
  have bm : VRow w0 (w.heap.size + 1) 3 [.int .i64 m] := by subst hw0; exact (VRow.new1 w _ _ _).alloc _
  have b2 : VRow w0 (w.heap.size + 1 + 1) 24 [.int .i64 0, .int .i64 0, .slice none 0 0] := by subst hw0; exact VRow.new2 w _ _ _ _
  have hB0 : RowKit.Below w.heap.size w w0 := by subst hw0; exact (((RowKit.Below.refl _ _).alloc (Nat.le_refl _) _).alloc (by simp) _).alloc (by simp; omega) _
  by_cases h : 2 ≤ n ∧ n ≤ 62 ∧ n.tmod 2 = 0 ∧ 1 ≤ m ∧ m ≤ 62
  · have g1 : ¬ n < 2 := by omega
    have g2 : ¬ 62 < n := by omega
    have g3 : (n.tmod 2 == 0) = true := by simpa using h.2.2.1
    have g4 : ¬ m < 1 := by omega
    have g5 : ¬ 62 < m := by omega
    have k0 : 0 ≤ (n + 1) * (m + 1) := Int.mul_nonneg (by omega) (by omega)
    have k1 : (n + 1) * (m + 1) ≤ 63 * 63 := Int.mul_le_mul (by omega) (by omega) (by omega) (by omega)
    by_cases hK : (n + 1) * (m + 1) ≤ 64
    · have HK0 := secA_ok h hK
      obtain ⟨x, hx⟩ : ∃ x, secA n m = x := ⟨_, rfl⟩
      rw [hx] at HK0 ⊢
      obtain ⟨R', k'⟩ := x
      obtain ⟨y, hy⟩ : ∃ y, makeA 2 ((n + 1) * (m + 1)) (mdA (n + 1) (m + 1) (numS m) (nxS (n.tdiv 2))) = y := ⟨_, rfl⟩
      have HL : Hid (y.1.es.length ≤ 10000) := by
        rw [← hy]
        have h3 := makeA_len 2 ((n + 1) * (m + 1)) (mdA (n + 1) (m + 1) (numS m) (nxS (n.tdiv 2)))
        have h4 := nxS_len (n := n) (m := m) (by omega) (by omega)
        unfold Hid; omega
      rw [hy] at HK0
      obtain ⟨R, k⟩ := y
      have HY := hidI hy
      have HK := hidI HK0
      clear hx HK0 hy
      have HNA := hidI (numS_at n m (by omega) (by omega) (by omega) (w.heap.size + 1) w0 bm)
      have HXA := hidI (nxS_at n m (by omega) (by omega) (by omega) w.heap.size w0 bn)
      have hkk : ¬ 64 < (n + 1) * (m + 1) := by omega
      go_enter Try.func11, Try.ntmps11
      go_wp2_with fail
      rw [← hw0]
      clear hw0
      refine (cMade_any (n + 1) (m + 1) (numS m) (nxS (n.tdiv 2)) 29 30 #[.pointer (some ⟨w.heap.size + 1, 0, none⟩)] #[.pointer (some ⟨w.heap.size, 0, none⟩)] w0 (by omega) (by omega) (by omega) (by omega) (enters_of Try.func29 (by kernel_rfl) rfl) (enters_of Try.func30 (by kernel_rfl) rfl) HNA.out HXA.out).mono ?_
      rw [HY.out]
      intro e w4 hr
      obtain ⟨p, c, rfl, hs, _, _, hB4⟩ := hr.open
      have x4 := hB0.trans (hB4.mono hB0.size)
      have e14 := b2.below hB4 b2.lt
      go_wp2_with fail
      refine (cEss_any R k p c w4 hs HL.out).mono ?_
      rw [HK.out]
      rintro e w5 ⟨p5, c5, rfl, hs5, hc5, hB5⟩
      have x5 := x4.trans (hB5.mono x4.size)
      have e15 := e14.below hB5 e14.lt
      have HB := hidI (box3 (w := w) (c := c5) e15 hs5 x5 (by omega))
      have j0 := e15.at 0 rfl; have j1 := e15.at 1 rfl; have j2 := e15.at 2 rfl
      have z0 := e15.frozen 0; have z1 := e15.frozen 1; have z2 := e15.frozen 2
      go_wp2
      obtain ⟨r6, s6, x6⟩ := HB.out
      unfold set3 at r6 s6 x6
      have y0 := r6.at 0 rfl; have y1 := r6.at 1 rfl; have y2 := r6.at 2 rfl
      refine bodyPost_ret (v := .tuple #[(.agg #[.int .i64 R'.q, .int .i64 R'.n, .slice p5 R'.es.length c5]), .int .i64 k']) (by simp [results, Try.results11, go_sem, y0, y1, y2]) rfl ?_
      exact ⟨p5, c5, rfl, s6, hc5, x6⟩
    · have HK := hidI (secA_big h hK)
      have hkk : 64 < (n + 1) * (m + 1) := by omega
      have y0 := b2.at 0 rfl; have y1 := b2.at 1 rfl; have y2 := b2.at 2 rfl
      go_enter Try.func11, Try.ntmps11
      go_wp2
      rw [← hw0]
      refine bodyPost_ret (v := .tuple #[.agg #[.int .i64 0, .int .i64 0, .slice none 0 0], .int .i64 4]) (by simp [results, Try.results11, go_sem, y0, y1, y2]) rfl ?_
      exact RetGr.of (G' := ⟨0, 0, []⟩) HK.out (Sg.nil _ _ _ _) (Nat.zero_le _) hB0
  · have HK := hidI (secA_bad h)
    rcases sec_out h with h1 | ⟨h1, h2⟩ | ⟨h1, h2, h3, h3a, h3b⟩ | ⟨h1, h2, h3, h3a, h4⟩ | ⟨h1, h2, h3, h3a, h4, h5⟩
    all_goals
      clear h
      have y0 := b2.at 0 rfl; have y1 := b2.at 1 rfl; have y2 := b2.at 2 rfl
      go_enter Try.func11, Try.ntmps11
      go_wp2
      rw [← hw0]
      refine bodyPost_ret (v := .tuple #[.agg #[.int .i64 0, .int .i64 0, .slice none 0 0], .int .i64 2]) (by simp [results, Try.results11, go_sem, y0, y1, y2]) rfl ?_
      exact RetGr.of (G' := ⟨0, 0, []⟩) HK.out (Sg.nil _ _ _ _) (Nat.zero_le _) hB0
end Go.Proofs.Ytlgjhmenjfmpfaa
