/-
  Walks: the words of swaps, of the reference; lists of numbers asked by a function.
-/
import Derived.Test.YthfgdahooigifaaLkD
import Derived.Test.YthfgdahooigifaaLook2
namespace Go.Proofs.Ythfgdahooigifaa
open Go.RowKit

theorem ret_str {a b : ByteArray} (h : a = b) : Ending.returned (.string a) = .returned (.string b) := by rw [h]
def swS (l : List Sw) (i j : Int) : ByteArray := (swapW l i j).getD ⟨#[]⟩
set_option maxHeartbeats 1000000 in
theorem rlkSwap_any (T : Tb) (i j : Int) (p1 p2 : Option Addr) (c1 c2 : Nat) (w : World) (hp : Sg 3 w swE p2 T.swaps) (h2 : T.swaps.length ≤ 9223372036854775807) :
    Calls Try.prog 26 #[.agg #[.int .i64 T.q, .int .i64 T.n, .slice p1 T.base.length c1, .slice p2 T.swaps.length c2], .int .i64 i, .int .i64 j] w fun e w' => e = .returned (.string (swS T.swaps i j)) ∧ Below w.heap.size w w' := by
  have hB0 : Below w.heap.size w (w.alloc (.cells #[.int .i64 T.q, .int .i64 T.n, .slice p1 T.base.length c1, .slice p2 T.swaps.length c2] 25)) := (Below.refl _ _).alloc (Nat.le_refl _) _
  have b0 : VRow (w.alloc (.cells #[.int .i64 T.q, .int .i64 T.n, .slice p1 T.base.length c1, .slice p2 T.swaps.length c2] 25)) w.heap.size 25 [.int .i64 T.q, .int .i64 T.n, .slice p1 T.base.length c1, .slice p2 T.swaps.length c2] := VRow.new w _ _
  go_enter Try.func26, Try.ntmps26
  go_wp2
  generalize (w.alloc (.cells #[.int .i64 T.q, .int .i64 T.n, .slice p1 T.base.length c1, .slice p2 T.swaps.length c2] 25)) = w0 at b0 hB0 ⊢
  have f3 := b0.at 3 rfl
  go_loop [7] (fun iv => ∃ k : Nat, k ≤ T.swaps.length ∧ iv = .int .i64 k ∧ Hid (∀ m (hm : m < T.swaps.length), m < k → mtS i j T.swaps[m] = false)) (fun iv => T.swaps.length - (intOf iv).toNat)
  case atStart => exact ⟨0, by omega, rfl, fun _ _ h => by omega⟩
  case round =>
    obtain ⟨k, hk, rfl, hj⟩ := hrel
    by_cases hlt : k < T.swaps.length
    · obtain ⟨b1, o1, rfl, hb1, e0, e1, e2⟩ := (hp.below hB0).get3 k hlt rfl
      have HN : Hid (mtS i j T.swaps[k] = false → ∀ m (hm : m < T.swaps.length), m < k + 1 → mtS i j T.swaps[m] = false) := fun h m hm h1 => by
        rcases Nat.lt_succ_iff_lt_or_eq.1 h1 with h3 | h3
        · exact hj.out m hm h3
        · subst h3; exact h
      by_cases h1 : T.swaps[k].i = i
      · by_cases h2' : T.swaps[k].j = j
        · have HH : Hid (swS T.swaps i j = T.swaps[k].wd) := by unfold Hid swS; rw [swapW_hit k hlt hj.out (by simp [mtS, h1, h2'])]; rfl
          have h1b : (T.swaps[k].i == i) = true := by simpa using h1
          have h2b : (T.swaps[k].j == j) = true := by simpa using h2'
          clear h1 h2'
          go_wp2
          go_ret
          exact ⟨ret_str HH.out.symm, hB0⟩
        · have HM := hidI (HN.out (by simp [mtS, h2']))
          have h2b : (T.swaps[k].j == j) = false := by simpa using h2'
          have h1b : (T.swaps[k].i == i) = true := by simpa using h1
          clear h1
          go_wp2
          go_round
          case rel => exact ⟨k + 1, by omega, by go_num, HM⟩
          case measure => simp [intOf]; omega
      · have HM := hidI (HN.out (by simp [mtS, h1]))
        have h1b : (T.swaps[k].i == i) = false := by simpa using h1
        go_wp2
        go_round
        case rel => exact ⟨k + 1, by omega, by go_num, HM⟩
        case measure => simp [intOf]; omega
    · have HH : Hid (swS T.swaps i j = ⟨#[]⟩) := by unfold Hid swS; rw [swapW_miss (fun m hm => hj.out m hm (by omega))]; rfl
      go_wp2
      go_ret
      exact ⟨ret_str HH.out.symm, hB0⟩

/-! ### Lists of numbers, asked by a function that only reads -/
set_option maxHeartbeats 400000 in
theorem indexI58_any (l : List Int) (f : Int → Bool) (B : Nat) (p : Option Addr) (c : Nat) (w : World) (hp : Sl w (Value.int .i64) p l) (hl : l.length ≤ 9223372036854775807)
    (hf : ∀ x, Calls Try.prog 21 #[.int .i64 x, .pointer (some ⟨B, 0, none⟩)] w fun e w' => e = .returned (.bool (f x)) ∧ w' = w) :
    Calls Try.prog 33 #[.slice p l.length c, .func (.func 21) #[] #[.pointer (some ⟨B, 0, none⟩)]] w fun e w' => e = .returned (.int .i64 (idxP f l)) ∧ w' = w := by
  go_enter Try.func33, Try.ntmps33
  go_wp2
  go_loop [8] (fun i => ∃ k : Nat, k ≤ l.length ∧ i = .int .i64 k ∧ Hid (∀ j (hj : j < l.length), j < k → f l[j] = false)) (fun i => l.length - (intOf i).toNat)
  case atStart => exact ⟨0, by omega, rfl, fun _ _ h => by omega⟩
  case round =>
    obtain ⟨k, hk, rfl, hj⟩ := hrel
    by_cases hlt : k < l.length
    · obtain ⟨b1, o1, rfl, hb1, hc1⟩ := hp.get k hlt
      have e1 := hc1 k hlt
      clear hc1
      have hfk := hf l[k]
      cases hh : f l[k]
      · rw [hh] at hfk
        have HH := hidI hh
        clear hh
        go_wp2_with (go_at_call 21; refine hfk.mono ?_; rintro e w' ⟨rfl, rfl⟩)
        go_round
        case rel => exact ⟨k + 1, by omega, by go_num, fun j h1 h2 => by
          rcases Nat.lt_succ_iff_lt_or_eq.1 h2 with h3 | h3
          · exact hj.out j h1 h3
          · subst h3; exact HH.out⟩
        case measure => simp [intOf]; omega
      · rw [hh] at hfk
        have HI := hidI (idxP_hit f l k hlt hj.out hh)
        clear hh
        go_wp2_with (go_at_call 21; refine hfk.mono ?_; rintro e w' ⟨rfl, rfl⟩)
        go_ret
        exact ⟨ret_int HI.out.symm, rfl⟩
    · have HM := hidI (idxP_miss f l (fun j h => hj.out j h (by omega)))
      go_wp2
      go_ret
      exact ⟨ret_int HM.out.symm, rfl⟩

set_option maxHeartbeats 400000 in
theorem containsI58_any (l : List Int) (f : Int → Bool) (B : Nat) (p : Option Addr) (c : Nat) (w : World) (hp : Sl w (Value.int .i64) p l) (hl : l.length ≤ 9223372036854775807)
    (hf : ∀ x, Calls Try.prog 21 #[.int .i64 x, .pointer (some ⟨B, 0, none⟩)] w fun e w' => e = .returned (.bool (f x)) ∧ w' = w) :
    Calls Try.prog 20 #[.slice p l.length c, .func (.func 21) #[] #[.pointer (some ⟨B, 0, none⟩)]] w fun e w' => e = .returned (.bool (l.any f)) ∧ w' = w := by
  have HA := hidI (idxP_any f l)
  go_enter Try.func20, Try.ntmps20
  go_wp2_with (go_at_call 33; refine (indexI58_any l f B p c _ hp hl hf).mono ?_; rintro e w' ⟨rfl, rfl⟩)
  go_ret
  exact ⟨ret_bool HA.out, rfl⟩

set_option maxHeartbeats 400000 in
theorem lkEncode1_any (x : Int) (N : Nat) (B : Nat) (p : Option Addr) (c : Nat) (w : World) (hb : w.cell? ⟨B, 2, none⟩ = some (.slice p N c)) :
    Calls Try.prog 21 #[.int .i64 x, .pointer (some ⟨B, 0, none⟩)] w fun e w' => e = .returned (.bool (outB N x)) ∧ w' = w := by
  go_enter Try.func21, Try.ntmps21
  go_wp2
  all_goals go_ret
  all_goals exact ⟨ret_bool (by unfold outB; first | rfl | (rw [Bool.eq_iff_iff]; simp; omega)), rfl⟩
end Go.Proofs.Ythfgdahooigifaa
