/-
  Walks: small functions of tables with lookahead.
-/
import Derived.Test.YthfgdahooigifaaBuilder
import Derived.Test.YthfgdahooigifaaMap
import Derived.Test.YthfgdahooigifaaLook
import Derived.StillTailTactics
import Derived.Outline
namespace Go.Proofs.Ythfgdahooigifaa
open Go.RowKit

/-- A table, as it comes in. -/
def tbV (T : Tb) (p1 p2 : Option Addr) (c1 c2 : Nat) : Value := .agg #[.int .i64 T.q, .int .i64 T.n, .slice p1 T.base.length c1, .slice p2 T.swaps.length c2]
def greatT (T : Tb) : Bool := decide (5 < T.base.length) || (decide (8 < T.swaps.length) || ((decide (3 < T.n) && decide (T.n ≤ 8)) || (decide (3 < T.q) && decide (T.q ≤ 16))))

set_option maxHeartbeats 400000 in
theorem great_any (T : Tb) (p1 p2 : Option Addr) (c1 c2 : Nat) (w : World) (h1 : T.base.length ≤ 9223372036854775807) (h2 : T.swaps.length ≤ 9223372036854775807) :
    Calls Try.prog 5 #[.agg #[.int .i64 T.q, .int .i64 T.n, .slice p1 T.base.length c1, .slice p2 T.swaps.length c2]] w fun e w' => e = .returned (.bool (greatT T)) ∧ Below w.heap.size w w' := by
  go_enter Try.func5, Try.ntmps5
  go_wp2
  all_goals go_ret
  all_goals exact ⟨ret_bool (by unfold greatT; rw [Bool.eq_iff_iff]; simp; omega), (Below.refl _ _).alloc (Nat.le_refl _) _⟩

set_option maxHeartbeats 400000 in
theorem cmpI_any (x y : Int) (w : World) : Calls Try.prog 40 #[.int .i64 x, .int .i64 y] w fun e w' => e = .returned (.int .i64 (cmpI x y)) ∧ w' = w := by
  refine (Try.cmp_Compare_int x y w).mono ?_
  rintro e w' ⟨rfl, rfl⟩
  exact ⟨ret_int (by unfold Lib.compareInt cmpI; rfl), rfl⟩

def orI (x y : Int) : Int := if x ≠ 0 then x else y
set_option maxHeartbeats 400000 in
theorem cmpOr2_any (x y : Int) (B : Nat) (w : World) (h0 : w.cell? ⟨B, 0, none⟩ = some (.int .i64 x)) (h1 : w.cell? ⟨B, 1, none⟩ = some (.int .i64 y)) :
    Calls Try.prog 39 #[.slice (some ⟨B, 0, none⟩) 2 2] w fun e w' => e = .returned (.int .i64 (orI x y)) ∧ w' = w := by
  by_cases hx : x = 0
  · have hxb : (x == 0) = true := by simpa using hx
    by_cases hy : y = 0
    · have hyb : (y == 0) = true := by simpa using hy
      have HR : Hid (orI x y = 0) := by simp [Hid, orI, hx, hy]
      clear hx hy
      go_enter Try.func39, Try.ntmps39
      go_wp2
      refine wp_loop_rounds 3 ?_
      rw [rounds_succ]
      go_wp2
      rw [rounds_succ]
      go_wp2
      rw [rounds_succ]
      go_wp2
      go_ret
      exact ⟨ret_int HR.out.symm, rfl⟩
    · have hyb : (y == 0) = false := by simpa using hy
      have HR : Hid (orI x y = y) := by simp [Hid, orI, hx]
      clear hx hy
      go_enter Try.func39, Try.ntmps39
      go_wp2
      refine wp_loop_rounds 3 ?_
      rw [rounds_succ]
      go_wp2
      rw [rounds_succ]
      go_wp2
      go_ret
      exact ⟨ret_int HR.out.symm, rfl⟩
  · have hxb : (x == 0) = false := by simpa using hx
    have HR : Hid (orI x y = x) := by simp [Hid, orI, hx]
    clear hx
    go_enter Try.func39, Try.ntmps39
    go_wp2
    refine wp_loop_rounds 3 ?_
    rw [rounds_succ]
    go_wp2
    go_ret
    exact ⟨ret_int HR.out.symm, rfl⟩

set_option maxRecDepth 100000 in
set_option maxHeartbeats 400000 in
theorem lkCompare_any (a b : Sw) (w : World) :
    Calls Try.prog 31 #[.agg #[.int .i64 a.i, .int .i64 a.j, .string a.wd], .agg #[.int .i64 b.i, .int .i64 b.j, .string b.wd]] w fun e w' => e = .returned (.int .i64 (cmpS a b)) ∧ Below w.heap.size w w' := by
  go_enter Try.func31, Try.ntmps31
  go_wp2
  have r0 := (VRow.new w 41 [.int .i64 a.i, .int .i64 a.j, .string a.wd]).alloc (.cells #[.int .i64 b.i, .int .i64 b.j, .string b.wd] 41)
  have r1 := VRow.new1 w (.cells #[.int .i64 a.i, .int .i64 a.j, .string a.wd] 41) 41 [.int .i64 b.i, .int .i64 b.j, .string b.wd]
  have hB0 : Below w.heap.size w ((w.alloc (.cells #[.int .i64 a.i, .int .i64 a.j, .string a.wd] 41)).alloc (.cells #[.int .i64 b.i, .int .i64 b.j, .string b.wd] 41)) := ((Below.refl _ _).alloc (Nat.le_refl _) _).alloc (by simp) _
  refine region_tail 10 (by kernel_rfl) (by kernel_rfl) fun W hD => ?_
  have c0 := (r0.dr hD).at 0 rfl; have c1 := (r0.dr hD).at 1 rfl
  have d0 := (r1.dr hD).at 0 rfl; have d1 := (r1.dr hD).at 1 rfl
  have hB1 := hB0.trans (hD.below _)
  clear r0 r1 hB0
  simp only [List.take_succ_cons, List.take_zero, List.drop_succ_cons, List.drop_zero]
  still_step
  still_step
  still_step
  still_step
  still_call (cmpI_any _ _ _)
  still_step
  still_step
  still_step
  still_step
  still_call (cmpI_any _ _ _)
  refine wpStill_nil ?_
  have r2 := VRow.new W 3 [.int .i64 (cmpI a.i b.i), .int .i64 (cmpI a.j b.j)]
  go_wp2_with (go_at_call 39; refine (cmpOr2_any _ _ _ _ (r2.at 0 rfl) (r2.at 1 rfl)).mono ?_; rintro e w' ⟨rfl, rfl⟩)
  go_ret
  exact ⟨rfl, hB1.alloc hB1.size _⟩

/-! ### Lists of strings -/
set_option maxHeartbeats 400000 in
theorem indexStr_any (l : List ByteArray) (n : Nat) (hn : l.length = n) (p : Option Addr) (c : Nat) (s : ByteArray) (w : World) (hp : Sl w Value.string p l) (hl : n ≤ 9223372036854775807) :
    Calls Try.prog 45 #[.slice p n c, .string s] w fun e w' => e = .returned (.int .i64 (idxP (eqb s) l)) ∧ w' = w := by
  subst hn
  go_enter Try.func45, Try.ntmps45
  go_wp2
  go_loop [8] (fun i => ∃ k : Nat, k ≤ l.length ∧ i = .int .i64 k ∧ Hid (∀ j (hj : j < l.length), j < k → eqb s l[j] = false)) (fun i => l.length - (intOf i).toNat)
  case atStart => exact ⟨0, by omega, rfl, fun _ _ h => by omega⟩
  case round =>
    obtain ⟨k, hk, rfl, hj⟩ := hrel
    by_cases hlt : k < l.length
    · obtain ⟨b1, o1, rfl, hb1, hc1⟩ := hp.get k hlt
      have e1 := hc1 k hlt
      clear hc1
      by_cases he : s = l[k]
      · have hb := bts_t he
        have HI := hidI (idxP_hit (eqb s) l k hlt hj.out (eqb_t he))
        clear he
        go_wp2
        go_ret
        exact ⟨ret_int HI.out.symm, rfl⟩
      · have hb := bts_f he
        have HE := hidI he
        clear he
        go_wp2
        go_round
        case rel => exact ⟨k + 1, by omega, by go_num, fun j h1 h2 => by
          rcases Nat.lt_succ_iff_lt_or_eq.1 h2 with h3 | h3
          · exact hj.out j h1 h3
          · subst h3; exact eqb_f HE.out⟩
        case measure => simp [intOf]; omega
    · have HM := hidI (idxP_miss (eqb s) l (fun j h => hj.out j h (by omega)))
      go_wp2
      go_ret
      exact ⟨ret_int HM.out.symm, rfl⟩

set_option maxHeartbeats 400000 in
theorem containsStr_any (l : List ByteArray) (n : Nat) (hn : l.length = n) (p : Option Addr) (c : Nat) (s : ByteArray) (w : World) (hp : Sl w Value.string p l) (hl : n ≤ 9223372036854775807) :
    Calls Try.prog 41 #[.slice p n c, .string s] w fun e w' => e = .returned (.bool (l.any (eqb s))) ∧ w' = w := by
  have HA : Hid (decide (0 ≤ idxP (eqb s) l) = l.any (eqb s)) := by
    unfold Hid
    rw [idxP_any]
  go_enter Try.func41, Try.ntmps41
  go_wp2_with (go_at_call 45; refine (indexStr_any l n hn p c s _ hp hl).mono ?_; rintro e w' ⟨rfl, rfl⟩)
  go_ret
  exact ⟨ret_bool HA.out, rfl⟩

set_option maxHeartbeats 400000 in
theorem lkWords_any (q n : Int) (l : List ByteArray) (N : Nat) (hN : l.length = N) (p : Option Addr) (c : Nat) (w : World) (hp : Sl w Value.string p l) (hc : l.length ≤ c) (hl : N ≤ 9223372036854775807) (hz : ∀ j (hj : j < l.length), l[j].size ≤ maxLen) :
    Calls Try.prog 32 #[.int .i64 q, .int .i64 n, .slice p N c] w fun e w' => e = .returned (.bool (wsOk q n l)) ∧ Dr w w' := by
  subst hN
  go_enter Try.func32, Try.ntmps32
  go_wp2
  go_loopw [11] (fun i wr => ∃ k : Nat, k ≤ l.length ∧ i = .int .i64 k ∧ Hid (∀ j, j < k → wOk q n l j = true) ∧ Dr w wr) (fun i _ => l.length - (intOf i).toNat)
  case atStart => exact ⟨0, by omega, rfl, fun _ h => by omega, Dr.refl _⟩
  case round =>
    obtain ⟨k, hk, rfl, hj, hD⟩ := hrel
    by_cases hlt : k < l.length
    · have hp' := hp.dr hD
      obtain ⟨b1, o1, rfl, hb1, hc1⟩ := hp'.get k hlt
      have e1 := hc1 k hlt
      clear hc1
      have hzk := hz k hlt
      have hg := hidI (bget_eq l k hlt)
      by_cases hs : (l[k].size : Int) = n
      · have hsb : ((l[k].size : Int) == n) = true := by simpa using hs
        have HS := hidI hs
        clear hs
        by_cases hck : wchk q l[k].data.toList = 0
        · have HC := hidI hck
          clear hck
          cases hh : (l.take k).any (eqb l[k])
          · have HH := hidI hh
            clear hh
            go_wp2_with fail
            refine (wcheck_any q l[k] _ hzk).mono ?_
            rintro e w1 ⟨rfl, hD1⟩
            rw [HC.out]
            have hkc : k ≤ c := by omega
            go_wp2_with fail
            refine (containsStr_any (l.take k) k (by simp; omega) _ _ l[k] _ ((hp'.dr hD1).take k) (by omega)).mono ?_
            rintro e w' ⟨rfl, rfl⟩
            rw [HH.out]
            go_wp2
            go_roundw
            case rel => exact ⟨k + 1, by omega, by go_num, fun j h1 => by
              rcases Nat.lt_succ_iff_lt_or_eq.1 h1 with h3 | h3
              · exact hj.out j h3
              · subst h3; exact wOk_t (by rw [hg.out]; exact HS.out) (by rw [hg.out]; exact HC.out) (by rw [hg.out]; exact HH.out), hD.trans hD1⟩
            case measure => simp [intOf]; omega
          · have HF : Hid (wsOk q n l = false) := allB_f k hlt (wOk_has (by rw [hg.out]; exact hh))
            have HH := hidI hh
            clear hh
            go_wp2_with fail
            refine (wcheck_any q l[k] _ hzk).mono ?_
            rintro e w1 ⟨rfl, hD1⟩
            rw [HC.out]
            have hkc : k ≤ c := by omega
            go_wp2_with fail
            refine (containsStr_any (l.take k) k (by simp; omega) _ _ l[k] _ ((hp'.dr hD1).take k) (by omega)).mono ?_
            rintro e w' ⟨rfl, rfl⟩
            rw [HH.out]
            go_wp2
            go_ret
            exact ⟨ret_bool HF.out.symm, hD.trans hD1⟩
        · have HF : Hid (wsOk q n l = false) := allB_f k hlt (wOk_chk (by rw [hg.out]; exact hck))
          go_wp2_with fail
          refine (wcheck_any q l[k] _ hzk).mono ?_
          rintro e w1 ⟨rfl, hD1⟩
          go_wp2
          go_ret
          exact ⟨ret_bool HF.out.symm, hD.trans hD1⟩
      · have HF : Hid (wsOk q n l = false) := allB_f k hlt (wOk_len (by rw [hg.out]; exact hs))
        go_wp2
        go_ret
        exact ⟨ret_bool HF.out.symm, hD⟩
    · have HF : Hid (wsOk q n l = true) := allB_t (fun j h => hj.out j (by omega))
      go_wp2
      go_ret
      exact ⟨ret_bool HF.out.symm, hD⟩
end Go.Proofs.Ythfgdahooigifaa
