/-
  Walks: whether a list has a number, where it stands, and why a list is no set of states.
-/
import Derived.Test.YtlgjhmenjfmpfaaGk
import Derived.Test.YtlgjhmenjfmpfaaGp
namespace Go.Proofs.Ytlgjhmenjfmpfaa
open Go.RowKit Go.Sort Go.Shelf Go.Lib

set_option maxHeartbeats 400000 in
theorem rHas_q (l : List Int) (p : Option Addr) (c : Nat) (n : Int) (w : World) (hp : Sl w (Value.int .i64) p l) (hl : l.length ≤ 9223372036854775807) :
    Calls Try.prog 47 #[.slice p l.length c, .int .i64 n] w fun e w' => e = .returned (.bool (decide (n ∈ l))) ∧ w' = w := by
  go_enter Try.func47, Try.ntmps47
  go_wp2
  go_loop [5] (fun i => ∃ k : Nat, k ≤ l.length ∧ i = .int .i64 k ∧ Hid (∀ j (hj : j < l.length), j < k → l[j] ≠ n)) (fun i => l.length - (intOf i).toNat)
  case atStart => exact ⟨0, by omega, rfl, fun _ _ h => by omega⟩
  case round =>
    obtain ⟨k, hk, rfl, hj⟩ := hrel
    by_cases hlt : k < l.length
    · obtain ⟨b1, o1, rfl, hb1, hc1⟩ := hp.get k hlt
      have e1 := hc1 k hlt
      clear hc1
      by_cases he : l[k] = n
      · have HI : Hid (decide (n ∈ l) = true) := decide_eq_true (he ▸ List.getElem_mem hlt)
        have hb : (l[k] == n) = true := by simpa using he
        clear he
        go_wp2
        go_ret
        exact ⟨ret_bool HI.out.symm, rfl⟩
      · have hb : (l[k] == n) = false := by simpa using he
        have HE := hidI he
        clear he
        go_wp2
        go_round
        case rel => exact ⟨k + 1, by omega, by go_num, fun j h1 h2 => by
          rcases Nat.lt_succ_iff_lt_or_eq.1 h2 with h3 | h3
          · exact hj.out j h1 h3
          · subst h3; exact HE.out⟩
        case measure => simp [intOf]; omega
    · have HM : Hid (decide (n ∈ l) = false) := decide_eq_false (fun hm => by
        obtain ⟨i, hi, e⟩ := List.mem_iff_getElem.1 hm
        exact hj.out i hi (by omega) e)
      go_wp2
      go_ret
      exact ⟨ret_bool HM.out.symm, rfl⟩

set_option maxHeartbeats 400000 in
theorem rIndex_q (l : List Int) (p : Option Addr) (c : Nat) (n : Int) (w : World) (hp : Sl w (Value.int .i64) p l) (hl : l.length ≤ 9223372036854775807) :
    Calls Try.prog 66 #[.slice p l.length c, .int .i64 n] w fun e w' => e = .returned (.int .i64 (idxI n l)) ∧ w' = w := by
  go_enter Try.func66, Try.ntmps66
  go_wp2
  go_loop [5] (fun i => ∃ k : Nat, k ≤ l.length ∧ i = .int .i64 k ∧ Hid (∀ j (hj : j < l.length), j < k → l[j] ≠ n)) (fun i => l.length - (intOf i).toNat)
  case atStart => exact ⟨0, by omega, rfl, fun _ _ h => by omega⟩
  case round =>
    obtain ⟨k, hk, rfl, hj⟩ := hrel
    by_cases hlt : k < l.length
    · obtain ⟨b1, o1, rfl, hb1, hc1⟩ := hp.get k hlt
      have e1 := hc1 k hlt
      clear hc1
      by_cases he : l[k] = n
      · have HI : Hid (idxI n l = k) := idxI_hit hlt he hj.out
        have hb : (l[k] == n) = true := by simpa using he
        clear he
        go_wp2
        go_ret
        exact ⟨ret_int HI.out.symm, rfl⟩
      · have hb : (l[k] == n) = false := by simpa using he
        have HE := hidI he
        clear he
        go_wp2
        go_round
        case rel => exact ⟨k + 1, by omega, by go_num, fun j h1 h2 => by
          rcases Nat.lt_succ_iff_lt_or_eq.1 h2 with h3 | h3
          · exact hj.out j h1 h3
          · subst h3; exact HE.out⟩
        case measure => simp [intOf]; omega
    · have HM : Hid (idxI n l = -1) := idxI_miss (fun i hi => hj.out i hi (by omega))
      go_wp2
      go_ret
      exact ⟨ret_int HM.out.symm, rfl⟩

theorem rIndex_r (l : List Int) (p : Option Addr) (c : Nat) (n r : Int) (w : World) (hp : Sl w (Value.int .i64) p l) (hl : l.length ≤ 9223372036854775807) (hr : idxI n l = r) :
    Calls Try.prog 66 #[.slice p l.length c, .int .i64 n] w fun e w' => e = .returned (.int .i64 r) ∧ w' = w := by subst hr; exact rIndex_q l p c n w hp hl
theorem rHas_r (l : List Int) (p : Option Addr) (c : Nat) (n : Int) (r : Bool) (w : World) (hp : Sl w (Value.int .i64) p l) (hl : l.length ≤ 9223372036854775807) (hr : decide (n ∈ l) = r) :
    Calls Try.prog 47 #[.slice p l.length c, .int .i64 n] w fun e w' => e = .returned (.bool r) ∧ w' = w := by subst hr; exact rHas_q l p c n w hp hl

set_option maxRecDepth 100000 in
set_option maxHeartbeats 1000000 in
theorem gCheckSet_any (G : Gr) (p : Option Addr) (c : Nat) (l : List Int) (q : Option Addr) (d : Nat) (w : World) (hin : Sl w (Value.int .i64) q l) (hl : l.length ≤ 9223372036854775807) :
    Calls Try.prog 77 #[(.agg #[.int .i64 G.q, .int .i64 G.n, .slice p G.es.length c]), .slice q l.length d] w fun e w' => e = .returned (.int .i64 (chkS G.n none l)) ∧ Below w.heap.size w w' := by
  have hB0 : Below w.heap.size w (w.alloc (.cells #[.int .i64 G.q, .int .i64 G.n, .slice p G.es.length c] 24)) := (Below.refl _ _).alloc (Nat.le_refl _) _
  have b0 : VRow (w.alloc (.cells #[.int .i64 G.q, .int .i64 G.n, .slice p G.es.length c] 24)) w.heap.size 24 [.int .i64 G.q, .int .i64 G.n, .slice p G.es.length c] := VRow.new w _ _
  have hin0 := hin.below hB0
  have f1 := b0.at 1 rfl
  clear hin
  go_enter Try.func77, Try.ntmps77
  go_wp2
  go_loop [9] (fun i => ∃ k : Nat, k ≤ l.length ∧ i = .int .i64 k ∧ Hid (chkS G.n (pvS l k) (l.drop k) = chkS G.n none l)) (fun i => l.length - (intOf i).toNat)
  case atStart => exact ⟨0, by omega, rfl, rfl⟩
  case round =>
    obtain ⟨k, hk, rfl, hj⟩ := hrel
    by_cases hlt : k < l.length
    · obtain ⟨b1, o1, rfl, hb1, hc1⟩ := hin0.get k hlt
      have e1 := hc1 k hlt
      have HA := hidI (chkS_at (n := G.n) hlt)
      by_cases h0 : l[k] < 0
      · have HI : Hid (chkS G.n none l = 25) := by rw [Hid, ← hj.out, HA.out, if_pos (.inl h0)]
        clear hc1
        go_wp2
        go_ret
        exact ⟨ret_int HI.out.symm, hB0⟩
      · by_cases h1 : G.n ≤ l[k]
        · have HI : Hid (chkS G.n none l = 25) := by rw [Hid, ← hj.out, HA.out, if_pos (.inr h1)]
          clear hc1
          go_wp2
          go_ret
          exact ⟨ret_int HI.out.symm, hB0⟩
        · have HA2 := hidI (HA.out.trans (if_neg (by omega)))
          by_cases hk0 : k = 0
          · subst hk0
            have HN : Hid (chkS G.n (pvS l (0 + 1)) (l.drop (0 + 1)) = chkS G.n none l) := by rw [Hid, ← hj.out, HA2.out]; simp [pvS, leP]
            clear hc1
            rw [Nat.add_zero] at e1
            go_wp2
            go_round
            case rel => exact ⟨0 + 1, by omega, by go_num, HN⟩
            case measure => simp [intOf]; omega
          · obtain ⟨m, rfl⟩ : ∃ m, k = m + 1 := ⟨k - 1, by omega⟩
            have e2 := hc1 m (by omega)
            have q1 : IntKind.i64.wrap (m : Int) = (m : Int) := IntWalk.i64_in _ (by omega)
            have hpv : pvS l (m + 1) = some l[m] := by simp [pvS, show m < l.length by omega]
            by_cases h2 : l[m + 1] ≤ l[m]
            · have HI : Hid (chkS G.n none l = 10) := by rw [Hid, ← hj.out, HA2.out, hpv]; simp [leP, h2]
              clear hc1 hpv
              go_wp2
              go_ret
              exact ⟨ret_int HI.out.symm, hB0⟩
            · have HN : Hid (chkS G.n (pvS l (m + 1 + 1)) (l.drop (m + 1 + 1)) = chkS G.n none l) := by rw [Hid, ← hj.out, HA2.out, hpv]; simp [leP, h2]
              clear hc1 hpv
              go_wp2
              go_round
              case rel => exact ⟨m + 1 + 1, by omega, by go_num, HN⟩
              case measure => simp [intOf]; omega
    · have HI : Hid (chkS G.n none l = 0) := by rw [Hid, ← hj.out, chkS_end hlt]
      go_wp2
      go_ret
      exact ⟨ret_int HI.out.symm, hB0⟩
end Go.Proofs.Ytlgjhmenjfmpfaa
