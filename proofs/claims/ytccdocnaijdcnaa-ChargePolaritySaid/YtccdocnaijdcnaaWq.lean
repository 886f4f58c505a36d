/-
  Walks: Polarity of the program, refusals too.
-/
import Derived.Test.YtccdocnaijdcnaaWp
namespace Go.Proofs.Ytccdocnaijdcnaa
open Go.RowKit

/-- A slice of bools, and an error number, in memory of the call's own. -/
def RetSlB (r : List Bool) (k : Int) (w : World) (e : Ending) (w' : World) : Prop :=
  ∃ q d, e = .returned (.tuple #[.slice q r.length d, .int .i64 k]) ∧ Sl w' Value.bool q r ∧ Below w.heap.size w w'
theorem RetSlB.mk {r r' : List Bool} {k k' : Int} {w w' : World} {q : Option Addr} {d : Nat} (hr : k = k' ∧ r = r') (hs : Sl w' Value.bool q r') (hB : Below w.heap.size w w') :
    RetSlB r k w (.returned (.tuple #[.slice q r'.length d, .int .i64 k'])) w' := by
  obtain ⟨rfl, rfl⟩ := hr; exact ⟨q, d, rfl, hs, hB⟩
theorem RetSlB.nil {r : List Bool} {k k' : Int} {w w' : World} {q : Option Addr} {d : Nat} (hr : k = k' ∧ r = []) (hB : Below w.heap.size w w') :
    RetSlB r k w (.returned (.tuple #[.slice q 0 d, .int .i64 k'])) w' := by
  obtain ⟨rfl, rfl⟩ := hr; exact ⟨q, d, rfl, Sl.nil _ _ _, hB⟩

set_option maxHeartbeats 400000 in
theorem polar_any (l : List ByteArray) (p : Option Addr) (c : Nat) (x : Int) (w : World) (hl : l.length ≤ 9223372036854775807) (hp : Sl w Value.string p l) (hz : ∀ j (hj : j < l.length), l[j].size ≤ maxLen) :
    Calls Try.prog 11 #[.slice p l.length c, .int .i64 x] w (RetSlB (polR x l) (polErr x l) w) := by
  by_cases h1 : x < -65536
  · have HP := hidI (pol_out x l (.inl h1))
    go_enter Try.func11, Try.ntmps11
    go_wp2
    go_ret2
    exact RetSlB.nil HP.out (Below.refl _ _)
  by_cases h2 : 65536 < x
  · have HP := hidI (pol_out x l (.inr h2))
    go_enter Try.func11, Try.ntmps11
    go_wp2
    go_ret2
    exact RetSlB.nil HP.out (Below.refl _ _)
  by_cases h3 : 4096 < l.length
  · have HP := hidI (pol_long x l (by omega) (by omega) h3)
    go_enter Try.func11, Try.ntmps11
    go_wp2
    go_ret2
    exact RetSlB.nil HP.out (Below.refl _ _)
  exact callsIn_wide.1 (polar_in l p c x w (by omega) (by omega) (by omega) hp hz)

set_option maxHeartbeats 400000 in
theorem rdisp_any (s : ByteArray) (w : World) (hs : s.size ≤ 65536) :
    Calls Try.prog 31 #[.string s] w fun e w' => e = .returned (.int .i64 (dsp s)) ∧ w = w' := by
  have HW : Hid (dsp s = Su (vAt false s) s.size) := rfl
  go_enter Try.func31, Try.ntmps31
  go_wp2
  go_loop [3, 4] (fun sm i => ∃ k : Nat, k ≤ s.size ∧ i = .int .i64 k ∧ sm = .int .i64 (Su (vAt false s) k)) (fun _ i => s.size - (intOf i).toNat)
  case atStart => exact ⟨0, by omega, rfl, rfl⟩
  case round =>
    obtain ⟨k, hk, rfl, rfl⟩ := hrel
    have bS := Su_bd _ (vAt_bd false s) k
    by_cases hlt : k < s.size
    · have hb := val1_bd s[k].toNat
      go_wp2_with (go_at_call 34; refine (value_any _ _).mono ?_; rintro e w' ⟨rfl, rfl⟩)
      have hv := vAt_f s k hlt
      go_round
      case rel => exact ⟨k + 1, by omega, by go_num, int_eq (Su_st _ k _ hv)⟩
      case measure => simp [intOf]; omega
    · obtain rfl : k = s.size := by omega
      go_wp2
      go_ret
      exact ⟨ret_int HW.out.symm, rfl⟩

set_option maxRecDepth 100000 in
set_option maxHeartbeats 1000000 in
theorem rpolar_any (l : List ByteArray) (p : Option Addr) (c : Nat) (x : Int) (w : World) (hl : l.length ≤ 9223372036854775807) (hp : Sl w Value.string p l) (hz : ∀ j (hj : j < l.length), l[j].size ≤ maxLen) :
    Calls Try.prog 12 #[.slice p l.length c, .int .i64 x] w (RetSlB (polR x l) (polErr x l) w) := by
  obtain ⟨i0, hi0, hz0, hz1, hz2⟩ := info_parts infoBool
  have hB0 : Below w.heap.size w (w.alloc (.cells #[] 4)) := (Below.refl _ w).alloc (Nat.le_refl _) _
  by_cases h1 : x < -65536
  · have HP := hidI (pol_out x l (.inl h1))
    go_enter Try.func12, Try.ntmps12
    go_wp2
    go_ret2
    exact RetSlB.nil HP.out hB0
  by_cases h2 : 65536 < x
  · have HP := hidI (pol_out x l (.inr h2))
    go_enter Try.func12, Try.ntmps12
    go_wp2
    go_ret2
    exact RetSlB.nil HP.out hB0
  by_cases h3 : 4096 < l.length
  · have HP := hidI (pol_long x l (by omega) (by omega) h3)
    go_enter Try.func12, Try.ntmps12
    go_wp2
    go_ret2
    exact RetSlB.nil HP.out hB0
  go_enter Try.func12, Try.ntmps12
  go_wp2
  go_loopw [1, 6, 7] (fun xx ov i wr => ∃ (k : Nat) (xv : Int) (bs : List Bool), k ≤ l.length ∧ i = .int .i64 k ∧ xx = .int .i64 xv ∧ Hid (polS x (l.take k) = (xv, bs)) ∧
    Hid (∀ j (hj : j < l.length), j < k → wchk 2 l[j].data.toList = 0 ∧ l[j].size = (l.headD ByteArray.empty).size) ∧ wr.ownsRow w.heap.size 4 1 ov k (bs.map Value.bool) ∧ Below w.heap.size w wr) (fun _ _ i _ => l.length - (intOf i).toNat)
  case atStart => exact ⟨0, x, [], by omega, rfl, rfl, rfl, fun _ _ h => by omega, World.ownsRow_made w #[] 0 (Nat.le_refl _) (by simp [maxLen]) rfl, hB0⟩
  case round =>
    obtain ⟨k, xv, bs, hk, rfl, rfl, hS, hj, hown, hB⟩ := hrel
    by_cases hlt : k < l.length
    · have hX := polS_bd x (l.take k) k (fun j h => by rw [List.getElem_take]; exact wchk_long2 _ (hj.out j (by simp at h; omega) (by simp at h; omega)).1) (by simp; omega) (by omega) (by omega)
      rw [List.take_take, Nat.min_self, hS.out] at hX
      simp only at hX
      have bX : -274000000 ≤ xv ∧ xv ≤ 274000000 := by omega
      clear hX
      obtain ⟨b1, o1, rfl, hb1, hc1⟩ := (hp.below hB).get k hlt
      have e1 := hc1 k hlt
      have e0 := hc1 0 (by omega)
      rw [Nat.add_zero] at e0
      clear hc1
      have hzk := hz k hlt
      by_cases hc : wchk 2 l[k].data.toList = 0
      · have HC := hidI hc
        have hs := wchk_long2 _ hc
        clear hc
        go_wp2_with fail
        refine (check07_any 2 l[k] _ hzk).mono ?_
        rintro e w' ⟨rfl, rfl⟩
        rw [HC.out]
        by_cases hn : l[k].size = l[0].size
        · have hn' : ((l[k].size : Int) == (l[0].size : Int)) = true := by simp [hn]
          have HN := hidI hn; clear hn
          go_wp2_with fail
          go_quiet (fail)
          have hd := dsp_bd l[k]
          have HL := hidI (polS_take x l k hlt)
          have hownq : (wr.drewN nq).ownsRow w.heap.size 4 1 u6 k (bs.map Value.bool) := hown
          have hBq : Below w.heap.size w (wr.drewN nq) := below_drewN hB nq
          by_cases hi : max (xv - dsp l[k]) (dsp l[k] - xv) < max (xv + dsp l[k]) (-xv - dsp l[k])
          · go_wp2_with (first | (go_at_call 31; refine (rdisp_any _ _ hs).mono ?_; rintro e w' ⟨rfl, rfl⟩) | (at_builtin; refine wpList_append_own _ rfl _ _ 26 rfl w.heap.size 4 i0 (.bool false) 1 1 Try.underlying26 hi0 hz0 hz1 hz2 rfl (by decide) _ _ _ rfl (hownq.alloc _) ⟨wr.heap.size, 0, none⟩ 1 1 [.bool true] rfl rfl (cell_one_new _ _ _) (by simp [Value.oneCell']) (by simp [maxLen]; omega) (by omega) (Nat.le_trans hBq.size (by simp)) ?_; intro v' w1 hown' hgrow _))
            have hinv : inv xv l[k] = true := decide_eq_true hi
            go_roundw
            case rel =>
              refine ⟨k + 1, xv + -dsp l[k], bs ++ [true], by omega, by go_num, rfl, ?_, fun j h1 h2 => ?_, by rw [List.map_append]; exact hown', (hBq.alloc hBq.size _).grown hgrow (Nat.le_trans hBq.size (by simp)) (fun j e => (hownq.lt j e).1)⟩
              · unfold Hid; rw [HL.out, hS.out]; simp only [polF, hinv]; rfl
              · rcases Nat.lt_succ_iff_lt_or_eq.1 h2 with h3 | h3
                · exact hj.out j h1 h3
                · subst h3; exact ⟨HC.out, by rw [HN.out, headD_size l (by omega)]⟩
            case measure => simp [intOf]; omega
          · have hdec := decide_eq_false (Int.not_lt.2 (Int.not_lt.1 hi))
            go_wp2_with (first | (go_at_call 31; refine (rdisp_any _ _ hs).mono ?_; rintro e w' ⟨rfl, rfl⟩) | (at_builtin; refine wpList_append_own _ rfl _ _ 26 rfl w.heap.size 4 i0 (.bool false) 1 1 Try.underlying26 hi0 hz0 hz1 hz2 rfl (by decide) _ _ _ rfl (hownq.alloc _) ⟨wr.heap.size, 0, none⟩ 1 1 [.bool false] rfl rfl (cell_one_new _ _ _) (by simp [Value.oneCell']) (by simp [maxLen]; omega) (by omega) (Nat.le_trans hBq.size (by simp)) ?_; intro v' w1 hown' hgrow _))
            have hinv : inv xv l[k] = false := decide_eq_false (Int.not_lt.2 hi)
            go_roundw
            case rel =>
              refine ⟨k + 1, xv + dsp l[k], bs ++ [false], by omega, by go_num, rfl, ?_, fun j h1 h2 => ?_, by rw [List.map_append]; exact hown', (hBq.alloc hBq.size _).grown hgrow (Nat.le_trans hBq.size (by simp)) (fun j e => (hownq.lt j e).1)⟩
              · unfold Hid; rw [HL.out, hS.out]; simp only [polF, hinv]; rfl
              · rcases Nat.lt_succ_iff_lt_or_eq.1 h2 with h3 | h3
                · exact hj.out j h1 h3
                · subst h3; exact ⟨HC.out, by rw [HN.out, headD_size l (by omega)]⟩
            case measure => simp [intOf]; omega
        · have hn' : ((l[k].size : Int) == (l[0].size : Int)) = false := by simpa using fun h : (l[k].size : Int) = l[0].size => hn (by omega)
          have HE := hidI (pol_chk x l (by omega) (by omega) (by omega) 11 (chkL_len _ l k hlt hj.out HC.out (by rw [headD_size l (by omega)]; exact hn)) (by decide))
          clear hn
          go_wp2_with fail
          go_quiet (fail)
          go_wp2
          go_ret2
          exact RetSlB.nil HE.out ((below_drewN hB nq).alloc hB.size _)
      · have HE := hidI (pol_chk x l (by omega) (by omega) (by omega) _ (chkL_bad _ l k hlt hj.out hc) hc)
        have hc' : (wchk 2 l[k].data.toList == 0) = false := by simpa using hc
        clear hc
        go_wp2_with fail
        refine (check07_any 2 l[k] _ hzk).mono ?_
        rintro e w' ⟨rfl, rfl⟩
        go_wp2
        go_ret2
        exact RetSlB.nil HE.out (hB.alloc hB.size _)
    · obtain rfl : k = l.length := by omega
      have HE := hidI (pol_ok x l (by omega) (by omega) (by omega) (chkL_ok _ l (fun j h => hj.out j h h)))
      have hfull : Hid (polS x l = (xv, bs)) := by have := hS.out; rwa [List.take_length] at this
      obtain ⟨q, d, rfl, hsl⟩ := own_sl hown
      go_wp2
      go_ret2
      exact RetSlB.mk ⟨HE.out.1, HE.out.2.trans (congrArg Prod.snd hfull.out)⟩ hsl hB
end Go.Proofs.Ytccdocnaijdcnaa
