/-
  Words, plain lemmas and walks, merged: ChWe, ChWf, ChWg, ChWh, ChWn.
-/
import Derived.RangeFuncNested
import Derived.RangeFuncBound
import Derived.RangeFuncCalls
import Derived.RangeFuncLeaves
import Derived.Shelf.Abstract
import Derived.Shelf.RegionOpen
import Derived.OwnWalkIn
import Derived.TacticsInMore
import Derived.LoopNIn
import Derived.LoopIn
import Derived.Test.YtlgjhmenjfmpfaaMba
namespace Go.Proofs.Ytlgjhmenjfmpfaa.Chg
open Go.RowKit Go.Shelf
attribute [local go_sem] Oper.semAt_some

abbrev Idx (s : ByteArray) := { j : Nat // j < s.size }
def encI (s : ByteArray) (x : Idx s) : Array Value := #[.int .i64 (x.1 : Int), .int .i64 (vAt false s x.1)]


set_option maxRecDepth 100000 in
set_option maxHeartbeats 1000000 in
theorem values1_in (F : Fence) (n : Nat) (hf : F.fn 54) (hro : F.round = none) (hn : 1 ≤ n) (l Bs : Nat) (s : ByteArray) (hs : s.size ≤ 65536) (hok : wchk 2 s.data.toList = 0) (J Jx : List (Idx s) → World → Prop)
    (hY : ∀ pre x W, J pre W → pre.length < s.size → YieldAt F (n - 1) Try.prog l (encI s x) W fun e W' =>
      (e = .returned (.bool true) ∧ J (pre ++ [x]) W' ∧ KH Bs W W') ∨ (e = .returned (.bool false) ∧ Jx (pre ++ [x]) W'))
    (W : World) (hBs : Boxed W Bs 9 (.string s)) (h0 : J [] W) :
    CallsIn F n Try.prog 54 #[.func (.yield l) #[] #[], .pointer (some ⟨Bs, 0, none⟩)] W fun e W' => (∃ v, e = .returned v) ∧
      ((∃ ys : List (Idx s), ys.map (·.1) = List.range s.size ∧ J ys W') ∨ (∃ pre : List (Idx s), True ∧ Jx pre W')) := by
  refine callsIn_of_wp Try.func54 rfl hf ?_ hro
  simp only [Try.ntmps54, List.size_toArray, List.length_cons, List.length_nil, Nat.reduceAdd, Nat.reduceSub, Array.replicate_succ, Array.replicate_zero, List.push_toArray, List.append_toArray, List.nil_append, List.cons_append]
  have hb0 := hBs.cell
  gi_wp2
  clear hb0
  gi_loopw [6] (fun i wr => ∃ (k : Nat) (pre : List (Idx s)), k ≤ s.size ∧ i = .int .i64 k ∧ Hid (pre.map (·.1) = List.range k) ∧ J pre wr ∧ Boxed wr Bs 9 (.string s)) (fun i _ => s.size - (intOf i).toNat)
  case atStart => exact ⟨0, [], Nat.zero_le _, rfl, rfl, h0, hBs⟩
  case round =>
    obtain ⟨k, pre, hk, rfl, hp, hJs, hnx⟩ := hrel
    have hbs := hnx.cell
    by_cases hlt : k < s.size
    · have hpl : pre.length = k := by simpa using congrArg List.length hp.out
      obtain ⟨fn, tmps, assign, body, hy, hR⟩ := hY pre ⟨k, hlt⟩ wr hJs (by omega)
      have hbin := vals_bin s hok k hlt
      have hv := vAt_f s k hlt
      have hw : encI s ⟨k, hlt⟩ = #[.int .i64 (k : Int), .int .i64 (2 * ((s[k].toNat : Int) - 48) - 1)] := by
        unfold encI
        simp only
        rw [hv]
        rcases hbin with h | h <;> rw [h] <;> rfl
      rw [hw] at hy
      clear hw hv hpl
      gi_wp2
      refine hR.mono ?_
      rintro e W3 (⟨rfl, hJ3, hk3⟩ | ⟨rfl, hJx3⟩)
      · gi_wp2
        go_roundw
        case rel => exact ⟨k + 1, _, by omega, by go_num, by unfold Hid; rw [List.map_append, hp.out, List.range_succ]; rfl, hJ3, hk3.boxed hnx⟩
        case measure => simp [intOf]; omega
      · gi_wp2
        refine bodyPost_ret (results_none rfl _ _ _) rfl ?_
        exact ⟨⟨_, rfl⟩, .inr ⟨_, trivial, hJx3⟩⟩
    · obtain rfl : k = s.size := by omega
      gi_wp2
      go_end0
      exact ⟨⟨_, rfl⟩, .inl ⟨_, hp.out, hJs⟩⟩

/-- The iterator, as the law of the loop takes it. -/
theorem values_stops (F : Fence) (n : Nat) (hf : F.fn 54) (hro : F.round = none) (hn : 1 ≤ n) (Bs : Nat) (s : ByteArray) (hs : s.size ≤ 65536) (hok : wchk 2 s.data.toList = 0) (w : World)
    (hc : Boxed w Bs 9 (.string s)) :
    SeqStopsK F n Try.prog 54 #[.pointer (some ⟨Bs, 0, none⟩)] (encI s) (KH Bs) (fun ys => ys.map (·.1) = List.range s.size) (fun _ => True) s.size w := fun l J Jx W hW _ _ hY h0 =>
  values1_in F n hf hro hn l Bs s hs hok J Jx hY W ((KH.of_below hW hc.lt).boxed hc) h0

set_option maxHeartbeats 1000000 in
theorem values_in (F : Fence) (n : Nat) (hf : F.fn 42) (hro : F.round = none) (s : ByteArray) (w : World) :
    CallsIn F n Try.prog 42 #[.string s] w fun e w' => e = .returned (.func (.func 54) #[] #[.pointer (some ⟨w.heap.size, 0, none⟩)]) ∧ w' = w.alloc (.cells #[.string s] 9) := by
  refine callsIn_of_wp Try.func42 rfl hf ?_ hro
  simp only [Try.ntmps42, List.size_toArray, List.length_cons, List.length_nil, Nat.reduceAdd, Nat.reduceSub, Array.replicate_succ, Array.replicate_zero, List.push_toArray, List.append_toArray, List.nil_append, List.cons_append]
  gi_wp2
  go_ret
  exact ⟨rfl, rfl⟩

end Go.Proofs.Ytlgjhmenjfmpfaa.Chg
namespace Go.Proofs.Ytlgjhmenjfmpfaa.Chg
open Go.RowKit Go.Shelf
attribute [local go_sem] Oper.semAt_some

def row4 (n : Int) (s : ByteArray) (l : List Nat) : List Value := [.int .i64 (paL n (vAt false s) 0 l), .int .i64 (paL n (vAt false s) 1 l), .int .i64 (paL n (vAt false s) 2 l), .int .i64 (paL n (vAt false s) 3 l)]

theorem row4_0 (n : Int) (s : ByteArray) (q : List Nat) (j : Nat) (h : ((j : Int) * n) % 4 = 0) :
    row4 n s (q ++ [j]) = (row4 n s q).set 0 (.int .i64 (paL n (vAt false s) 0 q + vAt false s j)) := by
  have h' : (n * (j : Int)) % 4 = 0 := by rw [Int.mul_comm]; exact h
  simp only [row4, paL_snoc, pa1_hit _ _ _ _ _ h', pa1_miss n (vAt false s) 1 _ j (by omega), pa1_miss n (vAt false s) 2 _ j (by omega), pa1_miss n (vAt false s) 3 _ j (by omega)]
  rfl
theorem row4_1 (n : Int) (s : ByteArray) (q : List Nat) (j : Nat) (h : ((j : Int) * n) % 4 = 1) :
    row4 n s (q ++ [j]) = (row4 n s q).set 1 (.int .i64 (paL n (vAt false s) 1 q + vAt false s j)) := by
  have h' : (n * (j : Int)) % 4 = 1 := by rw [Int.mul_comm]; exact h
  simp only [row4, paL_snoc, pa1_hit _ _ _ _ _ h', pa1_miss n (vAt false s) 0 _ j (by omega), pa1_miss n (vAt false s) 2 _ j (by omega), pa1_miss n (vAt false s) 3 _ j (by omega)]
  rfl
theorem row4_2 (n : Int) (s : ByteArray) (q : List Nat) (j : Nat) (h : ((j : Int) * n) % 4 = 2) :
    row4 n s (q ++ [j]) = (row4 n s q).set 2 (.int .i64 (paL n (vAt false s) 2 q + vAt false s j)) := by
  have h' : (n * (j : Int)) % 4 = 2 := by rw [Int.mul_comm]; exact h
  simp only [row4, paL_snoc, pa1_hit _ _ _ _ _ h', pa1_miss n (vAt false s) 0 _ j (by omega), pa1_miss n (vAt false s) 1 _ j (by omega), pa1_miss n (vAt false s) 3 _ j (by omega)]
  rfl
theorem row4_3 (n : Int) (s : ByteArray) (q : List Nat) (j : Nat) (h : ((j : Int) * n) % 4 = 3) :
    row4 n s (q ++ [j]) = (row4 n s q).set 3 (.int .i64 (paL n (vAt false s) 3 q + vAt false s j)) := by
  have h' : (n * (j : Int)) % 4 = 3 := by rw [Int.mul_comm]; exact h
  simp only [row4, paL_snoc, pa1_hit _ _ _ _ _ h', pa1_miss n (vAt false s) 0 _ j (by omega), pa1_miss n (vAt false s) 1 _ j (by omega), pa1_miss n (vAt false s) 2 _ j (by omega)]
  rfl

set_option maxRecDepth 100000 in
set_option maxHeartbeats 2000000 in
theorem spectrum_ok_in (n : Int) (s : ByteArray) (w : World) (hn0 : 0 ≤ n) (hn3 : n ≤ 3) (hok : wchk 2 s.data.toList = 0) (hs : s.size ≤ 65536) (hs' : s.size ≤ maxLen) :
    CallsIn Fence.wide 9 Try.prog 33 #[.string s, .int .i64 n] w fun e w' => e = .returned (.tuple #[.int .i64 (spe n s).1, .int .i64 (spe n s).2.1, .int .i64 (spe n s).2.2]) ∧ Below w.heap.size w w' := by
  have HC := hidI hok
  have HP := hidI (spe_ok n s hn0 hn3 hok)
  refine callsIn_of_wp_marks Try.func33 rfl trivial ?_ rfl
  simp only [Try.ntmps33, List.size_toArray, List.length_cons, List.length_nil, Nat.reduceAdd, Nat.reduceSub, Array.replicate_succ, Array.replicate_zero, List.push_toArray, List.append_toArray, List.nil_append, List.cons_append]
  clear hok
  gi_wp2_with (refine ⟨trivial, ?_⟩; gi_at_call 35)
  refine (callsIn_wide.2 (wcheck_any 2 s _ hs')).mono ?_
  rintro e w1 ⟨rfl, hD⟩
  rw [HC.out]
  gi_wp2_with (refine ⟨trivial, ?_⟩; gi_at_call 42)
  refine (values_in Fence.wide 8 trivial rfl s _).mono ?_
  rintro e w' ⟨rfl, rfl⟩
  gi_wp2
  have hw1 : Below (w.heap.size + 1) (w.alloc (.cells #[.int .i64 n] 3)) w1 := hD.below _
  have hsz : w.heap.size < w1.heap.size := by have := hw1.size; simp at this; omega
  have b0 := (((VRow.new w 3 [.int .i64 n]).below hw1 (by omega)).alloc (.cells #[.int .i64 0, .int .i64 0, .int .i64 0, .int .i64 0] 75)).alloc (.cells #[.string s] 9)
  have b1 := (VRow.new w1 75 [.int .i64 0, .int .i64 0, .int .i64 0, .int .i64 0]).alloc (.cells #[.string s] 9)
  have b3 := Boxed.new (w1.alloc (.cells #[.int .i64 0, .int .i64 0, .int .i64 0, .int .i64 0] 75)) 9 (.string s)
  simp only [World.size_alloc] at b3
  have hB0 : Below w.heap.size w ((w1.alloc (.cells #[.int .i64 0, .int .i64 0, .int .i64 0, .int .i64 0] 75)).alloc (.cells #[.string s] 9)) := ((((Below.refl _ w).alloc (Nat.le_refl _) _).trans (hw1.mono (by omega))).alloc (by omega) _).alloc (by simp; omega) _
  refine' wpIn_rangeFunc_ownG rfl (by omega) (gf := 54) (lb := #[.pointer (some ⟨w1.heap.size + 1, 0, none⟩)]) rfl trivial (enters_of Try.func54 (by kernel_rfl) rfl)
    (values_stops Fence.wide 8 trivial rfl (by omega) (w1.heap.size + 1) s hs HC.out _ b3) KH.trans (KH_b (by simp)) (Below.refl _ _) (fun _ => rfl)
    (fun pre W => (VRow W w.heap.size 3 [.int .i64 n] ∧ VRow W w1.heap.size 75 (row4 n s (pre.map (·.1)))) ∧ Below w.heap.size w W)
    (fun _ _ _ => False)
    (OwnFrom.and (OwnFrom.and ((VRow.own _ _ _).from _) ((VRow.own _ _ _).from _)) (ownFrom_below (Nat.le_refl _) (by simp; omega)))
    (fun _ _ _ _ _ hs _ _ => hs)
    ⟨⟨b0, b1⟩, hB0⟩
    _ ?assign ?body ?done ?stop
  case assign =>
    intro l x W K hK
    unfold encI
    gi_wp2
    exact hK
  case body =>
    rintro l pre ⟨j, hj⟩ W ⟨⟨c0, c1⟩, hB⟩ hlen
    have hp : (pre.map (·.1)).length < s.size := by simpa using hlen
    have HS : Hid ((pre ++ [(⟨j, hj⟩ : Idx s)]).map (·.1) = pre.map (·.1) ++ [j]) := by simp [Hid]
    generalize pre.map (·.1) = q at *
    have d0 := c0.cell 0
    have e0 := c1.cell 0; have e1 := c1.cell 1; have e2 := c1.cell 2; have e3 := c1.cell 3
    have f1 := c1.frozen
    simp only [row4, List.getElem?_cons_zero, List.getElem?_cons_succ] at d0 e0 e1 e2 e3
    have p0 := paL_bd n _ 0 (vAt_bd false s) q
    have p1 := paL_bd n _ 1 (vAt_bd false s) q
    have p2 := paL_bd n _ 2 (vAt_bd false s) q
    have p3 := paL_bd n _ 3 (vAt_bd false s) q
    have hv := vAt_bd false s j
    have bm := mul_bd n j s.size hn0 hn3 (by omega)
    rw [Int.mul_comm] at bm
    have hr : ((j : Int) * n) % 4 = 0 ∨ ((j : Int) * n) % 4 = 1 ∨ ((j : Int) * n) % 4 = 2 ∨ ((j : Int) * n) % 4 = 3 := by omega
    rcases hr with hr | hr | hr | hr
    all_goals
      have HR := hidI hr
      gi_wp2
    · refine ⟨(KeepsOthers.setCell _ _ _).from _, KH.set _ _ (by omega), ⟨c0.other _ (by omega), ?_⟩, hB.setCell (p := ⟨w1.heap.size, 0, none⟩) (by simp; omega) _⟩
      rw [HS.out, row4_0 n s q j HR.out]
      exact c1.set _
    · refine ⟨(KeepsOthers.setCell _ _ _).from _, KH.set _ _ (by omega), ⟨c0.other _ (by omega), ?_⟩, hB.setCell (p := ⟨w1.heap.size, 1, none⟩) (by simp; omega) _⟩
      rw [HS.out, row4_1 n s q j HR.out]
      exact c1.set _
    · refine ⟨(KeepsOthers.setCell _ _ _).from _, KH.set _ _ (by omega), ⟨c0.other _ (by omega), ?_⟩, hB.setCell (p := ⟨w1.heap.size, 2, none⟩) (by simp; omega) _⟩
      rw [HS.out, row4_2 n s q j HR.out]
      exact c1.set _
    · refine ⟨(KeepsOthers.setCell _ _ _).from _, KH.set _ _ (by omega), ⟨c0.other _ (by omega), ?_⟩, hB.setCell (p := ⟨w1.heap.size, 3, none⟩) (by simp; omega) _⟩
      rw [HS.out, row4_3 n s q j HR.out]
      exact c1.set _
  case done =>
    rintro D ys W hD' hys ⟨⟨c0, c1⟩, hB⟩ hK
    rw [hys] at c1
    have e0 := c1.cell 0; have e1 := c1.cell 1; have e2 := c1.cell 2; have e3 := c1.cell 3
    simp only [row4, List.getElem?_cons_zero, List.getElem?_cons_succ] at e0 e1 e2 e3
    have p0 := paL_bd n _ 0 (vAt_bd false s) (List.range s.size)
    have p1 := paL_bd n _ 1 (vAt_bd false s) (List.range s.size)
    have p2 := paL_bd n _ 2 (vAt_bd false s) (List.range s.size)
    have p3 := paL_bd n _ 3 (vAt_bd false s) (List.range s.size)
    simp only [List.length_range] at p0 p1 p2 p3
    gi_wp2
    gi_region
    all_goals gi_wp2
    have hK' : W.drew.heap[D]? = some (.deferred (some [])) := hK
    refine ⟨by simp, .inl ⟨_, _, rfl, run_takeDeferred hK', ?_⟩⟩
    refine ⟨_, results_tmp3 (t := 4) (u := 5) (v := 6) rfl _ _ _, ?_, below_put hB.drew (by simp at hD'; omega) hK' _⟩
    refine ret_iii ?_
    rw [HP.out, paL_range, paL_range, paL_range, paL_range]
  case stop =>
    rintro D c pre W _ _ h _
    exact h.elim

set_option maxHeartbeats 400000 in
theorem spectrum_any (n : Int) (s : ByteArray) (w : World) (hs : s.size ≤ maxLen) :
    Calls Try.prog 33 #[.string s, .int .i64 n] w fun e w' => e = .returned (.tuple #[.int .i64 (spe n s).1, .int .i64 (spe n s).2.1, .int .i64 (spe n s).2.2]) ∧ Below w.heap.size w w' := by
  have hB : Below w.heap.size w (w.alloc (.cells #[.int .i64 n] 3)) := (Below.refl _ w).alloc (Nat.le_refl _) _
  by_cases h1 : n < 0
  · have HP := hidI (spe_out n s (.inl h1))
    go_enter Try.func33, Try.ntmps33
    go_wp2
    go_ret3
    exact ⟨ret_iii HP.out, hB⟩
  by_cases h2 : 3 < n
  · have HP := hidI (spe_out n s (.inr h2))
    go_enter Try.func33, Try.ntmps33
    go_wp2
    go_ret3
    exact ⟨ret_iii HP.out, hB⟩
  by_cases hc : wchk 2 s.data.toList = 0
  · exact callsIn_wide.1 (spectrum_ok_in n s w (by omega) (by omega) hc (wchk_long2 s hc) hs)
  · have HP := hidI (spe_bad n s (by omega) (by omega) hc)
    have hc' : (wchk 2 s.data.toList == 0) = false := by simpa using hc
    clear hc
    go_enter Try.func33, Try.ntmps33
    go_wp2_with fail
    refine (wcheck_any 2 s _ hs).mono ?_
    rintro e w1 ⟨rfl, hD⟩
    go_wp2
    go_ret3
    exact ⟨ret_iii HP.out, hB.trans (hD.below _)⟩
end Go.Proofs.Ytlgjhmenjfmpfaa.Chg
namespace Go.Proofs.Ytlgjhmenjfmpfaa.Chg
open Go.RowKit

set_option maxHeartbeats 400000 in
theorem balanced_any (n : Int) (w : World) :
    Calls Try.prog 32 #[.int .i64 n] w fun e w' => e = .returned (.tuple #[.int .i64 (blc n).1, .int .i64 (blc n).2]) ∧ w = w' := by
  by_cases h1 : n < 0
  · have HP := hidI (blc_out n (.inl h1))
    go_enter Try.func32, Try.ntmps32
    go_wp2
    go_ret2
    exact ⟨ret_ii HP.out, rfl⟩
  by_cases h2 : 30 < n
  · have HP := hidI (blc_out n (.inr h2))
    go_enter Try.func32, Try.ntmps32
    go_wp2
    go_ret2
    exact ⟨ret_ii HP.out, rfl⟩
  by_cases ho : n % 2 = 1
  · have HP := hidI (blc_odd n (by omega) (by omega) ho)
    have ho' : (n % 2 == 1) = true := by simpa using ho
    go_enter Try.func32, Try.ntmps32
    go_wp2
    go_ret2
    exact ⟨ret_ii HP.out, rfl⟩
  obtain ⟨m, rfl⟩ : ∃ m : Nat, n = 2 * m := ⟨(n / 2).toNat, by omega⟩
  have hm : m ≤ 15 := by omega
  have HP := hidI (blc_even m hm)
  have ho' : (2 * (m : Int) % 2 == 1) = false := by simp
  clear ho h1 h2
  go_enter Try.func32, Try.ntmps32
  go_wp2
  go_loop [4, 5] (fun o i => ∃ k : Nat, k ≤ m ∧ i = .int .i64 (k + 1 : Nat) ∧ o = .int .i64 (balp m k)) (fun _ i => m + 1 - (intOf i).toNat)
  case atStart => exact ⟨0, by omega, rfl, rfl⟩
  case round =>
    obtain ⟨k, hk, rfl, rfl⟩ := hrel
    have hb := balp_tab m (by omega) k (by omega)
    by_cases hlt : k < m
    · go_wp2
      have hst := balp_step m (by omega) k (by omega)
      go_round
      case rel => exact ⟨k + 1, by omega, by go_num, int_eq hst⟩
      case measure => simp [intOf]; omega
    · obtain rfl : k = m := by omega
      go_wp2
      go_ret2
      exact ⟨ret_ii HP.out, rfl⟩
end Go.Proofs.Ytlgjhmenjfmpfaa.Chg
namespace Go.Proofs.Ytlgjhmenjfmpfaa.Chg
open Go.RowKit

theorem ne_of_get {α : Type} {l m : List α} (k : Nat) (h1 : k < l.length) (h2 : k < m.length) (h : l[k] ≠ m[k]) : l ≠ m := by
  intro e; subst e; exact h rfl

set_option maxHeartbeats 400000 in
theorem equalB_any (l m : List Bool) (p q : Option Addr) (c d : Nat) (w : World) (hp : Sl w Value.bool p l) (hq : Sl w Value.bool q m) (hl : l.length ≤ 9223372036854775807) (hm : m.length ≤ 9223372036854775807) :
    Calls Try.prog 34 #[.slice p l.length c, .slice q m.length d] w fun e w' => e = .returned (.bool (decide (l = m))) ∧ Dr w w' := by
  by_cases hlen : l.length = m.length
  · have hlen' : ((l.length : Int) == (m.length : Int)) = true := by simp [hlen]
    have HT : Hid (l.length = m.length) := hlen
    clear hlen
    go_enter Try.func34, Try.ntmps34
    go_wp2
    go_loopw [13] (fun i wr => ∃ k : Nat, k ≤ l.length ∧ i = .int .i64 k ∧ Hid (l.take k = m.take k) ∧ Dr w wr) (fun i _ => l.length - (intOf i).toNat)
    case atStart => exact ⟨0, by omega, rfl, by simp [Hid], Dr.refl _⟩
    case round =>
      obtain ⟨k, hk, rfl, hj, hD⟩ := hrel
      by_cases hlt : k < l.length
      · have hlt2 : k < m.length := by have := HT.out; omega
        obtain ⟨b1, o1, rfl, hb1, hc1⟩ := (hp.dr hD).get k hlt
        obtain ⟨b2, o2, rfl, hb2, hc2⟩ := (hq.dr hD).get k hlt2
        have e1 := hc1 k hlt
        have e2 := hc2 k hlt2
        clear hc1 hc2
        go_wp2_with fail
        go_quiet (fail)
        go_wp2
        · have hne : l[k] ≠ m[k] := by have h : (!l[k] == m[k]) = true := ‹_›; simpa using h
          have HE : Hid (decide (l = m) = false) := by simpa [Hid] using ne_of_get k hlt hlt2 hne
          go_ret
          exact ⟨ret_bool HE.out.symm, hD.one _⟩
        · have he : l[k] = m[k] := by have h : (!l[k] == m[k]) = false := ‹_›; simpa using h
          go_roundw
          case rel => exact ⟨k + 1, by omega, by go_num, by unfold Hid; rw [List.take_succ_eq_append_getElem hlt, List.take_succ_eq_append_getElem hlt2, hj.out, he], hD.one _⟩
          case measure => simp [intOf]; omega
      · obtain rfl : k = l.length := by omega
        have HE : Hid (decide (l = m) = true) := by
          have h1 := hj.out
          rw [List.take_length, HT.out, List.take_length] at h1
          simp [Hid, h1]
        go_wp2
        go_ret
        exact ⟨ret_bool HE.out.symm, hD⟩
  · have hlen' : ((l.length : Int) == (m.length : Int)) = false := by simpa using fun h : (l.length : Int) = m.length => hlen (by omega)
    have HE : Hid (decide (l = m) = false) := by simp [Hid]; rintro rfl; exact hlen rfl
    clear hlen
    go_enter Try.func34, Try.ntmps34
    go_wp2
    go_ret
    exact ⟨ret_bool HE.out.symm, Dr.refl _⟩

/-- The first place at which a predicate holds, or -1. -/
def idxP {α : Type} (f : α → Bool) : List α → Int | [] => -1 | x :: l => if f x then 0 else if idxP f l < 0 then -1 else idxP f l + 1
theorem idxP_ge {α : Type} (f : α → Bool) (l : List α) : -1 ≤ idxP f l ∧ idxP f l < l.length := by
  induction l with
  | nil => simp [idxP]
  | cons x l ih => simp only [idxP, List.length_cons]; split <;> (try split) <;> omega
theorem idxP_any {α : Type} (f : α → Bool) (l : List α) : decide (0 ≤ idxP f l) = l.any f := by
  induction l with
  | nil => simp [idxP]
  | cons x l ih =>
    have := idxP_ge f l
    rw [List.any_cons, ← ih]
    by_cases hf : f x = true
    · simp [idxP, hf]
    · have hf' : f x = false := by simpa using hf
      simp only [idxP, hf', Bool.false_eq_true, if_false, Bool.false_or]
      rw [decide_eq_decide]
      split <;> omega
theorem idxP_hit {α : Type} (f : α → Bool) (l : List α) (k : Nat) (h : k < l.length) (hn : ∀ j (hj : j < l.length), j < k → f l[j] = false) (hk : f l[k] = true) : idxP f l = k := by
  induction l generalizing k with
  | nil => simp at h
  | cons x l ih =>
    cases k with
    | zero => simp only [List.getElem_cons_zero] at hk; simp [idxP, hk]
    | succ k =>
      have h0 := hn 0 (by simp) (by omega)
      simp only [List.getElem_cons_zero] at h0
      have := ih k (by simpa using h) (fun j hj hjk => by have := hn (j + 1) (by simpa using hj) (by omega); simpa using this) (by simpa using hk)
      simp only [idxP, h0, Bool.false_eq_true, if_false, this]
      rw [if_neg (by omega)]; omega
theorem idxP_miss {α : Type} (f : α → Bool) (l : List α) (hn : ∀ j (hj : j < l.length), f l[j] = false) : idxP f l = -1 := by
  induction l with
  | nil => rfl
  | cons x l ih =>
    have h0 := hn 0 (by simp)
    simp only [List.getElem_cons_zero] at h0
    have := ih (fun j hj => by have := hn (j + 1) (by simpa using hj); simpa using this)
    simp [idxP, h0, this]

def longS (n : Nat) (s : ByteArray) : Bool := decide (n < s.size)
end Go.Proofs.Ytlgjhmenjfmpfaa.Chg
namespace Go.Proofs.Ytlgjhmenjfmpfaa.Chg
open Go.RowKit Go.Shelf
attribute [local go_sem] Oper.semAt_some

theorem box_drew {W : World} {B t : Nat} {u : Value} (h : Boxed W B t u) : Boxed W.drew B t u := h
theorem kh_drew {B : Nat} {X W : World} (h : KH B X W) : KH B X W.drew := h

set_option maxRecDepth 100000 in
set_option maxHeartbeats 40000000 in
theorem nullv_ok_in (m : Int) (hm1 : 1 ≤ m) (hm2 : m ≤ 31) (s : ByteArray) (w : World) (hok : wchk 2 s.data.toList = 0) (hs : s.size ≤ 65536) (hs' : s.size ≤ maxLen) :
    CallsIn Fence.wide 9 Try.prog 19 #[.int .i64 m, .string s] w fun e w' => e = .returned (.tuple #[.bool (decide (wid true s ≤ m)), .int .i64 0]) ∧ Below w.heap.size w w' := by
  have HC := hidI hok
  refine callsIn_of_wp_marks Try.func19 rfl trivial ?_ rfl
  simp only [Try.ntmps19, List.size_toArray, List.length_cons, List.length_nil, Nat.reduceAdd, Nat.reduceSub, Array.replicate_succ, Array.replicate_zero, List.push_toArray, List.append_toArray, List.nil_append, List.cons_append]
  clear hok
  gi_wp2_with (refine ⟨trivial, ?_⟩; gi_at_call 35)
  refine (callsIn_wide.2 (wcheck_any 2 s _ hs')).mono ?_
  rintro e w1 ⟨rfl, hD⟩
  rw [HC.out]
  gi_wp2_with (refine ⟨trivial, ?_⟩; gi_at_call 42)
  refine (values_in Fence.wide 8 trivial rfl s _).mono ?_
  rintro e w' ⟨rfl, rfl⟩
  gi_wp2
  have b0 := (((Boxed.new w1 3 (.int .i64 0)).alloc (.cells #[.int .i64 0] 3)).alloc (.cells #[.int .i64 0] 3)).alloc (.cells #[.string s] 9)
  have b1 := ((Boxed.new (w1.alloc (.cells #[.int .i64 0] 3)) 3 (.int .i64 0)).alloc (.cells #[.int .i64 0] 3)).alloc (.cells #[.string s] 9)
  have b2 := (Boxed.new ((w1.alloc (.cells #[.int .i64 0] 3)).alloc (.cells #[.int .i64 0] 3)) 3 (.int .i64 0)).alloc (.cells #[.string s] 9)
  have b3 := Boxed.new (((w1.alloc (.cells #[.int .i64 0] 3)).alloc (.cells #[.int .i64 0] 3)).alloc (.cells #[.int .i64 0] 3)) 9 (.string s)
  simp only [World.size_alloc] at b1 b2 b3
  have hB0 : Below w1.heap.size w1 ((((w1.alloc (.cells #[.int .i64 0] 3)).alloc (.cells #[.int .i64 0] 3)).alloc (.cells #[.int .i64 0] 3)).alloc (.cells #[.string s] 9)) := ((((Below.refl _ w1).alloc (Nat.le_refl _) _).alloc (by simp) _).alloc (by simp; omega) _).alloc (by simp; omega) _
  refine' wpIn_rangeFunc_ownG rfl (by omega) (gf := 54) (lb := #[.pointer (some ⟨w1.heap.size + 1 + 1 + 1, 0, none⟩)]) rfl trivial (enters_of Try.func54 (by kernel_rfl) rfl)
    (values_stops Fence.wide 8 trivial rfl (by omega) (w1.heap.size + 1 + 1 + 1) s hs HC.out _ b3) KH.trans (KH_b (by simp)) (Below.refl _ _) (fun _ => rfl)
    (fun pre W => (Boxed W w1.heap.size 3 (.int .i64 (stf true s (pre.map (·.1))).2.1) ∧ Boxed W (w1.heap.size + 1) 3 (.int .i64 (stf true s (pre.map (·.1))).2.2) ∧
      Boxed W (w1.heap.size + 1 + 1) 3 (.int .i64 (stf true s (pre.map (·.1))).1)) ∧ Below w1.heap.size w1 W)
    (fun _ _ _ => False)
    (OwnFrom.and (OwnFrom.and ((boxed_own _ _ _).from _) (OwnFrom.and ((boxed_own _ _ _).from _) ((boxed_own _ _ _).from _))) (ownFrom_below (Nat.le_refl _) (by simp; omega)))
    (fun _ _ _ _ _ hs _ _ => hs)
    ⟨⟨b0, b1, b2⟩, hB0⟩
    _ ?assign ?body ?done ?stop
  case assign =>
    intro l x W K hK
    unfold encI
    gi_wp2
    exact hK
  case body =>
    rintro l pre ⟨j, hj⟩ W ⟨⟨c0, c1, c2⟩, hB⟩ hlen
    have hp : (pre.map (·.1)).length < s.size := by simpa using hlen
    have HQ : Hid ((pre ++ [(⟨j, hj⟩ : Idx s)]).map (·.1) = pre.map (·.1) ++ [j]) := by simp [Hid]
    generalize pre.map (·.1) = q at c0 c1 c2 hp HQ ⊢
    have HS := hidI (stf_snoc true s q j)
    have bd := stf_bd true s q
    generalize stf true s q = x at c0 c1 c2 HS bd
    obtain ⟨sm, lo, hi⟩ := x
    simp only at c0 c1 c2 bd
    have d0 := c0.cell; have d1 := c1.cell; have d2 := c2.cell
    have f0 := c0.frozen; have f1 := c1.frozen; have f2 := c2.frozen
    have hv := vAt_bd false s j
    have hmix : Try.prog.follows .mixedOrders = true := by kernel_rfl
    by_cases hpar : (j : Int) % 2 = 1
    · have hpar' : ((j : Int) % 2 == 1) = true := by simpa using hpar
      have hy : vAt true s j = -vAt false s j := by unfold vAt; rw [if_pos (by simp; omega), if_neg (by simp)]
      have E1 : Hid ((stf true s ((pre ++ [(⟨j, hj⟩ : Idx s)]).map (·.1))).1 = sm + -vAt false s j) := by unfold Hid; rw [HQ.out, HS.out, ← hy]; rfl
      have E2 : Hid ((stf true s ((pre ++ [(⟨j, hj⟩ : Idx s)]).map (·.1))).2.1 = min lo (sm + -vAt false s j)) := by unfold Hid; rw [HQ.out, HS.out, ← hy]; rfl
      have E3 : Hid ((stf true s ((pre ++ [(⟨j, hj⟩ : Idx s)]).map (·.1))).2.2 = max hi (sm + -vAt false s j)) := by unfold Hid; rw [HQ.out, HS.out, ← hy]; rfl
      clear hpar hy
      gi_wp2
      refine' (fun (sEND : Nat → (_ : Prop)) => ?wsEND) ?sEND
      case' wsEND => refine' (fun (s0123456 : Nat → (_ : Prop)) => ?ws0123456) ?s0123456
      case' ws0123456 => refine' (fun (s012346 : Nat → (_ : Prop)) => ?ws012346) ?s012346
      case' ws012346 => refine' (fun (s012345 : Nat → (_ : Prop)) => ?ws012345) ?s012345
      case' ws012345 => refine' (fun (s01345 : Nat → (_ : Prop)) => ?ws01345) ?s01345
      case' ws01345 => refine' (fun (s01246 : Nat → (_ : Prop)) => ?ws01246) ?s01246
      case' ws01246 => refine' (fun (s01236 : Nat → (_ : Prop)) => ?ws01236) ?s01236
      case' ws01236 => refine' (fun (s01234 : Nat → (_ : Prop)) => ?ws01234) ?s01234
      case' ws01234 => refine' (fun (s1345 : Nat → (_ : Prop)) => ?ws1345) ?s1345
      case' ws1345 => refine' (fun (s0345 : Nat → (_ : Prop)) => ?ws0345) ?s0345
      case' ws0345 => refine' (fun (s0134 : Nat → (_ : Prop)) => ?ws0134) ?s0134
      case' ws0134 => refine' (fun (s0126 : Nat → (_ : Prop)) => ?ws0126) ?s0126
      case' ws0126 => refine' (fun (s0124 : Nat → (_ : Prop)) => ?ws0124) ?s0124
      case' ws0124 => refine' (fun (s0123 : Nat → (_ : Prop)) => ?ws0123) ?s0123
      case' ws0123 => refine' (fun (s345 : Nat → (_ : Prop)) => ?ws345) ?s345
      case' ws345 => refine' (fun (s134 : Nat → (_ : Prop)) => ?ws134) ?s134
      case' ws134 => refine' (fun (s034 : Nat → (_ : Prop)) => ?ws034) ?s034
      case' ws034 => refine' (fun (s014 : Nat → (_ : Prop)) => ?ws014) ?s014
      case' ws014 => refine' (fun (s013 : Nat → (_ : Prop)) => ?ws013) ?s013
      case' ws013 => refine' (fun (s012 : Nat → (_ : Prop)) => ?ws012) ?s012
      case' ws012 => refine' (fun (s34 : Nat → (_ : Prop)) => ?ws34) ?s34
      case' ws34 => refine' (fun (s14 : Nat → (_ : Prop)) => ?ws14) ?s14
      case' ws14 => refine' (fun (s13 : Nat → (_ : Prop)) => ?ws13) ?s13
      case' ws13 => refine' (fun (s04 : Nat → (_ : Prop)) => ?ws04) ?s04
      case' ws04 => refine' (fun (s03 : Nat → (_ : Prop)) => ?ws03) ?s03
      case' ws03 => refine' (fun (s01 : Nat → (_ : Prop)) => ?ws01) ?s01
      case' ws01 => refine' (fun (s4 : Nat → (_ : Prop)) => ?ws4) ?s4
      case' ws4 => refine' (fun (s3 : Nat → (_ : Prop)) => ?ws3) ?s3
      case' ws3 => refine' (fun (s1 : Nat → (_ : Prop)) => ?ws1) ?s1
      case' ws1 => refine' (fun (s0 : Nat → (_ : Prop)) => ?ws0) ?s0
      case ws0 =>
        refine wpIn_region_any (by kernel_rfl) ?_
        change wpAnyIn _ _ _ _ _ _ 8 #[false, false, false, false, false, false, false, false] _ (World.drew _)
        refine wpAnyIn_ready (rs := [0, 1, 3, 4]) (by kernel_rfl) (by simp) ?_
        refine AllReadyIn.cons rfl (fun K hK => ?_) ?_
        · go_simp
          first | refine hK _ _ ?_ | (gi_wp2; try refine hK _ _ ?_)
          change wpAnyIn _ _ _ _ _ _ 7 #[true, false, false, false, false, false, false, false] _ _
          exact s0 0
        refine AllReadyIn.cons rfl (fun K hK => ?_) ?_
        · go_simp
          first | refine hK _ _ ?_ | (gi_wp2; try refine hK _ _ ?_)
          change wpAnyIn _ _ _ _ _ _ 7 #[false, true, false, false, false, false, false, false] _ _
          exact s1 0
        refine AllReadyIn.cons rfl (fun K hK => ?_) ?_
        · go_simp
          first | refine hK _ _ ?_ | (gi_wp2; try refine hK _ _ ?_)
          change wpAnyIn _ _ _ _ _ _ 7 #[false, false, false, true, false, false, false, false] _ _
          exact s3 0
        refine AllReadyIn.cons rfl (fun K hK => ?_) ?_
        · go_simp
          first | refine hK _ _ ?_ | (gi_wp2; try refine hK _ _ ?_)
          change wpAnyIn _ _ _ _ _ _ 7 #[false, false, false, false, true, false, false, false] _ _
          exact s4 0
        exact AllReadyIn.nil
      case s0 =>
        intro _
        refine wpAnyIn_ready (rs := [1, 3, 4]) (by kernel_rfl) (by simp) ?_
        refine AllReadyIn.cons rfl (fun K hK => ?_) ?_
        · go_simp
          first | refine hK _ _ ?_ | (gi_wp2; try refine hK _ _ ?_)
          change wpAnyIn _ _ _ _ _ _ 6 #[true, true, false, false, false, false, false, false] _ _
          exact s01 0
        refine AllReadyIn.cons rfl (fun K hK => ?_) ?_
        · go_simp
          first | refine hK _ _ ?_ | (gi_wp2; try refine hK _ _ ?_)
          change wpAnyIn _ _ _ _ _ _ 6 #[true, false, false, true, false, false, false, false] _ _
          exact s03 0
        refine AllReadyIn.cons rfl (fun K hK => ?_) ?_
        · go_simp
          first | refine hK _ _ ?_ | (gi_wp2; try refine hK _ _ ?_)
          change wpAnyIn _ _ _ _ _ _ 6 #[true, false, false, false, true, false, false, false] _ _
          exact s04 0
        exact AllReadyIn.nil
      case s1 =>
        intro _
        refine wpAnyIn_ready (rs := [0, 3, 4]) (by kernel_rfl) (by simp) ?_
        refine AllReadyIn.cons rfl (fun K hK => ?_) ?_
        · go_simp
          first | refine hK _ _ ?_ | (gi_wp2; try refine hK _ _ ?_)
          change wpAnyIn _ _ _ _ _ _ 6 #[true, true, false, false, false, false, false, false] _ _
          exact s01 0
        refine AllReadyIn.cons rfl (fun K hK => ?_) ?_
        · go_simp
          first | refine hK _ _ ?_ | (gi_wp2; try refine hK _ _ ?_)
          change wpAnyIn _ _ _ _ _ _ 6 #[false, true, false, true, false, false, false, false] _ _
          exact s13 0
        refine AllReadyIn.cons rfl (fun K hK => ?_) ?_
        · go_simp
          first | refine hK _ _ ?_ | (gi_wp2; try refine hK _ _ ?_)
          change wpAnyIn _ _ _ _ _ _ 6 #[false, true, false, false, true, false, false, false] _ _
          exact s14 0
        exact AllReadyIn.nil
      case s3 =>
        intro _
        refine wpAnyIn_ready (rs := [0, 1, 4]) (by kernel_rfl) (by simp) ?_
        refine AllReadyIn.cons rfl (fun K hK => ?_) ?_
        · go_simp
          first | refine hK _ _ ?_ | (gi_wp2; try refine hK _ _ ?_)
          change wpAnyIn _ _ _ _ _ _ 6 #[true, false, false, true, false, false, false, false] _ _
          exact s03 0
        refine AllReadyIn.cons rfl (fun K hK => ?_) ?_
        · go_simp
          first | refine hK _ _ ?_ | (gi_wp2; try refine hK _ _ ?_)
          change wpAnyIn _ _ _ _ _ _ 6 #[false, true, false, true, false, false, false, false] _ _
          exact s13 0
        refine AllReadyIn.cons rfl (fun K hK => ?_) ?_
        · go_simp
          first | refine hK _ _ ?_ | (gi_wp2; try refine hK _ _ ?_)
          change wpAnyIn _ _ _ _ _ _ 6 #[false, false, false, true, true, false, false, false] _ _
          exact s34 0
        exact AllReadyIn.nil
      case s4 =>
        intro _
        refine wpAnyIn_ready (rs := [0, 1, 3]) (by kernel_rfl) (by simp) ?_
        refine AllReadyIn.cons rfl (fun K hK => ?_) ?_
        · go_simp
          first | refine hK _ _ ?_ | (gi_wp2; try refine hK _ _ ?_)
          change wpAnyIn _ _ _ _ _ _ 6 #[true, false, false, false, true, false, false, false] _ _
          exact s04 0
        refine AllReadyIn.cons rfl (fun K hK => ?_) ?_
        · go_simp
          first | refine hK _ _ ?_ | (gi_wp2; try refine hK _ _ ?_)
          change wpAnyIn _ _ _ _ _ _ 6 #[false, true, false, false, true, false, false, false] _ _
          exact s14 0
        refine AllReadyIn.cons rfl (fun K hK => ?_) ?_
        · go_simp
          first | refine hK _ _ ?_ | (gi_wp2; try refine hK _ _ ?_)
          change wpAnyIn _ _ _ _ _ _ 6 #[false, false, false, true, true, false, false, false] _ _
          exact s34 0
        exact AllReadyIn.nil
      case s01 =>
        intro _
        refine wpAnyIn_ready (rs := [2, 3, 4]) (by kernel_rfl) (by simp) ?_
        refine AllReadyIn.cons rfl (fun K hK => ?_) ?_
        · go_simp
          first | refine hK _ _ ?_ | (gi_wp2; try refine hK _ _ ?_)
          change wpAnyIn _ _ _ _ _ _ 5 #[true, true, true, false, false, false, false, false] _ _
          exact s012 0
        refine AllReadyIn.cons rfl (fun K hK => ?_) ?_
        · go_simp
          first | refine hK _ _ ?_ | (gi_wp2; try refine hK _ _ ?_)
          change wpAnyIn _ _ _ _ _ _ 5 #[true, true, false, true, false, false, false, false] _ _
          exact s013 0
        refine AllReadyIn.cons rfl (fun K hK => ?_) ?_
        · go_simp
          first | refine hK _ _ ?_ | (gi_wp2; try refine hK _ _ ?_)
          change wpAnyIn _ _ _ _ _ _ 5 #[true, true, false, false, true, false, false, false] _ _
          exact s014 0
        exact AllReadyIn.nil
      case s03 =>
        intro _
        refine wpAnyIn_ready (rs := [1, 4]) (by kernel_rfl) (by simp) ?_
        refine AllReadyIn.cons rfl (fun K hK => ?_) ?_
        · go_simp
          first | refine hK _ _ ?_ | (gi_wp2; try refine hK _ _ ?_)
          change wpAnyIn _ _ _ _ _ _ 5 #[true, true, false, true, false, false, false, false] _ _
          exact s013 0
        refine AllReadyIn.cons rfl (fun K hK => ?_) ?_
        · go_simp
          first | refine hK _ _ ?_ | (gi_wp2; try refine hK _ _ ?_)
          change wpAnyIn _ _ _ _ _ _ 5 #[true, false, false, true, true, false, false, false] _ _
          exact s034 0
        exact AllReadyIn.nil
      case s04 =>
        intro _
        refine wpAnyIn_ready (rs := [1, 3]) (by kernel_rfl) (by simp) ?_
        refine AllReadyIn.cons rfl (fun K hK => ?_) ?_
        · go_simp
          first | refine hK _ _ ?_ | (gi_wp2; try refine hK _ _ ?_)
          change wpAnyIn _ _ _ _ _ _ 5 #[true, true, false, false, true, false, false, false] _ _
          exact s014 0
        refine AllReadyIn.cons rfl (fun K hK => ?_) ?_
        · go_simp
          first | refine hK _ _ ?_ | (gi_wp2; try refine hK _ _ ?_)
          change wpAnyIn _ _ _ _ _ _ 5 #[true, false, false, true, true, false, false, false] _ _
          exact s034 0
        exact AllReadyIn.nil
      case s13 =>
        intro _
        refine wpAnyIn_ready (rs := [0, 4]) (by kernel_rfl) (by simp) ?_
        refine AllReadyIn.cons rfl (fun K hK => ?_) ?_
        · go_simp
          first | refine hK _ _ ?_ | (gi_wp2; try refine hK _ _ ?_)
          change wpAnyIn _ _ _ _ _ _ 5 #[true, true, false, true, false, false, false, false] _ _
          exact s013 0
        refine AllReadyIn.cons rfl (fun K hK => ?_) ?_
        · go_simp
          first | refine hK _ _ ?_ | (gi_wp2; try refine hK _ _ ?_)
          change wpAnyIn _ _ _ _ _ _ 5 #[false, true, false, true, true, false, false, false] _ _
          exact s134 0
        exact AllReadyIn.nil
      case s14 =>
        intro _
        refine wpAnyIn_ready (rs := [0, 3]) (by kernel_rfl) (by simp) ?_
        refine AllReadyIn.cons rfl (fun K hK => ?_) ?_
        · go_simp
          first | refine hK _ _ ?_ | (gi_wp2; try refine hK _ _ ?_)
          change wpAnyIn _ _ _ _ _ _ 5 #[true, true, false, false, true, false, false, false] _ _
          exact s014 0
        refine AllReadyIn.cons rfl (fun K hK => ?_) ?_
        · go_simp
          first | refine hK _ _ ?_ | (gi_wp2; try refine hK _ _ ?_)
          change wpAnyIn _ _ _ _ _ _ 5 #[false, true, false, true, true, false, false, false] _ _
          exact s134 0
        exact AllReadyIn.nil
      case s34 =>
        intro _
        refine wpAnyIn_ready (rs := [0, 1, 5]) (by kernel_rfl) (by simp) ?_
        refine AllReadyIn.cons rfl (fun K hK => ?_) ?_
        · go_simp
          first | refine hK _ _ ?_ | (gi_wp2; try refine hK _ _ ?_)
          change wpAnyIn _ _ _ _ _ _ 5 #[true, false, false, true, true, false, false, false] _ _
          exact s034 0
        refine AllReadyIn.cons rfl (fun K hK => ?_) ?_
        · go_simp
          first | refine hK _ _ ?_ | (gi_wp2; try refine hK _ _ ?_)
          change wpAnyIn _ _ _ _ _ _ 5 #[false, true, false, true, true, false, false, false] _ _
          exact s134 0
        refine AllReadyIn.cons rfl (fun K hK => ?_) ?_
        · go_simp
          first | refine hK _ _ ?_ | (gi_wp2; try refine hK _ _ ?_)
          change wpAnyIn _ _ _ _ _ _ 5 #[false, false, false, true, true, true, false, false] _ _
          exact s345 0
        exact AllReadyIn.nil
      case s012 =>
        intro _
        refine wpAnyIn_ready (rs := [3, 4, 6]) (by kernel_rfl) (by simp) ?_
        refine AllReadyIn.cons rfl (fun K hK => ?_) ?_
        · go_simp
          first | refine hK _ _ ?_ | (gi_wp2; try refine hK _ _ ?_)
          change wpAnyIn _ _ _ _ _ _ 4 #[true, true, true, true, false, false, false, false] _ _
          exact s0123 0
        refine AllReadyIn.cons rfl (fun K hK => ?_) ?_
        · go_simp
          first | refine hK _ _ ?_ | (gi_wp2; try refine hK _ _ ?_)
          change wpAnyIn _ _ _ _ _ _ 4 #[true, true, true, false, true, false, false, false] _ _
          exact s0124 0
        refine AllReadyIn.cons rfl (fun K hK => ?_) ?_
        · go_simp
          first | refine hK _ _ ?_ | (gi_wp2; try refine hK _ _ ?_)
          change wpAnyIn _ _ _ _ _ _ 4 #[true, true, true, false, false, false, true, false] _ _
          exact s0126 0
        exact AllReadyIn.nil
      case s013 =>
        intro _
        refine wpAnyIn_ready (rs := [2, 4]) (by kernel_rfl) (by simp) ?_
        refine AllReadyIn.cons rfl (fun K hK => ?_) ?_
        · go_simp
          first | refine hK _ _ ?_ | (gi_wp2; try refine hK _ _ ?_)
          change wpAnyIn _ _ _ _ _ _ 4 #[true, true, true, true, false, false, false, false] _ _
          exact s0123 0
        refine AllReadyIn.cons rfl (fun K hK => ?_) ?_
        · go_simp
          first | refine hK _ _ ?_ | (gi_wp2; try refine hK _ _ ?_)
          change wpAnyIn _ _ _ _ _ _ 4 #[true, true, false, true, true, false, false, false] _ _
          exact s0134 0
        exact AllReadyIn.nil
      case s014 =>
        intro _
        refine wpAnyIn_ready (rs := [2, 3]) (by kernel_rfl) (by simp) ?_
        refine AllReadyIn.cons rfl (fun K hK => ?_) ?_
        · go_simp
          first | refine hK _ _ ?_ | (gi_wp2; try refine hK _ _ ?_)
          change wpAnyIn _ _ _ _ _ _ 4 #[true, true, true, false, true, false, false, false] _ _
          exact s0124 0
        refine AllReadyIn.cons rfl (fun K hK => ?_) ?_
        · go_simp
          first | refine hK _ _ ?_ | (gi_wp2; try refine hK _ _ ?_)
          change wpAnyIn _ _ _ _ _ _ 4 #[true, true, false, true, true, false, false, false] _ _
          exact s0134 0
        exact AllReadyIn.nil
      case s034 =>
        intro _
        refine wpAnyIn_ready (rs := [1, 5]) (by kernel_rfl) (by simp) ?_
        refine AllReadyIn.cons rfl (fun K hK => ?_) ?_
        · go_simp
          first | refine hK _ _ ?_ | (gi_wp2; try refine hK _ _ ?_)
          change wpAnyIn _ _ _ _ _ _ 4 #[true, true, false, true, true, false, false, false] _ _
          exact s0134 0
        refine AllReadyIn.cons rfl (fun K hK => ?_) ?_
        · go_simp
          first | refine hK _ _ ?_ | (gi_wp2; try refine hK _ _ ?_)
          change wpAnyIn _ _ _ _ _ _ 4 #[true, false, false, true, true, true, false, false] _ _
          exact s0345 0
        exact AllReadyIn.nil
      case s134 =>
        intro _
        refine wpAnyIn_ready (rs := [0, 5]) (by kernel_rfl) (by simp) ?_
        refine AllReadyIn.cons rfl (fun K hK => ?_) ?_
        · go_simp
          first | refine hK _ _ ?_ | (gi_wp2; try refine hK _ _ ?_)
          change wpAnyIn _ _ _ _ _ _ 4 #[true, true, false, true, true, false, false, false] _ _
          exact s0134 0
        refine AllReadyIn.cons rfl (fun K hK => ?_) ?_
        · go_simp
          first | refine hK _ _ ?_ | (gi_wp2; try refine hK _ _ ?_)
          change wpAnyIn _ _ _ _ _ _ 4 #[false, true, false, true, true, true, false, false] _ _
          exact s1345 0
        exact AllReadyIn.nil
      case s345 =>
        intro _
        refine wpAnyIn_ready (rs := [0, 1]) (by kernel_rfl) (by simp) ?_
        refine AllReadyIn.cons rfl (fun K hK => ?_) ?_
        · go_simp
          first | refine hK _ _ ?_ | (gi_wp2; try refine hK _ _ ?_)
          change wpAnyIn _ _ _ _ _ _ 4 #[true, false, false, true, true, true, false, false] _ _
          exact s0345 0
        refine AllReadyIn.cons rfl (fun K hK => ?_) ?_
        · go_simp
          first | refine hK _ _ ?_ | (gi_wp2; try refine hK _ _ ?_)
          change wpAnyIn _ _ _ _ _ _ 4 #[false, true, false, true, true, true, false, false] _ _
          exact s1345 0
        exact AllReadyIn.nil
      case s0123 =>
        intro _
        refine wpAnyIn_ready (rs := [4, 6]) (by kernel_rfl) (by simp) ?_
        refine AllReadyIn.cons rfl (fun K hK => ?_) ?_
        · go_simp
          first | refine hK _ _ ?_ | (gi_wp2; try refine hK _ _ ?_)
          change wpAnyIn _ _ _ _ _ _ 3 #[true, true, true, true, true, false, false, false] _ _
          exact s01234 0
        refine AllReadyIn.cons rfl (fun K hK => ?_) ?_
        · go_simp
          first | refine hK _ _ ?_ | (gi_wp2; try refine hK _ _ ?_)
          change wpAnyIn _ _ _ _ _ _ 3 #[true, true, true, true, false, false, true, false] _ _
          exact s01236 0
        exact AllReadyIn.nil
      case s0124 =>
        intro _
        refine wpAnyIn_ready (rs := [3, 6]) (by kernel_rfl) (by simp) ?_
        refine AllReadyIn.cons rfl (fun K hK => ?_) ?_
        · go_simp
          first | refine hK _ _ ?_ | (gi_wp2; try refine hK _ _ ?_)
          change wpAnyIn _ _ _ _ _ _ 3 #[true, true, true, true, true, false, false, false] _ _
          exact s01234 0
        refine AllReadyIn.cons rfl (fun K hK => ?_) ?_
        · go_simp
          first | refine hK _ _ ?_ | (gi_wp2; try refine hK _ _ ?_)
          change wpAnyIn _ _ _ _ _ _ 3 #[true, true, true, false, true, false, true, false] _ _
          exact s01246 0
        exact AllReadyIn.nil
      case s0126 =>
        intro _
        refine wpAnyIn_ready (rs := [3, 4]) (by kernel_rfl) (by simp) ?_
        refine AllReadyIn.cons rfl (fun K hK => ?_) ?_
        · go_simp
          first | refine hK _ _ ?_ | (gi_wp2; try refine hK _ _ ?_)
          change wpAnyIn _ _ _ _ _ _ 3 #[true, true, true, true, false, false, true, false] _ _
          exact s01236 0
        refine AllReadyIn.cons rfl (fun K hK => ?_) ?_
        · go_simp
          first | refine hK _ _ ?_ | (gi_wp2; try refine hK _ _ ?_)
          change wpAnyIn _ _ _ _ _ _ 3 #[true, true, true, false, true, false, true, false] _ _
          exact s01246 0
        exact AllReadyIn.nil
      case s0134 =>
        intro _
        refine wpAnyIn_ready (rs := [2, 5]) (by kernel_rfl) (by simp) ?_
        refine AllReadyIn.cons rfl (fun K hK => ?_) ?_
        · go_simp
          first | refine hK _ _ ?_ | (gi_wp2; try refine hK _ _ ?_)
          change wpAnyIn _ _ _ _ _ _ 3 #[true, true, true, true, true, false, false, false] _ _
          exact s01234 0
        refine AllReadyIn.cons rfl (fun K hK => ?_) ?_
        · go_simp
          first | refine hK _ _ ?_ | (gi_wp2; try refine hK _ _ ?_)
          change wpAnyIn _ _ _ _ _ _ 3 #[true, true, false, true, true, true, false, false] _ _
          exact s01345 0
        exact AllReadyIn.nil
      case s0345 =>
        intro _
        refine wpAnyIn_ready (rs := [1]) (by kernel_rfl) (by simp) ?_
        refine AllReadyIn.cons rfl (fun K hK => ?_) ?_
        · go_simp
          first | refine hK _ _ ?_ | (gi_wp2; try refine hK _ _ ?_)
          change wpAnyIn _ _ _ _ _ _ 3 #[true, true, false, true, true, true, false, false] _ _
          exact s01345 0
        exact AllReadyIn.nil
      case s1345 =>
        intro _
        refine wpAnyIn_ready (rs := [0]) (by kernel_rfl) (by simp) ?_
        refine AllReadyIn.cons rfl (fun K hK => ?_) ?_
        · go_simp
          first | refine hK _ _ ?_ | (gi_wp2; try refine hK _ _ ?_)
          change wpAnyIn _ _ _ _ _ _ 3 #[true, true, false, true, true, true, false, false] _ _
          exact s01345 0
        exact AllReadyIn.nil
      case s01234 =>
        intro _
        refine wpAnyIn_ready (rs := [5, 6]) (by kernel_rfl) (by simp) ?_
        refine AllReadyIn.cons rfl (fun K hK => ?_) ?_
        · go_simp
          first | refine hK _ _ ?_ | (gi_wp2; try refine hK _ _ ?_)
          change wpAnyIn _ _ _ _ _ _ 2 #[true, true, true, true, true, true, false, false] _ _
          exact s012345 0
        refine AllReadyIn.cons rfl (fun K hK => ?_) ?_
        · go_simp
          first | refine hK _ _ ?_ | (gi_wp2; try refine hK _ _ ?_)
          change wpAnyIn _ _ _ _ _ _ 2 #[true, true, true, true, true, false, true, false] _ _
          exact s012346 0
        exact AllReadyIn.nil
      case s01236 =>
        intro _
        refine wpAnyIn_ready (rs := [4]) (by kernel_rfl) (by simp) ?_
        refine AllReadyIn.cons rfl (fun K hK => ?_) ?_
        · go_simp
          first | refine hK _ _ ?_ | (gi_wp2; try refine hK _ _ ?_)
          change wpAnyIn _ _ _ _ _ _ 2 #[true, true, true, true, true, false, true, false] _ _
          exact s012346 0
        exact AllReadyIn.nil
      case s01246 =>
        intro _
        refine wpAnyIn_ready (rs := [3]) (by kernel_rfl) (by simp) ?_
        refine AllReadyIn.cons rfl (fun K hK => ?_) ?_
        · go_simp
          first | refine hK _ _ ?_ | (gi_wp2; try refine hK _ _ ?_)
          change wpAnyIn _ _ _ _ _ _ 2 #[true, true, true, true, true, false, true, false] _ _
          exact s012346 0
        exact AllReadyIn.nil
      case s01345 =>
        intro _
        refine wpAnyIn_ready (rs := [2]) (by kernel_rfl) (by simp) ?_
        refine AllReadyIn.cons rfl (fun K hK => ?_) ?_
        · go_simp
          first | refine hK _ _ ?_ | (gi_wp2; try refine hK _ _ ?_)
          change wpAnyIn _ _ _ _ _ _ 2 #[true, true, true, true, true, true, false, false] _ _
          exact s012345 0
        exact AllReadyIn.nil
      case s012345 =>
        intro _
        refine wpAnyIn_ready (rs := [6]) (by kernel_rfl) (by simp) ?_
        refine AllReadyIn.cons rfl (fun K hK => ?_) ?_
        · go_simp
          first | refine hK _ _ ?_ | (gi_wp2; try refine hK _ _ ?_)
          change wpAnyIn _ _ _ _ _ _ 1 #[true, true, true, true, true, true, true, false] _ _
          exact s0123456 0
        exact AllReadyIn.nil
      case s012346 =>
        intro _
        refine wpAnyIn_ready (rs := [5]) (by kernel_rfl) (by simp) ?_
        refine AllReadyIn.cons rfl (fun K hK => ?_) ?_
        · go_simp
          first | refine hK _ _ ?_ | (gi_wp2; try refine hK _ _ ?_)
          change wpAnyIn _ _ _ _ _ _ 1 #[true, true, true, true, true, true, true, false] _ _
          exact s0123456 0
        exact AllReadyIn.nil
      case s0123456 =>
        intro _
        refine wpAnyIn_ready (rs := [7]) (by kernel_rfl) (by simp) ?_
        refine AllReadyIn.cons rfl (fun K hK => ?_) ?_
        · go_simp
          first | refine hK _ _ ?_ | (gi_wp2; try refine hK _ _ ?_)
          change wpAnyIn _ _ _ _ _ _ 0 #[true, true, true, true, true, true, true, true] _ _
          exact sEND 0
        exact AllReadyIn.nil
      case sEND =>
       intro _
       refine wpAnyIn_done (by kernel_rfl) ?_ _
       gi_wp2
       exact ⟨((((KeepsOthers.setCell W _ _).trans (KeepsOthers.setCell _ _ _)).trans (KeepsOthers.setCell _ _ _)).trans (KeepsOthers.drew _)).from _,
        kh_drew (((KH.set W _ (by omega)).trans (KH.set _ _ (by omega))).trans (KH.set _ _ (by omega))),
        ⟨by rw [E2.out]; exact box_drew (boxed_set_other _ (Boxed.set _ (boxed_set_other _ c0 (by omega))) (by omega)),
         by rw [E3.out]; exact box_drew (Boxed.set _ (boxed_set_other _ (boxed_set_other _ c1 (by omega)) (by omega))),
         by rw [E1.out]; exact box_drew (boxed_set_other _ (boxed_set_other _ (c2.set _) (by omega)) (by omega))⟩,
        (((hB.setCell (p := ⟨w1.heap.size + 1 + 1, 0, none⟩) (by simp; omega) _).setCell (p := ⟨w1.heap.size, 0, none⟩) (by simp) _).setCell (p := ⟨w1.heap.size + 1, 0, none⟩) (by simp) _).drew⟩
    · have hpar' : ((j : Int) % 2 == 1) = false := by simpa using hpar
      have hy : vAt true s j = vAt false s j := by unfold vAt; rw [if_neg (by simp; omega), if_neg (by simp)]
      have E1 : Hid ((stf true s ((pre ++ [(⟨j, hj⟩ : Idx s)]).map (·.1))).1 = sm + vAt false s j) := by unfold Hid; rw [HQ.out, HS.out, ← hy]; rfl
      have E2 : Hid ((stf true s ((pre ++ [(⟨j, hj⟩ : Idx s)]).map (·.1))).2.1 = min lo (sm + vAt false s j)) := by unfold Hid; rw [HQ.out, HS.out, ← hy]; rfl
      have E3 : Hid ((stf true s ((pre ++ [(⟨j, hj⟩ : Idx s)]).map (·.1))).2.2 = max hi (sm + vAt false s j)) := by unfold Hid; rw [HQ.out, HS.out, ← hy]; rfl
      clear hpar hy
      gi_wp2
      refine' (fun (rEND : Nat → (_ : Prop)) => ?wrEND) ?rEND
      case' wrEND => refine' (fun (r0123456 : Nat → (_ : Prop)) => ?wr0123456) ?r0123456
      case' wr0123456 => refine' (fun (r012346 : Nat → (_ : Prop)) => ?wr012346) ?r012346
      case' wr012346 => refine' (fun (r012345 : Nat → (_ : Prop)) => ?wr012345) ?r012345
      case' wr012345 => refine' (fun (r01345 : Nat → (_ : Prop)) => ?wr01345) ?r01345
      case' wr01345 => refine' (fun (r01246 : Nat → (_ : Prop)) => ?wr01246) ?r01246
      case' wr01246 => refine' (fun (r01236 : Nat → (_ : Prop)) => ?wr01236) ?r01236
      case' wr01236 => refine' (fun (r01234 : Nat → (_ : Prop)) => ?wr01234) ?r01234
      case' wr01234 => refine' (fun (r1345 : Nat → (_ : Prop)) => ?wr1345) ?r1345
      case' wr1345 => refine' (fun (r0345 : Nat → (_ : Prop)) => ?wr0345) ?r0345
      case' wr0345 => refine' (fun (r0134 : Nat → (_ : Prop)) => ?wr0134) ?r0134
      case' wr0134 => refine' (fun (r0126 : Nat → (_ : Prop)) => ?wr0126) ?r0126
      case' wr0126 => refine' (fun (r0124 : Nat → (_ : Prop)) => ?wr0124) ?r0124
      case' wr0124 => refine' (fun (r0123 : Nat → (_ : Prop)) => ?wr0123) ?r0123
      case' wr0123 => refine' (fun (r345 : Nat → (_ : Prop)) => ?wr345) ?r345
      case' wr345 => refine' (fun (r134 : Nat → (_ : Prop)) => ?wr134) ?r134
      case' wr134 => refine' (fun (r034 : Nat → (_ : Prop)) => ?wr034) ?r034
      case' wr034 => refine' (fun (r014 : Nat → (_ : Prop)) => ?wr014) ?r014
      case' wr014 => refine' (fun (r013 : Nat → (_ : Prop)) => ?wr013) ?r013
      case' wr013 => refine' (fun (r012 : Nat → (_ : Prop)) => ?wr012) ?r012
      case' wr012 => refine' (fun (r34 : Nat → (_ : Prop)) => ?wr34) ?r34
      case' wr34 => refine' (fun (r14 : Nat → (_ : Prop)) => ?wr14) ?r14
      case' wr14 => refine' (fun (r13 : Nat → (_ : Prop)) => ?wr13) ?r13
      case' wr13 => refine' (fun (r04 : Nat → (_ : Prop)) => ?wr04) ?r04
      case' wr04 => refine' (fun (r03 : Nat → (_ : Prop)) => ?wr03) ?r03
      case' wr03 => refine' (fun (r01 : Nat → (_ : Prop)) => ?wr01) ?r01
      case' wr01 => refine' (fun (r4 : Nat → (_ : Prop)) => ?wr4) ?r4
      case' wr4 => refine' (fun (r3 : Nat → (_ : Prop)) => ?wr3) ?r3
      case' wr3 => refine' (fun (r1 : Nat → (_ : Prop)) => ?wr1) ?r1
      case' wr1 => refine' (fun (r0 : Nat → (_ : Prop)) => ?wr0) ?r0
      case wr0 =>
        refine wpIn_region_any (by kernel_rfl) ?_
        change wpAnyIn _ _ _ _ _ _ 8 #[false, false, false, false, false, false, false, false] _ (World.drew _)
        refine wpAnyIn_ready (rs := [0, 1, 3, 4]) (by kernel_rfl) (by simp) ?_
        refine AllReadyIn.cons rfl (fun K hK => ?_) ?_
        · go_simp
          first | refine hK _ _ ?_ | (gi_wp2; try refine hK _ _ ?_)
          change wpAnyIn _ _ _ _ _ _ 7 #[true, false, false, false, false, false, false, false] _ _
          exact r0 0
        refine AllReadyIn.cons rfl (fun K hK => ?_) ?_
        · go_simp
          first | refine hK _ _ ?_ | (gi_wp2; try refine hK _ _ ?_)
          change wpAnyIn _ _ _ _ _ _ 7 #[false, true, false, false, false, false, false, false] _ _
          exact r1 0
        refine AllReadyIn.cons rfl (fun K hK => ?_) ?_
        · go_simp
          first | refine hK _ _ ?_ | (gi_wp2; try refine hK _ _ ?_)
          change wpAnyIn _ _ _ _ _ _ 7 #[false, false, false, true, false, false, false, false] _ _
          exact r3 0
        refine AllReadyIn.cons rfl (fun K hK => ?_) ?_
        · go_simp
          first | refine hK _ _ ?_ | (gi_wp2; try refine hK _ _ ?_)
          change wpAnyIn _ _ _ _ _ _ 7 #[false, false, false, false, true, false, false, false] _ _
          exact r4 0
        exact AllReadyIn.nil
      case r0 =>
        intro _
        refine wpAnyIn_ready (rs := [1, 3, 4]) (by kernel_rfl) (by simp) ?_
        refine AllReadyIn.cons rfl (fun K hK => ?_) ?_
        · go_simp
          first | refine hK _ _ ?_ | (gi_wp2; try refine hK _ _ ?_)
          change wpAnyIn _ _ _ _ _ _ 6 #[true, true, false, false, false, false, false, false] _ _
          exact r01 0
        refine AllReadyIn.cons rfl (fun K hK => ?_) ?_
        · go_simp
          first | refine hK _ _ ?_ | (gi_wp2; try refine hK _ _ ?_)
          change wpAnyIn _ _ _ _ _ _ 6 #[true, false, false, true, false, false, false, false] _ _
          exact r03 0
        refine AllReadyIn.cons rfl (fun K hK => ?_) ?_
        · go_simp
          first | refine hK _ _ ?_ | (gi_wp2; try refine hK _ _ ?_)
          change wpAnyIn _ _ _ _ _ _ 6 #[true, false, false, false, true, false, false, false] _ _
          exact r04 0
        exact AllReadyIn.nil
      case r1 =>
        intro _
        refine wpAnyIn_ready (rs := [0, 3, 4]) (by kernel_rfl) (by simp) ?_
        refine AllReadyIn.cons rfl (fun K hK => ?_) ?_
        · go_simp
          first | refine hK _ _ ?_ | (gi_wp2; try refine hK _ _ ?_)
          change wpAnyIn _ _ _ _ _ _ 6 #[true, true, false, false, false, false, false, false] _ _
          exact r01 0
        refine AllReadyIn.cons rfl (fun K hK => ?_) ?_
        · go_simp
          first | refine hK _ _ ?_ | (gi_wp2; try refine hK _ _ ?_)
          change wpAnyIn _ _ _ _ _ _ 6 #[false, true, false, true, false, false, false, false] _ _
          exact r13 0
        refine AllReadyIn.cons rfl (fun K hK => ?_) ?_
        · go_simp
          first | refine hK _ _ ?_ | (gi_wp2; try refine hK _ _ ?_)
          change wpAnyIn _ _ _ _ _ _ 6 #[false, true, false, false, true, false, false, false] _ _
          exact r14 0
        exact AllReadyIn.nil
      case r3 =>
        intro _
        refine wpAnyIn_ready (rs := [0, 1, 4]) (by kernel_rfl) (by simp) ?_
        refine AllReadyIn.cons rfl (fun K hK => ?_) ?_
        · go_simp
          first | refine hK _ _ ?_ | (gi_wp2; try refine hK _ _ ?_)
          change wpAnyIn _ _ _ _ _ _ 6 #[true, false, false, true, false, false, false, false] _ _
          exact r03 0
        refine AllReadyIn.cons rfl (fun K hK => ?_) ?_
        · go_simp
          first | refine hK _ _ ?_ | (gi_wp2; try refine hK _ _ ?_)
          change wpAnyIn _ _ _ _ _ _ 6 #[false, true, false, true, false, false, false, false] _ _
          exact r13 0
        refine AllReadyIn.cons rfl (fun K hK => ?_) ?_
        · go_simp
          first | refine hK _ _ ?_ | (gi_wp2; try refine hK _ _ ?_)
          change wpAnyIn _ _ _ _ _ _ 6 #[false, false, false, true, true, false, false, false] _ _
          exact r34 0
        exact AllReadyIn.nil
      case r4 =>
        intro _
        refine wpAnyIn_ready (rs := [0, 1, 3]) (by kernel_rfl) (by simp) ?_
        refine AllReadyIn.cons rfl (fun K hK => ?_) ?_
        · go_simp
          first | refine hK _ _ ?_ | (gi_wp2; try refine hK _ _ ?_)
          change wpAnyIn _ _ _ _ _ _ 6 #[true, false, false, false, true, false, false, false] _ _
          exact r04 0
        refine AllReadyIn.cons rfl (fun K hK => ?_) ?_
        · go_simp
          first | refine hK _ _ ?_ | (gi_wp2; try refine hK _ _ ?_)
          change wpAnyIn _ _ _ _ _ _ 6 #[false, true, false, false, true, false, false, false] _ _
          exact r14 0
        refine AllReadyIn.cons rfl (fun K hK => ?_) ?_
        · go_simp
          first | refine hK _ _ ?_ | (gi_wp2; try refine hK _ _ ?_)
          change wpAnyIn _ _ _ _ _ _ 6 #[false, false, false, true, true, false, false, false] _ _
          exact r34 0
        exact AllReadyIn.nil
      case r01 =>
        intro _
        refine wpAnyIn_ready (rs := [2, 3, 4]) (by kernel_rfl) (by simp) ?_
        refine AllReadyIn.cons rfl (fun K hK => ?_) ?_
        · go_simp
          first | refine hK _ _ ?_ | (gi_wp2; try refine hK _ _ ?_)
          change wpAnyIn _ _ _ _ _ _ 5 #[true, true, true, false, false, false, false, false] _ _
          exact r012 0
        refine AllReadyIn.cons rfl (fun K hK => ?_) ?_
        · go_simp
          first | refine hK _ _ ?_ | (gi_wp2; try refine hK _ _ ?_)
          change wpAnyIn _ _ _ _ _ _ 5 #[true, true, false, true, false, false, false, false] _ _
          exact r013 0
        refine AllReadyIn.cons rfl (fun K hK => ?_) ?_
        · go_simp
          first | refine hK _ _ ?_ | (gi_wp2; try refine hK _ _ ?_)
          change wpAnyIn _ _ _ _ _ _ 5 #[true, true, false, false, true, false, false, false] _ _
          exact r014 0
        exact AllReadyIn.nil
      case r03 =>
        intro _
        refine wpAnyIn_ready (rs := [1, 4]) (by kernel_rfl) (by simp) ?_
        refine AllReadyIn.cons rfl (fun K hK => ?_) ?_
        · go_simp
          first | refine hK _ _ ?_ | (gi_wp2; try refine hK _ _ ?_)
          change wpAnyIn _ _ _ _ _ _ 5 #[true, true, false, true, false, false, false, false] _ _
          exact r013 0
        refine AllReadyIn.cons rfl (fun K hK => ?_) ?_
        · go_simp
          first | refine hK _ _ ?_ | (gi_wp2; try refine hK _ _ ?_)
          change wpAnyIn _ _ _ _ _ _ 5 #[true, false, false, true, true, false, false, false] _ _
          exact r034 0
        exact AllReadyIn.nil
      case r04 =>
        intro _
        refine wpAnyIn_ready (rs := [1, 3]) (by kernel_rfl) (by simp) ?_
        refine AllReadyIn.cons rfl (fun K hK => ?_) ?_
        · go_simp
          first | refine hK _ _ ?_ | (gi_wp2; try refine hK _ _ ?_)
          change wpAnyIn _ _ _ _ _ _ 5 #[true, true, false, false, true, false, false, false] _ _
          exact r014 0
        refine AllReadyIn.cons rfl (fun K hK => ?_) ?_
        · go_simp
          first | refine hK _ _ ?_ | (gi_wp2; try refine hK _ _ ?_)
          change wpAnyIn _ _ _ _ _ _ 5 #[true, false, false, true, true, false, false, false] _ _
          exact r034 0
        exact AllReadyIn.nil
      case r13 =>
        intro _
        refine wpAnyIn_ready (rs := [0, 4]) (by kernel_rfl) (by simp) ?_
        refine AllReadyIn.cons rfl (fun K hK => ?_) ?_
        · go_simp
          first | refine hK _ _ ?_ | (gi_wp2; try refine hK _ _ ?_)
          change wpAnyIn _ _ _ _ _ _ 5 #[true, true, false, true, false, false, false, false] _ _
          exact r013 0
        refine AllReadyIn.cons rfl (fun K hK => ?_) ?_
        · go_simp
          first | refine hK _ _ ?_ | (gi_wp2; try refine hK _ _ ?_)
          change wpAnyIn _ _ _ _ _ _ 5 #[false, true, false, true, true, false, false, false] _ _
          exact r134 0
        exact AllReadyIn.nil
      case r14 =>
        intro _
        refine wpAnyIn_ready (rs := [0, 3]) (by kernel_rfl) (by simp) ?_
        refine AllReadyIn.cons rfl (fun K hK => ?_) ?_
        · go_simp
          first | refine hK _ _ ?_ | (gi_wp2; try refine hK _ _ ?_)
          change wpAnyIn _ _ _ _ _ _ 5 #[true, true, false, false, true, false, false, false] _ _
          exact r014 0
        refine AllReadyIn.cons rfl (fun K hK => ?_) ?_
        · go_simp
          first | refine hK _ _ ?_ | (gi_wp2; try refine hK _ _ ?_)
          change wpAnyIn _ _ _ _ _ _ 5 #[false, true, false, true, true, false, false, false] _ _
          exact r134 0
        exact AllReadyIn.nil
      case r34 =>
        intro _
        refine wpAnyIn_ready (rs := [0, 1, 5]) (by kernel_rfl) (by simp) ?_
        refine AllReadyIn.cons rfl (fun K hK => ?_) ?_
        · go_simp
          first | refine hK _ _ ?_ | (gi_wp2; try refine hK _ _ ?_)
          change wpAnyIn _ _ _ _ _ _ 5 #[true, false, false, true, true, false, false, false] _ _
          exact r034 0
        refine AllReadyIn.cons rfl (fun K hK => ?_) ?_
        · go_simp
          first | refine hK _ _ ?_ | (gi_wp2; try refine hK _ _ ?_)
          change wpAnyIn _ _ _ _ _ _ 5 #[false, true, false, true, true, false, false, false] _ _
          exact r134 0
        refine AllReadyIn.cons rfl (fun K hK => ?_) ?_
        · go_simp
          first | refine hK _ _ ?_ | (gi_wp2; try refine hK _ _ ?_)
          change wpAnyIn _ _ _ _ _ _ 5 #[false, false, false, true, true, true, false, false] _ _
          exact r345 0
        exact AllReadyIn.nil
      case r012 =>
        intro _
        refine wpAnyIn_ready (rs := [3, 4, 6]) (by kernel_rfl) (by simp) ?_
        refine AllReadyIn.cons rfl (fun K hK => ?_) ?_
        · go_simp
          first | refine hK _ _ ?_ | (gi_wp2; try refine hK _ _ ?_)
          change wpAnyIn _ _ _ _ _ _ 4 #[true, true, true, true, false, false, false, false] _ _
          exact r0123 0
        refine AllReadyIn.cons rfl (fun K hK => ?_) ?_
        · go_simp
          first | refine hK _ _ ?_ | (gi_wp2; try refine hK _ _ ?_)
          change wpAnyIn _ _ _ _ _ _ 4 #[true, true, true, false, true, false, false, false] _ _
          exact r0124 0
        refine AllReadyIn.cons rfl (fun K hK => ?_) ?_
        · go_simp
          first | refine hK _ _ ?_ | (gi_wp2; try refine hK _ _ ?_)
          change wpAnyIn _ _ _ _ _ _ 4 #[true, true, true, false, false, false, true, false] _ _
          exact r0126 0
        exact AllReadyIn.nil
      case r013 =>
        intro _
        refine wpAnyIn_ready (rs := [2, 4]) (by kernel_rfl) (by simp) ?_
        refine AllReadyIn.cons rfl (fun K hK => ?_) ?_
        · go_simp
          first | refine hK _ _ ?_ | (gi_wp2; try refine hK _ _ ?_)
          change wpAnyIn _ _ _ _ _ _ 4 #[true, true, true, true, false, false, false, false] _ _
          exact r0123 0
        refine AllReadyIn.cons rfl (fun K hK => ?_) ?_
        · go_simp
          first | refine hK _ _ ?_ | (gi_wp2; try refine hK _ _ ?_)
          change wpAnyIn _ _ _ _ _ _ 4 #[true, true, false, true, true, false, false, false] _ _
          exact r0134 0
        exact AllReadyIn.nil
      case r014 =>
        intro _
        refine wpAnyIn_ready (rs := [2, 3]) (by kernel_rfl) (by simp) ?_
        refine AllReadyIn.cons rfl (fun K hK => ?_) ?_
        · go_simp
          first | refine hK _ _ ?_ | (gi_wp2; try refine hK _ _ ?_)
          change wpAnyIn _ _ _ _ _ _ 4 #[true, true, true, false, true, false, false, false] _ _
          exact r0124 0
        refine AllReadyIn.cons rfl (fun K hK => ?_) ?_
        · go_simp
          first | refine hK _ _ ?_ | (gi_wp2; try refine hK _ _ ?_)
          change wpAnyIn _ _ _ _ _ _ 4 #[true, true, false, true, true, false, false, false] _ _
          exact r0134 0
        exact AllReadyIn.nil
      case r034 =>
        intro _
        refine wpAnyIn_ready (rs := [1, 5]) (by kernel_rfl) (by simp) ?_
        refine AllReadyIn.cons rfl (fun K hK => ?_) ?_
        · go_simp
          first | refine hK _ _ ?_ | (gi_wp2; try refine hK _ _ ?_)
          change wpAnyIn _ _ _ _ _ _ 4 #[true, true, false, true, true, false, false, false] _ _
          exact r0134 0
        refine AllReadyIn.cons rfl (fun K hK => ?_) ?_
        · go_simp
          first | refine hK _ _ ?_ | (gi_wp2; try refine hK _ _ ?_)
          change wpAnyIn _ _ _ _ _ _ 4 #[true, false, false, true, true, true, false, false] _ _
          exact r0345 0
        exact AllReadyIn.nil
      case r134 =>
        intro _
        refine wpAnyIn_ready (rs := [0, 5]) (by kernel_rfl) (by simp) ?_
        refine AllReadyIn.cons rfl (fun K hK => ?_) ?_
        · go_simp
          first | refine hK _ _ ?_ | (gi_wp2; try refine hK _ _ ?_)
          change wpAnyIn _ _ _ _ _ _ 4 #[true, true, false, true, true, false, false, false] _ _
          exact r0134 0
        refine AllReadyIn.cons rfl (fun K hK => ?_) ?_
        · go_simp
          first | refine hK _ _ ?_ | (gi_wp2; try refine hK _ _ ?_)
          change wpAnyIn _ _ _ _ _ _ 4 #[false, true, false, true, true, true, false, false] _ _
          exact r1345 0
        exact AllReadyIn.nil
      case r345 =>
        intro _
        refine wpAnyIn_ready (rs := [0, 1]) (by kernel_rfl) (by simp) ?_
        refine AllReadyIn.cons rfl (fun K hK => ?_) ?_
        · go_simp
          first | refine hK _ _ ?_ | (gi_wp2; try refine hK _ _ ?_)
          change wpAnyIn _ _ _ _ _ _ 4 #[true, false, false, true, true, true, false, false] _ _
          exact r0345 0
        refine AllReadyIn.cons rfl (fun K hK => ?_) ?_
        · go_simp
          first | refine hK _ _ ?_ | (gi_wp2; try refine hK _ _ ?_)
          change wpAnyIn _ _ _ _ _ _ 4 #[false, true, false, true, true, true, false, false] _ _
          exact r1345 0
        exact AllReadyIn.nil
      case r0123 =>
        intro _
        refine wpAnyIn_ready (rs := [4, 6]) (by kernel_rfl) (by simp) ?_
        refine AllReadyIn.cons rfl (fun K hK => ?_) ?_
        · go_simp
          first | refine hK _ _ ?_ | (gi_wp2; try refine hK _ _ ?_)
          change wpAnyIn _ _ _ _ _ _ 3 #[true, true, true, true, true, false, false, false] _ _
          exact r01234 0
        refine AllReadyIn.cons rfl (fun K hK => ?_) ?_
        · go_simp
          first | refine hK _ _ ?_ | (gi_wp2; try refine hK _ _ ?_)
          change wpAnyIn _ _ _ _ _ _ 3 #[true, true, true, true, false, false, true, false] _ _
          exact r01236 0
        exact AllReadyIn.nil
      case r0124 =>
        intro _
        refine wpAnyIn_ready (rs := [3, 6]) (by kernel_rfl) (by simp) ?_
        refine AllReadyIn.cons rfl (fun K hK => ?_) ?_
        · go_simp
          first | refine hK _ _ ?_ | (gi_wp2; try refine hK _ _ ?_)
          change wpAnyIn _ _ _ _ _ _ 3 #[true, true, true, true, true, false, false, false] _ _
          exact r01234 0
        refine AllReadyIn.cons rfl (fun K hK => ?_) ?_
        · go_simp
          first | refine hK _ _ ?_ | (gi_wp2; try refine hK _ _ ?_)
          change wpAnyIn _ _ _ _ _ _ 3 #[true, true, true, false, true, false, true, false] _ _
          exact r01246 0
        exact AllReadyIn.nil
      case r0126 =>
        intro _
        refine wpAnyIn_ready (rs := [3, 4]) (by kernel_rfl) (by simp) ?_
        refine AllReadyIn.cons rfl (fun K hK => ?_) ?_
        · go_simp
          first | refine hK _ _ ?_ | (gi_wp2; try refine hK _ _ ?_)
          change wpAnyIn _ _ _ _ _ _ 3 #[true, true, true, true, false, false, true, false] _ _
          exact r01236 0
        refine AllReadyIn.cons rfl (fun K hK => ?_) ?_
        · go_simp
          first | refine hK _ _ ?_ | (gi_wp2; try refine hK _ _ ?_)
          change wpAnyIn _ _ _ _ _ _ 3 #[true, true, true, false, true, false, true, false] _ _
          exact r01246 0
        exact AllReadyIn.nil
      case r0134 =>
        intro _
        refine wpAnyIn_ready (rs := [2, 5]) (by kernel_rfl) (by simp) ?_
        refine AllReadyIn.cons rfl (fun K hK => ?_) ?_
        · go_simp
          first | refine hK _ _ ?_ | (gi_wp2; try refine hK _ _ ?_)
          change wpAnyIn _ _ _ _ _ _ 3 #[true, true, true, true, true, false, false, false] _ _
          exact r01234 0
        refine AllReadyIn.cons rfl (fun K hK => ?_) ?_
        · go_simp
          first | refine hK _ _ ?_ | (gi_wp2; try refine hK _ _ ?_)
          change wpAnyIn _ _ _ _ _ _ 3 #[true, true, false, true, true, true, false, false] _ _
          exact r01345 0
        exact AllReadyIn.nil
      case r0345 =>
        intro _
        refine wpAnyIn_ready (rs := [1]) (by kernel_rfl) (by simp) ?_
        refine AllReadyIn.cons rfl (fun K hK => ?_) ?_
        · go_simp
          first | refine hK _ _ ?_ | (gi_wp2; try refine hK _ _ ?_)
          change wpAnyIn _ _ _ _ _ _ 3 #[true, true, false, true, true, true, false, false] _ _
          exact r01345 0
        exact AllReadyIn.nil
      case r1345 =>
        intro _
        refine wpAnyIn_ready (rs := [0]) (by kernel_rfl) (by simp) ?_
        refine AllReadyIn.cons rfl (fun K hK => ?_) ?_
        · go_simp
          first | refine hK _ _ ?_ | (gi_wp2; try refine hK _ _ ?_)
          change wpAnyIn _ _ _ _ _ _ 3 #[true, true, false, true, true, true, false, false] _ _
          exact r01345 0
        exact AllReadyIn.nil
      case r01234 =>
        intro _
        refine wpAnyIn_ready (rs := [5, 6]) (by kernel_rfl) (by simp) ?_
        refine AllReadyIn.cons rfl (fun K hK => ?_) ?_
        · go_simp
          first | refine hK _ _ ?_ | (gi_wp2; try refine hK _ _ ?_)
          change wpAnyIn _ _ _ _ _ _ 2 #[true, true, true, true, true, true, false, false] _ _
          exact r012345 0
        refine AllReadyIn.cons rfl (fun K hK => ?_) ?_
        · go_simp
          first | refine hK _ _ ?_ | (gi_wp2; try refine hK _ _ ?_)
          change wpAnyIn _ _ _ _ _ _ 2 #[true, true, true, true, true, false, true, false] _ _
          exact r012346 0
        exact AllReadyIn.nil
      case r01236 =>
        intro _
        refine wpAnyIn_ready (rs := [4]) (by kernel_rfl) (by simp) ?_
        refine AllReadyIn.cons rfl (fun K hK => ?_) ?_
        · go_simp
          first | refine hK _ _ ?_ | (gi_wp2; try refine hK _ _ ?_)
          change wpAnyIn _ _ _ _ _ _ 2 #[true, true, true, true, true, false, true, false] _ _
          exact r012346 0
        exact AllReadyIn.nil
      case r01246 =>
        intro _
        refine wpAnyIn_ready (rs := [3]) (by kernel_rfl) (by simp) ?_
        refine AllReadyIn.cons rfl (fun K hK => ?_) ?_
        · go_simp
          first | refine hK _ _ ?_ | (gi_wp2; try refine hK _ _ ?_)
          change wpAnyIn _ _ _ _ _ _ 2 #[true, true, true, true, true, false, true, false] _ _
          exact r012346 0
        exact AllReadyIn.nil
      case r01345 =>
        intro _
        refine wpAnyIn_ready (rs := [2]) (by kernel_rfl) (by simp) ?_
        refine AllReadyIn.cons rfl (fun K hK => ?_) ?_
        · go_simp
          first | refine hK _ _ ?_ | (gi_wp2; try refine hK _ _ ?_)
          change wpAnyIn _ _ _ _ _ _ 2 #[true, true, true, true, true, true, false, false] _ _
          exact r012345 0
        exact AllReadyIn.nil
      case r012345 =>
        intro _
        refine wpAnyIn_ready (rs := [6]) (by kernel_rfl) (by simp) ?_
        refine AllReadyIn.cons rfl (fun K hK => ?_) ?_
        · go_simp
          first | refine hK _ _ ?_ | (gi_wp2; try refine hK _ _ ?_)
          change wpAnyIn _ _ _ _ _ _ 1 #[true, true, true, true, true, true, true, false] _ _
          exact r0123456 0
        exact AllReadyIn.nil
      case r012346 =>
        intro _
        refine wpAnyIn_ready (rs := [5]) (by kernel_rfl) (by simp) ?_
        refine AllReadyIn.cons rfl (fun K hK => ?_) ?_
        · go_simp
          first | refine hK _ _ ?_ | (gi_wp2; try refine hK _ _ ?_)
          change wpAnyIn _ _ _ _ _ _ 1 #[true, true, true, true, true, true, true, false] _ _
          exact r0123456 0
        exact AllReadyIn.nil
      case r0123456 =>
        intro _
        refine wpAnyIn_ready (rs := [7]) (by kernel_rfl) (by simp) ?_
        refine AllReadyIn.cons rfl (fun K hK => ?_) ?_
        · go_simp
          first | refine hK _ _ ?_ | (gi_wp2; try refine hK _ _ ?_)
          change wpAnyIn _ _ _ _ _ _ 0 #[true, true, true, true, true, true, true, true] _ _
          exact rEND 0
        exact AllReadyIn.nil
      case rEND =>
       intro _
       refine wpAnyIn_done (by kernel_rfl) ?_ _
       gi_wp2
       exact ⟨((((KeepsOthers.setCell W _ _).trans (KeepsOthers.setCell _ _ _)).trans (KeepsOthers.setCell _ _ _)).trans (KeepsOthers.drew _)).from _,
        kh_drew (((KH.set W _ (by omega)).trans (KH.set _ _ (by omega))).trans (KH.set _ _ (by omega))),
        ⟨by rw [E2.out]; exact box_drew (boxed_set_other _ (Boxed.set _ (boxed_set_other _ c0 (by omega))) (by omega)),
         by rw [E3.out]; exact box_drew (Boxed.set _ (boxed_set_other _ (boxed_set_other _ c1 (by omega)) (by omega))),
         by rw [E1.out]; exact box_drew (boxed_set_other _ (boxed_set_other _ (c2.set _) (by omega)) (by omega))⟩,
        (((hB.setCell (p := ⟨w1.heap.size + 1 + 1, 0, none⟩) (by simp; omega) _).setCell (p := ⟨w1.heap.size, 0, none⟩) (by simp) _).setCell (p := ⟨w1.heap.size + 1, 0, none⟩) (by simp) _).drew⟩
  case done =>
    rintro D ys W hD' hys ⟨⟨c0, c1, c2⟩, hB⟩ hK
    rw [hys, fold_done] at c0 c1 c2
    have d0 := c0.cell; have d1 := c1.cell
    simp only at d0 d1
    have bL := Lo_bd _ (vAt_bd true s) s.size
    have bH := Hi_bd _ (vAt_bd true s) s.size
    have HW : Hid (wid true s = Hi (vAt true s) s.size - Lo (vAt true s) s.size) := rfl
    gi_wp2
    refine ⟨by simp, .inl ⟨_, _, rfl, run_takeDeferred hK, ?_⟩⟩
    refine ⟨_, results_tmp2 (t := 4) (u := 5) rfl _ _ _, ?_, (hD.below _).trans (below_put (w := w1) hB (by simp at hD'; omega) hK _ |>.mono (by obtain ⟨k, rfl⟩ := hD; exact Nat.le_refl _))⟩
    exact ret_bi (by rw [HW.out])
  case stop =>
    rintro D c pre W _ _ h _
    exact h.elim

set_option maxHeartbeats 400000 in
theorem nullv_any (n : Int) (s : ByteArray) (w : World) (hs : s.size ≤ maxLen) :
    Calls Try.prog 19 #[.int .i64 n, .string s] w fun e w' => e = .returned (.tuple #[.bool (vld true 31 n s).1, .int .i64 (vld true 31 n s).2]) ∧ Below w.heap.size w w' := by
  by_cases h1 : n < 1
  · have HP := hidI (vld_out true 31 n s (.inl h1))
    go_enter Try.func19, Try.ntmps19
    go_wp2
    go_ret2
    exact ⟨ret_bi HP.out, Below.refl _ _⟩
  by_cases h2 : 31 < n
  · have HP := hidI (vld_out true 31 n s (.inr h2))
    go_enter Try.func19, Try.ntmps19
    go_wp2
    go_ret2
    exact ⟨ret_bi HP.out, Below.refl _ _⟩
  by_cases hc : wchk 2 s.data.toList = 0
  · have HP := vld_ok true 31 n s (by omega) (by omega) hc
    rw [HP]
    exact callsIn_wide.1 (nullv_ok_in n (by omega) (by omega) s w hc (wchk_long2 s hc) hs)
  · have HP := hidI (vld_bad true 31 n s (by omega) (by omega) hc)
    have hc' : (wchk 2 s.data.toList == 0) = false := by simpa using hc
    clear hc
    go_enter Try.func19, Try.ntmps19
    go_wp2_with fail
    refine (wcheck_any 2 s _ hs).mono ?_
    rintro e w1 ⟨rfl, hD⟩
    go_wp2
    go_ret2
    exact ⟨ret_bi HP.out, hD.below _⟩
end Go.Proofs.Ytlgjhmenjfmpfaa.Chg
