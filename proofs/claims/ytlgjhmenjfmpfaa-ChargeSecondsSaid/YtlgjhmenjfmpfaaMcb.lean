/-
  Words, plain lemmas and walks, merged: ChWe, ChWf, ChWg, ChWh, ChWp, ChWq, ChWr, ChWs.
-/
import Derived.RangeFuncNested
import Derived.RangeFuncBound
import Derived.RangeFuncCalls
import Derived.RangeFuncLeaves
import Derived.Shelf.Abstract
import Derived.Shelf.RegionOpen
import Derived.OwnWalkIn
import Derived.TacticsInMore
import Derived.LoopNIn
import Derived.LoopIn
import Derived.Test.YtlgjhmenjfmpfaaMca
namespace Go.Proofs.Ytlgjhmenjfmpfaa.Chg
open Go.RowKit Go.Shelf
attribute [local go_sem] Oper.semAt_some

abbrev Idx (s : ByteArray) := { j : Nat // j < s.size }
def encI (s : ByteArray) (x : Idx s) : Array Value := #[.int .i64 (x.1 : Int), .int .i64 (vAt false s x.1)]


set_option maxRecDepth 100000 in
set_option maxHeartbeats 1000000 in
theorem values1_in (F : Fence) (n : Nat) (hf : F.fn 54) (hro : F.round = none) (hn : 1 ≤ n) (l Bs : Nat) (s : ByteArray) (hs : s.size ≤ 65536) (hok : wchk 2 s.data.toList = 0) (J Jx : List (Idx s) → World → Prop)
    (hY : ∀ pre x W, J pre W → pre.length < s.size → YieldAt F (n - 1) Try.prog l (encI s x) W fun e W' =>
      (e = .returned (.bool true) ∧ J (pre ++ [x]) W' ∧ KH Bs W W') ∨ (e = .returned (.bool false) ∧ Jx (pre ++ [x]) W'))
    (W : World) (hBs : Boxed W Bs 9 (.string s)) (h0 : J [] W) :
    CallsIn F n Try.prog 54 #[.func (.yield l) #[] #[], .pointer (some ⟨Bs, 0, none⟩)] W fun e W' => (∃ v, e = .returned v) ∧
      ((∃ ys : List (Idx s), ys.map (·.1) = List.range s.size ∧ J ys W') ∨ (∃ pre : List (Idx s), True ∧ Jx pre W')) := by
  refine callsIn_of_wp Try.func54 rfl hf ?_ hro
  simp only [Try.ntmps54, List.size_toArray, List.length_cons, List.length_nil, Nat.reduceAdd, Nat.reduceSub, Array.replicate_succ, Array.replicate_zero, List.push_toArray, List.append_toArray, List.nil_append, List.cons_append]
  have hb0 := hBs.cell
  gi_wp2
  clear hb0
  gi_loopw [6] (fun i wr => ∃ (k : Nat) (pre : List (Idx s)), k ≤ s.size ∧ i = .int .i64 k ∧ Hid (pre.map (·.1) = List.range k) ∧ J pre wr ∧ Boxed wr Bs 9 (.string s)) (fun i _ => s.size - (intOf i).toNat)
  case atStart => exact ⟨0, [], Nat.zero_le _, rfl, rfl, h0, hBs⟩
  case round =>
    obtain ⟨k, pre, hk, rfl, hp, hJs, hnx⟩ := hrel
    have hbs := hnx.cell
    by_cases hlt : k < s.size
    · have hpl : pre.length = k := by simpa using congrArg List.length hp.out
      obtain ⟨fn, tmps, assign, body, hy, hR⟩ := hY pre ⟨k, hlt⟩ wr hJs (by omega)
      have hbin := vals_bin s hok k hlt
      have hv := vAt_f s k hlt
      have hw : encI s ⟨k, hlt⟩ = #[.int .i64 (k : Int), .int .i64 (2 * ((s[k].toNat : Int) - 48) - 1)] := by
        unfold encI
        simp only
        rw [hv]
        rcases hbin with h | h <;> rw [h] <;> rfl
      rw [hw] at hy
      clear hw hv hpl
      gi_wp2
      refine hR.mono ?_
      rintro e W3 (⟨rfl, hJ3, hk3⟩ | ⟨rfl, hJx3⟩)
      · gi_wp2
        go_roundw
        case rel => exact ⟨k + 1, _, by omega, by go_num, by unfold Hid; rw [List.map_append, hp.out, List.range_succ]; rfl, hJ3, hk3.boxed hnx⟩
        case measure => simp [intOf]; omega
      · gi_wp2
        refine bodyPost_ret (results_none rfl _ _ _) rfl ?_
        exact ⟨⟨_, rfl⟩, .inr ⟨_, trivial, hJx3⟩⟩
    · obtain rfl : k = s.size := by omega
      gi_wp2
      go_end0
      exact ⟨⟨_, rfl⟩, .inl ⟨_, hp.out, hJs⟩⟩

/-- The iterator, as the law of the loop takes it. -/
theorem values_stops (F : Fence) (n : Nat) (hf : F.fn 54) (hro : F.round = none) (hn : 1 ≤ n) (Bs : Nat) (s : ByteArray) (hs : s.size ≤ 65536) (hok : wchk 2 s.data.toList = 0) (w : World)
    (hc : Boxed w Bs 9 (.string s)) :
    SeqStopsK F n Try.prog 54 #[.pointer (some ⟨Bs, 0, none⟩)] (encI s) (KH Bs) (fun ys => ys.map (·.1) = List.range s.size) (fun _ => True) s.size w := fun l J Jx W hW _ _ hY h0 =>
  values1_in F n hf hro hn l Bs s hs hok J Jx hY W ((KH.of_below hW hc.lt).boxed hc) h0

set_option maxHeartbeats 1000000 in
theorem values_in (F : Fence) (n : Nat) (hf : F.fn 42) (hro : F.round = none) (s : ByteArray) (w : World) :
    CallsIn F n Try.prog 42 #[.string s] w fun e w' => e = .returned (.func (.func 54) #[] #[.pointer (some ⟨w.heap.size, 0, none⟩)]) ∧ w' = w.alloc (.cells #[.string s] 9) := by
  refine callsIn_of_wp Try.func42 rfl hf ?_ hro
  simp only [Try.ntmps42, List.size_toArray, List.length_cons, List.length_nil, Nat.reduceAdd, Nat.reduceSub, Array.replicate_succ, Array.replicate_zero, List.push_toArray, List.append_toArray, List.nil_append, List.cons_append]
  gi_wp2
  go_ret
  exact ⟨rfl, rfl⟩

end Go.Proofs.Ytlgjhmenjfmpfaa.Chg
namespace Go.Proofs.Ytlgjhmenjfmpfaa.Chg
open Go.RowKit Go.Shelf
attribute [local go_sem] Oper.semAt_some

def row4 (n : Int) (s : ByteArray) (l : List Nat) : List Value := [.int .i64 (paL n (vAt false s) 0 l), .int .i64 (paL n (vAt false s) 1 l), .int .i64 (paL n (vAt false s) 2 l), .int .i64 (paL n (vAt false s) 3 l)]

theorem row4_0 (n : Int) (s : ByteArray) (q : List Nat) (j : Nat) (h : ((j : Int) * n) % 4 = 0) :
    row4 n s (q ++ [j]) = (row4 n s q).set 0 (.int .i64 (paL n (vAt false s) 0 q + vAt false s j)) := by
  have h' : (n * (j : Int)) % 4 = 0 := by rw [Int.mul_comm]; exact h
  simp only [row4, paL_snoc, pa1_hit _ _ _ _ _ h', pa1_miss n (vAt false s) 1 _ j (by omega), pa1_miss n (vAt false s) 2 _ j (by omega), pa1_miss n (vAt false s) 3 _ j (by omega)]
  rfl
theorem row4_1 (n : Int) (s : ByteArray) (q : List Nat) (j : Nat) (h : ((j : Int) * n) % 4 = 1) :
    row4 n s (q ++ [j]) = (row4 n s q).set 1 (.int .i64 (paL n (vAt false s) 1 q + vAt false s j)) := by
  have h' : (n * (j : Int)) % 4 = 1 := by rw [Int.mul_comm]; exact h
  simp only [row4, paL_snoc, pa1_hit _ _ _ _ _ h', pa1_miss n (vAt false s) 0 _ j (by omega), pa1_miss n (vAt false s) 2 _ j (by omega), pa1_miss n (vAt false s) 3 _ j (by omega)]
  rfl
theorem row4_2 (n : Int) (s : ByteArray) (q : List Nat) (j : Nat) (h : ((j : Int) * n) % 4 = 2) :
    row4 n s (q ++ [j]) = (row4 n s q).set 2 (.int .i64 (paL n (vAt false s) 2 q + vAt false s j)) := by
  have h' : (n * (j : Int)) % 4 = 2 := by rw [Int.mul_comm]; exact h
  simp only [row4, paL_snoc, pa1_hit _ _ _ _ _ h', pa1_miss n (vAt false s) 0 _ j (by omega), pa1_miss n (vAt false s) 1 _ j (by omega), pa1_miss n (vAt false s) 3 _ j (by omega)]
  rfl
theorem row4_3 (n : Int) (s : ByteArray) (q : List Nat) (j : Nat) (h : ((j : Int) * n) % 4 = 3) :
    row4 n s (q ++ [j]) = (row4 n s q).set 3 (.int .i64 (paL n (vAt false s) 3 q + vAt false s j)) := by
  have h' : (n * (j : Int)) % 4 = 3 := by rw [Int.mul_comm]; exact h
  simp only [row4, paL_snoc, pa1_hit _ _ _ _ _ h', pa1_miss n (vAt false s) 0 _ j (by omega), pa1_miss n (vAt false s) 1 _ j (by omega), pa1_miss n (vAt false s) 2 _ j (by omega)]
  rfl

set_option maxRecDepth 100000 in
set_option maxHeartbeats 2000000 in
theorem spectrum_ok_in (n : Int) (s : ByteArray) (w : World) (hn0 : 0 ≤ n) (hn3 : n ≤ 3) (hok : wchk 2 s.data.toList = 0) (hs : s.size ≤ 65536) (hs' : s.size ≤ maxLen) :
    CallsIn Fence.wide 9 Try.prog 33 #[.string s, .int .i64 n] w fun e w' => e = .returned (.tuple #[.int .i64 (spe n s).1, .int .i64 (spe n s).2.1, .int .i64 (spe n s).2.2]) ∧ Below w.heap.size w w' := by
  have HC := hidI hok
  have HP := hidI (spe_ok n s hn0 hn3 hok)
  refine callsIn_of_wp_marks Try.func33 rfl trivial ?_ rfl
  simp only [Try.ntmps33, List.size_toArray, List.length_cons, List.length_nil, Nat.reduceAdd, Nat.reduceSub, Array.replicate_succ, Array.replicate_zero, List.push_toArray, List.append_toArray, List.nil_append, List.cons_append]
  clear hok
  gi_wp2_with (refine ⟨trivial, ?_⟩; gi_at_call 35)
  refine (callsIn_wide.2 (wcheck_any 2 s _ hs')).mono ?_
  rintro e w1 ⟨rfl, hD⟩
  rw [HC.out]
  gi_wp2_with (refine ⟨trivial, ?_⟩; gi_at_call 42)
  refine (values_in Fence.wide 8 trivial rfl s _).mono ?_
  rintro e w' ⟨rfl, rfl⟩
  gi_wp2
  have hw1 : Below (w.heap.size + 1) (w.alloc (.cells #[.int .i64 n] 3)) w1 := hD.below _
  have hsz : w.heap.size < w1.heap.size := by have := hw1.size; simp at this; omega
  have b0 := (((VRow.new w 3 [.int .i64 n]).below hw1 (by omega)).alloc (.cells #[.int .i64 0, .int .i64 0, .int .i64 0, .int .i64 0] 75)).alloc (.cells #[.string s] 9)
  have b1 := (VRow.new w1 75 [.int .i64 0, .int .i64 0, .int .i64 0, .int .i64 0]).alloc (.cells #[.string s] 9)
  have b3 := Boxed.new (w1.alloc (.cells #[.int .i64 0, .int .i64 0, .int .i64 0, .int .i64 0] 75)) 9 (.string s)
  simp only [World.size_alloc] at b3
  have hB0 : Below w.heap.size w ((w1.alloc (.cells #[.int .i64 0, .int .i64 0, .int .i64 0, .int .i64 0] 75)).alloc (.cells #[.string s] 9)) := ((((Below.refl _ w).alloc (Nat.le_refl _) _).trans (hw1.mono (by omega))).alloc (by omega) _).alloc (by simp; omega) _
  refine' wpIn_rangeFunc_ownG rfl (by omega) (gf := 54) (lb := #[.pointer (some ⟨w1.heap.size + 1, 0, none⟩)]) rfl trivial (enters_of Try.func54 (by kernel_rfl) rfl)
    (values_stops Fence.wide 8 trivial rfl (by omega) (w1.heap.size + 1) s hs HC.out _ b3) KH.trans (KH_b (by simp)) (Below.refl _ _) (fun _ => rfl)
    (fun pre W => (VRow W w.heap.size 3 [.int .i64 n] ∧ VRow W w1.heap.size 75 (row4 n s (pre.map (·.1)))) ∧ Below w.heap.size w W)
    (fun _ _ _ => False)
    (OwnFrom.and (OwnFrom.and ((VRow.own _ _ _).from _) ((VRow.own _ _ _).from _)) (ownFrom_below (Nat.le_refl _) (by simp; omega)))
    (fun _ _ _ _ _ hs _ _ => hs)
    ⟨⟨b0, b1⟩, hB0⟩
    _ ?assign ?body ?done ?stop
  case assign =>
    intro l x W K hK
    unfold encI
    gi_wp2
    exact hK
  case body =>
    rintro l pre ⟨j, hj⟩ W ⟨⟨c0, c1⟩, hB⟩ hlen
    have hp : (pre.map (·.1)).length < s.size := by simpa using hlen
    have HS : Hid ((pre ++ [(⟨j, hj⟩ : Idx s)]).map (·.1) = pre.map (·.1) ++ [j]) := by simp [Hid]
    generalize pre.map (·.1) = q at *
    have d0 := c0.cell 0
    have e0 := c1.cell 0; have e1 := c1.cell 1; have e2 := c1.cell 2; have e3 := c1.cell 3
    have f1 := c1.frozen
    simp only [row4, List.getElem?_cons_zero, List.getElem?_cons_succ] at d0 e0 e1 e2 e3
    have p0 := paL_bd n _ 0 (vAt_bd false s) q
    have p1 := paL_bd n _ 1 (vAt_bd false s) q
    have p2 := paL_bd n _ 2 (vAt_bd false s) q
    have p3 := paL_bd n _ 3 (vAt_bd false s) q
    have hv := vAt_bd false s j
    have bm := mul_bd n j s.size hn0 hn3 (by omega)
    rw [Int.mul_comm] at bm
    have hr : ((j : Int) * n) % 4 = 0 ∨ ((j : Int) * n) % 4 = 1 ∨ ((j : Int) * n) % 4 = 2 ∨ ((j : Int) * n) % 4 = 3 := by omega
    rcases hr with hr | hr | hr | hr
    all_goals
      have HR := hidI hr
      gi_wp2
    · refine ⟨(KeepsOthers.setCell _ _ _).from _, KH.set _ _ (by omega), ⟨c0.other _ (by omega), ?_⟩, hB.setCell (p := ⟨w1.heap.size, 0, none⟩) (by simp; omega) _⟩
      rw [HS.out, row4_0 n s q j HR.out]
      exact c1.set _
    · refine ⟨(KeepsOthers.setCell _ _ _).from _, KH.set _ _ (by omega), ⟨c0.other _ (by omega), ?_⟩, hB.setCell (p := ⟨w1.heap.size, 1, none⟩) (by simp; omega) _⟩
      rw [HS.out, row4_1 n s q j HR.out]
      exact c1.set _
    · refine ⟨(KeepsOthers.setCell _ _ _).from _, KH.set _ _ (by omega), ⟨c0.other _ (by omega), ?_⟩, hB.setCell (p := ⟨w1.heap.size, 2, none⟩) (by simp; omega) _⟩
      rw [HS.out, row4_2 n s q j HR.out]
      exact c1.set _
    · refine ⟨(KeepsOthers.setCell _ _ _).from _, KH.set _ _ (by omega), ⟨c0.other _ (by omega), ?_⟩, hB.setCell (p := ⟨w1.heap.size, 3, none⟩) (by simp; omega) _⟩
      rw [HS.out, row4_3 n s q j HR.out]
      exact c1.set _
  case done =>
    rintro D ys W hD' hys ⟨⟨c0, c1⟩, hB⟩ hK
    rw [hys] at c1
    have e0 := c1.cell 0; have e1 := c1.cell 1; have e2 := c1.cell 2; have e3 := c1.cell 3
    simp only [row4, List.getElem?_cons_zero, List.getElem?_cons_succ] at e0 e1 e2 e3
    have p0 := paL_bd n _ 0 (vAt_bd false s) (List.range s.size)
    have p1 := paL_bd n _ 1 (vAt_bd false s) (List.range s.size)
    have p2 := paL_bd n _ 2 (vAt_bd false s) (List.range s.size)
    have p3 := paL_bd n _ 3 (vAt_bd false s) (List.range s.size)
    simp only [List.length_range] at p0 p1 p2 p3
    gi_wp2
    gi_region
    all_goals gi_wp2
    have hK' : W.drew.heap[D]? = some (.deferred (some [])) := hK
    refine ⟨by simp, .inl ⟨_, _, rfl, run_takeDeferred hK', ?_⟩⟩
    refine ⟨_, results_tmp3 (t := 4) (u := 5) (v := 6) rfl _ _ _, ?_, below_put hB.drew (by simp at hD'; omega) hK' _⟩
    refine ret_iii ?_
    rw [HP.out, paL_range, paL_range, paL_range, paL_range]
  case stop =>
    rintro D c pre W _ _ h _
    exact h.elim

set_option maxHeartbeats 400000 in
theorem spectrum_any (n : Int) (s : ByteArray) (w : World) (hs : s.size ≤ maxLen) :
    Calls Try.prog 33 #[.string s, .int .i64 n] w fun e w' => e = .returned (.tuple #[.int .i64 (spe n s).1, .int .i64 (spe n s).2.1, .int .i64 (spe n s).2.2]) ∧ Below w.heap.size w w' := by
  have hB : Below w.heap.size w (w.alloc (.cells #[.int .i64 n] 3)) := (Below.refl _ w).alloc (Nat.le_refl _) _
  by_cases h1 : n < 0
  · have HP := hidI (spe_out n s (.inl h1))
    go_enter Try.func33, Try.ntmps33
    go_wp2
    go_ret3
    exact ⟨ret_iii HP.out, hB⟩
  by_cases h2 : 3 < n
  · have HP := hidI (spe_out n s (.inr h2))
    go_enter Try.func33, Try.ntmps33
    go_wp2
    go_ret3
    exact ⟨ret_iii HP.out, hB⟩
  by_cases hc : wchk 2 s.data.toList = 0
  · exact callsIn_wide.1 (spectrum_ok_in n s w (by omega) (by omega) hc (wchk_long2 s hc) hs)
  · have HP := hidI (spe_bad n s (by omega) (by omega) hc)
    have hc' : (wchk 2 s.data.toList == 0) = false := by simpa using hc
    clear hc
    go_enter Try.func33, Try.ntmps33
    go_wp2_with fail
    refine (wcheck_any 2 s _ hs).mono ?_
    rintro e w1 ⟨rfl, hD⟩
    go_wp2
    go_ret3
    exact ⟨ret_iii HP.out, hB.trans (hD.below _)⟩
end Go.Proofs.Ytlgjhmenjfmpfaa.Chg
namespace Go.Proofs.Ytlgjhmenjfmpfaa.Chg
open Go.RowKit

set_option maxHeartbeats 400000 in
theorem balanced_any (n : Int) (w : World) :
    Calls Try.prog 32 #[.int .i64 n] w fun e w' => e = .returned (.tuple #[.int .i64 (blc n).1, .int .i64 (blc n).2]) ∧ w = w' := by
  by_cases h1 : n < 0
  · have HP := hidI (blc_out n (.inl h1))
    go_enter Try.func32, Try.ntmps32
    go_wp2
    go_ret2
    exact ⟨ret_ii HP.out, rfl⟩
  by_cases h2 : 30 < n
  · have HP := hidI (blc_out n (.inr h2))
    go_enter Try.func32, Try.ntmps32
    go_wp2
    go_ret2
    exact ⟨ret_ii HP.out, rfl⟩
  by_cases ho : n % 2 = 1
  · have HP := hidI (blc_odd n (by omega) (by omega) ho)
    have ho' : (n % 2 == 1) = true := by simpa using ho
    go_enter Try.func32, Try.ntmps32
    go_wp2
    go_ret2
    exact ⟨ret_ii HP.out, rfl⟩
  obtain ⟨m, rfl⟩ : ∃ m : Nat, n = 2 * m := ⟨(n / 2).toNat, by omega⟩
  have hm : m ≤ 15 := by omega
  have HP := hidI (blc_even m hm)
  have ho' : (2 * (m : Int) % 2 == 1) = false := by simp
  clear ho h1 h2
  go_enter Try.func32, Try.ntmps32
  go_wp2
  go_loop [4, 5] (fun o i => ∃ k : Nat, k ≤ m ∧ i = .int .i64 (k + 1 : Nat) ∧ o = .int .i64 (balp m k)) (fun _ i => m + 1 - (intOf i).toNat)
  case atStart => exact ⟨0, by omega, rfl, rfl⟩
  case round =>
    obtain ⟨k, hk, rfl, rfl⟩ := hrel
    have hb := balp_tab m (by omega) k (by omega)
    by_cases hlt : k < m
    · go_wp2
      have hst := balp_step m (by omega) k (by omega)
      go_round
      case rel => exact ⟨k + 1, by omega, by go_num, int_eq hst⟩
      case measure => simp [intOf]; omega
    · obtain rfl : k = m := by omega
      go_wp2
      go_ret2
      exact ⟨ret_ii HP.out, rfl⟩
end Go.Proofs.Ytlgjhmenjfmpfaa.Chg
namespace Go.Proofs.Ytlgjhmenjfmpfaa.Chg
open Go.RowKit

theorem ne_of_get {α : Type} {l m : List α} (k : Nat) (h1 : k < l.length) (h2 : k < m.length) (h : l[k] ≠ m[k]) : l ≠ m := by
  intro e; subst e; exact h rfl

set_option maxHeartbeats 400000 in
theorem equalB_any (l m : List Bool) (p q : Option Addr) (c d : Nat) (w : World) (hp : Sl w Value.bool p l) (hq : Sl w Value.bool q m) (hl : l.length ≤ 9223372036854775807) (hm : m.length ≤ 9223372036854775807) :
    Calls Try.prog 34 #[.slice p l.length c, .slice q m.length d] w fun e w' => e = .returned (.bool (decide (l = m))) ∧ Dr w w' := by
  by_cases hlen : l.length = m.length
  · have hlen' : ((l.length : Int) == (m.length : Int)) = true := by simp [hlen]
    have HT : Hid (l.length = m.length) := hlen
    clear hlen
    go_enter Try.func34, Try.ntmps34
    go_wp2
    go_loopw [13] (fun i wr => ∃ k : Nat, k ≤ l.length ∧ i = .int .i64 k ∧ Hid (l.take k = m.take k) ∧ Dr w wr) (fun i _ => l.length - (intOf i).toNat)
    case atStart => exact ⟨0, by omega, rfl, by simp [Hid], Dr.refl _⟩
    case round =>
      obtain ⟨k, hk, rfl, hj, hD⟩ := hrel
      by_cases hlt : k < l.length
      · have hlt2 : k < m.length := by have := HT.out; omega
        obtain ⟨b1, o1, rfl, hb1, hc1⟩ := (hp.dr hD).get k hlt
        obtain ⟨b2, o2, rfl, hb2, hc2⟩ := (hq.dr hD).get k hlt2
        have e1 := hc1 k hlt
        have e2 := hc2 k hlt2
        clear hc1 hc2
        go_wp2_with fail
        go_quiet (fail)
        go_wp2
        · have hne : l[k] ≠ m[k] := by have h : (!l[k] == m[k]) = true := ‹_›; simpa using h
          have HE : Hid (decide (l = m) = false) := by simpa [Hid] using ne_of_get k hlt hlt2 hne
          go_ret
          exact ⟨ret_bool HE.out.symm, hD.one _⟩
        · have he : l[k] = m[k] := by have h : (!l[k] == m[k]) = false := ‹_›; simpa using h
          go_roundw
          case rel => exact ⟨k + 1, by omega, by go_num, by unfold Hid; rw [List.take_succ_eq_append_getElem hlt, List.take_succ_eq_append_getElem hlt2, hj.out, he], hD.one _⟩
          case measure => simp [intOf]; omega
      · obtain rfl : k = l.length := by omega
        have HE : Hid (decide (l = m) = true) := by
          have h1 := hj.out
          rw [List.take_length, HT.out, List.take_length] at h1
          simp [Hid, h1]
        go_wp2
        go_ret
        exact ⟨ret_bool HE.out.symm, hD⟩
  · have hlen' : ((l.length : Int) == (m.length : Int)) = false := by simpa using fun h : (l.length : Int) = m.length => hlen (by omega)
    have HE : Hid (decide (l = m) = false) := by simp [Hid]; rintro rfl; exact hlen rfl
    clear hlen
    go_enter Try.func34, Try.ntmps34
    go_wp2
    go_ret
    exact ⟨ret_bool HE.out.symm, Dr.refl _⟩

/-- The first place at which a predicate holds, or -1. -/
def idxP {α : Type} (f : α → Bool) : List α → Int | [] => -1 | x :: l => if f x then 0 else if idxP f l < 0 then -1 else idxP f l + 1
theorem idxP_ge {α : Type} (f : α → Bool) (l : List α) : -1 ≤ idxP f l ∧ idxP f l < l.length := by
  induction l with
  | nil => simp [idxP]
  | cons x l ih => simp only [idxP, List.length_cons]; split <;> (try split) <;> omega
theorem idxP_any {α : Type} (f : α → Bool) (l : List α) : decide (0 ≤ idxP f l) = l.any f := by
  induction l with
  | nil => simp [idxP]
  | cons x l ih =>
    have := idxP_ge f l
    rw [List.any_cons, ← ih]
    by_cases hf : f x = true
    · simp [idxP, hf]
    · have hf' : f x = false := by simpa using hf
      simp only [idxP, hf', Bool.false_eq_true, if_false, Bool.false_or]
      rw [decide_eq_decide]
      split <;> omega
theorem idxP_hit {α : Type} (f : α → Bool) (l : List α) (k : Nat) (h : k < l.length) (hn : ∀ j (hj : j < l.length), j < k → f l[j] = false) (hk : f l[k] = true) : idxP f l = k := by
  induction l generalizing k with
  | nil => simp at h
  | cons x l ih =>
    cases k with
    | zero => simp only [List.getElem_cons_zero] at hk; simp [idxP, hk]
    | succ k =>
      have h0 := hn 0 (by simp) (by omega)
      simp only [List.getElem_cons_zero] at h0
      have := ih k (by simpa using h) (fun j hj hjk => by have := hn (j + 1) (by simpa using hj) (by omega); simpa using this) (by simpa using hk)
      simp only [idxP, h0, Bool.false_eq_true, if_false, this]
      rw [if_neg (by omega)]; omega
theorem idxP_miss {α : Type} (f : α → Bool) (l : List α) (hn : ∀ j (hj : j < l.length), f l[j] = false) : idxP f l = -1 := by
  induction l with
  | nil => rfl
  | cons x l ih =>
    have h0 := hn 0 (by simp)
    simp only [List.getElem_cons_zero] at h0
    have := ih (fun j hj => by have := hn (j + 1) (by simpa using hj); simpa using this)
    simp [idxP, h0, this]

def longS (n : Nat) (s : ByteArray) : Bool := decide (n < s.size)
end Go.Proofs.Ytlgjhmenjfmpfaa.Chg
namespace Go.Proofs.Ytlgjhmenjfmpfaa.Chg
open Go.RowKit Go.Shelf
attribute [local go_sem] Oper.semAt_some

theorem infoBool : (Try.prog.info? 4).map (fun i => (i.zero, i.size, i.bytes)) = some (some (.bool false), 1, 1) := by kernel_rfl

def PInv (l : List ByteArray) (p : Option Addr) (c : Nat) (x : Int) (w : World) (k : Nat) (a : Act) (W : World) : Prop :=
  ∃ (xv : Int) (bs : List Bool) (ov : Value) (ds : List Deferred), ∃ (t2 t3 t4 t5 t6 t7 t8 t10 t11 t12 t13 t14 t15 t16 t17 t18 t19 t20 t21 t22 t23 t24 t25 t26 t27 t28 t29 t30 t31 t32 t33 t34 t35 t36 t37 t38 t39 t40 t41 t42 t43 t44 t45 t49 t50 t51 t52 t53 t54 t55 t56 t57 t58 t59 t60 t61 t62 t63 t64 t65 t66 t67 t68 t69 t70 t71 t72 t73 t74 t75 t76 t77 t78 t79 t80 t81 t82 t83 t84 t85 t86 : Value), a = { tmps := #[.slice p l.length c, .int .i64 xv, t2, t3, t4, t5, t6, t7, t8, ov, t10, t11, t12, t13, t14, t15, t16, t17, t18, t19, t20, t21, t22, t23, t24, t25, t26, t27, t28, t29, t30, t31, t32, t33, t34, t35, t36, t37, t38, t39, t40, t41, t42, t43, t44, t45, .slice p l.length c, .int .i64 l.length, .int .i64 k, t49, t50, t51, t52, t53, t54, t55, t56, t57, t58, t59, t60, t61, t62, t63, t64, t65, t66, t67, t68, t69, t70, t71, t72, t73, t74, t75, t76, t77, t78, t79, t80, t81, t82, t83, t84, t85, t86], defers := ds } ∧
    k ≤ l.length ∧ Hid (polS x (l.take k) = (xv, bs)) ∧ W.ownsRow w.heap.size 4 1 ov k (bs.map Value.bool) ∧ Marks w.heap.size W ds ∧ Below w.heap.size w W
def pmu (l : List ByteArray) (a : Act) : Nat := l.length - (intOf (a.tmps.getD 48 undef)).toNat

set_option maxRecDepth 100000 in
set_option maxHeartbeats 2000000 in
theorem polar_in (l : List ByteArray) (p : Option Addr) (c : Nat) (x : Int) (w : World) (hx1 : -65536 ≤ x) (hx2 : x ≤ 65536) (hl : l.length ≤ 4096) (hp : Sl w Value.string p l) (hz : ∀ j (hj : j < l.length), l[j].size ≤ maxLen) :
    CallsIn Fence.wide 9 Try.prog 31 #[.slice p l.length c, .int .i64 x] w fun e w' => ∃ q d, e = .returned (.tuple #[.slice q (polR x l).length d, .int .i64 (polErr x l)]) ∧ Sl w' Value.bool q (polR x l) ∧ Below w.heap.size w w' := by
  obtain ⟨i0, hi0, hz0, hz1, hz2⟩ := info_parts infoBool
  refine callsIn_of_wp_marks Try.func31 rfl trivial ?_ rfl
  simp only [Try.ntmps31, List.size_toArray, List.length_cons, List.length_nil, Nat.reduceAdd, Nat.reduceSub, Array.replicate_succ, Array.replicate_zero, List.push_toArray, List.append_toArray, List.nil_append, List.cons_append]
  gi_wp2
  gi_loopw [29] (fun i wr => ∃ k : Nat, k ≤ l.length ∧ i = .int .i64 k ∧ Hid (∀ j (hj : j < l.length), j < k → wchk 2 l[j].data.toList = 0 ∧ l[j].size = (l.headD ByteArray.empty).size) ∧ Dr w wr) (fun i _ => l.length - (intOf i).toNat)
  case atStart => exact ⟨0, by omega, rfl, fun _ _ h => by omega, Dr.refl _⟩
  case round =>
    obtain ⟨k, hk, rfl, hj, hD⟩ := hrel
    by_cases hlt : k < l.length
    · obtain ⟨b1, o1, rfl, hb1, hc1⟩ := (hp.dr hD).get k hlt
      have e1 := hc1 k hlt
      have e0 := hc1 0 (by omega)
      rw [Nat.add_zero] at e0
      clear hc1
      have hzk := hz k hlt
      gi_wp2_with (refine ⟨trivial, ?_⟩; gi_at_call 35)
      refine (callsIn_wide.2 (wcheck_any 2 l[k] _ hzk)).mono ?_
      rintro e w1 ⟨rfl, hD1⟩
      by_cases hc : wchk 2 l[k].data.toList = 0
      · have HC := hidI hc
        rw [HC.out]; clear hc
        have e0' := (hD1.cell ⟨b1, o1, none⟩).trans e0
        by_cases hn : l[k].size = l[0].size
        · have hn' : ((l[k].size : Int) == (l[0].size : Int)) = true := by simp [hn]
          have HN := hidI hn; clear hn
          gi_wp2
          go_roundw
          case rel =>
            refine ⟨k + 1, by omega, by go_num, fun j h1 h2 => ?_, hD.trans hD1⟩
            rcases Nat.lt_succ_iff_lt_or_eq.1 h2 with h3 | h3
            · exact hj.out j h1 h3
            · subst h3; exact ⟨HC.out, by rw [HN.out, headD_size l (by omega)]⟩
          case measure => simp [intOf]; omega
        · have hn' : ((l[k].size : Int) == (l[0].size : Int)) = false := by simpa using fun h : (l[k].size : Int) = l[0].size => hn (by omega)
          have HE := hidI (pol_chk x l hx1 hx2 hl 11 (chkL_len _ l k hlt hj.out HC.out (by rw [headD_size l (by omega)]; exact hn)) (by decide))
          clear hn
          gi_wp2
          refine ⟨_, results_tmp2 (t := 4) (u := 5) rfl _ _ _, none, 0, ?_, ?_, (hD.trans hD1).below _⟩
          · rw [HE.out.1, HE.out.2]; rfl
          · rw [HE.out.2]; exact Sl.nil _ _ _
      · have HE := hidI (pol_chk x l hx1 hx2 hl _ (chkL_bad _ l k hlt hj.out hc) hc)
        have hc' : (wchk 2 l[k].data.toList == 0) = false := by simpa using hc
        clear hc
        gi_wp2
        refine ⟨_, results_tmp2 (t := 4) (u := 5) rfl _ _ _, none, 0, ?_, ?_, (hD.trans hD1).below _⟩
        · rw [HE.out.1, HE.out.2]; rfl
        · rw [HE.out.2]; exact Sl.nil _ _ _
    · have HE := hidI (pol_ok x l hx1 hx2 hl (chkL_ok _ l (fun j h => hj.out j h (by omega))))
      obtain rfl : k = l.length := by omega
      have HJ := hidI (fun j (h : j < l.length) => hj.out j h h)
      clear hj hlt hk
      gi_wp2
      refine wpIn_loop (fun a W => ∃ k, PInv l p c x w k a W) (fun a _ => pmu l a) ⟨0, _, _, .slice none 0 0, [], _, _, _, _, _, _, _, _, _, _, _, _, _, _, _, _, _, _, _, _, _, _, _, _, _, _, _, _, _, _, _, _, _, _, _, _, _, _, _, _, _, _, _, _, _, _, _, _, _, _, _, _, _, _, _, _, _, _, _, _, _, _, _, _, _, _, _, _, _, _, _, _, _, _, _, _, _, _, _, _, _, rfl, by omega, rfl, World.ownsRow_nil _ _ _ _, trivial, hD.below _⟩ ?_
      rintro a W ⟨k, xv, bs, ov, ds, t2, t3, t4, t5, t6, t7, t8, t10, t11, t12, t13, t14, t15, t16, t17, t18, t19, t20, t21, t22, t23, t24, t25, t26, t27, t28, t29, t30, t31, t32, t33, t34, t35, t36, t37, t38, t39, t40, t41, t42, t43, t44, t45, t49, t50, t51, t52, t53, t54, t55, t56, t57, t58, t59, t60, t61, t62, t63, t64, t65, t66, t67, t68, t69, t70, t71, t72, t73, t74, t75, t76, t77, t78, t79, t80, t81, t82, t83, t84, t85, t86, rfl, hk, hS, hown, hM, hB⟩
      have hp' := hp.below hB
      have hX := polS_bd x l k (fun j h => wchk_long2 _ (HJ.out j h).1) hk hx1 hx2
      rw [hS.out] at hX
      simp only at hX
      have hmu : pmu l { tmps := #[.slice p l.length c, .int .i64 xv, t2, t3, t4, t5, t6, t7, t8, ov, t10, t11, t12, t13, t14, t15, t16, t17, t18, t19, t20, t21, t22, t23, t24, t25, t26, t27, t28, t29, t30, t31, t32, t33, t34, t35, t36, t37, t38, t39, t40, t41, t42, t43, t44, t45, .slice p l.length c, .int .i64 l.length, .int .i64 k, t49, t50, t51, t52, t53, t54, t55, t56, t57, t58, t59, t60, t61, t62, t63, t64, t65, t66, t67, t68, t69, t70, t71, t72, t73, t74, t75, t76, t77, t78, t79, t80, t81, t82, t83, t84, t85, t86], defers := ds } = l.length - k := rfl
      have HMU := hidI hmu
      clear hmu
      by_cases hlt : k < l.length
      · obtain ⟨b1, o1, rfl, hb1, hc1⟩ := hp'.get k hlt
        have e1 := hc1 k hlt
        clear hc1
        have HL := hidI (polS_take x l k hlt)
        have hs := wchk_long2 _ (HJ.out k hlt).1
        have hok := hidI (HJ.out k hlt).1
        generalize l[k] = s at *
        gi_wp2_with (refine ⟨trivial, ?_⟩; gi_at_call 42)
        refine (values_in Fence.wide 8 trivial rfl s _).mono ?_
        rintro e w' ⟨rfl, rfl⟩
        gi_wp2
        have b0 := (Boxed.new W 3 (.int .i64 0)).alloc (.cells #[.string s] 9)
        have b3 := Boxed.new (W.alloc (.cells #[.int .i64 0] 3)) 9 (.string s)
        simp only [World.size_alloc] at b3
        have hg0 : W.grownBy ((W.alloc (.cells #[.int .i64 0] 3)).alloc (.cells #[.string s] 9)) none := grownBy_trans (World.grownBy_alloc _ _ _) (World.grownBy_alloc _ _ _)
        have hsz0 : ((W.alloc (.cells #[.int .i64 0] 3)).alloc (.cells #[.string s] 9)).heap.size = W.heap.size + 2 := by simp
        have HSZ := hidI hsz0
        clear hsz0
        refine' wpIn_rangeFunc_ownG rfl (by omega) (gf := 54) (lb := #[.pointer (some ⟨W.heap.size + 1, 0, none⟩)]) rfl trivial (enters_of Try.func54 (by kernel_rfl) rfl)
          (values_stops Fence.wide 8 trivial rfl (by omega) (W.heap.size + 1) s hs hok.out _ b3) KH.trans (KH_b (by rw [HSZ.out]; omega)) (Below.refl _ _) (fun _ => rfl)
          (fun pre V => Boxed V W.heap.size 3 (.int .i64 (stf false s (pre.map (·.1))).1) ∧ ((W.alloc (.cells #[.int .i64 0] 3)).alloc (.cells #[.string s] 9)).grownBy V (some W.heap.size))
          (fun _ _ _ => False)
          (OwnFrom.and ((boxed_own _ _ _).from _) (grownBy_own _ _))
          (fun _ _ _ _ _ hs _ _ => hs)
          ⟨b0, grownBy_refl _ _⟩
          _ ?assign ?body ?done ?stop
        case assign =>
          intro l x W K hK
          unfold encI
          gi_wp2
          exact hK
        case body =>
          rintro l pre ⟨j, hj⟩ V ⟨c0, hG⟩ hlen
          have hp : (pre.map (·.1)).length < s.size := by simpa using hlen
          have HS : Hid ((pre ++ [(⟨j, hj⟩ : Idx s)]).map (·.1) = pre.map (·.1) ++ [j]) := by simp [Hid]
          generalize pre.map (·.1) = q at c0 hp HS ⊢
          have HT := hidI (congrArg Prod.fst (stf_snoc false s q j))
          have bd := (stf_bd false s q).1
          have d0 := c0.cell
          have f0 := c0.frozen
          have hv := vAt_bd false s j
          clear hX hown hM hB HL HMU b0 b3 hg0 hp' HJ HE hD hS
          gi_wp2
          exact ⟨(KeepsOthers.setCell _ _ _).from _, KH.set _ _ (by omega), by rw [HS.out, HT.out]; exact c0.set _, grownBy_trans hG (grownBy_setCell' _ _ _)⟩
        case done =>
          rintro D ys V hD' hys ⟨c0, hG⟩ hK
          rw [hys, fold_done] at c0
          have d0 := c0.cell
          have f0 := c0.frozen
          have hd := dsp_bd s
          change V.cell? _ = some (.int .i64 (dsp s)) at d0
          have hszV := hG.size
          rw [HSZ.out] at hD' hszV
          have hne : ov.ownBlock = none ∨ ov.ownBlock ≠ some W.heap.size := by
            cases ho : ov.ownBlock with
            | none => exact .inl rfl
            | some g => exact .inr fun e => by have := (hown.lt g ho).2; cases e; omega
          have hownV := (hown.kept hg0 (by cases ov.ownBlock <;> simp)).kept hG hne
          have hMV : Marks w.heap.size V ({ target := .collected D, args := #[] } :: ds) :=
            ((hM.keep (fun D' _ hk _ => (hg0.block D' (Array.getElem?_eq_some_iff.1 hk).1 (by simp)).trans hk)).grown hG b0 rfl).cons (by have := hB.size; omega) hK
              (fun d hd => by obtain ⟨D', h1, h2⟩ := hM.lt d hd; exact ⟨D', h1, by omega⟩)
          have hBV : Below w.heap.size w V := (hB.grown hg0 hB.size (by simp)).grown hG (by rw [HSZ.out]; have := hB.size; omega) (fun j e => by cases e; exact hB.size)
          have hWB : w.heap.size ≤ W.heap.size := hB.size
          have bX : -274000000 ≤ xv ∧ xv ≤ 274000000 := by omega
          clear hown hM hB b0 b3 hg0 hG hp' HE hD hX
          by_cases hi : max (xv - dsp s) (dsp s - xv) < max (xv + dsp s) (-xv - dsp s)
          · have hownI := hownV.kept (grownBy_setCell' V W.heap.size (.int .i64 (-dsp s))) hne
            have hnew : ∀ (j : Nat) (u : Value), ([.bool true] : List Value)[j]? = some u → ((V.setCell ⟨W.heap.size, 0, none⟩ (.int .i64 (-dsp s))).alloc (.cells #[.bool true] 4)).cell? ((⟨V.heap.size, 0, none⟩ : Addr).add j) = some u := by
              have h := cell_one_new (V.setCell ⟨W.heap.size, 0, none⟩ (.int .i64 (-dsp s))) (.bool true) 4
              rwa [World.size_setCell] at h
            gi_wp2_with (gi_at_builtin; refine wpListIn_append_own _ rfl _ _ 53 rfl w.heap.size 4 i0 (.bool false) 1 1 Try.underlying53 hi0 hz0 hz1 hz2 rfl (by decide) _ _ _ rfl (hownI.alloc _) ⟨V.heap.size, 0, none⟩ 1 1 [.bool true] rfl rfl hnew (by simp [Value.oneCell']) (by simp [maxLen]; omega) (by omega) (by have := hBV.size; simp; omega) ?_; intro v' w1 hown' hgrow _)
            have hinv : inv xv s = true := decide_eq_true hi
            refine ⟨⟨k + 1, xv + -dsp s, bs ++ [true], v', _, _, _, _, _, _, _, _, _, _, _, _, _, _, _, _, _, _, _, _, _, _, _, _, _, _, _, _, _, _, _, _, _, _, _, _, _, _, _, _, _, _, _, _, _, _, _, _, _, _, _, _, _, _, _, _, _, _, _, _, _, _, _, _, _, _, _, _, _, _, _, _, _, _, _, _, _, _, _, _, _, _, rfl, by omega, ?_, by rw [List.map_append]; exact hown', (hMV.others (KeepsOthers.setCell _ _ _)).appended hownI hgrow, ((hBV.setCell (p := ⟨W.heap.size, 0, none⟩) hWB _).alloc (by have := hBV.size; simp; omega) _).grown hgrow (by have := hBV.size; simp; omega) (fun j e => (hownI.lt j e).1)⟩, ?_⟩
            · unfold Hid; rw [HL.out, hS.out]; simp only [polF, hinv]; rfl
            · rw [HMU.out]
              refine Nat.lt_of_le_of_lt (Nat.le_of_eq (show pmu _ _ = l.length - (intOf (.int .i64 ((k : Int) + 1))).toNat from rfl)) ?_
              simp [intOf]; omega
          · gi_wp2_with (gi_at_builtin; refine wpListIn_append_own _ rfl _ _ 53 rfl w.heap.size 4 i0 (.bool false) 1 1 Try.underlying53 hi0 hz0 hz1 hz2 rfl (by decide) _ _ _ rfl (hownV.alloc _) ⟨V.heap.size, 0, none⟩ 1 1 [.bool false] rfl rfl (cell_one_new _ _ _) (by simp [Value.oneCell']) (by simp [maxLen]; omega) (by omega) (by have := hBV.size; simp; omega) ?_; intro v' w1 hown' hgrow _)
            have hinv : inv xv s = false := decide_eq_false (Int.not_lt.2 hi)
            refine ⟨⟨k + 1, xv + dsp s, bs ++ [false], v', _, _, _, _, _, _, _, _, _, _, _, _, _, _, _, _, _, _, _, _, _, _, _, _, _, _, _, _, _, _, _, _, _, _, _, _, _, _, _, _, _, _, _, _, _, _, _, _, _, _, _, _, _, _, _, _, _, _, _, _, _, _, _, _, _, _, _, _, _, _, _, _, _, _, _, _, _, _, _, _, _, _, rfl, by omega, ?_, by rw [List.map_append]; exact hown', hMV.appended hownV hgrow, (hBV.alloc (by have := hBV.size; simp; omega) _).grown hgrow (by have := hBV.size; simp; omega) (fun j e => (hownV.lt j e).1)⟩, ?_⟩
            · unfold Hid; rw [HL.out, hS.out]; simp only [polF, hinv]; rfl
            · rw [HMU.out]
              refine Nat.lt_of_le_of_lt (Nat.le_of_eq (show pmu _ _ = l.length - (intOf (.int .i64 ((k : Int) + 1))).toNat from rfl)) ?_
              simp [intOf]; omega
        case stop =>
          rintro D c pre W _ _ h _
          exact h.elim
      · obtain rfl : k = l.length := by omega
        have hfull : Hid (polS x l = (xv, bs)) := by have := hS.out; rwa [List.take_length] at this
        obtain ⟨q, d, rfl, hsl⟩ := own_sl hown
        clear hX hp' HMU
        gi_wp2
        refine leaves_marks ds W hM (fun W' hW' => ?_)
        refine ⟨_, results_tmp2 (t := 4) (u := 5) rfl _ _ _, q, d, ?_, ?_, hB.trans hW'.below⟩
        · rw [HE.out.1, HE.out.2, hfull.out]; rfl
        · rw [HE.out.2, hfull.out]; exact hW'.sl hsl
end Go.Proofs.Ytlgjhmenjfmpfaa.Chg
namespace Go.Proofs.Ytlgjhmenjfmpfaa.Chg
open Go.RowKit

/-- A slice of bools, and an error number, in memory of the call's own. -/
def RetSlB (r : List Bool) (k : Int) (w : World) (e : Ending) (w' : World) : Prop :=
  ∃ q d, e = .returned (.tuple #[.slice q r.length d, .int .i64 k]) ∧ Sl w' Value.bool q r ∧ Below w.heap.size w w'
theorem RetSlB.mk {r r' : List Bool} {k k' : Int} {w w' : World} {q : Option Addr} {d : Nat} (hr : k = k' ∧ r = r') (hs : Sl w' Value.bool q r') (hB : Below w.heap.size w w') :
    RetSlB r k w (.returned (.tuple #[.slice q r'.length d, .int .i64 k'])) w' := by
  obtain ⟨rfl, rfl⟩ := hr; exact ⟨q, d, rfl, hs, hB⟩
theorem RetSlB.nil {r : List Bool} {k k' : Int} {w w' : World} {q : Option Addr} {d : Nat} (hr : k = k' ∧ r = []) (hB : Below w.heap.size w w') :
    RetSlB r k w (.returned (.tuple #[.slice q 0 d, .int .i64 k'])) w' := by
  obtain ⟨rfl, rfl⟩ := hr; exact ⟨q, d, rfl, Sl.nil _ _ _, hB⟩

set_option maxHeartbeats 400000 in
theorem polar_any (l : List ByteArray) (p : Option Addr) (c : Nat) (x : Int) (w : World) (hl : l.length ≤ 9223372036854775807) (hp : Sl w Value.string p l) (hz : ∀ j (hj : j < l.length), l[j].size ≤ maxLen) :
    Calls Try.prog 31 #[.slice p l.length c, .int .i64 x] w (RetSlB (polR x l) (polErr x l) w) := by
  by_cases h1 : x < -65536
  · have HP := hidI (pol_out x l (.inl h1))
    go_enter Try.func31, Try.ntmps31
    go_wp2
    go_ret2
    exact RetSlB.nil HP.out (Below.refl _ _)
  by_cases h2 : 65536 < x
  · have HP := hidI (pol_out x l (.inr h2))
    go_enter Try.func31, Try.ntmps31
    go_wp2
    go_ret2
    exact RetSlB.nil HP.out (Below.refl _ _)
  by_cases h3 : 4096 < l.length
  · have HP := hidI (pol_long x l (by omega) (by omega) h3)
    go_enter Try.func31, Try.ntmps31
    go_wp2
    go_ret2
    exact RetSlB.nil HP.out (Below.refl _ _)
  exact callsIn_wide.1 (polar_in l p c x w (by omega) (by omega) (by omega) hp hz)

end Go.Proofs.Ytlgjhmenjfmpfaa.Chg
namespace Go.Proofs.Ytlgjhmenjfmpfaa.Chg
open Go.RowKit

theorem ex1 : vld false 63 2 ⟨#[49, 49, 48, 49]⟩ = (true, 0) := by decide +kernel
theorem ex2 : vld false 63 1 ⟨#[49, 49, 48, 49]⟩ = (false, 0) := by decide +kernel
theorem ex3 : polErr 0 [⟨#[49, 49]⟩, ⟨#[49, 48]⟩, ⟨#[49, 49]⟩] = 0 ∧ polR 0 [⟨#[49, 49]⟩, ⟨#[49, 48]⟩, ⟨#[49, 49]⟩] = [false, false, true] := by decide +kernel
theorem ex4 : blc 6 = (20, 0) := by decide +kernel
theorem ex5 : spe 1 ⟨#[49, 49, 48, 48]⟩ = (2, 2, 0) := by decide +kernel
theorem ex6 : ∀ j (hj : j < ([⟨#[49, 49]⟩, ⟨#[49, 48]⟩, ⟨#[49, 49]⟩] : List ByteArray).length), ([⟨#[49, 49]⟩, ⟨#[49, 48]⟩, ⟨#[49, 49]⟩] : List ByteArray)[j].size ≤ maxLen := by decide +kernel
theorem sl_new {α : Type} (w : World) (t : Nat) (enc : α → Value) (l : List α) : Sl (w.alloc (.cells (l.map enc).toArray t)) enc (some ⟨w.heap.size, 0, none⟩) l := by
  refine .inr ⟨w.heap.size, 0, rfl, by simp, fun i hi => ?_⟩
  rw [(VRow.new w t (l.map enc)).cell (0 + i), Nat.zero_add]
  simp [hi]
theorem polR_len (x : Int) (l : List ByteArray) (h : l.length ≤ 9223372036854775807) : (polR x l).length ≤ 9223372036854775807 := by
  unfold polR; split
  · rw [polS_len]; exact h
  · simp
theorem small_len (s : ByteArray) (h : s.size ≤ 100) : s.size ≤ maxLen := by unfold maxLen; omega

set_option maxRecDepth 100000 in
set_option maxHeartbeats 1000000 in
theorem awake_any (w : World) : Calls Try.prog 14 #[] w fun e w' => e = .returned (.bool true) ∧ Below w.heap.size w w' := by
  go_enter Try.func14, Try.ntmps14
  go_wp2_with fail
  refine (valid_any 2 ⟨#[49, 49, 48, 49]⟩ _ (small_len _ (by decide))).mono ?_
  rintro e w1 ⟨rfl, hB1⟩
  rw [ex1]
  go_wp2_with fail
  refine (valid_any 1 ⟨#[49, 49, 48, 49]⟩ _ (small_len _ (by decide))).mono ?_
  rintro e w2 ⟨rfl, hB2⟩
  rw [ex2]
  go_wp2_with fail
  refine (polar_any [⟨#[49, 49]⟩, ⟨#[49, 48]⟩, ⟨#[49, 49]⟩] _ 3 0 _ (by decide) (sl_new w2 9 Value.string [⟨#[49, 49]⟩, ⟨#[49, 48]⟩, ⟨#[49, 49]⟩]) ex6).mono ?_
  rintro e w3 ⟨q, d, rfl, hs3, hB3⟩
  rw [ex3.1]
  rw [ex3.2] at hs3 ⊢
  go_wp2_with fail
  refine (balanced_any 6 _).mono ?_
  rintro e w' ⟨rfl, rfl⟩
  rw [ex4]
  go_wp2_with fail
  refine (spectrum_any 1 ⟨#[49, 49, 48, 48]⟩ _ (small_len _ (by decide))).mono ?_
  rintro e w4 ⟨rfl, hB4⟩
  rw [ex5]
  have hs4 := hs3.below hB4
  go_wp2_with fail
  refine (equalB_any [false, false, true] [false, false, true] _ _ d 3 _ (hs4.below ((Below.refl _ _).alloc (Nat.le_refl _) _)) (sl_new w4 4 Value.bool [false, false, true]) (by decide) (by decide)).mono ?_
  rintro e w5 ⟨rfl, hD5⟩
  rw [show decide (([false, false, true] : List Bool) = [false, false, true]) = true from rfl]
  go_wp2
  go_ret
  refine ⟨rfl, hB1.trans ((hB2.mono hB1.size).trans (Below.trans (b := w2.alloc (.cells #[.string ⟨#[49, 49]⟩, .string ⟨#[49, 48]⟩, .string ⟨#[49, 49]⟩] 9)) ((Below.refl _ _).alloc (Nat.le_trans hB1.size hB2.size) _) ?_))⟩
  have h12 : w.heap.size ≤ w2.heap.size := Nat.le_trans hB1.size hB2.size
  have h3 : w.heap.size ≤ w3.heap.size := Nat.le_trans h12 (Nat.le_trans (by simp) hB3.size)
  have h4 : w.heap.size ≤ w4.heap.size := Nat.le_trans h3 hB4.size
  refine (hB3.mono (Nat.le_trans h12 (by simp))).trans ((hB4.mono h3).trans (Below.trans (b := w4.alloc (.cells #[.bool false, .bool false, .bool true] 4)) ((Below.refl _ _).alloc h4 _) (hD5.below _)))

end Go.Proofs.Ytlgjhmenjfmpfaa.Chg
namespace Go.Proofs.Ytlgjhmenjfmpfaa.Chg
open Go.RowKit

theorem dsp_count (s : ByteArray) : 2 * (Lib.countByte s.data.toList 49 : Int) - s.size = dsp s := by
  have h : ∀ k, k ≤ s.size → 2 * (((s.data.toList.take k).count 49 : Nat) : Int) - k = Su (vAt false s) k := by
    intro k
    induction k with
    | zero => intro _; simp [Su]
    | succ k ih =>
      intro hk
      have := ih (by omega)
      rw [take_snoc s k (by omega), List.count_append, Su, vAt_f s k (by omega)]
      have hc : ([s[k]] : List UInt8).count 49 = if s[k] = 49 then 1 else 0 := by
        by_cases e : s[k] = 49
        · simp [e]
        · simp [e]
      rw [hc]
      unfold val1
      by_cases e : s[k] = 49
      · rw [if_pos e, if_pos (by rw [e]; rfl)]; omega
      · have e' : ¬ ((s[k].toNat : Int) = 49) := fun h => e (UInt8.toNat.inj (by show s[k].toNat = 49; omega))
        rw [if_neg e, if_neg e']; omega
  have := h s.size (Nat.le_refl _)
  rw [List.take_of_length_le (by simp)] at this
  exact this

/-- What Disparity answers. -/
def dis (s : ByteArray) : Int × Int := if wchk 2 s.data.toList ≠ 0 then (0, wchk 2 s.data.toList) else (dsp s, 0)

/-- A binary word, and short enough. -/
def bin (s : ByteArray) (n : Int) : Bool := decide ((s.size : Int) ≤ n) && (wchk 2 s.data.toList == 0)

set_option maxHeartbeats 400000 in
theorem binary_any (s : ByteArray) (n : Int) (w : World) (hs : s.size ≤ maxLen) :
    Calls Try.prog 15 #[.string s, .int .i64 n] w fun e w' => e = .returned (.bool (bin s n)) ∧ Dr w w' := by
  by_cases h1 : (s.size : Int) ≤ n
  · have HB : Hid (bin s n = (wchk 2 s.data.toList == 0)) := by unfold Hid bin; rw [decide_eq_true h1]; rfl
    go_enter Try.func15, Try.ntmps15
    go_wp2_with fail
    refine (wcheck_any 2 s _ hs).mono ?_
    rintro e w1 ⟨rfl, hD⟩
    go_wp2
    go_ret
    exact ⟨ret_bool HB.out.symm, hD⟩
  · have HB : Hid (bin s n = false) := by unfold Hid bin; rw [decide_eq_false h1]; rfl
    have hd := decide_eq_false h1
    go_enter Try.func15, Try.ntmps15
    go_wp2
    go_ret
    exact ⟨ret_bool HB.out.symm, Dr.refl _⟩

def iabs (x : Int) : Int := max x (-x)
end Go.Proofs.Ytlgjhmenjfmpfaa.Chg
