/-
  Walks: the iterator over the values of a word; NullValid and Spectrum of the program.
-/
import Derived.RangeFuncNested
import Derived.RangeFuncBound
import Derived.RangeFuncCalls
import Derived.RangeFuncLeaves
import Derived.Shelf.Abstract
import Derived.Shelf.RegionOpen
import Derived.OwnWalkIn
import Derived.TacticsInMore
import Derived.LoopNIn
import Derived.LoopIn
import Derived.Test.YtlgjhmenjfmpfaaChWd
namespace Go.Proofs.Ytlgjhmenjfmpfaa.Chg
open Go.RowKit Go.Shelf
attribute [local go_sem] Oper.semAt_some

abbrev Idx (s : ByteArray) := { j : Nat // j < s.size }
def encI (s : ByteArray) (x : Idx s) : Array Value := #[.int .i64 (x.1 : Int), .int .i64 (vAt false s x.1)]


set_option maxRecDepth 100000 in
set_option maxHeartbeats 1000000 in
theorem values1_in (F : Fence) (n : Nat) (hf : F.fn 54) (hro : F.round = none) (hn : 1 ≤ n) (l Bs : Nat) (s : ByteArray) (hs : s.size ≤ 65536) (hok : wchk 2 s.data.toList = 0) (J Jx : List (Idx s) → World → Prop)
    (hY : ∀ pre x W, J pre W → pre.length < s.size → YieldAt F (n - 1) Try.prog l (encI s x) W fun e W' =>
      (e = .returned (.bool true) ∧ J (pre ++ [x]) W' ∧ KH Bs W W') ∨ (e = .returned (.bool false) ∧ Jx (pre ++ [x]) W'))
    (W : World) (hBs : Boxed W Bs 9 (.string s)) (h0 : J [] W) :
    CallsIn F n Try.prog 54 #[.func (.yield l) #[] #[], .pointer (some ⟨Bs, 0, none⟩)] W fun e W' => (∃ v, e = .returned v) ∧
      ((∃ ys : List (Idx s), ys.map (·.1) = List.range s.size ∧ J ys W') ∨ (∃ pre : List (Idx s), True ∧ Jx pre W')) := by
  refine callsIn_of_wp Try.func54 rfl hf ?_ hro
  simp only [Try.ntmps54, List.size_toArray, List.length_cons, List.length_nil, Nat.reduceAdd, Nat.reduceSub, Array.replicate_succ, Array.replicate_zero, List.push_toArray, List.append_toArray, List.nil_append, List.cons_append]
  have hb0 := hBs.cell
  gi_wp2
  clear hb0
  gi_loopw [6] (fun i wr => ∃ (k : Nat) (pre : List (Idx s)), k ≤ s.size ∧ i = .int .i64 k ∧ Hid (pre.map (·.1) = List.range k) ∧ J pre wr ∧ Boxed wr Bs 9 (.string s)) (fun i _ => s.size - (intOf i).toNat)
  case atStart => exact ⟨0, [], Nat.zero_le _, rfl, rfl, h0, hBs⟩
  case round =>
    obtain ⟨k, pre, hk, rfl, hp, hJs, hnx⟩ := hrel
    have hbs := hnx.cell
    by_cases hlt : k < s.size
    · have hpl : pre.length = k := by simpa using congrArg List.length hp.out
      obtain ⟨fn, tmps, assign, body, hy, hR⟩ := hY pre ⟨k, hlt⟩ wr hJs (by omega)
      have hbin := vals_bin s hok k hlt
      have hv := vAt_f s k hlt
      have hw : encI s ⟨k, hlt⟩ = #[.int .i64 (k : Int), .int .i64 (2 * ((s[k].toNat : Int) - 48) - 1)] := by
        unfold encI
        simp only
        rw [hv]
        rcases hbin with h | h <;> rw [h] <;> rfl
      rw [hw] at hy
      clear hw hv hpl
      gi_wp2
      refine hR.mono ?_
      rintro e W3 (⟨rfl, hJ3, hk3⟩ | ⟨rfl, hJx3⟩)
      · gi_wp2
        go_roundw
        case rel => exact ⟨k + 1, _, by omega, by go_num, by unfold Hid; rw [List.map_append, hp.out, List.range_succ]; rfl, hJ3, hk3.boxed hnx⟩
        case measure => simp [intOf]; omega
      · gi_wp2
        refine bodyPost_ret (results_none rfl _ _ _) rfl ?_
        exact ⟨⟨_, rfl⟩, .inr ⟨_, trivial, hJx3⟩⟩
    · obtain rfl : k = s.size := by omega
      gi_wp2
      go_end0
      exact ⟨⟨_, rfl⟩, .inl ⟨_, hp.out, hJs⟩⟩

/-- The iterator, as the law of the loop takes it. -/
theorem values_stops (F : Fence) (n : Nat) (hf : F.fn 54) (hro : F.round = none) (hn : 1 ≤ n) (Bs : Nat) (s : ByteArray) (hs : s.size ≤ 65536) (hok : wchk 2 s.data.toList = 0) (w : World)
    (hc : Boxed w Bs 9 (.string s)) :
    SeqStopsK F n Try.prog 54 #[.pointer (some ⟨Bs, 0, none⟩)] (encI s) (KH Bs) (fun ys => ys.map (·.1) = List.range s.size) (fun _ => True) s.size w := fun l J Jx W hW _ _ hY h0 =>
  values1_in F n hf hro hn l Bs s hs hok J Jx hY W ((KH.of_below hW hc.lt).boxed hc) h0

set_option maxHeartbeats 1000000 in
theorem values_in (F : Fence) (n : Nat) (hf : F.fn 42) (hro : F.round = none) (s : ByteArray) (w : World) :
    CallsIn F n Try.prog 42 #[.string s] w fun e w' => e = .returned (.func (.func 54) #[] #[.pointer (some ⟨w.heap.size, 0, none⟩)]) ∧ w' = w.alloc (.cells #[.string s] 9) := by
  refine callsIn_of_wp Try.func42 rfl hf ?_ hro
  simp only [Try.ntmps42, List.size_toArray, List.length_cons, List.length_nil, Nat.reduceAdd, Nat.reduceSub, Array.replicate_succ, Array.replicate_zero, List.push_toArray, List.append_toArray, List.nil_append, List.cons_append]
  gi_wp2
  go_ret
  exact ⟨rfl, rfl⟩

end Go.Proofs.Ytlgjhmenjfmpfaa.Chg
