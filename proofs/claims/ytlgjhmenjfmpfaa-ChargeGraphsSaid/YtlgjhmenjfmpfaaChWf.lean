/-
  Walks: Spectrum of the program.
-/
import Derived.Test.YtlgjhmenjfmpfaaChWe
namespace Go.Proofs.Ytlgjhmenjfmpfaa.Chg
open Go.RowKit Go.Shelf
attribute [local go_sem] Oper.semAt_some

def row4 (n : Int) (s : ByteArray) (l : List Nat) : List Value := [.int .i64 (paL n (vAt false s) 0 l), .int .i64 (paL n (vAt false s) 1 l), .int .i64 (paL n (vAt false s) 2 l), .int .i64 (paL n (vAt false s) 3 l)]

theorem row4_0 (n : Int) (s : ByteArray) (q : List Nat) (j : Nat) (h : ((j : Int) * n) % 4 = 0) :
    row4 n s (q ++ [j]) = (row4 n s q).set 0 (.int .i64 (paL n (vAt false s) 0 q + vAt false s j)) := by
  have h' : (n * (j : Int)) % 4 = 0 := by rw [Int.mul_comm]; exact h
  simp only [row4, paL_snoc, pa1_hit _ _ _ _ _ h', pa1_miss n (vAt false s) 1 _ j (by omega), pa1_miss n (vAt false s) 2 _ j (by omega), pa1_miss n (vAt false s) 3 _ j (by omega)]
  rfl
theorem row4_1 (n : Int) (s : ByteArray) (q : List Nat) (j : Nat) (h : ((j : Int) * n) % 4 = 1) :
    row4 n s (q ++ [j]) = (row4 n s q).set 1 (.int .i64 (paL n (vAt false s) 1 q + vAt false s j)) := by
  have h' : (n * (j : Int)) % 4 = 1 := by rw [Int.mul_comm]; exact h
  simp only [row4, paL_snoc, pa1_hit _ _ _ _ _ h', pa1_miss n (vAt false s) 0 _ j (by omega), pa1_miss n (vAt false s) 2 _ j (by omega), pa1_miss n (vAt false s) 3 _ j (by omega)]
  rfl
theorem row4_2 (n : Int) (s : ByteArray) (q : List Nat) (j : Nat) (h : ((j : Int) * n) % 4 = 2) :
    row4 n s (q ++ [j]) = (row4 n s q).set 2 (.int .i64 (paL n (vAt false s) 2 q + vAt false s j)) := by
  have h' : (n * (j : Int)) % 4 = 2 := by rw [Int.mul_comm]; exact h
  simp only [row4, paL_snoc, pa1_hit _ _ _ _ _ h', pa1_miss n (vAt false s) 0 _ j (by omega), pa1_miss n (vAt false s) 1 _ j (by omega), pa1_miss n (vAt false s) 3 _ j (by omega)]
  rfl
theorem row4_3 (n : Int) (s : ByteArray) (q : List Nat) (j : Nat) (h : ((j : Int) * n) % 4 = 3) :
    row4 n s (q ++ [j]) = (row4 n s q).set 3 (.int .i64 (paL n (vAt false s) 3 q + vAt false s j)) := by
  have h' : (n * (j : Int)) % 4 = 3 := by rw [Int.mul_comm]; exact h
  simp only [row4, paL_snoc, pa1_hit _ _ _ _ _ h', pa1_miss n (vAt false s) 0 _ j (by omega), pa1_miss n (vAt false s) 1 _ j (by omega), pa1_miss n (vAt false s) 2 _ j (by omega)]
  rfl

set_option maxRecDepth 100000 in
set_option maxHeartbeats 2000000 in
theorem spectrum_ok_in (n : Int) (s : ByteArray) (w : World) (hn0 : 0 ≤ n) (hn3 : n ≤ 3) (hok : wchk 2 s.data.toList = 0) (hs : s.size ≤ 65536) (hs' : s.size ≤ maxLen) :
    CallsIn Fence.wide 9 Try.prog 33 #[.string s, .int .i64 n] w fun e w' => e = .returned (.tuple #[.int .i64 (spe n s).1, .int .i64 (spe n s).2.1, .int .i64 (spe n s).2.2]) ∧ Below w.heap.size w w' := by
  have HC := hidI hok
  have HP := hidI (spe_ok n s hn0 hn3 hok)
  refine callsIn_of_wp_marks Try.func33 rfl trivial ?_ rfl
  simp only [Try.ntmps33, List.size_toArray, List.length_cons, List.length_nil, Nat.reduceAdd, Nat.reduceSub, Array.replicate_succ, Array.replicate_zero, List.push_toArray, List.append_toArray, List.nil_append, List.cons_append]
  clear hok
  gi_wp2_with (refine ⟨trivial, ?_⟩; gi_at_call 35)
  refine (callsIn_wide.2 (wcheck_any 2 s _ hs')).mono ?_
  rintro e w1 ⟨rfl, hD⟩
  rw [HC.out]
  gi_wp2_with (refine ⟨trivial, ?_⟩; gi_at_call 42)
  refine (values_in Fence.wide 8 trivial rfl s _).mono ?_
  rintro e w' ⟨rfl, rfl⟩
  gi_wp2
  have hw1 : Below (w.heap.size + 1) (w.alloc (.cells #[.int .i64 n] 3)) w1 := hD.below _
  have hsz : w.heap.size < w1.heap.size := by have := hw1.size; simp at this; omega
  have b0 := (((VRow.new w 3 [.int .i64 n]).below hw1 (by omega)).alloc (.cells #[.int .i64 0, .int .i64 0, .int .i64 0, .int .i64 0] 75)).alloc (.cells #[.string s] 9)
  have b1 := (VRow.new w1 75 [.int .i64 0, .int .i64 0, .int .i64 0, .int .i64 0]).alloc (.cells #[.string s] 9)
  have b3 := Boxed.new (w1.alloc (.cells #[.int .i64 0, .int .i64 0, .int .i64 0, .int .i64 0] 75)) 9 (.string s)
  simp only [World.size_alloc] at b3
  have hB0 : Below w.heap.size w ((w1.alloc (.cells #[.int .i64 0, .int .i64 0, .int .i64 0, .int .i64 0] 75)).alloc (.cells #[.string s] 9)) := ((((Below.refl _ w).alloc (Nat.le_refl _) _).trans (hw1.mono (by omega))).alloc (by omega) _).alloc (by simp; omega) _
  refine' wpIn_rangeFunc_ownG rfl (by omega) (gf := 54) (lb := #[.pointer (some ⟨w1.heap.size + 1, 0, none⟩)]) rfl trivial (enters_of Try.func54 (by kernel_rfl) rfl)
    (values_stops Fence.wide 8 trivial rfl (by omega) (w1.heap.size + 1) s hs HC.out _ b3) KH.trans (KH_b (by simp)) (Below.refl _ _) (fun _ => rfl)
    (fun pre W => (VRow W w.heap.size 3 [.int .i64 n] ∧ VRow W w1.heap.size 75 (row4 n s (pre.map (·.1)))) ∧ Below w.heap.size w W)
    (fun _ _ _ => False)
    (OwnFrom.and (OwnFrom.and ((VRow.own _ _ _).from _) ((VRow.own _ _ _).from _)) (ownFrom_below (Nat.le_refl _) (by simp; omega)))
    (fun _ _ _ _ _ hs _ _ => hs)
    ⟨⟨b0, b1⟩, hB0⟩
    _ ?assign ?body ?done ?stop
  case assign =>
    intro l x W K hK
    unfold encI
    gi_wp2
    exact hK
  case body =>
    rintro l pre ⟨j, hj⟩ W ⟨⟨c0, c1⟩, hB⟩ hlen
    have hp : (pre.map (·.1)).length < s.size := by simpa using hlen
    have HS : Hid ((pre ++ [(⟨j, hj⟩ : Idx s)]).map (·.1) = pre.map (·.1) ++ [j]) := by simp [Hid]
    generalize pre.map (·.1) = q at *
    have d0 := c0.cell 0
    have e0 := c1.cell 0; have e1 := c1.cell 1; have e2 := c1.cell 2; have e3 := c1.cell 3
    have f1 := c1.frozen
    simp only [row4, List.getElem?_cons_zero, List.getElem?_cons_succ] at d0 e0 e1 e2 e3
    have p0 := paL_bd n _ 0 (vAt_bd false s) q
    have p1 := paL_bd n _ 1 (vAt_bd false s) q
    have p2 := paL_bd n _ 2 (vAt_bd false s) q
    have p3 := paL_bd n _ 3 (vAt_bd false s) q
    have hv := vAt_bd false s j
    have bm := mul_bd n j s.size hn0 hn3 (by omega)
    rw [Int.mul_comm] at bm
    have hr : ((j : Int) * n) % 4 = 0 ∨ ((j : Int) * n) % 4 = 1 ∨ ((j : Int) * n) % 4 = 2 ∨ ((j : Int) * n) % 4 = 3 := by omega
    rcases hr with hr | hr | hr | hr
    all_goals
      have HR := hidI hr
      gi_wp2
    · refine ⟨(KeepsOthers.setCell _ _ _).from _, KH.set _ _ (by omega), ⟨c0.other _ (by omega), ?_⟩, hB.setCell (p := ⟨w1.heap.size, 0, none⟩) (by simp; omega) _⟩
      rw [HS.out, row4_0 n s q j HR.out]
      exact c1.set _
    · refine ⟨(KeepsOthers.setCell _ _ _).from _, KH.set _ _ (by omega), ⟨c0.other _ (by omega), ?_⟩, hB.setCell (p := ⟨w1.heap.size, 1, none⟩) (by simp; omega) _⟩
      rw [HS.out, row4_1 n s q j HR.out]
      exact c1.set _
    · refine ⟨(KeepsOthers.setCell _ _ _).from _, KH.set _ _ (by omega), ⟨c0.other _ (by omega), ?_⟩, hB.setCell (p := ⟨w1.heap.size, 2, none⟩) (by simp; omega) _⟩
      rw [HS.out, row4_2 n s q j HR.out]
      exact c1.set _
    · refine ⟨(KeepsOthers.setCell _ _ _).from _, KH.set _ _ (by omega), ⟨c0.other _ (by omega), ?_⟩, hB.setCell (p := ⟨w1.heap.size, 3, none⟩) (by simp; omega) _⟩
      rw [HS.out, row4_3 n s q j HR.out]
      exact c1.set _
  case done =>
    rintro D ys W hD' hys ⟨⟨c0, c1⟩, hB⟩ hK
    rw [hys] at c1
    have e0 := c1.cell 0; have e1 := c1.cell 1; have e2 := c1.cell 2; have e3 := c1.cell 3
    simp only [row4, List.getElem?_cons_zero, List.getElem?_cons_succ] at e0 e1 e2 e3
    have p0 := paL_bd n _ 0 (vAt_bd false s) (List.range s.size)
    have p1 := paL_bd n _ 1 (vAt_bd false s) (List.range s.size)
    have p2 := paL_bd n _ 2 (vAt_bd false s) (List.range s.size)
    have p3 := paL_bd n _ 3 (vAt_bd false s) (List.range s.size)
    simp only [List.length_range] at p0 p1 p2 p3
    gi_wp2
    gi_region
    all_goals gi_wp2
    have hK' : W.drew.heap[D]? = some (.deferred (some [])) := hK
    refine ⟨by simp, .inl ⟨_, _, rfl, run_takeDeferred hK', ?_⟩⟩
    refine ⟨_, results_tmp3 (t := 4) (u := 5) (v := 6) rfl _ _ _, ?_, below_put hB.drew (by simp at hD'; omega) hK' _⟩
    refine ret_iii ?_
    rw [HP.out, paL_range, paL_range, paL_range, paL_range]
  case stop =>
    rintro D c pre W _ _ h _
    exact h.elim

set_option maxHeartbeats 400000 in
theorem spectrum_any (n : Int) (s : ByteArray) (w : World) (hs : s.size ≤ maxLen) :
    Calls Try.prog 33 #[.string s, .int .i64 n] w fun e w' => e = .returned (.tuple #[.int .i64 (spe n s).1, .int .i64 (spe n s).2.1, .int .i64 (spe n s).2.2]) ∧ Below w.heap.size w w' := by
  have hB : Below w.heap.size w (w.alloc (.cells #[.int .i64 n] 3)) := (Below.refl _ w).alloc (Nat.le_refl _) _
  by_cases h1 : n < 0
  · have HP := hidI (spe_out n s (.inl h1))
    go_enter Try.func33, Try.ntmps33
    go_wp2
    go_ret3
    exact ⟨ret_iii HP.out, hB⟩
  by_cases h2 : 3 < n
  · have HP := hidI (spe_out n s (.inr h2))
    go_enter Try.func33, Try.ntmps33
    go_wp2
    go_ret3
    exact ⟨ret_iii HP.out, hB⟩
  by_cases hc : wchk 2 s.data.toList = 0
  · exact callsIn_wide.1 (spectrum_ok_in n s w (by omega) (by omega) hc (wchk_long2 s hc) hs)
  · have HP := hidI (spe_bad n s (by omega) (by omega) hc)
    have hc' : (wchk 2 s.data.toList == 0) = false := by simpa using hc
    clear hc
    go_enter Try.func33, Try.ntmps33
    go_wp2_with fail
    refine (wcheck_any 2 s _ hs).mono ?_
    rintro e w1 ⟨rfl, hD⟩
    go_wp2
    go_ret3
    exact ⟨ret_iii HP.out, hB.trans (hD.below _)⟩
end Go.Proofs.Ytlgjhmenjfmpfaa.Chg
