/-
  Walks: NullValid of the program.
-/
import Derived.Test.YtpopaehdmeejpaaDoorWe
import Derived.Test.YtpopaehdmeejpaaDoorPlainP
namespace Go.Proofs.YtpopaehdmeejpaaDoor
open Go.RowKit Go.Shelf
attribute [local go_sem] Oper.semAt_some

theorem box_drew {W : World} {B t : Nat} {u : Value} (h : Boxed W B t u) : Boxed W.drew B t u := h
theorem kh_drew {B : Nat} {X W : World} (h : KH B X W) : KH B X W.drew := h

set_option maxRecDepth 100000 in
set_option maxHeartbeats 40000000 in
theorem nullv_ok_in (m : Int) (hm1 : 1 ≤ m) (hm2 : m ≤ 31) (s : ByteArray) (w : World) (hok : wchk 2 s.data.toList = 0) (hs : s.size ≤ 65536) (hs' : s.size ≤ maxLen) :
    CallsIn Fence.wide 9 Tryd.prog 10 #[.int .i64 m, .string s] w fun e w' => e = .returned (.tuple #[.bool (decide (wid true s ≤ m)), .int .i64 0]) ∧ Below w.heap.size w w' := by
  have HC := hidI hok
  refine callsIn_of_wp_marks Tryd.func10 rfl trivial ?_ rfl
  simp only [Tryd.ntmps10, List.size_toArray, List.length_cons, List.length_nil, Nat.reduceAdd, Nat.reduceSub, Array.replicate_succ, Array.replicate_zero, List.push_toArray, List.append_toArray, List.nil_append, List.cons_append]
  clear hok
  gi_wp2_with (refine ⟨trivial, ?_⟩; gi_at_call 11)
  refine (callsIn_wide.2 (wcheck_any 2 s _ hs')).mono ?_
  rintro e w1 ⟨rfl, hD⟩
  rw [HC.out]
  gi_wp2_with (refine ⟨trivial, ?_⟩; gi_at_call 26)
  refine (values_in Fence.wide 8 trivial rfl s _).mono ?_
  rintro e w' ⟨rfl, rfl⟩
  gi_wp2
  have b0 := (((Boxed.new w1 3 (.int .i64 0)).alloc (.cells #[.int .i64 0] 3)).alloc (.cells #[.int .i64 0] 3)).alloc (.cells #[.string s] 9)
  have b1 := ((Boxed.new (w1.alloc (.cells #[.int .i64 0] 3)) 3 (.int .i64 0)).alloc (.cells #[.int .i64 0] 3)).alloc (.cells #[.string s] 9)
  have b2 := (Boxed.new ((w1.alloc (.cells #[.int .i64 0] 3)).alloc (.cells #[.int .i64 0] 3)) 3 (.int .i64 0)).alloc (.cells #[.string s] 9)
  have b3 := Boxed.new (((w1.alloc (.cells #[.int .i64 0] 3)).alloc (.cells #[.int .i64 0] 3)).alloc (.cells #[.int .i64 0] 3)) 9 (.string s)
  simp only [World.size_alloc] at b1 b2 b3
  have hB0 : Below w1.heap.size w1 ((((w1.alloc (.cells #[.int .i64 0] 3)).alloc (.cells #[.int .i64 0] 3)).alloc (.cells #[.int .i64 0] 3)).alloc (.cells #[.string s] 9)) := ((((Below.refl _ w1).alloc (Nat.le_refl _) _).alloc (by simp) _).alloc (by simp; omega) _).alloc (by simp; omega) _
  refine' wpIn_rangeFunc_ownG rfl (by omega) (gf := 36) (lb := #[.pointer (some ⟨w1.heap.size + 1 + 1 + 1, 0, none⟩)]) rfl trivial (enters_of Tryd.func36 (by kernel_rfl) rfl)
    (values_stops Fence.wide 8 trivial rfl (by omega) (w1.heap.size + 1 + 1 + 1) s hs HC.out _ b3) KH.trans (KH_b (by simp)) (Below.refl _ _) (fun _ => rfl)
    (fun pre W => (Boxed W w1.heap.size 3 (.int .i64 (stf true s (pre.map (·.1))).2.1) ∧ Boxed W (w1.heap.size + 1) 3 (.int .i64 (stf true s (pre.map (·.1))).2.2) ∧
      Boxed W (w1.heap.size + 1 + 1) 3 (.int .i64 (stf true s (pre.map (·.1))).1)) ∧ Below w1.heap.size w1 W)
    (fun _ _ _ => False)
    (OwnFrom.and (OwnFrom.and ((boxed_own _ _ _).from _) (OwnFrom.and ((boxed_own _ _ _).from _) ((boxed_own _ _ _).from _))) (ownFrom_below (Nat.le_refl _) (by simp; omega)))
    (fun _ _ _ _ _ hs _ _ => hs)
    ⟨⟨b0, b1, b2⟩, hB0⟩
    _ ?assign ?body ?done ?stop
  case assign =>
    intro l x W K hK
    unfold encI
    gi_wp2
    exact hK
  case body =>
    rintro l pre ⟨j, hj⟩ W ⟨⟨c0, c1, c2⟩, hB⟩ hlen
    have hp : (pre.map (·.1)).length < s.size := by simpa using hlen
    have HQ : Hid ((pre ++ [(⟨j, hj⟩ : Idx s)]).map (·.1) = pre.map (·.1) ++ [j]) := by simp [Hid]
    generalize pre.map (·.1) = q at c0 c1 c2 hp HQ ⊢
    have HS := hidI (stf_snoc true s q j)
    have bd := stf_bd true s q
    generalize stf true s q = x at c0 c1 c2 HS bd
    obtain ⟨sm, lo, hi⟩ := x
    simp only at c0 c1 c2 bd
    have d0 := c0.cell; have d1 := c1.cell; have d2 := c2.cell
    have f0 := c0.frozen; have f1 := c1.frozen; have f2 := c2.frozen
    have hv := vAt_bd false s j
    have hmix : Tryd.prog.follows .mixedOrders = true := by kernel_rfl
    by_cases hpar : (j : Int) % 2 = 1
    · have hpar' : ((j : Int) % 2 == 1) = true := by simpa using hpar
      have hy : vAt true s j = -vAt false s j := by unfold vAt; rw [if_pos (by simp; omega), if_neg (by simp)]
      have E1 : Hid ((stf true s ((pre ++ [(⟨j, hj⟩ : Idx s)]).map (·.1))).1 = sm + -vAt false s j) := by unfold Hid; rw [HQ.out, HS.out, ← hy]; rfl
      have E2 : Hid ((stf true s ((pre ++ [(⟨j, hj⟩ : Idx s)]).map (·.1))).2.1 = min lo (sm + -vAt false s j)) := by unfold Hid; rw [HQ.out, HS.out, ← hy]; rfl
      have E3 : Hid ((stf true s ((pre ++ [(⟨j, hj⟩ : Idx s)]).map (·.1))).2.2 = max hi (sm + -vAt false s j)) := by unfold Hid; rw [HQ.out, HS.out, ← hy]; rfl
      clear hpar hy
      gi_wp2
      refine' (fun (sEND : Nat → (_ : Prop)) => ?wsEND) ?sEND
      case' wsEND => refine' (fun (s0123456 : Nat → (_ : Prop)) => ?ws0123456) ?s0123456
      case' ws0123456 => refine' (fun (s012346 : Nat → (_ : Prop)) => ?ws012346) ?s012346
      case' ws012346 => refine' (fun (s012345 : Nat → (_ : Prop)) => ?ws012345) ?s012345
      case' ws012345 => refine' (fun (s01345 : Nat → (_ : Prop)) => ?ws01345) ?s01345
      case' ws01345 => refine' (fun (s01246 : Nat → (_ : Prop)) => ?ws01246) ?s01246
      case' ws01246 => refine' (fun (s01236 : Nat → (_ : Prop)) => ?ws01236) ?s01236
      case' ws01236 => refine' (fun (s01234 : Nat → (_ : Prop)) => ?ws01234) ?s01234
      case' ws01234 => refine' (fun (s1345 : Nat → (_ : Prop)) => ?ws1345) ?s1345
      case' ws1345 => refine' (fun (s0345 : Nat → (_ : Prop)) => ?ws0345) ?s0345
      case' ws0345 => refine' (fun (s0134 : Nat → (_ : Prop)) => ?ws0134) ?s0134
      case' ws0134 => refine' (fun (s0126 : Nat → (_ : Prop)) => ?ws0126) ?s0126
      case' ws0126 => refine' (fun (s0124 : Nat → (_ : Prop)) => ?ws0124) ?s0124
      case' ws0124 => refine' (fun (s0123 : Nat → (_ : Prop)) => ?ws0123) ?s0123
      case' ws0123 => refine' (fun (s345 : Nat → (_ : Prop)) => ?ws345) ?s345
      case' ws345 => refine' (fun (s134 : Nat → (_ : Prop)) => ?ws134) ?s134
      case' ws134 => refine' (fun (s034 : Nat → (_ : Prop)) => ?ws034) ?s034
      case' ws034 => refine' (fun (s014 : Nat → (_ : Prop)) => ?ws014) ?s014
      case' ws014 => refine' (fun (s013 : Nat → (_ : Prop)) => ?ws013) ?s013
      case' ws013 => refine' (fun (s012 : Nat → (_ : Prop)) => ?ws012) ?s012
      case' ws012 => refine' (fun (s34 : Nat → (_ : Prop)) => ?ws34) ?s34
      case' ws34 => refine' (fun (s14 : Nat → (_ : Prop)) => ?ws14) ?s14
      case' ws14 => refine' (fun (s13 : Nat → (_ : Prop)) => ?ws13) ?s13
      case' ws13 => refine' (fun (s04 : Nat → (_ : Prop)) => ?ws04) ?s04
      case' ws04 => refine' (fun (s03 : Nat → (_ : Prop)) => ?ws03) ?s03
      case' ws03 => refine' (fun (s01 : Nat → (_ : Prop)) => ?ws01) ?s01
      case' ws01 => refine' (fun (s4 : Nat → (_ : Prop)) => ?ws4) ?s4
      case' ws4 => refine' (fun (s3 : Nat → (_ : Prop)) => ?ws3) ?s3
      case' ws3 => refine' (fun (s1 : Nat → (_ : Prop)) => ?ws1) ?s1
      case' ws1 => refine' (fun (s0 : Nat → (_ : Prop)) => ?ws0) ?s0
      case ws0 =>
        refine wpIn_region_any (by kernel_rfl) ?_
        change wpAnyIn _ _ _ _ _ _ 8 #[false, false, false, false, false, false, false, false] _ (World.drew _)
        refine wpAnyIn_ready (rs := [0, 1, 3, 4]) (by kernel_rfl) (by simp) ?_
        refine AllReadyIn.cons rfl (fun K hK => ?_) ?_
        · go_simp
          first | refine hK _ _ ?_ | (gi_wp2; try refine hK _ _ ?_)
          change wpAnyIn _ _ _ _ _ _ 7 #[true, false, false, false, false, false, false, false] _ _
          exact s0 0
        refine AllReadyIn.cons rfl (fun K hK => ?_) ?_
        · go_simp
          first | refine hK _ _ ?_ | (gi_wp2; try refine hK _ _ ?_)
          change wpAnyIn _ _ _ _ _ _ 7 #[false, true, false, false, false, false, false, false] _ _
          exact s1 0
        refine AllReadyIn.cons rfl (fun K hK => ?_) ?_
        · go_simp
          first | refine hK _ _ ?_ | (gi_wp2; try refine hK _ _ ?_)
          change wpAnyIn _ _ _ _ _ _ 7 #[false, false, false, true, false, false, false, false] _ _
          exact s3 0
        refine AllReadyIn.cons rfl (fun K hK => ?_) ?_
        · go_simp
          first | refine hK _ _ ?_ | (gi_wp2; try refine hK _ _ ?_)
          change wpAnyIn _ _ _ _ _ _ 7 #[false, false, false, false, true, false, false, false] _ _
          exact s4 0
        exact AllReadyIn.nil
      case s0 =>
        intro _
        refine wpAnyIn_ready (rs := [1, 3, 4]) (by kernel_rfl) (by simp) ?_
        refine AllReadyIn.cons rfl (fun K hK => ?_) ?_
        · go_simp
          first | refine hK _ _ ?_ | (gi_wp2; try refine hK _ _ ?_)
          change wpAnyIn _ _ _ _ _ _ 6 #[true, true, false, false, false, false, false, false] _ _
          exact s01 0
        refine AllReadyIn.cons rfl (fun K hK => ?_) ?_
        · go_simp
          first | refine hK _ _ ?_ | (gi_wp2; try refine hK _ _ ?_)
          change wpAnyIn _ _ _ _ _ _ 6 #[true, false, false, true, false, false, false, false] _ _
          exact s03 0
        refine AllReadyIn.cons rfl (fun K hK => ?_) ?_
        · go_simp
          first | refine hK _ _ ?_ | (gi_wp2; try refine hK _ _ ?_)
          change wpAnyIn _ _ _ _ _ _ 6 #[true, false, false, false, true, false, false, false] _ _
          exact s04 0
        exact AllReadyIn.nil
      case s1 =>
        intro _
        refine wpAnyIn_ready (rs := [0, 3, 4]) (by kernel_rfl) (by simp) ?_
        refine AllReadyIn.cons rfl (fun K hK => ?_) ?_
        · go_simp
          first | refine hK _ _ ?_ | (gi_wp2; try refine hK _ _ ?_)
          change wpAnyIn _ _ _ _ _ _ 6 #[true, true, false, false, false, false, false, false] _ _
          exact s01 0
        refine AllReadyIn.cons rfl (fun K hK => ?_) ?_
        · go_simp
          first | refine hK _ _ ?_ | (gi_wp2; try refine hK _ _ ?_)
          change wpAnyIn _ _ _ _ _ _ 6 #[false, true, false, true, false, false, false, false] _ _
          exact s13 0
        refine AllReadyIn.cons rfl (fun K hK => ?_) ?_
        · go_simp
          first | refine hK _ _ ?_ | (gi_wp2; try refine hK _ _ ?_)
          change wpAnyIn _ _ _ _ _ _ 6 #[false, true, false, false, true, false, false, false] _ _
          exact s14 0
        exact AllReadyIn.nil
      case s3 =>
        intro _
        refine wpAnyIn_ready (rs := [0, 1, 4]) (by kernel_rfl) (by simp) ?_
        refine AllReadyIn.cons rfl (fun K hK => ?_) ?_
        · go_simp
          first | refine hK _ _ ?_ | (gi_wp2; try refine hK _ _ ?_)
          change wpAnyIn _ _ _ _ _ _ 6 #[true, false, false, true, false, false, false, false] _ _
          exact s03 0
        refine AllReadyIn.cons rfl (fun K hK => ?_) ?_
        · go_simp
          first | refine hK _ _ ?_ | (gi_wp2; try refine hK _ _ ?_)
          change wpAnyIn _ _ _ _ _ _ 6 #[false, true, false, true, false, false, false, false] _ _
          exact s13 0
        refine AllReadyIn.cons rfl (fun K hK => ?_) ?_
        · go_simp
          first | refine hK _ _ ?_ | (gi_wp2; try refine hK _ _ ?_)
          change wpAnyIn _ _ _ _ _ _ 6 #[false, false, false, true, true, false, false, false] _ _
          exact s34 0
        exact AllReadyIn.nil
      case s4 =>
        intro _
        refine wpAnyIn_ready (rs := [0, 1, 3]) (by kernel_rfl) (by simp) ?_
        refine AllReadyIn.cons rfl (fun K hK => ?_) ?_
        · go_simp
          first | refine hK _ _ ?_ | (gi_wp2; try refine hK _ _ ?_)
          change wpAnyIn _ _ _ _ _ _ 6 #[true, false, false, false, true, false, false, false] _ _
          exact s04 0
        refine AllReadyIn.cons rfl (fun K hK => ?_) ?_
        · go_simp
          first | refine hK _ _ ?_ | (gi_wp2; try refine hK _ _ ?_)
          change wpAnyIn _ _ _ _ _ _ 6 #[false, true, false, false, true, false, false, false] _ _
          exact s14 0
        refine AllReadyIn.cons rfl (fun K hK => ?_) ?_
        · go_simp
          first | refine hK _ _ ?_ | (gi_wp2; try refine hK _ _ ?_)
          change wpAnyIn _ _ _ _ _ _ 6 #[false, false, false, true, true, false, false, false] _ _
          exact s34 0
        exact AllReadyIn.nil
      case s01 =>
        intro _
        refine wpAnyIn_ready (rs := [2, 3, 4]) (by kernel_rfl) (by simp) ?_
        refine AllReadyIn.cons rfl (fun K hK => ?_) ?_
        · go_simp
          first | refine hK _ _ ?_ | (gi_wp2; try refine hK _ _ ?_)
          change wpAnyIn _ _ _ _ _ _ 5 #[true, true, true, false, false, false, false, false] _ _
          exact s012 0
        refine AllReadyIn.cons rfl (fun K hK => ?_) ?_
        · go_simp
          first | refine hK _ _ ?_ | (gi_wp2; try refine hK _ _ ?_)
          change wpAnyIn _ _ _ _ _ _ 5 #[true, true, false, true, false, false, false, false] _ _
          exact s013 0
        refine AllReadyIn.cons rfl (fun K hK => ?_) ?_
        · go_simp
          first | refine hK _ _ ?_ | (gi_wp2; try refine hK _ _ ?_)
          change wpAnyIn _ _ _ _ _ _ 5 #[true, true, false, false, true, false, false, false] _ _
          exact s014 0
        exact AllReadyIn.nil
      case s03 =>
        intro _
        refine wpAnyIn_ready (rs := [1, 4]) (by kernel_rfl) (by simp) ?_
        refine AllReadyIn.cons rfl (fun K hK => ?_) ?_
        · go_simp
          first | refine hK _ _ ?_ | (gi_wp2; try refine hK _ _ ?_)
          change wpAnyIn _ _ _ _ _ _ 5 #[true, true, false, true, false, false, false, false] _ _
          exact s013 0
        refine AllReadyIn.cons rfl (fun K hK => ?_) ?_
        · go_simp
          first | refine hK _ _ ?_ | (gi_wp2; try refine hK _ _ ?_)
          change wpAnyIn _ _ _ _ _ _ 5 #[true, false, false, true, true, false, false, false] _ _
          exact s034 0
        exact AllReadyIn.nil
      case s04 =>
        intro _
        refine wpAnyIn_ready (rs := [1, 3]) (by kernel_rfl) (by simp) ?_
        refine AllReadyIn.cons rfl (fun K hK => ?_) ?_
        · go_simp
          first | refine hK _ _ ?_ | (gi_wp2; try refine hK _ _ ?_)
          change wpAnyIn _ _ _ _ _ _ 5 #[true, true, false, false, true, false, false, false] _ _
          exact s014 0
        refine AllReadyIn.cons rfl (fun K hK => ?_) ?_
        · go_simp
          first | refine hK _ _ ?_ | (gi_wp2; try refine hK _ _ ?_)
          change wpAnyIn _ _ _ _ _ _ 5 #[true, false, false, true, true, false, false, false] _ _
          exact s034 0
        exact AllReadyIn.nil
      case s13 =>
        intro _
        refine wpAnyIn_ready (rs := [0, 4]) (by kernel_rfl) (by simp) ?_
        refine AllReadyIn.cons rfl (fun K hK => ?_) ?_
        · go_simp
          first | refine hK _ _ ?_ | (gi_wp2; try refine hK _ _ ?_)
          change wpAnyIn _ _ _ _ _ _ 5 #[true, true, false, true, false, false, false, false] _ _
          exact s013 0
        refine AllReadyIn.cons rfl (fun K hK => ?_) ?_
        · go_simp
          first | refine hK _ _ ?_ | (gi_wp2; try refine hK _ _ ?_)
          change wpAnyIn _ _ _ _ _ _ 5 #[false, true, false, true, true, false, false, false] _ _
          exact s134 0
        exact AllReadyIn.nil
      case s14 =>
        intro _
        refine wpAnyIn_ready (rs := [0, 3]) (by kernel_rfl) (by simp) ?_
        refine AllReadyIn.cons rfl (fun K hK => ?_) ?_
        · go_simp
          first | refine hK _ _ ?_ | (gi_wp2; try refine hK _ _ ?_)
          change wpAnyIn _ _ _ _ _ _ 5 #[true, true, false, false, true, false, false, false] _ _
          exact s014 0
        refine AllReadyIn.cons rfl (fun K hK => ?_) ?_
        · go_simp
          first | refine hK _ _ ?_ | (gi_wp2; try refine hK _ _ ?_)
          change wpAnyIn _ _ _ _ _ _ 5 #[false, true, false, true, true, false, false, false] _ _
          exact s134 0
        exact AllReadyIn.nil
      case s34 =>
        intro _
        refine wpAnyIn_ready (rs := [0, 1, 5]) (by kernel_rfl) (by simp) ?_
        refine AllReadyIn.cons rfl (fun K hK => ?_) ?_
        · go_simp
          first | refine hK _ _ ?_ | (gi_wp2; try refine hK _ _ ?_)
          change wpAnyIn _ _ _ _ _ _ 5 #[true, false, false, true, true, false, false, false] _ _
          exact s034 0
        refine AllReadyIn.cons rfl (fun K hK => ?_) ?_
        · go_simp
          first | refine hK _ _ ?_ | (gi_wp2; try refine hK _ _ ?_)
          change wpAnyIn _ _ _ _ _ _ 5 #[false, true, false, true, true, false, false, false] _ _
          exact s134 0
        refine AllReadyIn.cons rfl (fun K hK => ?_) ?_
        · go_simp
          first | refine hK _ _ ?_ | (gi_wp2; try refine hK _ _ ?_)
          change wpAnyIn _ _ _ _ _ _ 5 #[false, false, false, true, true, true, false, false] _ _
          exact s345 0
        exact AllReadyIn.nil
      case s012 =>
        intro _
        refine wpAnyIn_ready (rs := [3, 4, 6]) (by kernel_rfl) (by simp) ?_
        refine AllReadyIn.cons rfl (fun K hK => ?_) ?_
        · go_simp
          first | refine hK _ _ ?_ | (gi_wp2; try refine hK _ _ ?_)
          change wpAnyIn _ _ _ _ _ _ 4 #[true, true, true, true, false, false, false, false] _ _
          exact s0123 0
        refine AllReadyIn.cons rfl (fun K hK => ?_) ?_
        · go_simp
          first | refine hK _ _ ?_ | (gi_wp2; try refine hK _ _ ?_)
          change wpAnyIn _ _ _ _ _ _ 4 #[true, true, true, false, true, false, false, false] _ _
          exact s0124 0
        refine AllReadyIn.cons rfl (fun K hK => ?_) ?_
        · go_simp
          first | refine hK _ _ ?_ | (gi_wp2; try refine hK _ _ ?_)
          change wpAnyIn _ _ _ _ _ _ 4 #[true, true, true, false, false, false, true, false] _ _
          exact s0126 0
        exact AllReadyIn.nil
      case s013 =>
        intro _
        refine wpAnyIn_ready (rs := [2, 4]) (by kernel_rfl) (by simp) ?_
        refine AllReadyIn.cons rfl (fun K hK => ?_) ?_
        · go_simp
          first | refine hK _ _ ?_ | (gi_wp2; try refine hK _ _ ?_)
          change wpAnyIn _ _ _ _ _ _ 4 #[true, true, true, true, false, false, false, false] _ _
          exact s0123 0
        refine AllReadyIn.cons rfl (fun K hK => ?_) ?_
        · go_simp
          first | refine hK _ _ ?_ | (gi_wp2; try refine hK _ _ ?_)
          change wpAnyIn _ _ _ _ _ _ 4 #[true, true, false, true, true, false, false, false] _ _
          exact s0134 0
        exact AllReadyIn.nil
      case s014 =>
        intro _
        refine wpAnyIn_ready (rs := [2, 3]) (by kernel_rfl) (by simp) ?_
        refine AllReadyIn.cons rfl (fun K hK => ?_) ?_
        · go_simp
          first | refine hK _ _ ?_ | (gi_wp2; try refine hK _ _ ?_)
          change wpAnyIn _ _ _ _ _ _ 4 #[true, true, true, false, true, false, false, false] _ _
          exact s0124 0
        refine AllReadyIn.cons rfl (fun K hK => ?_) ?_
        · go_simp
          first | refine hK _ _ ?_ | (gi_wp2; try refine hK _ _ ?_)
          change wpAnyIn _ _ _ _ _ _ 4 #[true, true, false, true, true, false, false, false] _ _
          exact s0134 0
        exact AllReadyIn.nil
      case s034 =>
        intro _
        refine wpAnyIn_ready (rs := [1, 5]) (by kernel_rfl) (by simp) ?_
        refine AllReadyIn.cons rfl (fun K hK => ?_) ?_
        · go_simp
          first | refine hK _ _ ?_ | (gi_wp2; try refine hK _ _ ?_)
          change wpAnyIn _ _ _ _ _ _ 4 #[true, true, false, true, true, false, false, false] _ _
          exact s0134 0
        refine AllReadyIn.cons rfl (fun K hK => ?_) ?_
        · go_simp
          first | refine hK _ _ ?_ | (gi_wp2; try refine hK _ _ ?_)
          change wpAnyIn _ _ _ _ _ _ 4 #[true, false, false, true, true, true, false, false] _ _
          exact s0345 0
        exact AllReadyIn.nil
      case s134 =>
        intro _
        refine wpAnyIn_ready (rs := [0, 5]) (by kernel_rfl) (by simp) ?_
        refine AllReadyIn.cons rfl (fun K hK => ?_) ?_
        · go_simp
          first | refine hK _ _ ?_ | (gi_wp2; try refine hK _ _ ?_)
          change wpAnyIn _ _ _ _ _ _ 4 #[true, true, false, true, true, false, false, false] _ _
          exact s0134 0
        refine AllReadyIn.cons rfl (fun K hK => ?_) ?_
        · go_simp
          first | refine hK _ _ ?_ | (gi_wp2; try refine hK _ _ ?_)
          change wpAnyIn _ _ _ _ _ _ 4 #[false, true, false, true, true, true, false, false] _ _
          exact s1345 0
        exact AllReadyIn.nil
      case s345 =>
        intro _
        refine wpAnyIn_ready (rs := [0, 1]) (by kernel_rfl) (by simp) ?_
        refine AllReadyIn.cons rfl (fun K hK => ?_) ?_
        · go_simp
          first | refine hK _ _ ?_ | (gi_wp2; try refine hK _ _ ?_)
          change wpAnyIn _ _ _ _ _ _ 4 #[true, false, false, true, true, true, false, false] _ _
          exact s0345 0
        refine AllReadyIn.cons rfl (fun K hK => ?_) ?_
        · go_simp
          first | refine hK _ _ ?_ | (gi_wp2; try refine hK _ _ ?_)
          change wpAnyIn _ _ _ _ _ _ 4 #[false, true, false, true, true, true, false, false] _ _
          exact s1345 0
        exact AllReadyIn.nil
      case s0123 =>
        intro _
        refine wpAnyIn_ready (rs := [4, 6]) (by kernel_rfl) (by simp) ?_
        refine AllReadyIn.cons rfl (fun K hK => ?_) ?_
        · go_simp
          first | refine hK _ _ ?_ | (gi_wp2; try refine hK _ _ ?_)
          change wpAnyIn _ _ _ _ _ _ 3 #[true, true, true, true, true, false, false, false] _ _
          exact s01234 0
        refine AllReadyIn.cons rfl (fun K hK => ?_) ?_
        · go_simp
          first | refine hK _ _ ?_ | (gi_wp2; try refine hK _ _ ?_)
          change wpAnyIn _ _ _ _ _ _ 3 #[true, true, true, true, false, false, true, false] _ _
          exact s01236 0
        exact AllReadyIn.nil
      case s0124 =>
        intro _
        refine wpAnyIn_ready (rs := [3, 6]) (by kernel_rfl) (by simp) ?_
        refine AllReadyIn.cons rfl (fun K hK => ?_) ?_
        · go_simp
          first | refine hK _ _ ?_ | (gi_wp2; try refine hK _ _ ?_)
          change wpAnyIn _ _ _ _ _ _ 3 #[true, true, true, true, true, false, false, false] _ _
          exact s01234 0
        refine AllReadyIn.cons rfl (fun K hK => ?_) ?_
        · go_simp
          first | refine hK _ _ ?_ | (gi_wp2; try refine hK _ _ ?_)
          change wpAnyIn _ _ _ _ _ _ 3 #[true, true, true, false, true, false, true, false] _ _
          exact s01246 0
        exact AllReadyIn.nil
      case s0126 =>
        intro _
        refine wpAnyIn_ready (rs := [3, 4]) (by kernel_rfl) (by simp) ?_
        refine AllReadyIn.cons rfl (fun K hK => ?_) ?_
        · go_simp
          first | refine hK _ _ ?_ | (gi_wp2; try refine hK _ _ ?_)
          change wpAnyIn _ _ _ _ _ _ 3 #[true, true, true, true, false, false, true, false] _ _
          exact s01236 0
        refine AllReadyIn.cons rfl (fun K hK => ?_) ?_
        · go_simp
          first | refine hK _ _ ?_ | (gi_wp2; try refine hK _ _ ?_)
          change wpAnyIn _ _ _ _ _ _ 3 #[true, true, true, false, true, false, true, false] _ _
          exact s01246 0
        exact AllReadyIn.nil
      case s0134 =>
        intro _
        refine wpAnyIn_ready (rs := [2, 5]) (by kernel_rfl) (by simp) ?_
        refine AllReadyIn.cons rfl (fun K hK => ?_) ?_
        · go_simp
          first | refine hK _ _ ?_ | (gi_wp2; try refine hK _ _ ?_)
          change wpAnyIn _ _ _ _ _ _ 3 #[true, true, true, true, true, false, false, false] _ _
          exact s01234 0
        refine AllReadyIn.cons rfl (fun K hK => ?_) ?_
        · go_simp
          first | refine hK _ _ ?_ | (gi_wp2; try refine hK _ _ ?_)
          change wpAnyIn _ _ _ _ _ _ 3 #[true, true, false, true, true, true, false, false] _ _
          exact s01345 0
        exact AllReadyIn.nil
      case s0345 =>
        intro _
        refine wpAnyIn_ready (rs := [1]) (by kernel_rfl) (by simp) ?_
        refine AllReadyIn.cons rfl (fun K hK => ?_) ?_
        · go_simp
          first | refine hK _ _ ?_ | (gi_wp2; try refine hK _ _ ?_)
          change wpAnyIn _ _ _ _ _ _ 3 #[true, true, false, true, true, true, false, false] _ _
          exact s01345 0
        exact AllReadyIn.nil
      case s1345 =>
        intro _
        refine wpAnyIn_ready (rs := [0]) (by kernel_rfl) (by simp) ?_
        refine AllReadyIn.cons rfl (fun K hK => ?_) ?_
        · go_simp
          first | refine hK _ _ ?_ | (gi_wp2; try refine hK _ _ ?_)
          change wpAnyIn _ _ _ _ _ _ 3 #[true, true, false, true, true, true, false, false] _ _
          exact s01345 0
        exact AllReadyIn.nil
      case s01234 =>
        intro _
        refine wpAnyIn_ready (rs := [5, 6]) (by kernel_rfl) (by simp) ?_
        refine AllReadyIn.cons rfl (fun K hK => ?_) ?_
        · go_simp
          first | refine hK _ _ ?_ | (gi_wp2; try refine hK _ _ ?_)
          change wpAnyIn _ _ _ _ _ _ 2 #[true, true, true, true, true, true, false, false] _ _
          exact s012345 0
        refine AllReadyIn.cons rfl (fun K hK => ?_) ?_
        · go_simp
          first | refine hK _ _ ?_ | (gi_wp2; try refine hK _ _ ?_)
          change wpAnyIn _ _ _ _ _ _ 2 #[true, true, true, true, true, false, true, false] _ _
          exact s012346 0
        exact AllReadyIn.nil
      case s01236 =>
        intro _
        refine wpAnyIn_ready (rs := [4]) (by kernel_rfl) (by simp) ?_
        refine AllReadyIn.cons rfl (fun K hK => ?_) ?_
        · go_simp
          first | refine hK _ _ ?_ | (gi_wp2; try refine hK _ _ ?_)
          change wpAnyIn _ _ _ _ _ _ 2 #[true, true, true, true, true, false, true, false] _ _
          exact s012346 0
        exact AllReadyIn.nil
      case s01246 =>
        intro _
        refine wpAnyIn_ready (rs := [3]) (by kernel_rfl) (by simp) ?_
        refine AllReadyIn.cons rfl (fun K hK => ?_) ?_
        · go_simp
          first | refine hK _ _ ?_ | (gi_wp2; try refine hK _ _ ?_)
          change wpAnyIn _ _ _ _ _ _ 2 #[true, true, true, true, true, false, true, false] _ _
          exact s012346 0
        exact AllReadyIn.nil
      case s01345 =>
        intro _
        refine wpAnyIn_ready (rs := [2]) (by kernel_rfl) (by simp) ?_
        refine AllReadyIn.cons rfl (fun K hK => ?_) ?_
        · go_simp
          first | refine hK _ _ ?_ | (gi_wp2; try refine hK _ _ ?_)
          change wpAnyIn _ _ _ _ _ _ 2 #[true, true, true, true, true, true, false, false] _ _
          exact s012345 0
        exact AllReadyIn.nil
      case s012345 =>
        intro _
        refine wpAnyIn_ready (rs := [6]) (by kernel_rfl) (by simp) ?_
        refine AllReadyIn.cons rfl (fun K hK => ?_) ?_
        · go_simp
          first | refine hK _ _ ?_ | (gi_wp2; try refine hK _ _ ?_)
          change wpAnyIn _ _ _ _ _ _ 1 #[true, true, true, true, true, true, true, false] _ _
          exact s0123456 0
        exact AllReadyIn.nil
      case s012346 =>
        intro _
        refine wpAnyIn_ready (rs := [5]) (by kernel_rfl) (by simp) ?_
        refine AllReadyIn.cons rfl (fun K hK => ?_) ?_
        · go_simp
          first | refine hK _ _ ?_ | (gi_wp2; try refine hK _ _ ?_)
          change wpAnyIn _ _ _ _ _ _ 1 #[true, true, true, true, true, true, true, false] _ _
          exact s0123456 0
        exact AllReadyIn.nil
      case s0123456 =>
        intro _
        refine wpAnyIn_ready (rs := [7]) (by kernel_rfl) (by simp) ?_
        refine AllReadyIn.cons rfl (fun K hK => ?_) ?_
        · go_simp
          first | refine hK _ _ ?_ | (gi_wp2; try refine hK _ _ ?_)
          change wpAnyIn _ _ _ _ _ _ 0 #[true, true, true, true, true, true, true, true] _ _
          exact sEND 0
        exact AllReadyIn.nil
      case sEND =>
       intro _
       refine wpAnyIn_done (by kernel_rfl) ?_ _
       gi_wp2
       exact ⟨((((KeepsOthers.setCell W _ _).trans (KeepsOthers.setCell _ _ _)).trans (KeepsOthers.setCell _ _ _)).trans (KeepsOthers.drew _)).from _,
        kh_drew (((KH.set W _ (by omega)).trans (KH.set _ _ (by omega))).trans (KH.set _ _ (by omega))),
        ⟨by rw [E2.out]; exact box_drew (boxed_set_other _ (Boxed.set _ (boxed_set_other _ c0 (by omega))) (by omega)),
         by rw [E3.out]; exact box_drew (Boxed.set _ (boxed_set_other _ (boxed_set_other _ c1 (by omega)) (by omega))),
         by rw [E1.out]; exact box_drew (boxed_set_other _ (boxed_set_other _ (c2.set _) (by omega)) (by omega))⟩,
        (((hB.setCell (p := ⟨w1.heap.size + 1 + 1, 0, none⟩) (by simp; omega) _).setCell (p := ⟨w1.heap.size, 0, none⟩) (by simp) _).setCell (p := ⟨w1.heap.size + 1, 0, none⟩) (by simp) _).drew⟩
    · have hpar' : ((j : Int) % 2 == 1) = false := by simpa using hpar
      have hy : vAt true s j = vAt false s j := by unfold vAt; rw [if_neg (by simp; omega), if_neg (by simp)]
      have E1 : Hid ((stf true s ((pre ++ [(⟨j, hj⟩ : Idx s)]).map (·.1))).1 = sm + vAt false s j) := by unfold Hid; rw [HQ.out, HS.out, ← hy]; rfl
      have E2 : Hid ((stf true s ((pre ++ [(⟨j, hj⟩ : Idx s)]).map (·.1))).2.1 = min lo (sm + vAt false s j)) := by unfold Hid; rw [HQ.out, HS.out, ← hy]; rfl
      have E3 : Hid ((stf true s ((pre ++ [(⟨j, hj⟩ : Idx s)]).map (·.1))).2.2 = max hi (sm + vAt false s j)) := by unfold Hid; rw [HQ.out, HS.out, ← hy]; rfl
      clear hpar hy
      gi_wp2
      refine' (fun (rEND : Nat → (_ : Prop)) => ?wrEND) ?rEND
      case' wrEND => refine' (fun (r0123456 : Nat → (_ : Prop)) => ?wr0123456) ?r0123456
      case' wr0123456 => refine' (fun (r012346 : Nat → (_ : Prop)) => ?wr012346) ?r012346
      case' wr012346 => refine' (fun (r012345 : Nat → (_ : Prop)) => ?wr012345) ?r012345
      case' wr012345 => refine' (fun (r01345 : Nat → (_ : Prop)) => ?wr01345) ?r01345
      case' wr01345 => refine' (fun (r01246 : Nat → (_ : Prop)) => ?wr01246) ?r01246
      case' wr01246 => refine' (fun (r01236 : Nat → (_ : Prop)) => ?wr01236) ?r01236
      case' wr01236 => refine' (fun (r01234 : Nat → (_ : Prop)) => ?wr01234) ?r01234
      case' wr01234 => refine' (fun (r1345 : Nat → (_ : Prop)) => ?wr1345) ?r1345
      case' wr1345 => refine' (fun (r0345 : Nat → (_ : Prop)) => ?wr0345) ?r0345
      case' wr0345 => refine' (fun (r0134 : Nat → (_ : Prop)) => ?wr0134) ?r0134
      case' wr0134 => refine' (fun (r0126 : Nat → (_ : Prop)) => ?wr0126) ?r0126
      case' wr0126 => refine' (fun (r0124 : Nat → (_ : Prop)) => ?wr0124) ?r0124
      case' wr0124 => refine' (fun (r0123 : Nat → (_ : Prop)) => ?wr0123) ?r0123
      case' wr0123 => refine' (fun (r345 : Nat → (_ : Prop)) => ?wr345) ?r345
      case' wr345 => refine' (fun (r134 : Nat → (_ : Prop)) => ?wr134) ?r134
      case' wr134 => refine' (fun (r034 : Nat → (_ : Prop)) => ?wr034) ?r034
      case' wr034 => refine' (fun (r014 : Nat → (_ : Prop)) => ?wr014) ?r014
      case' wr014 => refine' (fun (r013 : Nat → (_ : Prop)) => ?wr013) ?r013
      case' wr013 => refine' (fun (r012 : Nat → (_ : Prop)) => ?wr012) ?r012
      case' wr012 => refine' (fun (r34 : Nat → (_ : Prop)) => ?wr34) ?r34
      case' wr34 => refine' (fun (r14 : Nat → (_ : Prop)) => ?wr14) ?r14
      case' wr14 => refine' (fun (r13 : Nat → (_ : Prop)) => ?wr13) ?r13
      case' wr13 => refine' (fun (r04 : Nat → (_ : Prop)) => ?wr04) ?r04
      case' wr04 => refine' (fun (r03 : Nat → (_ : Prop)) => ?wr03) ?r03
      case' wr03 => refine' (fun (r01 : Nat → (_ : Prop)) => ?wr01) ?r01
      case' wr01 => refine' (fun (r4 : Nat → (_ : Prop)) => ?wr4) ?r4
      case' wr4 => refine' (fun (r3 : Nat → (_ : Prop)) => ?wr3) ?r3
      case' wr3 => refine' (fun (r1 : Nat → (_ : Prop)) => ?wr1) ?r1
      case' wr1 => refine' (fun (r0 : Nat → (_ : Prop)) => ?wr0) ?r0
      case wr0 =>
        refine wpIn_region_any (by kernel_rfl) ?_
        change wpAnyIn _ _ _ _ _ _ 8 #[false, false, false, false, false, false, false, false] _ (World.drew _)
        refine wpAnyIn_ready (rs := [0, 1, 3, 4]) (by kernel_rfl) (by simp) ?_
        refine AllReadyIn.cons rfl (fun K hK => ?_) ?_
        · go_simp
          first | refine hK _ _ ?_ | (gi_wp2; try refine hK _ _ ?_)
          change wpAnyIn _ _ _ _ _ _ 7 #[true, false, false, false, false, false, false, false] _ _
          exact r0 0
        refine AllReadyIn.cons rfl (fun K hK => ?_) ?_
        · go_simp
          first | refine hK _ _ ?_ | (gi_wp2; try refine hK _ _ ?_)
          change wpAnyIn _ _ _ _ _ _ 7 #[false, true, false, false, false, false, false, false] _ _
          exact r1 0
        refine AllReadyIn.cons rfl (fun K hK => ?_) ?_
        · go_simp
          first | refine hK _ _ ?_ | (gi_wp2; try refine hK _ _ ?_)
          change wpAnyIn _ _ _ _ _ _ 7 #[false, false, false, true, false, false, false, false] _ _
          exact r3 0
        refine AllReadyIn.cons rfl (fun K hK => ?_) ?_
        · go_simp
          first | refine hK _ _ ?_ | (gi_wp2; try refine hK _ _ ?_)
          change wpAnyIn _ _ _ _ _ _ 7 #[false, false, false, false, true, false, false, false] _ _
          exact r4 0
        exact AllReadyIn.nil
      case r0 =>
        intro _
        refine wpAnyIn_ready (rs := [1, 3, 4]) (by kernel_rfl) (by simp) ?_
        refine AllReadyIn.cons rfl (fun K hK => ?_) ?_
        · go_simp
          first | refine hK _ _ ?_ | (gi_wp2; try refine hK _ _ ?_)
          change wpAnyIn _ _ _ _ _ _ 6 #[true, true, false, false, false, false, false, false] _ _
          exact r01 0
        refine AllReadyIn.cons rfl (fun K hK => ?_) ?_
        · go_simp
          first | refine hK _ _ ?_ | (gi_wp2; try refine hK _ _ ?_)
          change wpAnyIn _ _ _ _ _ _ 6 #[true, false, false, true, false, false, false, false] _ _
          exact r03 0
        refine AllReadyIn.cons rfl (fun K hK => ?_) ?_
        · go_simp
          first | refine hK _ _ ?_ | (gi_wp2; try refine hK _ _ ?_)
          change wpAnyIn _ _ _ _ _ _ 6 #[true, false, false, false, true, false, false, false] _ _
          exact r04 0
        exact AllReadyIn.nil
      case r1 =>
        intro _
        refine wpAnyIn_ready (rs := [0, 3, 4]) (by kernel_rfl) (by simp) ?_
        refine AllReadyIn.cons rfl (fun K hK => ?_) ?_
        · go_simp
          first | refine hK _ _ ?_ | (gi_wp2; try refine hK _ _ ?_)
          change wpAnyIn _ _ _ _ _ _ 6 #[true, true, false, false, false, false, false, false] _ _
          exact r01 0
        refine AllReadyIn.cons rfl (fun K hK => ?_) ?_
        · go_simp
          first | refine hK _ _ ?_ | (gi_wp2; try refine hK _ _ ?_)
          change wpAnyIn _ _ _ _ _ _ 6 #[false, true, false, true, false, false, false, false] _ _
          exact r13 0
        refine AllReadyIn.cons rfl (fun K hK => ?_) ?_
        · go_simp
          first | refine hK _ _ ?_ | (gi_wp2; try refine hK _ _ ?_)
          change wpAnyIn _ _ _ _ _ _ 6 #[false, true, false, false, true, false, false, false] _ _
          exact r14 0
        exact AllReadyIn.nil
      case r3 =>
        intro _
        refine wpAnyIn_ready (rs := [0, 1, 4]) (by kernel_rfl) (by simp) ?_
        refine AllReadyIn.cons rfl (fun K hK => ?_) ?_
        · go_simp
          first | refine hK _ _ ?_ | (gi_wp2; try refine hK _ _ ?_)
          change wpAnyIn _ _ _ _ _ _ 6 #[true, false, false, true, false, false, false, false] _ _
          exact r03 0
        refine AllReadyIn.cons rfl (fun K hK => ?_) ?_
        · go_simp
          first | refine hK _ _ ?_ | (gi_wp2; try refine hK _ _ ?_)
          change wpAnyIn _ _ _ _ _ _ 6 #[false, true, false, true, false, false, false, false] _ _
          exact r13 0
        refine AllReadyIn.cons rfl (fun K hK => ?_) ?_
        · go_simp
          first | refine hK _ _ ?_ | (gi_wp2; try refine hK _ _ ?_)
          change wpAnyIn _ _ _ _ _ _ 6 #[false, false, false, true, true, false, false, false] _ _
          exact r34 0
        exact AllReadyIn.nil
      case r4 =>
        intro _
        refine wpAnyIn_ready (rs := [0, 1, 3]) (by kernel_rfl) (by simp) ?_
        refine AllReadyIn.cons rfl (fun K hK => ?_) ?_
        · go_simp
          first | refine hK _ _ ?_ | (gi_wp2; try refine hK _ _ ?_)
          change wpAnyIn _ _ _ _ _ _ 6 #[true, false, false, false, true, false, false, false] _ _
          exact r04 0
        refine AllReadyIn.cons rfl (fun K hK => ?_) ?_
        · go_simp
          first | refine hK _ _ ?_ | (gi_wp2; try refine hK _ _ ?_)
          change wpAnyIn _ _ _ _ _ _ 6 #[false, true, false, false, true, false, false, false] _ _
          exact r14 0
        refine AllReadyIn.cons rfl (fun K hK => ?_) ?_
        · go_simp
          first | refine hK _ _ ?_ | (gi_wp2; try refine hK _ _ ?_)
          change wpAnyIn _ _ _ _ _ _ 6 #[false, false, false, true, true, false, false, false] _ _
          exact r34 0
        exact AllReadyIn.nil
      case r01 =>
        intro _
        refine wpAnyIn_ready (rs := [2, 3, 4]) (by kernel_rfl) (by simp) ?_
        refine AllReadyIn.cons rfl (fun K hK => ?_) ?_
        · go_simp
          first | refine hK _ _ ?_ | (gi_wp2; try refine hK _ _ ?_)
          change wpAnyIn _ _ _ _ _ _ 5 #[true, true, true, false, false, false, false, false] _ _
          exact r012 0
        refine AllReadyIn.cons rfl (fun K hK => ?_) ?_
        · go_simp
          first | refine hK _ _ ?_ | (gi_wp2; try refine hK _ _ ?_)
          change wpAnyIn _ _ _ _ _ _ 5 #[true, true, false, true, false, false, false, false] _ _
          exact r013 0
        refine AllReadyIn.cons rfl (fun K hK => ?_) ?_
        · go_simp
          first | refine hK _ _ ?_ | (gi_wp2; try refine hK _ _ ?_)
          change wpAnyIn _ _ _ _ _ _ 5 #[true, true, false, false, true, false, false, false] _ _
          exact r014 0
        exact AllReadyIn.nil
      case r03 =>
        intro _
        refine wpAnyIn_ready (rs := [1, 4]) (by kernel_rfl) (by simp) ?_
        refine AllReadyIn.cons rfl (fun K hK => ?_) ?_
        · go_simp
          first | refine hK _ _ ?_ | (gi_wp2; try refine hK _ _ ?_)
          change wpAnyIn _ _ _ _ _ _ 5 #[true, true, false, true, false, false, false, false] _ _
          exact r013 0
        refine AllReadyIn.cons rfl (fun K hK => ?_) ?_
        · go_simp
          first | refine hK _ _ ?_ | (gi_wp2; try refine hK _ _ ?_)
          change wpAnyIn _ _ _ _ _ _ 5 #[true, false, false, true, true, false, false, false] _ _
          exact r034 0
        exact AllReadyIn.nil
      case r04 =>
        intro _
        refine wpAnyIn_ready (rs := [1, 3]) (by kernel_rfl) (by simp) ?_
        refine AllReadyIn.cons rfl (fun K hK => ?_) ?_
        · go_simp
          first | refine hK _ _ ?_ | (gi_wp2; try refine hK _ _ ?_)
          change wpAnyIn _ _ _ _ _ _ 5 #[true, true, false, false, true, false, false, false] _ _
          exact r014 0
        refine AllReadyIn.cons rfl (fun K hK => ?_) ?_
        · go_simp
          first | refine hK _ _ ?_ | (gi_wp2; try refine hK _ _ ?_)
          change wpAnyIn _ _ _ _ _ _ 5 #[true, false, false, true, true, false, false, false] _ _
          exact r034 0
        exact AllReadyIn.nil
      case r13 =>
        intro _
        refine wpAnyIn_ready (rs := [0, 4]) (by kernel_rfl) (by simp) ?_
        refine AllReadyIn.cons rfl (fun K hK => ?_) ?_
        · go_simp
          first | refine hK _ _ ?_ | (gi_wp2; try refine hK _ _ ?_)
          change wpAnyIn _ _ _ _ _ _ 5 #[true, true, false, true, false, false, false, false] _ _
          exact r013 0
        refine AllReadyIn.cons rfl (fun K hK => ?_) ?_
        · go_simp
          first | refine hK _ _ ?_ | (gi_wp2; try refine hK _ _ ?_)
          change wpAnyIn _ _ _ _ _ _ 5 #[false, true, false, true, true, false, false, false] _ _
          exact r134 0
        exact AllReadyIn.nil
      case r14 =>
        intro _
        refine wpAnyIn_ready (rs := [0, 3]) (by kernel_rfl) (by simp) ?_
        refine AllReadyIn.cons rfl (fun K hK => ?_) ?_
        · go_simp
          first | refine hK _ _ ?_ | (gi_wp2; try refine hK _ _ ?_)
          change wpAnyIn _ _ _ _ _ _ 5 #[true, true, false, false, true, false, false, false] _ _
          exact r014 0
        refine AllReadyIn.cons rfl (fun K hK => ?_) ?_
        · go_simp
          first | refine hK _ _ ?_ | (gi_wp2; try refine hK _ _ ?_)
          change wpAnyIn _ _ _ _ _ _ 5 #[false, true, false, true, true, false, false, false] _ _
          exact r134 0
        exact AllReadyIn.nil
      case r34 =>
        intro _
        refine wpAnyIn_ready (rs := [0, 1, 5]) (by kernel_rfl) (by simp) ?_
        refine AllReadyIn.cons rfl (fun K hK => ?_) ?_
        · go_simp
          first | refine hK _ _ ?_ | (gi_wp2; try refine hK _ _ ?_)
          change wpAnyIn _ _ _ _ _ _ 5 #[true, false, false, true, true, false, false, false] _ _
          exact r034 0
        refine AllReadyIn.cons rfl (fun K hK => ?_) ?_
        · go_simp
          first | refine hK _ _ ?_ | (gi_wp2; try refine hK _ _ ?_)
          change wpAnyIn _ _ _ _ _ _ 5 #[false, true, false, true, true, false, false, false] _ _
          exact r134 0
        refine AllReadyIn.cons rfl (fun K hK => ?_) ?_
        · go_simp
          first | refine hK _ _ ?_ | (gi_wp2; try refine hK _ _ ?_)
          change wpAnyIn _ _ _ _ _ _ 5 #[false, false, false, true, true, true, false, false] _ _
          exact r345 0
        exact AllReadyIn.nil
      case r012 =>
        intro _
        refine wpAnyIn_ready (rs := [3, 4, 6]) (by kernel_rfl) (by simp) ?_
        refine AllReadyIn.cons rfl (fun K hK => ?_) ?_
        · go_simp
          first | refine hK _ _ ?_ | (gi_wp2; try refine hK _ _ ?_)
          change wpAnyIn _ _ _ _ _ _ 4 #[true, true, true, true, false, false, false, false] _ _
          exact r0123 0
        refine AllReadyIn.cons rfl (fun K hK => ?_) ?_
        · go_simp
          first | refine hK _ _ ?_ | (gi_wp2; try refine hK _ _ ?_)
          change wpAnyIn _ _ _ _ _ _ 4 #[true, true, true, false, true, false, false, false] _ _
          exact r0124 0
        refine AllReadyIn.cons rfl (fun K hK => ?_) ?_
        · go_simp
          first | refine hK _ _ ?_ | (gi_wp2; try refine hK _ _ ?_)
          change wpAnyIn _ _ _ _ _ _ 4 #[true, true, true, false, false, false, true, false] _ _
          exact r0126 0
        exact AllReadyIn.nil
      case r013 =>
        intro _
        refine wpAnyIn_ready (rs := [2, 4]) (by kernel_rfl) (by simp) ?_
        refine AllReadyIn.cons rfl (fun K hK => ?_) ?_
        · go_simp
          first | refine hK _ _ ?_ | (gi_wp2; try refine hK _ _ ?_)
          change wpAnyIn _ _ _ _ _ _ 4 #[true, true, true, true, false, false, false, false] _ _
          exact r0123 0
        refine AllReadyIn.cons rfl (fun K hK => ?_) ?_
        · go_simp
          first | refine hK _ _ ?_ | (gi_wp2; try refine hK _ _ ?_)
          change wpAnyIn _ _ _ _ _ _ 4 #[true, true, false, true, true, false, false, false] _ _
          exact r0134 0
        exact AllReadyIn.nil
      case r014 =>
        intro _
        refine wpAnyIn_ready (rs := [2, 3]) (by kernel_rfl) (by simp) ?_
        refine AllReadyIn.cons rfl (fun K hK => ?_) ?_
        · go_simp
          first | refine hK _ _ ?_ | (gi_wp2; try refine hK _ _ ?_)
          change wpAnyIn _ _ _ _ _ _ 4 #[true, true, true, false, true, false, false, false] _ _
          exact r0124 0
        refine AllReadyIn.cons rfl (fun K hK => ?_) ?_
        · go_simp
          first | refine hK _ _ ?_ | (gi_wp2; try refine hK _ _ ?_)
          change wpAnyIn _ _ _ _ _ _ 4 #[true, true, false, true, true, false, false, false] _ _
          exact r0134 0
        exact AllReadyIn.nil
      case r034 =>
        intro _
        refine wpAnyIn_ready (rs := [1, 5]) (by kernel_rfl) (by simp) ?_
        refine AllReadyIn.cons rfl (fun K hK => ?_) ?_
        · go_simp
          first | refine hK _ _ ?_ | (gi_wp2; try refine hK _ _ ?_)
          change wpAnyIn _ _ _ _ _ _ 4 #[true, true, false, true, true, false, false, false] _ _
          exact r0134 0
        refine AllReadyIn.cons rfl (fun K hK => ?_) ?_
        · go_simp
          first | refine hK _ _ ?_ | (gi_wp2; try refine hK _ _ ?_)
          change wpAnyIn _ _ _ _ _ _ 4 #[true, false, false, true, true, true, false, false] _ _
          exact r0345 0
        exact AllReadyIn.nil
      case r134 =>
        intro _
        refine wpAnyIn_ready (rs := [0, 5]) (by kernel_rfl) (by simp) ?_
        refine AllReadyIn.cons rfl (fun K hK => ?_) ?_
        · go_simp
          first | refine hK _ _ ?_ | (gi_wp2; try refine hK _ _ ?_)
          change wpAnyIn _ _ _ _ _ _ 4 #[true, true, false, true, true, false, false, false] _ _
          exact r0134 0
        refine AllReadyIn.cons rfl (fun K hK => ?_) ?_
        · go_simp
          first | refine hK _ _ ?_ | (gi_wp2; try refine hK _ _ ?_)
          change wpAnyIn _ _ _ _ _ _ 4 #[false, true, false, true, true, true, false, false] _ _
          exact r1345 0
        exact AllReadyIn.nil
      case r345 =>
        intro _
        refine wpAnyIn_ready (rs := [0, 1]) (by kernel_rfl) (by simp) ?_
        refine AllReadyIn.cons rfl (fun K hK => ?_) ?_
        · go_simp
          first | refine hK _ _ ?_ | (gi_wp2; try refine hK _ _ ?_)
          change wpAnyIn _ _ _ _ _ _ 4 #[true, false, false, true, true, true, false, false] _ _
          exact r0345 0
        refine AllReadyIn.cons rfl (fun K hK => ?_) ?_
        · go_simp
          first | refine hK _ _ ?_ | (gi_wp2; try refine hK _ _ ?_)
          change wpAnyIn _ _ _ _ _ _ 4 #[false, true, false, true, true, true, false, false] _ _
          exact r1345 0
        exact AllReadyIn.nil
      case r0123 =>
        intro _
        refine wpAnyIn_ready (rs := [4, 6]) (by kernel_rfl) (by simp) ?_
        refine AllReadyIn.cons rfl (fun K hK => ?_) ?_
        · go_simp
          first | refine hK _ _ ?_ | (gi_wp2; try refine hK _ _ ?_)
          change wpAnyIn _ _ _ _ _ _ 3 #[true, true, true, true, true, false, false, false] _ _
          exact r01234 0
        refine AllReadyIn.cons rfl (fun K hK => ?_) ?_
        · go_simp
          first | refine hK _ _ ?_ | (gi_wp2; try refine hK _ _ ?_)
          change wpAnyIn _ _ _ _ _ _ 3 #[true, true, true, true, false, false, true, false] _ _
          exact r01236 0
        exact AllReadyIn.nil
      case r0124 =>
        intro _
        refine wpAnyIn_ready (rs := [3, 6]) (by kernel_rfl) (by simp) ?_
        refine AllReadyIn.cons rfl (fun K hK => ?_) ?_
        · go_simp
          first | refine hK _ _ ?_ | (gi_wp2; try refine hK _ _ ?_)
          change wpAnyIn _ _ _ _ _ _ 3 #[true, true, true, true, true, false, false, false] _ _
          exact r01234 0
        refine AllReadyIn.cons rfl (fun K hK => ?_) ?_
        · go_simp
          first | refine hK _ _ ?_ | (gi_wp2; try refine hK _ _ ?_)
          change wpAnyIn _ _ _ _ _ _ 3 #[true, true, true, false, true, false, true, false] _ _
          exact r01246 0
        exact AllReadyIn.nil
      case r0126 =>
        intro _
        refine wpAnyIn_ready (rs := [3, 4]) (by kernel_rfl) (by simp) ?_
        refine AllReadyIn.cons rfl (fun K hK => ?_) ?_
        · go_simp
          first | refine hK _ _ ?_ | (gi_wp2; try refine hK _ _ ?_)
          change wpAnyIn _ _ _ _ _ _ 3 #[true, true, true, true, false, false, true, false] _ _
          exact r01236 0
        refine AllReadyIn.cons rfl (fun K hK => ?_) ?_
        · go_simp
          first | refine hK _ _ ?_ | (gi_wp2; try refine hK _ _ ?_)
          change wpAnyIn _ _ _ _ _ _ 3 #[true, true, true, false, true, false, true, false] _ _
          exact r01246 0
        exact AllReadyIn.nil
      case r0134 =>
        intro _
        refine wpAnyIn_ready (rs := [2, 5]) (by kernel_rfl) (by simp) ?_
        refine AllReadyIn.cons rfl (fun K hK => ?_) ?_
        · go_simp
          first | refine hK _ _ ?_ | (gi_wp2; try refine hK _ _ ?_)
          change wpAnyIn _ _ _ _ _ _ 3 #[true, true, true, true, true, false, false, false] _ _
          exact r01234 0
        refine AllReadyIn.cons rfl (fun K hK => ?_) ?_
        · go_simp
          first | refine hK _ _ ?_ | (gi_wp2; try refine hK _ _ ?_)
          change wpAnyIn _ _ _ _ _ _ 3 #[true, true, false, true, true, true, false, false] _ _
          exact r01345 0
        exact AllReadyIn.nil
      case r0345 =>
        intro _
        refine wpAnyIn_ready (rs := [1]) (by kernel_rfl) (by simp) ?_
        refine AllReadyIn.cons rfl (fun K hK => ?_) ?_
        · go_simp
          first | refine hK _ _ ?_ | (gi_wp2; try refine hK _ _ ?_)
          change wpAnyIn _ _ _ _ _ _ 3 #[true, true, false, true, true, true, false, false] _ _
          exact r01345 0
        exact AllReadyIn.nil
      case r1345 =>
        intro _
        refine wpAnyIn_ready (rs := [0]) (by kernel_rfl) (by simp) ?_
        refine AllReadyIn.cons rfl (fun K hK => ?_) ?_
        · go_simp
          first | refine hK _ _ ?_ | (gi_wp2; try refine hK _ _ ?_)
          change wpAnyIn _ _ _ _ _ _ 3 #[true, true, false, true, true, true, false, false] _ _
          exact r01345 0
        exact AllReadyIn.nil
      case r01234 =>
        intro _
        refine wpAnyIn_ready (rs := [5, 6]) (by kernel_rfl) (by simp) ?_
        refine AllReadyIn.cons rfl (fun K hK => ?_) ?_
        · go_simp
          first | refine hK _ _ ?_ | (gi_wp2; try refine hK _ _ ?_)
          change wpAnyIn _ _ _ _ _ _ 2 #[true, true, true, true, true, true, false, false] _ _
          exact r012345 0
        refine AllReadyIn.cons rfl (fun K hK => ?_) ?_
        · go_simp
          first | refine hK _ _ ?_ | (gi_wp2; try refine hK _ _ ?_)
          change wpAnyIn _ _ _ _ _ _ 2 #[true, true, true, true, true, false, true, false] _ _
          exact r012346 0
        exact AllReadyIn.nil
      case r01236 =>
        intro _
        refine wpAnyIn_ready (rs := [4]) (by kernel_rfl) (by simp) ?_
        refine AllReadyIn.cons rfl (fun K hK => ?_) ?_
        · go_simp
          first | refine hK _ _ ?_ | (gi_wp2; try refine hK _ _ ?_)
          change wpAnyIn _ _ _ _ _ _ 2 #[true, true, true, true, true, false, true, false] _ _
          exact r012346 0
        exact AllReadyIn.nil
      case r01246 =>
        intro _
        refine wpAnyIn_ready (rs := [3]) (by kernel_rfl) (by simp) ?_
        refine AllReadyIn.cons rfl (fun K hK => ?_) ?_
        · go_simp
          first | refine hK _ _ ?_ | (gi_wp2; try refine hK _ _ ?_)
          change wpAnyIn _ _ _ _ _ _ 2 #[true, true, true, true, true, false, true, false] _ _
          exact r012346 0
        exact AllReadyIn.nil
      case r01345 =>
        intro _
        refine wpAnyIn_ready (rs := [2]) (by kernel_rfl) (by simp) ?_
        refine AllReadyIn.cons rfl (fun K hK => ?_) ?_
        · go_simp
          first | refine hK _ _ ?_ | (gi_wp2; try refine hK _ _ ?_)
          change wpAnyIn _ _ _ _ _ _ 2 #[true, true, true, true, true, true, false, false] _ _
          exact r012345 0
        exact AllReadyIn.nil
      case r012345 =>
        intro _
        refine wpAnyIn_ready (rs := [6]) (by kernel_rfl) (by simp) ?_
        refine AllReadyIn.cons rfl (fun K hK => ?_) ?_
        · go_simp
          first | refine hK _ _ ?_ | (gi_wp2; try refine hK _ _ ?_)
          change wpAnyIn _ _ _ _ _ _ 1 #[true, true, true, true, true, true, true, false] _ _
          exact r0123456 0
        exact AllReadyIn.nil
      case r012346 =>
        intro _
        refine wpAnyIn_ready (rs := [5]) (by kernel_rfl) (by simp) ?_
        refine AllReadyIn.cons rfl (fun K hK => ?_) ?_
        · go_simp
          first | refine hK _ _ ?_ | (gi_wp2; try refine hK _ _ ?_)
          change wpAnyIn _ _ _ _ _ _ 1 #[true, true, true, true, true, true, true, false] _ _
          exact r0123456 0
        exact AllReadyIn.nil
      case r0123456 =>
        intro _
        refine wpAnyIn_ready (rs := [7]) (by kernel_rfl) (by simp) ?_
        refine AllReadyIn.cons rfl (fun K hK => ?_) ?_
        · go_simp
          first | refine hK _ _ ?_ | (gi_wp2; try refine hK _ _ ?_)
          change wpAnyIn _ _ _ _ _ _ 0 #[true, true, true, true, true, true, true, true] _ _
          exact rEND 0
        exact AllReadyIn.nil
      case rEND =>
       intro _
       refine wpAnyIn_done (by kernel_rfl) ?_ _
       gi_wp2
       exact ⟨((((KeepsOthers.setCell W _ _).trans (KeepsOthers.setCell _ _ _)).trans (KeepsOthers.setCell _ _ _)).trans (KeepsOthers.drew _)).from _,
        kh_drew (((KH.set W _ (by omega)).trans (KH.set _ _ (by omega))).trans (KH.set _ _ (by omega))),
        ⟨by rw [E2.out]; exact box_drew (boxed_set_other _ (Boxed.set _ (boxed_set_other _ c0 (by omega))) (by omega)),
         by rw [E3.out]; exact box_drew (Boxed.set _ (boxed_set_other _ (boxed_set_other _ c1 (by omega)) (by omega))),
         by rw [E1.out]; exact box_drew (boxed_set_other _ (boxed_set_other _ (c2.set _) (by omega)) (by omega))⟩,
        (((hB.setCell (p := ⟨w1.heap.size + 1 + 1, 0, none⟩) (by simp; omega) _).setCell (p := ⟨w1.heap.size, 0, none⟩) (by simp) _).setCell (p := ⟨w1.heap.size + 1, 0, none⟩) (by simp) _).drew⟩
  case done =>
    rintro D ys W hD' hys ⟨⟨c0, c1, c2⟩, hB⟩ hK
    rw [hys, fold_done] at c0 c1 c2
    have d0 := c0.cell; have d1 := c1.cell
    simp only at d0 d1
    have bL := Lo_bd _ (vAt_bd true s) s.size
    have bH := Hi_bd _ (vAt_bd true s) s.size
    have HW : Hid (wid true s = Hi (vAt true s) s.size - Lo (vAt true s) s.size) := rfl
    gi_wp2
    refine ⟨by simp, .inl ⟨_, _, rfl, run_takeDeferred hK, ?_⟩⟩
    refine ⟨_, results_tmp2 (t := 4) (u := 5) rfl _ _ _, ?_, (hD.below _).trans (below_put (w := w1) hB (by simp at hD'; omega) hK _ |>.mono (by obtain ⟨k, rfl⟩ := hD; exact Nat.le_refl _))⟩
    exact ret_bi (by rw [HW.out])
  case stop =>
    rintro D c pre W _ _ h _
    exact h.elim

set_option maxHeartbeats 400000 in
theorem nullv_any (n : Int) (s : ByteArray) (w : World) (hs : s.size ≤ maxLen) :
    Calls Tryd.prog 10 #[.int .i64 n, .string s] w fun e w' => e = .returned (.tuple #[.bool (vld true 31 n s).1, .int .i64 (vld true 31 n s).2]) ∧ Below w.heap.size w w' := by
  by_cases h1 : n < 1
  · have HP := hidI (vld_out true 31 n s (.inl h1))
    go_enter Tryd.func10, Tryd.ntmps10
    go_wp2
    go_ret2
    exact ⟨ret_bi HP.out, Below.refl _ _⟩
  by_cases h2 : 31 < n
  · have HP := hidI (vld_out true 31 n s (.inr h2))
    go_enter Tryd.func10, Tryd.ntmps10
    go_wp2
    go_ret2
    exact ⟨ret_bi HP.out, Below.refl _ _⟩
  by_cases hc : wchk 2 s.data.toList = 0
  · have HP := vld_ok true 31 n s (by omega) (by omega) hc
    rw [HP]
    exact callsIn_wide.1 (nullv_ok_in n (by omega) (by omega) s w hc (wchk_long2 s hc) hs)
  · have HP := hidI (vld_bad true 31 n s (by omega) (by omega) hc)
    have hc' : (wchk 2 s.data.toList == 0) = false := by simpa using hc
    clear hc
    go_enter Tryd.func10, Tryd.ntmps10
    go_wp2_with fail
    refine (wcheck_any 2 s _ hs).mono ?_
    rintro e w1 ⟨rfl, hD⟩
    go_wp2
    go_ret2
    exact ⟨ret_bi HP.out, hD.below _⟩
end Go.Proofs.YtpopaehdmeejpaaDoor
