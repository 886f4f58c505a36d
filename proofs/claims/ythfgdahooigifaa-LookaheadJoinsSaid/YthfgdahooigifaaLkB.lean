/-
  Walks: the map of the swaps, and the check of tables.
-/
import Derived.Test.YthfgdahooigifaaLkA
import Derived.WideKeyPair
namespace Go.Proofs.Ythfgdahooigifaa
open Go.RowKit

/-! ### Keys -/
def k2 (x : Int × Int) : Value := .agg #[.int .i64 x.1, .int .i64 x.2]
def ok2 (x : Int × Int) : Prop := (Lit.int .i64 x.1).wf = true ∧ (Lit.int .i64 x.2).wf = true
theorem arr2 : WideMaps.ArrKey Try.prog 54 3 2 := ⟨Try.underlying54, by kernel_rfl, by kernel_rfl, by kernel_rfl⟩
theorem key2 : KeyBy Try.prog 54 k2 ok2 where
  law := Maps.Keyed.of_law arr2.law
  reads := fun a ha => ⟨_, WideMaps.keyOf_pair arr2 Try.underlying3 ⟨Try.prog.types.size - 1, by kernel_rfl⟩ ha.1 ha.2⟩
  inj := fun a b _ _ h => by
    obtain ⟨a1, a2⟩ := a; obtain ⟨b1, b2⟩ := b
    simp [k2] at h
    exact Prod.ext h.1 h.2
theorem zeroStr (w : World) : (zeroValue 9).run Try.prog w = .ok (.string ⟨#[]⟩) w := by kernel_rfl
/-- A map of the swaps, in block b. -/
def SwM (l : List Sw) (w : World) (b : Nat) : Prop := Mp k2 ok2 Value.string w b (swapF l)
theorem SwM.nil (w : World) : SwM [] (w.alloc (.map #[] 0)) w.heap.size := Mp.made w

set_option maxHeartbeats 1000000 in
theorem lkPairs_any (T : Tb) (p1 p2 : Option Addr) (c1 c2 : Nat) (w : World) (hp : Sg 3 w swE p2 T.swaps) (h2 : T.swaps.length ≤ 9223372036854775807) (hok : ∀ j (h : j < T.swaps.length), ok2 (T.swaps[j].i, T.swaps[j].j)) :
    Calls Try.prog 22 #[.agg #[.int .i64 T.q, .int .i64 T.n, .slice p1 T.base.length c1, .slice p2 T.swaps.length c2]] w fun e w' => e = .returned (.map (some (w.heap.size + 1))) ∧ SwM T.swaps w' (w.heap.size + 1) ∧ Below w.heap.size w w' := by
  have HO := hidI hok
  clear hok
  have hmm := @run_makeMap Try.prog
  go_enter Try.func22, Try.ntmps22
  go_wp2
  go_loopw [10] (fun iv wr => ∃ k : Nat, k ≤ T.swaps.length ∧ iv = .int .i64 k ∧ SwM (T.swaps.take k) wr (w.heap.size + 1) ∧ Below w.heap.size w wr) (fun iv _ => T.swaps.length - (intOf iv).toNat)
  case atStart =>
    refine ⟨0, by omega, rfl, ?_, ((Below.refl _ _).alloc (Nat.le_refl _) _).alloc (by simp) _⟩
    have h := SwM.nil (w.alloc (.cells #[.int .i64 T.q, .int .i64 T.n, .slice p1 T.base.length c1, .slice p2 T.swaps.length c2] 25))
    rwa [World.size_alloc] at h
  case round =>
    obtain ⟨k, hk, rfl, hM, hB⟩ := hrel
    by_cases hlt : k < T.swaps.length
    · obtain ⟨b1, o1, rfl, hb1, e0, e1, e2⟩ := (hp.below hB).get3 k hlt rfl
      have HT := hidI (swapF_take T.swaps k hlt)
      have hok := HO.out k hlt
      go_wp2_with (at_mapUpdate; refine wpList_update_mp rfl _ _ _ 48 rfl 9 key2 Try.underlying48 (w.heap.size + 1) (swapF (T.swaps.take k)) rfl ((hM.alloc _)) (T.swaps[k].i, T.swaps[k].j) rfl hok T.swaps[k].wd rfl ?_; intro w1 hM1 hturn)
      go_roundw
      case rel => exact ⟨k + 1, by omega, by go_num, hM1.congr (fun x => (HT.out x).symm), (hB.alloc hB.size _).grown hturn.grown (Nat.le_trans hB.size (by simp)) (fun j e => by cases e; omega)⟩
      case measure => simp [intOf]; omega
    · obtain rfl : k = T.swaps.length := by omega
      rw [List.take_length] at hM
      go_wp2
      go_ret
      exact ⟨rfl, hM, hB⟩
end Go.Proofs.Ythfgdahooigifaa
