/-
  Walks: the list of all binary words of a length.
-/
import Derived.Test.YtccdocnaijdcnaaWs
namespace Go.Proofs.Ytccdocnaijdcnaa
open Go.RowKit

def ext2 (s : ByteArray) : List ByteArray := [s ++ ⟨#[48]⟩, s ++ ⟨#[49]⟩]
def allW : Nat → List ByteArray | 0 => [⟨#[]⟩] | n + 1 => (allW n).flatMap ext2
theorem flat_len (l : List ByteArray) : (l.flatMap ext2).length = 2 * l.length := by
  induction l with
  | nil => rfl
  | cons s l ih => rw [List.flatMap_cons, List.length_append, ih, List.length_cons]; simp [ext2]; omega
theorem allW_len (n : Nat) : (allW n).length = 2 ^ n := by
  induction n with
  | zero => rfl
  | succ n ih => rw [allW, flat_len, ih]; omega
theorem flat_take (l : List ByteArray) (k : Nat) (h : k < l.length) : (l.take (k + 1)).flatMap ext2 = (l.take k).flatMap ext2 ++ [l[k] ++ ⟨#[48]⟩] ++ [l[k] ++ ⟨#[49]⟩] := by
  rw [List.take_succ_eq_append_getElem h, List.flatMap_append]; simp [ext2]

theorem flat_size (l : List ByteArray) (i : Nat) (h : ∀ s ∈ l, s.size = i) : ∀ s ∈ l.flatMap ext2, s.size = i + 1 := by
  intro s hs
  obtain ⟨r, hr, hs⟩ := List.mem_flatMap.1 hs
  simp only [ext2, List.mem_cons, List.not_mem_nil, or_false] at hs
  rcases hs with rfl | rfl <;> (rw [ByteArray.size_append, h r hr]; rfl)
theorem allW_size (n : Nat) : ∀ s ∈ allW n, s.size = n := by
  induction n with
  | zero => simp [allW]; rfl
  | succ n ih => exact flat_size _ _ ih

theorem sub0 : (⟨#[48, 49, 50, 51, 52, 53, 54, 55, 56, 57, 97, 98, 99, 100, 101, 102]⟩ : ByteArray).extract 0 1 = ⟨#[48]⟩ := by decide
theorem sub1 : (⟨#[48, 49, 50, 51, 52, 53, 54, 55, 56, 57, 97, 98, 99, 100, 101, 102]⟩ : ByteArray).extract 1 2 = ⟨#[49]⟩ := by decide
theorem wall_one {w : World} {B e n m : Nat} {v : Value} {xs : List ByteArray} {s y : ByteArray} (h : w.ownsRow B e 1 v n ((xs ++ (ext2 s).take m).map Value.string ++ [.string y])) (hm : (ext2 s)[m]? = some y) :
    w.ownsRow B e 1 v n ((xs ++ (ext2 s).take (m + 1)).map Value.string) := by
  rw [List.take_add_one, hm]; simpa using h

theorem own_mono {w : World} {B B' e n : Nat} {v : Value} {xs : List Value} (h : w.ownsRow B e 1 v n xs) (hB : B' ≤ B) : w.ownsRow B' e 1 v n xs :=
  ⟨h.1, h.2.imp id fun ⟨g, c, cur, e1, hg, r⟩ => ⟨g, c, cur, e1, Nat.le_trans hB hg, r⟩⟩

theorem infoString : (Try.prog.info? 9).map (fun i => (i.zero, i.size, i.bytes)) = some (some (.string ByteArray.empty), 1, 16) := by kernel_rfl

set_option maxRecDepth 100000 in
set_option maxHeartbeats 2000000 in
theorem wall_any (n : Nat) (w : World) (hn : n ≤ 10) :
    Calls Try.prog 26 #[.int .i64 2, .int .i64 n] w fun e w' => ∃ v, e = .returned (.tuple #[v, .int .i64 0]) ∧
      w'.ownsRow w.heap.size 9 1 v (2 ^ n) ((allW n).map Value.string) ∧ Below w.heap.size w w' := by
  obtain ⟨i0, hi0, hz0, hz1, hz2⟩ := info_parts infoString
  go_enter Try.func26, Try.ntmps26
  go_wp2_with (go_at_call 36; refine (known_t _ _ (by omega) (by omega)).mono ?_; rintro e w' ⟨rfl, rfl⟩)
  go_loopw [6, 28] (fun v iv wr => ∃ i : Nat, i ≤ n ∧ iv = .int .i64 i ∧ wr.ownsRow w.heap.size 9 1 v (2 ^ i) ((allW i).map Value.string) ∧ Below w.heap.size w wr) (fun _ iv _ => n - (intOf iv).toNat)
  case atStart => exact ⟨0, by omega, rfl, own_new w w.heap.size [.string ⟨#[]⟩] 9 (Nat.le_refl _) (by simp [maxLen]), (Below.refl _ _).alloc (Nat.le_refl _) _⟩
  case round =>
    obtain ⟨i, hi, rfl, hown, hB⟩ := hrel
    have hlen := hidI (allW_len i)
    have hp1 : 1 ≤ 2 ^ i := Nat.one_le_two_pow
    have hp2 : 2 ^ i ≤ 2 ^ 10 := Nat.pow_le_pow_right (by omega) (by omega)
    have HP := hidI (Nat.pow_succ 2 i)
    have hsz := hidI (allW_size i)
    have HA : Hid (allW (i + 1) = (allW i).flatMap ext2) := rfl
    by_cases hlt : i < n
    · have hp3 : 2 ^ i ≤ 2 ^ 9 := Nat.pow_le_pow_right (by omega) (by omega)
      generalize hN : 2 ^ i = N at *
      generalize allW i = L at *
      obtain ⟨N, rfl⟩ : ∃ m, N = m + 1 := ⟨N - 1, by omega⟩
      obtain ⟨g, c, rfl⟩ := ownsRow_succ hown
      obtain ⟨hg0, hg1⟩ := hown.lt g rfl
      have hcell : Hid (∀ k (h : k < L.length), wr.cell? ⟨g, k, none⟩ = some (.string L[k])) := fun k h => by
        rw [hown.cellAt k (by have := hlen.out; omega)]; simp [h]
      go_wp2_with (at_make; refine wpList_make_own _ rfl _ _ 22 rfl wr.heap.size 9 i0 (.string ByteArray.empty) 1 Try.underlying22 hi0 hz0 hz1 .i64 .i64 _ (2 * (N + 1)) rfl rfl (by omega) (by rw [hz2]; omega) (by simp [maxLen]; omega) (Nat.le_refl _) ?_; intro w1 hown1 hgrow1)
      obtain ⟨W0, rfl⟩ : ∃ W, W = wr := ⟨_, rfl⟩
      go_loopw [7, 42] (fun v iv wm => ∃ k : Nat, k ≤ N + 1 ∧ iv = .int .i64 k ∧ wm.ownsRow W0.heap.size 9 1 v (2 * k) (((L.take k).flatMap ext2).map Value.string) ∧ Below W0.heap.size W0 wm) (fun _ iv _ => N + 1 - (intOf iv).toNat)
      case atStart => exact ⟨0, by omega, rfl, by simpa using hown1, (Below.refl _ W0).grown hgrow1 (Nat.le_refl _) (fun k e => by cases e)⟩
      case round =>
        obtain ⟨k, hk, rfl, hownk, hBk⟩ := hrel
        by_cases hkt : k < N + 1
        · have hkl : k < L.length := by have := hlen.out; omega
          have hc1 : _ = some (Value.string L[k]) := (hBk.cell (p := ⟨g, k, none⟩) hg1).trans (hcell.out k hkl)
          have hft := hidI (flat_take L k hkl)
          go_wp2
          have hsk : (L[k]).size = i := hsz.out _ (List.getElem_mem hkl)
          generalize L[k] = sk at hc1 hft hsk
          rw [decide_eq_true (show (k : Int) < (N : Int) + 1 by omega)]
          go_loopw [7, 47] (fun v iv wm => ∃ m : Nat, m ≤ 2 ∧ iv = .int .i64 m ∧ wm.ownsRow W0.heap.size 9 1 v (2 * k + m) (((L.take k).flatMap ext2 ++ (ext2 sk).take m).map Value.string) ∧ Below W0.heap.size W0 wm) (fun _ iv _ => 2 - (intOf iv).toNat)
          case atStart => exact ⟨0, by omega, rfl, by simpa using hownk, hBk⟩
          case round =>
            obtain ⟨m, hm, rfl, hownm, hBm⟩ := hrel
            have hcases : m = 0 ∨ m = 1 ∨ m = 2 := by omega
            rcases hcases with rfl | rfl | rfl
            · go_wp2_with (at_builtin; refine wpList_append_own _ rfl _ _ 22 rfl W0.heap.size 9 i0 (.string ByteArray.empty) 1 16 Try.underlying22 hi0 hz0 hz1 hz2 rfl (by decide) _ _ _ rfl (hownm.alloc _) ⟨wr.heap.size, 0, none⟩ 1 1 _ rfl rfl (cell_one_new _ _ _) (by simp [Value.oneCell']) (by simp [maxLen]; omega) (by omega) (by have := hBm.size; simp; omega) ?_; intro v' w3 hown' hgrow' _)
              have hr := wall_one hown' (by rw [sub0]; rfl)
              go_roundw
              case rel => exact ⟨1, by omega, rfl, hr, (hBm.alloc hBm.size _).grown hgrow' (by simp; have := hBm.size; omega) (fun j e => (hownm.lt j e).1)⟩
              case measure => simp [intOf]
            · go_wp2_with (at_builtin; refine wpList_append_own _ rfl _ _ 22 rfl W0.heap.size 9 i0 (.string ByteArray.empty) 1 16 Try.underlying22 hi0 hz0 hz1 hz2 rfl (by decide) _ _ _ rfl (hownm.alloc _) ⟨wr.heap.size, 0, none⟩ 1 1 _ rfl rfl (cell_one_new _ _ _) (by simp [Value.oneCell']) (by simp [maxLen]; omega) (by omega) (by have := hBm.size; simp; omega) ?_; intro v' w3 hown' hgrow' _)
              have hr := wall_one hown' (by rw [sub1]; rfl)
              go_roundw
              case rel => exact ⟨2, by omega, rfl, hr, (hBm.alloc hBm.size _).grown hgrow' (by simp; have := hBm.size; omega) (fun j e => (hownm.lt j e).1)⟩
              case measure => simp [intOf]
            · go_wp2
              have hr : wr.ownsRow W0.heap.size 9 1 u7 (2 * (k + 1)) (((L.take (k + 1)).flatMap ext2).map Value.string) := by rw [hft.out, show 2 * (k + 1) = 2 * k + 2 by omega]; simpa [ext2] using hownm
              go_roundw
              case rel => exact ⟨k + 1, by omega, by go_num, hr, hBm⟩
              case measure => simp [intOf]; omega
        · obtain rfl : k = N + 1 := by omega
          go_wp2
          have hr : wr.ownsRow W0.heap.size 9 1 u7 (2 ^ (i + 1)) ((allW (i + 1)).map Value.string) := by rw [HA.out, HP.out, Nat.mul_comm]; rw [List.take_of_length_le (by have := hlen.out; omega)] at hownk; exact hownk
          go_roundw
          case rel => exact ⟨i + 1, by omega, by go_num, own_mono hr hB.size, hB.trans (hBk.mono hB.size)⟩
          case measure => simp [intOf]; omega
    · obtain rfl : i = n := by omega
      go_wp2
      go_ret2
      exact ⟨_, rfl, hown, hB⟩
end Go.Proofs.Ytccdocnaijdcnaa
