/-
  Walks: the inputs that a law picks; lists joined; swaps asked by a function.
-/
import Derived.Test.YthfgdahooigifaaLkE
import Derived.Test.YthfgdahooigifaaLookJ
namespace Go.Proofs.Ythfgdahooigifaa
open Go.RowKit

theorem infoInt : (Try.prog.info? 3).map (fun i => (i.zero, i.size, i.bytes)) = some (some (.int .i64 0), 1, 8) := by kernel_rfl
/-- A list of numbers in memory of the call's own. -/
def RetSl (r : List Int) (w : World) (e : Ending) (w' : World) : Prop := ∃ p c, e = .returned (.slice p r.length c) ∧ Sl w' (Value.int .i64) p r ∧ r.length ≤ c ∧ Below w.heap.size w w'
theorem RetSl.mk {r : List Int} {w w' : World} {B e n : Nat} {v : Value} {l : List Int} (h : w'.ownsRow B e 1 v n (l.map (Value.int .i64))) (hr : l = r) (hB : Below w.heap.size w w') : RetSl r w (.returned v) w' := by
  subst hr
  obtain ⟨p, c, rfl, hs⟩ := own_sl h
  exact ⟨p, c, rfl, hs, by have := own_cap h _ _ _ rfl; have := h.1; simp at this; omega, hB⟩
def u8v (b : UInt8) : Value := .int .u8 b.toNat
theorem picks_take {N : Nat} {l : List UInt8} {k : Nat} (h : k < l.length) : (picks N (l.take (k + 1))).map (Value.int .i64) = (picks N (l.take k)).map (Value.int .i64) ++ [.int .i64 ((l[k].toNat : Int) % N)] := by
  rw [List.take_succ_eq_append_getElem h]; unfold picks; rw [List.map_append, List.map_append]; rfl

set_option maxHeartbeats 1000000 in
theorem lkSome_any (T : Tb) (p1 p2 : Option Addr) (c1 c2 : Nat) (l : List UInt8) (pl : Option Addr) (cl : Nat) (w : World) (hl : Sl w u8v pl l) (hln : l.length ≤ 1000) (h0 : 0 < T.base.length) (h1 : T.base.length ≤ 9223372036854775807) :
    Calls Try.prog 12 #[.agg #[.int .i64 T.q, .int .i64 T.n, .slice p1 T.base.length c1, .slice p2 T.swaps.length c2], .slice pl l.length cl] w (RetSl (picks T.base.length l) w) := by
  have hB0 : Below w.heap.size w (w.alloc (.cells #[.int .i64 T.q, .int .i64 T.n, .slice p1 T.base.length c1, .slice p2 T.swaps.length c2] 25)) := (Below.refl _ _).alloc (Nat.le_refl _) _
  have b0 : VRow (w.alloc (.cells #[.int .i64 T.q, .int .i64 T.n, .slice p1 T.base.length c1, .slice p2 T.swaps.length c2] 25)) w.heap.size 25 [.int .i64 T.q, .int .i64 T.n, .slice p1 T.base.length c1, .slice p2 T.swaps.length c2] := VRow.new w _ _
  obtain ⟨i0, hi0, hz0, hz1, hz3⟩ := info_parts infoInt
  go_enter Try.func12, Try.ntmps12
  go_wp2
  generalize (w.alloc (.cells #[.int .i64 T.q, .int .i64 T.n, .slice p1 T.base.length c1, .slice p2 T.swaps.length c2] 25)) = w0 at b0 hB0 ⊢
  have hz0' := hB0.size
  go_loopw [5, 10] (fun ov iv wr => ∃ k : Nat, k ≤ l.length ∧ iv = .int .i64 k ∧ wr.ownsRow w0.heap.size 3 1 ov k ((picks T.base.length (l.take k)).map (Value.int .i64)) ∧ Below w0.heap.size w0 wr) (fun _ iv _ => l.length - (intOf iv).toNat)
  case atStart => exact ⟨0, by omega, rfl, World.ownsRow_nil _ _ _ _, Below.refl _ _⟩
  case round =>
    obtain ⟨k, hk, rfl, hown, hB⟩ := hrel
    have hBa := hB0.trans (hB.mono hB0.size)
    have f2 := (b0.below hB b0.lt).at 2 rfl
    by_cases hlt : k < l.length
    · obtain ⟨b1, o1, rfl, hb1, hc1⟩ := (hl.below hBa).get k hlt
      have e1 := hc1 k hlt
      unfold u8v at e1
      have hu := l[k].toNat_lt
      have HT := hidI (picks_take (N := T.base.length) hlt)
      clear hc1
      have hnew := cell_one_at wr (.int .i64 ((l[k].toNat : Int) % T.base.length)) 3 wr.heap.size rfl
      go_wp2_with (at_builtin; refine wpList_append_own _ rfl _ _ 26 rfl w0.heap.size 3 i0 (.int .i64 0) 1 8 Try.underlying26 hi0 hz0 hz1 hz3 rfl (by decide) _ _ _ rfl (hown.alloc _) ⟨wr.heap.size, 0, none⟩ 1 1 [.int .i64 ((l[k].toNat : Int) % T.base.length)] rfl rfl hnew (by simp [Value.oneCell']) (by simp [maxLen]; omega) (by omega) (by rw [World.size_alloc]; have := hB.size; omega) ?_; intro v' w1 hown' hgrow _)
      go_roundw
      case rel => exact ⟨k + 1, by omega, by go_num, by rw [HT.out]; exact hown', (hB.alloc hB.size _).grown hgrow (Nat.le_trans hB.size (by simp)) (fun j e => (hown.lt j e).1)⟩
      case measure => simp [intOf]; omega
    · obtain rfl : k = l.length := by omega
      rw [List.take_length] at hown
      go_wp2
      go_ret
      exact RetSl.mk hown rfl hBa

/-! ### Swaps asked by a function -/
def swV (s : Sw) : Value := .agg #[.int .i64 s.i, .int .i64 s.j, .string s.wd]
def swIs (i j : Int) (s : Sw) : Bool := decide (s.i = i) && decide (s.j = j)
set_option maxHeartbeats 400000 in
theorem lkJ11_any (s : Sw) (i j : Int) (bi bj : Nat) (w : World) (hi : w.cell? ⟨bi, 0, none⟩ = some (.int .i64 i)) (hj : w.cell? ⟨bj, 0, none⟩ = some (.int .i64 j)) (hbi : bi < w.heap.size) (hbj : bj < w.heap.size) (r : Bool) (hr : swIs i j s = r) :
    Calls Try.prog 16 #[.agg #[.int .i64 s.i, .int .i64 s.j, .string s.wd], .pointer (some ⟨bi, 0, none⟩), .pointer (some ⟨bj, 0, none⟩)] w fun e w' => e = .returned (.bool r) ∧ Below w.heap.size w w' := by
  have hB0 : Below w.heap.size w (w.alloc (.cells #[.int .i64 s.i, .int .i64 s.j, .string s.wd] 41)) := (Below.refl _ _).alloc (Nat.le_refl _) _
  have HR := hidI hr
  clear hr
  by_cases h1 : s.i = i
  · have h1b : (s.i == i) = true := by simpa using h1
    by_cases h2 : s.j = j
    · have h2b : (s.j == j) = true := by simpa using h2
      have HT : Hid (r = true) := by unfold Hid; rw [← HR.out]; simp [swIs, h1, h2]
      clear h1 h2
      go_enter Try.func16, Try.ntmps16
      go_wp2
      go_ret
      exact ⟨ret_bool HT.out.symm, hB0⟩
    · have h2b : (s.j == j) = false := by simpa using h2
      have HT : Hid (r = false) := by unfold Hid; rw [← HR.out]; simp [swIs, h2]
      clear h1 h2
      go_enter Try.func16, Try.ntmps16
      go_wp2
      go_ret
      exact ⟨ret_bool HT.out.symm, hB0⟩
  · have h1b : (s.i == i) = false := by simpa using h1
    have HT : Hid (r = false) := by unfold Hid; rw [← HR.out]; simp [swIs, h1]
    clear h1
    go_enter Try.func16, Try.ntmps16
    go_wp2
    go_ret
    exact ⟨ret_bool HT.out.symm, hB0⟩

set_option maxHeartbeats 400000 in
theorem indexSw_any (l : List Sw) (i j : Int) (bi bj : Nat) (p : Option Addr) (c : Nat) (w : World) (hp : Sg 3 w swE p l) (hl : l.length ≤ 9223372036854775807) (hi : w.cell? ⟨bi, 0, none⟩ = some (.int .i64 i)) (hj : w.cell? ⟨bj, 0, none⟩ = some (.int .i64 j)) (hbi : bi < w.heap.size) (hbj : bj < w.heap.size) :
    Calls Try.prog 30 #[.slice p l.length c, .func (.func 16) #[] #[.pointer (some ⟨bi, 0, none⟩), .pointer (some ⟨bj, 0, none⟩)]] w fun e w' => e = .returned (.int .i64 (idxP (swIs i j) l)) ∧ Below w.heap.size w w' := by
  have HI := hidI hi
  have HJ := hidI hj
  clear hi hj
  go_enter Try.func30, Try.ntmps30
  go_wp2
  go_loopw [8] (fun iv wr => ∃ k : Nat, k ≤ l.length ∧ iv = .int .i64 k ∧ Hid (∀ m (hm : m < l.length), m < k → swIs i j l[m] = false) ∧ Below w.heap.size w wr) (fun iv _ => l.length - (intOf iv).toNat)
  case atStart => exact ⟨0, by omega, rfl, fun _ _ h => by omega, Below.refl _ _⟩
  case round =>
    obtain ⟨k, hk, rfl, hm, hB⟩ := hrel
    have gi := (hB.cell (p := ⟨bi, 0, none⟩) hbi).trans HI.out
    have gj := (hB.cell (p := ⟨bj, 0, none⟩) hbj).trans HJ.out
    have zi := Nat.lt_of_lt_of_le hbi hB.size
    have zj := Nat.lt_of_lt_of_le hbj hB.size
    have GI := hidI gi
    have GJ := hidI gj
    clear gi gj
    by_cases hlt : k < l.length
    · obtain ⟨b1, o1, rfl, hb1, e0, e1, e2⟩ := (hp.below hB).get3 k hlt rfl
      cases hh : swIs i j l[k]
      · have HH := hidI hh
        clear hh
        go_wp2_with fail
        refine (lkJ11_any l[k] i j bi bj _ GI.out GJ.out zi zj _ HH.out).mono ?_
        rintro e w1 ⟨rfl, hB1⟩
        have hB2 := hB.trans (hB1.mono hB.size)
        go_wp2
        go_roundw
        case rel => exact ⟨k + 1, by omega, by go_num, fun m h1 h2 => by
          rcases Nat.lt_succ_iff_lt_or_eq.1 h2 with h3 | h3
          · exact hm.out m h1 h3
          · subst h3; exact HH.out, hB2⟩
        case measure => simp [intOf]; omega
      · have HX := hidI (idxP_hit (swIs i j) l k hlt hm.out hh)
        have HH := hidI hh
        clear hh
        go_wp2_with fail
        refine (lkJ11_any l[k] i j bi bj _ GI.out GJ.out zi zj _ HH.out).mono ?_
        rintro e w1 ⟨rfl, hB1⟩
        have hB2 := hB.trans (hB1.mono hB.size)
        go_wp2
        go_ret
        exact ⟨ret_int HX.out.symm, hB2⟩
    · have HM := hidI (idxP_miss (swIs i j) l (fun m h => hm.out m h (by omega)))
      go_wp2
      go_ret
      exact ⟨ret_int HM.out.symm, hB⟩

set_option maxHeartbeats 400000 in
theorem containsSw_any (l : List Sw) (i j : Int) (bi bj : Nat) (p : Option Addr) (c : Nat) (w : World) (hp : Sg 3 w swE p l) (hl : l.length ≤ 9223372036854775807) (hi : w.cell? ⟨bi, 0, none⟩ = some (.int .i64 i)) (hj : w.cell? ⟨bj, 0, none⟩ = some (.int .i64 j)) (hbi : bi < w.heap.size) (hbj : bj < w.heap.size) (r : Bool) (hr : isSw l i j = r) :
    Calls Try.prog 15 #[.slice p l.length c, .func (.func 16) #[] #[.pointer (some ⟨bi, 0, none⟩), .pointer (some ⟨bj, 0, none⟩)]] w fun e w' => e = .returned (.bool r) ∧ Below w.heap.size w w' := by
  have hA : Hid (decide (0 ≤ idxP (swIs i j) l) = r) := by unfold Hid; rw [idxP_any]; exact hr
  have HI := hidI hi
  have HJ := hidI hj
  clear hr hi hj
  go_enter Try.func15, Try.ntmps15
  go_wp2_with fail
  refine (indexSw_any l i j bi bj p c _ hp hl HI.out HJ.out hbi hbj).mono ?_
  rintro e w1 ⟨rfl, hB1⟩
  go_wp2
  go_ret
  exact ⟨ret_bool hA.out, hB1⟩

/-- The closure `swap` of the law. -/
theorem lkJ1_any (T : Tb) (i j : Int) (B : Nat) (p2 : Option Addr) (c2 : Nat) (w : World) (hp : Sg 3 w swE p2 T.swaps) (hl : T.swaps.length ≤ 9223372036854775807) (hc0 : w.cell? ⟨B, 3, none⟩ = some (.slice p2 T.swaps.length c2)) (hBz : B < w.heap.size) (r : Bool) (hr : isSw T.swaps i j = r) :
    Calls Try.prog 14 #[.int .i64 i, .int .i64 j, .pointer (some ⟨B, 0, none⟩)] w fun e w' => e = .returned (.bool r) ∧ Below w.heap.size w w' := by
  have hB0 : Below w.heap.size w ((w.alloc (.cells #[.int .i64 i] 3)).alloc (.cells #[.int .i64 j] 3)) := ((Below.refl _ _).alloc (Nat.le_refl _) _).alloc (by simp) _
  have HR := hidI hr
  have gi : ((w.alloc (.cells #[.int .i64 i] 3)).alloc (.cells #[.int .i64 j] 3)).cell? ⟨w.heap.size, 0, none⟩ = some (.int .i64 i) := ((VRow.new w 3 [.int .i64 i]).alloc _).at 0 rfl
  have gj : ((w.alloc (.cells #[.int .i64 i] 3)).alloc (.cells #[.int .i64 j] 3)).cell? ⟨w.heap.size + 1, 0, none⟩ = some (.int .i64 j) := (VRow.new1 w _ 3 [.int .i64 j]).at 0 rfl
  have GI := hidI gi
  have GJ := hidI gj
  have hc := (hB0.cell (p := ⟨B, 3, none⟩) hBz).trans hc0
  clear hr gi gj
  go_enter Try.func14, Try.ntmps14
  go_wp2_with fail
  refine (containsSw_any T.swaps i j w.heap.size (w.heap.size + 1) p2 c2 _ (hp.below hB0) hl GI.out GJ.out (by simp; omega) (by simp) r HR.out).mono ?_
  rintro e w1 ⟨rfl, hB1⟩
  go_wp2
  go_ret
  exact ⟨rfl, hB0.trans (hB1.mono hB0.size)⟩
end Go.Proofs.Ythfgdahooigifaa
