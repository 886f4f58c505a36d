/-
  Walks: Decode of the program, refusals too; the equality of lists; the table of the chapter.
-/
import Derived.Test.YthfgdahooigifaaLkH
namespace Go.Proofs.Ythfgdahooigifaa
open Go.RowKit

set_option maxRecDepth 100000 in
set_option maxHeartbeats 1000000 in
theorem lkDecode_any (T : Tb) (p1 p2 : Option Addr) (c1 c2 : Nat) (s : ByteArray) (w : World) (hin : TbIn w T p1 p2 c1 c2) (hs : s.size ≤ maxLen) :
    Calls Try.prog 9 #[.agg #[.int .i64 T.q, .int .i64 T.n, .slice p1 T.base.length c1, .slice p2 T.swaps.length c2], .string s] w (RetSlI (decA T s).1 (decA T s).2 w) := by
  have hB0 : Below w.heap.size w (w.alloc (.cells #[.int .i64 T.q, .int .i64 T.n, .slice p1 T.base.length c1, .slice p2 T.swaps.length c2] 25)) := (Below.refl _ _).alloc (Nat.le_refl _) _
  have b0 : VRow (w.alloc (.cells #[.int .i64 T.q, .int .i64 T.n, .slice p1 T.base.length c1, .slice p2 T.swaps.length c2] 25)) w.heap.size 25 [.int .i64 T.q, .int .i64 T.n, .slice p1 T.base.length c1, .slice p2 T.swaps.length c2] := VRow.new w _ _
  cases hf : fmd T
  · have HF := hidI hf
    have HR := hidI (decA_bad s hf)
    clear hf
    go_enter Try.func9, Try.ntmps9
    go_wp2_with fail
    refine (lkFormed_any T p1 p2 c1 c2 _ (hin.below hB0)).mono ?_
    rintro e w1 ⟨rfl, hB1⟩
    rw [HF.out]
    go_wp2
    go_ret2
    exact RetSlI.nil HR.out (hB0.trans (hB1.mono hB0.size))
  by_cases hck : wchk T.q s.data.toList = 0
  · exact lkDecode_ok T p1 p2 c1 c2 s w hin hs hf hck
  · have HF := hidI hf
    have HR := hidI (decA_chk hf hck)
    have hck' : (wchk T.q s.data.toList == 0) = false := by simpa using hck
    clear hf hck
    go_enter Try.func9, Try.ntmps9
    go_wp2_with fail
    refine (lkFormed_any T p1 p2 c1 c2 _ (hin.below hB0)).mono ?_
    rintro e w1 ⟨rfl, hB1⟩
    rw [HF.out]
    have hBa := hB0.trans (hB1.mono hB0.size)
    have f0 := (b0.below hB1 (by simp)).at 0 rfl
    go_wp2_with fail
    refine (wcheck_any T.q s _ hs).mono ?_
    rintro e w2 ⟨rfl, hD⟩
    go_wp2
    go_ret2
    exact RetSlI.nil HR.out (hBa.trans (hD.below _))

set_option maxHeartbeats 400000 in
theorem r12Same_any (l m : List Int) (p q : Option Addr) (c d : Nat) (w : World) (hp : Sl w (Value.int .i64) p l) (hq : Sl w (Value.int .i64) q m) (hl : l.length ≤ 9223372036854775807) (hm : m.length ≤ 9223372036854775807) :
    Calls Try.prog 11 #[.slice p l.length c, .slice q m.length d] w fun e w' => e = .returned (.bool (decide (l = m))) ∧ Dr w w' := by
  by_cases hlen : l.length = m.length
  · have hlen' : ((l.length : Int) == (m.length : Int)) = true := by simp [hlen]
    have HT : Hid (l.length = m.length) := hlen
    clear hlen
    go_enter Try.func11, Try.ntmps11
    go_wp2
    go_loopw [5] (fun i wr => ∃ k : Nat, k ≤ l.length ∧ i = .int .i64 k ∧ Hid (l.take k = m.take k) ∧ Dr w wr) (fun i _ => l.length - (intOf i).toNat)
    case atStart => exact ⟨0, by omega, rfl, by simp [Hid], Dr.refl _⟩
    case round =>
      obtain ⟨k, hk, rfl, hj, hD⟩ := hrel
      by_cases hlt : k < l.length
      · have hlt2 : k < m.length := by have := HT.out; omega
        obtain ⟨b1, o1, rfl, hb1, hc1⟩ := (hp.dr hD).get k hlt
        obtain ⟨b2, o2, rfl, hb2, hc2⟩ := (hq.dr hD).get k hlt2
        have e1 := hc1 k hlt
        have e2 := hc2 k hlt2
        have h2' : (k : Int) < (m.length : Int) := by omega
        clear hc1 hc2
        by_cases he : l[k] = m[k]
        · have heb : (l[k] == m[k]) = true := by simpa using he
          have HE : Hid (l.take (k + 1) = m.take (k + 1)) := by unfold Hid; rw [List.take_succ_eq_append_getElem hlt, List.take_succ_eq_append_getElem hlt2, hj.out, he]
          clear he
          go_wp2_with fail
          (refine wp_region_quiet_lit (by kernel_rfl) (by kernel_rfl) ?_; (repeat (first | go_big_quiet_step (fail) | quiet_step (fail))); refine wpQuiet_nil ?_; intro _ hwq; obtain ⟨nq, hwq2⟩ := hwq; subst hwq2)
          go_wp2
          go_roundw
          case rel => exact ⟨k + 1, by omega, by go_num, HE, hD.one _⟩
          case measure => simp [intOf]; omega
        · have heb : (l[k] == m[k]) = false := by simpa using he
          have HE : Hid (decide (l = m) = false) := decide_eq_false (fun e => by subst e; exact he rfl)
          go_wp2_with fail
          (refine wp_region_quiet_lit (by kernel_rfl) (by kernel_rfl) ?_; (repeat (first | go_big_quiet_step (fail) | quiet_step (fail))); refine wpQuiet_nil ?_; intro _ hwq; obtain ⟨nq, hwq2⟩ := hwq; subst hwq2)
          go_wp2
          go_ret
          exact ⟨ret_bool HE.out.symm, hD.one _⟩
      · obtain rfl : k = l.length := by omega
        have HE : Hid (decide (l = m) = true) := by
          have h1 := hj.out
          rw [List.take_length, HT.out, List.take_length] at h1
          simp [Hid, h1]
        go_wp2
        go_ret
        exact ⟨ret_bool HE.out.symm, hD⟩
  · have hlen' : ((l.length : Int) == (m.length : Int)) = false := by simpa using fun h : (l.length : Int) = m.length => hlen (by omega)
    have HE : Hid (decide (l = m) = false) := by simp [Hid]; rintro rfl; exact hlen rfl
    clear hlen
    go_enter Try.func11, Try.ntmps11
    go_wp2
    go_ret
    exact ⟨ret_bool HE.out.symm, Dr.refl _⟩
def exT : Tb := ⟨2, 3, [⟨#[49, 48, 49]⟩, ⟨#[49, 48, 48]⟩, ⟨#[48, 48, 49]⟩, ⟨#[48, 49, 48]⟩], [⟨0, 0, ⟨#[49, 48, 49, 48, 48, 48]⟩⟩, ⟨0, 1, ⟨#[49, 48, 48, 48, 48, 48]⟩⟩, ⟨2, 0, ⟨#[48, 48, 49, 48, 48, 48]⟩⟩, ⟨2, 1, ⟨#[48, 49, 48, 48, 48, 48]⟩⟩]⟩
theorem flat_get {α β : Type} {enc : α → List β} {m : Nat} (hm : ∀ x, (enc x).length = m) : ∀ (l : List α) (i : Nat) (hi : i < l.length) (j : Nat), j < m → (l.flatMap enc)[i * m + j]? = (enc l[i])[j]?
  | [], i, hi, _, _ => by simp at hi
  | x :: l, 0, _, j, hj => by
    rw [List.flatMap_cons, Nat.zero_mul, Nat.zero_add, List.getElem?_append_left (by rw [hm]; exact hj)]; rfl
  | x :: l, i + 1, hi, j, hj => by
    rw [List.flatMap_cons, List.getElem?_append_right (by rw [hm, Nat.succ_mul]; omega), hm, show (i + 1) * m + j - m = i * m + j by rw [Nat.succ_mul]; omega]
    exact flat_get hm l i (by simpa using hi) j hj
theorem Sg.of_vrow {α : Type} {w : World} {B t m : Nat} {enc : α → List Value} {l : List α} (hm : ∀ x, (enc x).length = m) (h : VRow w B t (l.flatMap enc)) : Sg m w enc (some ⟨B, 0, none⟩) l :=
  .inr ⟨B, 0, rfl, h.lt, fun i hi j hj => by rw [Nat.zero_add, h.cell, flat_get hm l i hi j hj]⟩
/-- The table of the chapter, in memory of the call's own. -/
def RetTb (w : World) (e : Ending) (w' : World) : Prop := ∃ p1 p2, e = .returned (.agg #[.int .i64 2, .int .i64 3, .slice p1 4 4, .slice p2 4 4]) ∧ TbIn w' exT p1 p2 4 4 ∧ Below w.heap.size w w'
set_option maxHeartbeats 1000000 in
theorem lkTable_any (w : World) : Calls Try.prog 17 #[] w (RetTb w) := by
  go_enter Try.func17, Try.ntmps17
  go_wp2
  refine bodyPost_ret (v := .agg #[.int .i64 2, .int .i64 3, .slice (some ⟨w.heap.size + 1, 0, none⟩) 4 4, .slice (some ⟨w.heap.size + 1 + 1, 0, none⟩) 4 4]) (by simp [results, Try.results17, go_sem]) rfl ?_
  have h1 := (VRow.new1 w (.cells #[.int .i64 2, .int .i64 3, .slice (some ⟨w.heap.size + 1, 0, none⟩) 4 4, .slice (some ⟨w.heap.size + 1 + 1, 0, none⟩) 4 4] 25) 9 (exT.base.map Value.string)).alloc (.cells (exT.swaps.flatMap swE).toArray 41)
  have h2 := VRow.new2 w (.cells #[.int .i64 2, .int .i64 3, .slice (some ⟨w.heap.size + 1, 0, none⟩) 4 4, .slice (some ⟨w.heap.size + 1 + 1, 0, none⟩) 4 4] 25) (.cells (exT.base.map Value.string).toArray 9) 41 (exT.swaps.flatMap swE)
  exact ⟨_, _, rfl, ⟨Sl.of_vrow h1, Sg.of_vrow (m := 3) (fun _ => rfl) h2, by decide, by decide, by decide, by decide +kernel, by decide +kernel⟩, (((Below.refl _ _).alloc (Nat.le_refl _) _).alloc (by simp) _).alloc (by simp; omega) _⟩
theorem exT_fmd : fmd exT = true := by decide +kernel
theorem ex1 : encA exT [0, 0, 1] = (⟨#[49, 48, 49, 48, 48, 48, 49, 48, 48]⟩, 0) := by decide +kernel
theorem ex2 : encA exT [0, 1, 0] = (⟨#[49, 48, 48, 48, 48, 48, 49, 48, 49]⟩, 0) := by decide +kernel
theorem ex3 : encA exT [1, 0, 3] = (⟨#[49, 48, 48, 49, 48, 49, 48, 49, 48]⟩, 0) := by decide +kernel
theorem ex4 : decA exT ⟨#[49, 48, 49, 48, 49, 48]⟩ = ([0, 3], 0) := by decide +kernel
theorem ne_of_get {α : Type} {l m : List α} (k : Nat) (h1 : k < l.length) (h2 : k < m.length) (h : l[k] ≠ m[k]) : l ≠ m := by
  intro e; subst e; exact h rfl

set_option maxHeartbeats 400000 in
theorem equalI_any (l m : List Int) (p q : Option Addr) (c d : Nat) (w : World) (hp : Sl w (Value.int .i64) p l) (hq : Sl w (Value.int .i64) q m) (hl : l.length ≤ 9223372036854775807) (hm : m.length ≤ 9223372036854775807) :
    Calls Try.prog 18 #[.slice p l.length c, .slice q m.length d] w fun e w' => e = .returned (.bool (decide (l = m))) ∧ Dr w w' := by
  by_cases hlen : l.length = m.length
  · have hlen' : ((l.length : Int) == (m.length : Int)) = true := by simp [hlen]
    have HT : Hid (l.length = m.length) := hlen
    clear hlen
    go_enter Try.func18, Try.ntmps18
    go_wp2
    go_loopw [13] (fun i wr => ∃ k : Nat, k ≤ l.length ∧ i = .int .i64 k ∧ Hid (l.take k = m.take k) ∧ Dr w wr) (fun i _ => l.length - (intOf i).toNat)
    case atStart => exact ⟨0, by omega, rfl, by simp [Hid], Dr.refl _⟩
    case round =>
      obtain ⟨k, hk, rfl, hj, hD⟩ := hrel
      by_cases hlt : k < l.length
      · have hlt2 : k < m.length := by have := HT.out; omega
        obtain ⟨b1, o1, rfl, hb1, hc1⟩ := (hp.dr hD).get k hlt
        obtain ⟨b2, o2, rfl, hb2, hc2⟩ := (hq.dr hD).get k hlt2
        have e1 := hc1 k hlt
        have e2 := hc2 k hlt2
        clear hc1 hc2
        have h2' : (k : Int) < (m.length : Int) := by omega
        by_cases he : l[k] = m[k]
        · have heb : (l[k] == m[k]) = true := by simpa using he
          have HE : Hid (l.take (k + 1) = m.take (k + 1)) := by unfold Hid; rw [List.take_succ_eq_append_getElem hlt, List.take_succ_eq_append_getElem hlt2, hj.out, he]
          clear he
          go_wp2_with fail
          (refine wp_region_quiet_lit (by kernel_rfl) (by kernel_rfl) ?_; (repeat (first | go_big_quiet_step (fail) | quiet_step (fail))); refine wpQuiet_nil ?_; intro _ hwq; obtain ⟨nq, hwq2⟩ := hwq; subst hwq2)
          go_wp2
          go_roundw
          case rel => exact ⟨k + 1, by omega, by go_num, HE, hD.one _⟩
          case measure => simp [intOf]; omega
        · have heb : (l[k] == m[k]) = false := by simpa using he
          have HE : Hid (decide (l = m) = false) := decide_eq_false (fun e => by subst e; exact he rfl)
          go_wp2_with fail
          (refine wp_region_quiet_lit (by kernel_rfl) (by kernel_rfl) ?_; (repeat (first | go_big_quiet_step (fail) | quiet_step (fail))); refine wpQuiet_nil ?_; intro _ hwq; obtain ⟨nq, hwq2⟩ := hwq; subst hwq2)
          go_wp2
          go_ret
          exact ⟨ret_bool HE.out.symm, hD.one _⟩
      · obtain rfl : k = l.length := by omega
        have HE : Hid (decide (l = m) = true) := by
          have h1 := hj.out
          rw [List.take_length, HT.out, List.take_length] at h1
          simp [Hid, h1]
        go_wp2
        go_ret
        exact ⟨ret_bool HE.out.symm, hD⟩
  · have hlen' : ((l.length : Int) == (m.length : Int)) = false := by simpa using fun h : (l.length : Int) = m.length => hlen (by omega)
    have HE : Hid (decide (l = m) = false) := by simp [Hid]; rintro rfl; exact hlen rfl
    clear hlen
    go_enter Try.func18, Try.ntmps18
    go_wp2
    go_ret
    exact ⟨ret_bool HE.out.symm, Dr.refl _⟩


theorem encEx (p1 p2 pl : Option Addr) (a b c : Int) (r : ByteArray) (w : World) (hin : TbIn w exT p1 p2 4 4) (hl : Sl w (Value.int .i64) pl [a, b, c]) (h : encA exT [a, b, c] = (r, 0)) :
    Calls Try.prog 7 #[.agg #[.int .i64 2, .int .i64 3, .slice p1 4 4, .slice p2 4 4], .slice pl 3 3] w fun e w' => e = .returned (.tuple #[.string r, .int .i64 0]) ∧ Below w.heap.size w w' := by
  have := lkEncode_any exT p1 p2 4 4 [a, b, c] pl 3 w hin hl (by simp) (by simp)
  rw [h] at this
  exact this
theorem decEx (p1 p2 : Option Addr) (s : ByteArray) (l : List Int) (w : World) (hin : TbIn w exT p1 p2 4 4) (hs : s.size ≤ maxLen) (h : decA exT s = (l, 0)) :
    Calls Try.prog 9 #[.agg #[.int .i64 2, .int .i64 3, .slice p1 4 4, .slice p2 4 4], .string s] w (RetSlI l 0 w) := by
  have := lkDecode_any exT p1 p2 4 4 s w hin hs
  rw [h] at this
  exact this
theorem eqEx (q1 q2 : Option Addr) (d : Nat) (w : World) (h1 : Sl w (Value.int .i64) q1 [0, 3]) (h2 : Sl w (Value.int .i64) q2 [0, 3]) :
    Calls Try.prog 18 #[.slice q1 2 d, .slice q2 2 2] w fun e w' => e = .returned (.bool true) ∧ Dr w w' := by
  have := equalI_any [0, 3] [0, 3] q1 q2 d 2 w h1 h2 (by simp) (by simp)
  rw [show decide (([0, 3] : List Int) = [0, 3]) = true from rfl] at this
  exact this

set_option maxRecDepth 100000 in
set_option maxHeartbeats 600000 in
theorem lkAwake_any (w : World) : Calls Try.prog 6 #[] w fun e w' => e = .returned (.bool true) ∧ Below w.heap.size w w' := by
  have hmx : ∀ w : World, (Builtin.max_ #[29, 29, 29, 29] 29 #[.int .i64 0, .int .i64 0, .int .i64 0, .int .i64 0]).run Try.prog w = .ok (.int .i64 0) w := fun _ => by kernel_rfl
  go_enter Try.func6, Try.ntmps6
  go_wp2_with fail
  refine (lkTable_any _).mono ?_
  rintro e w1 ⟨p1, p2, rfl, hin, hB1⟩
  have hb1 : VRow (w1.alloc (.cells #[.int .i64 2, .int .i64 3, .slice p1 4 4, .slice p2 4 4] 25)) w1.heap.size 25 [.int .i64 2, .int .i64 3, .slice p1 4 4, .slice p2 4 4] := VRow.new w1 _ _
  have hW1 : Below w.heap.size w (w1.alloc (.cells #[.int .i64 2, .int .i64 3, .slice p1 4 4, .slice p2 4 4] 25)) := hB1.alloc hB1.size _
  have hin1 := hin.below ((Below.refl w1.heap.size w1).alloc (Nat.le_refl _) (.cells #[.int .i64 2, .int .i64 3, .slice p1 4 4, .slice p2 4 4] 25))
  go_wp2_with fail
  have s1 := Sl.of_vrow (enc := Value.int .i64) (l := [0, 0, 1]) (VRow.new1 w1 (.cells #[.int .i64 2, .int .i64 3, .slice p1 4 4, .slice p2 4 4] 25) 3 ([0, 0, 1].map (Value.int .i64)))
  have hA1 : Below (w1.alloc (.cells #[.int .i64 2, .int .i64 3, .slice p1 4 4, .slice p2 4 4] 25)).heap.size (w1.alloc (.cells #[.int .i64 2, .int .i64 3, .slice p1 4 4, .slice p2 4 4] 25)) ((w1.alloc (.cells #[.int .i64 2, .int .i64 3, .slice p1 4 4, .slice p2 4 4] 25)).alloc (.cells ([0, 0, 1].map (Value.int .i64)).toArray 3)) := (Below.refl _ _).alloc (Nat.le_refl _) _
  refine (encEx p1 p2 _ 0 0 1 _ _ (hin1.below hA1) s1 ex1).mono ?_
  rintro e v1 ⟨rfl, hE1⟩
  have hT1 := hA1.trans (hE1.mono hA1.size)
  have hin2 := hin1.below hT1
  have hb2 := hb1.below hT1 hb1.lt
  have g2 := hb2.at 0 rfl; have m2 := hb2.at 1 rfl; have n2 := hb2.at 2 rfl; have o2 := hb2.at 3 rfl
  have hW2 := hW1.trans (hT1.mono hW1.size)
  clear hE1 hA1 s1
  go_wp2_with fail
  have s2 := Sl.of_vrow (enc := Value.int .i64) (l := [0, 1, 0]) (VRow.new v1 3 ([0, 1, 0].map (Value.int .i64)))
  have hA2 : Below v1.heap.size v1 (v1.alloc (.cells ([0, 1, 0].map (Value.int .i64)).toArray 3)) := (Below.refl _ _).alloc (Nat.le_refl _) _
  refine (encEx p1 p2 _ 0 1 0 _ _ (hin2.below hA2) s2 ex2).mono ?_
  rintro e v2 ⟨rfl, hE2⟩
  have hT2 := hA2.trans (hE2.mono hA2.size)
  have hin3 := hin2.below hT2
  have hb3 := hb2.below hT2 hb2.lt
  have g3 := hb3.at 0 rfl; have m3 := hb3.at 1 rfl; have n3 := hb3.at 2 rfl; have o3 := hb3.at 3 rfl
  have hW3 := hW2.trans (hT2.mono hW2.size)
  clear hE2 hA2 s2
  clear g2 m2 n2 o2
  go_wp2_with fail
  have s3 := Sl.of_vrow (enc := Value.int .i64) (l := [1, 0, 3]) (VRow.new v2 3 ([1, 0, 3].map (Value.int .i64)))
  have hA3 : Below v2.heap.size v2 (v2.alloc (.cells ([1, 0, 3].map (Value.int .i64)).toArray 3)) := (Below.refl _ _).alloc (Nat.le_refl _) _
  refine (encEx p1 p2 _ 1 0 3 _ _ (hin3.below hA3) s3 ex3).mono ?_
  rintro e v3 ⟨rfl, hE3⟩
  have hT3 := hA3.trans (hE3.mono hA3.size)
  have hin4 := hin3.below hT3
  have hb4 := hb3.below hT3 hb3.lt
  have g4 := hb4.at 0 rfl; have m4 := hb4.at 1 rfl; have n4 := hb4.at 2 rfl; have o4 := hb4.at 3 rfl
  have hW4 := hW3.trans (hT3.mono hW3.size)
  clear hE3 hA3 s3
  clear g3 m3 n3 o3
  go_wp2_with fail
  refine (decEx p1 p2 ⟨#[49, 48, 49, 48, 49, 48]⟩ [0, 3] _ hin4 (by decide +kernel) ex4).mono ?_
  rintro e v4 ⟨q, d, rfl, hs4, hE4⟩
  have hW5 := hW4.trans (hE4.mono hW4.size)
  have s5 := Sl.of_vrow (enc := Value.int .i64) (l := [0, 3]) (VRow.new v4 3 (([0, 3] : List Int).map (Value.int .i64)))
  clear g4 m4 n4 o4
  go_wp2_with fail
  refine (eqEx q _ d _ (hs4.below ((Below.refl _ _).alloc (Nat.le_refl _) _)) s5).mono ?_
  rintro e v5 ⟨rfl, hD5⟩
  go_wp2
  go_ret
  exact ⟨rfl, (hW5.alloc hW5.size _).trans (hD5.below _)⟩
end Go.Proofs.Ythfgdahooigifaa
