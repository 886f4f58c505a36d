/-
  Words, plain lemmas and walks, merged: LkI, LkN, Law, Wg, Wd, Wc, Ra, Rb.
-/
import Derived.Test.YtjpilmedlecdhaaGreatDoorZth
import Derived.Deep.RegionHeld3
import Derived.Deep.DeepCutAuto
import Derived.Test.YtjpilmedlecdhaaGreatDoorRows
import Derived.ProofKit
import Derived.OpenShut
import Derived.ShutString
import Derived.SliceStrings
import Derived.Lib.SmallJoins
import Derived.Deep.Slices
import Derived.Deep.Fields
import Derived.ChangeSame
import Derived.Test.YtjpilmedlecdhaaGreatDoorTie
import Derived.Test.YtjpilmedlecdhaaGreatDoorCards
import Derived.LaidMore
import Derived.LaidSub
import Derived.SevenTiedAt
import Derived.Carry
import Derived.Test.YtjpilmedlecdhaaGreatDoorZtd
import Derived.Test.YtjpilmedlecdhaaGreatDoorZte
import Derived.Test.YtjpilmedlecdhaaGreatDoorZtf
import Derived.Test.YtjpilmedlecdhaaGreatDoorZtg
import Derived.Maps.RangeRun
import Derived.OwnWalkIn
set_option linter.unusedVariables false
set_option linter.unusedSimpArgs false
namespace Go.Proofs.YtjpilmedlecdhaaGreatDoor
open Go.RowKit

set_option maxRecDepth 100000 in
set_option maxHeartbeats 1000000 in
theorem lkDecode_any (T : Tb) (p1 p2 : Option Addr) (c1 c2 : Nat) (s : ByteArray) (w : World) (hin : TbIn w T p1 p2 c1 c2) (hs : s.size ≤ maxLen) :
    Calls Tryz.prog 12 #[.agg #[.int .i64 T.q, .int .i64 T.n, .slice p1 T.base.length c1, .slice p2 T.swaps.length c2], .string s] w (RetSlI (decA T s).1 (decA T s).2 w) := by
  have hB0 : Below w.heap.size w (w.alloc (.cells #[.int .i64 T.q, .int .i64 T.n, .slice p1 T.base.length c1, .slice p2 T.swaps.length c2] 26)) := (Below.refl _ _).alloc (Nat.le_refl _) _
  have b0 : VRow (w.alloc (.cells #[.int .i64 T.q, .int .i64 T.n, .slice p1 T.base.length c1, .slice p2 T.swaps.length c2] 26)) w.heap.size 26 [.int .i64 T.q, .int .i64 T.n, .slice p1 T.base.length c1, .slice p2 T.swaps.length c2] := VRow.new w _ _
  cases hf : fmd T
  · have HF := hidI hf
    have HR := hidI (decA_bad s hf)
    clear hf
    go_enter Tryz.func12, Tryz.ntmps12
    go_wp2_with fail
    refine (lkFormed_any T p1 p2 c1 c2 _ (hin.below hB0)).mono ?_
    rintro e w1 ⟨rfl, hB1⟩
    rw [HF.out]
    go_wp2
    go_ret2
    exact RetSlI.nil HR.out (hB0.trans (hB1.mono hB0.size))
  by_cases hck : wchk T.q s.data.toList = 0
  · exact lkDecode_ok T p1 p2 c1 c2 s w hin hs hf hck
  · have HF := hidI hf
    have HR := hidI (decA_chk hf hck)
    have hck' : (wchk T.q s.data.toList == 0) = false := by simpa using hck
    clear hf hck
    go_enter Tryz.func12, Tryz.ntmps12
    go_wp2_with fail
    refine (lkFormed_any T p1 p2 c1 c2 _ (hin.below hB0)).mono ?_
    rintro e w1 ⟨rfl, hB1⟩
    rw [HF.out]
    have hBa := hB0.trans (hB1.mono hB0.size)
    have f0 := (b0.below hB1 (by simp)).at 0 rfl
    go_wp2_with fail
    refine (wcheck_any T.q s _ hs).mono ?_
    rintro e w2 ⟨rfl, hD⟩
    go_wp2
    go_ret2
    exact RetSlI.nil HR.out (hBa.trans (hD.below _))

def exT : Tb := ⟨2, 3, [⟨#[49, 48, 49]⟩, ⟨#[49, 48, 48]⟩, ⟨#[48, 48, 49]⟩, ⟨#[48, 49, 48]⟩], [⟨0, 0, ⟨#[49, 48, 49, 48, 48, 48]⟩⟩, ⟨0, 1, ⟨#[49, 48, 48, 48, 48, 48]⟩⟩, ⟨2, 0, ⟨#[48, 48, 49, 48, 48, 48]⟩⟩, ⟨2, 1, ⟨#[48, 49, 48, 48, 48, 48]⟩⟩]⟩
theorem flat_get {α β : Type} {enc : α → List β} {m : Nat} (hm : ∀ x, (enc x).length = m) : ∀ (l : List α) (i : Nat) (hi : i < l.length) (j : Nat), j < m → (l.flatMap enc)[i * m + j]? = (enc l[i])[j]?
  | [], i, hi, _, _ => by simp at hi
  | x :: l, 0, _, j, hj => by
    rw [List.flatMap_cons, Nat.zero_mul, Nat.zero_add, List.getElem?_append_left (by rw [hm]; exact hj)]; rfl
  | x :: l, i + 1, hi, j, hj => by
    rw [List.flatMap_cons, List.getElem?_append_right (by rw [hm, Nat.succ_mul]; omega), hm, show (i + 1) * m + j - m = i * m + j by rw [Nat.succ_mul]; omega]
    exact flat_get hm l i (by simpa using hi) j hj
theorem Sg.of_vrow {α : Type} {w : World} {B t m : Nat} {enc : α → List Value} {l : List α} (hm : ∀ x, (enc x).length = m) (h : VRow w B t (l.flatMap enc)) : Sg m w enc (some ⟨B, 0, none⟩) l :=
  .inr ⟨B, 0, rfl, h.lt, fun i hi j hj => by rw [Nat.zero_add, h.cell, flat_get hm l i hi j hj]⟩
/-- The table of the chapter, in memory of the call's own. -/
def RetTb (w : World) (e : Ending) (w' : World) : Prop := ∃ p1 p2, e = .returned (.agg #[.int .i64 2, .int .i64 3, .slice p1 4 4, .slice p2 4 4]) ∧ TbIn w' exT p1 p2 4 4 ∧ Below w.heap.size w w'
set_option maxHeartbeats 1000000 in
theorem lkTable_any (w : World) : Calls Tryz.prog 5 #[] w (RetTb w) := by
  go_enter Tryz.func5, Tryz.ntmps5
  go_wp2
  refine bodyPost_ret (v := .agg #[.int .i64 2, .int .i64 3, .slice (some ⟨w.heap.size + 1, 0, none⟩) 4 4, .slice (some ⟨w.heap.size + 1 + 1, 0, none⟩) 4 4]) (by simp [results, Tryz.results5, go_sem]) rfl ?_
  have h1 := (VRow.new1 w (.cells #[.int .i64 2, .int .i64 3, .slice (some ⟨w.heap.size + 1, 0, none⟩) 4 4, .slice (some ⟨w.heap.size + 1 + 1, 0, none⟩) 4 4] 26) 9 (exT.base.map Value.string)).alloc (.cells (exT.swaps.flatMap swE).toArray 55)
  have h2 := VRow.new2 w (.cells #[.int .i64 2, .int .i64 3, .slice (some ⟨w.heap.size + 1, 0, none⟩) 4 4, .slice (some ⟨w.heap.size + 1 + 1, 0, none⟩) 4 4] 26) (.cells (exT.base.map Value.string).toArray 9) 55 (exT.swaps.flatMap swE)
  exact ⟨_, _, rfl, ⟨Sl.of_vrow h1, Sg.of_vrow (m := 3) (fun _ => rfl) h2, by decide, by decide, by decide, by decide +kernel, by decide +kernel⟩, (((Below.refl _ _).alloc (Nat.le_refl _) _).alloc (by simp) _).alloc (by simp; omega) _⟩
theorem exT_fmd : fmd exT = true := by decide +kernel
theorem ex1 : encA exT [0, 0, 1] = (⟨#[49, 48, 49, 48, 48, 48, 49, 48, 48]⟩, 0) := by decide +kernel
theorem ex2 : encA exT [0, 1, 0] = (⟨#[49, 48, 48, 48, 48, 48, 49, 48, 49]⟩, 0) := by decide +kernel
theorem ex3 : encA exT [1, 0, 3] = (⟨#[49, 48, 48, 49, 48, 49, 48, 49, 48]⟩, 0) := by decide +kernel
theorem ex4 : decA exT ⟨#[49, 48, 49, 48, 49, 48]⟩ = ([0, 3], 0) := by decide +kernel
theorem ne_of_get {α : Type} {l m : List α} (k : Nat) (h1 : k < l.length) (h2 : k < m.length) (h : l[k] ≠ m[k]) : l ≠ m := by
  intro e; subst e; exact h rfl

set_option maxHeartbeats 400000 in
theorem equalI_any (l m : List Int) (p q : Option Addr) (c d : Nat) (w : World) (hp : Sl w (Value.int .i64) p l) (hq : Sl w (Value.int .i64) q m) (hl : l.length ≤ 9223372036854775807) (hm : m.length ≤ 9223372036854775807) :
    Calls Tryz.prog 13 #[.slice p l.length c, .slice q m.length d] w fun e w' => e = .returned (.bool (decide (l = m))) ∧ Dr w w' := by
  by_cases hlen : l.length = m.length
  · have hlen' : ((l.length : Int) == (m.length : Int)) = true := by simp [hlen]
    have HT : Hid (l.length = m.length) := hlen
    clear hlen
    go_enter Tryz.func13, Tryz.ntmps13
    go_wp2
    go_loopw [13] (fun i wr => ∃ k : Nat, k ≤ l.length ∧ i = .int .i64 k ∧ Hid (l.take k = m.take k) ∧ Dr w wr) (fun i _ => l.length - (intOf i).toNat)
    case atStart => exact ⟨0, by omega, rfl, by simp [Hid], Dr.refl _⟩
    case round =>
      obtain ⟨k, hk, rfl, hj, hD⟩ := hrel
      by_cases hlt : k < l.length
      · have hlt2 : k < m.length := by have := HT.out; omega
        obtain ⟨b1, o1, rfl, hb1, hc1⟩ := (hp.dr hD).get k hlt
        obtain ⟨b2, o2, rfl, hb2, hc2⟩ := (hq.dr hD).get k hlt2
        have e1 := hc1 k hlt
        have e2 := hc2 k hlt2
        clear hc1 hc2
        have h2' : (k : Int) < (m.length : Int) := by omega
        by_cases he : l[k] = m[k]
        · have heb : (l[k] == m[k]) = true := by simpa using he
          have HE : Hid (l.take (k + 1) = m.take (k + 1)) := by unfold Hid; rw [List.take_succ_eq_append_getElem hlt, List.take_succ_eq_append_getElem hlt2, hj.out, he]
          clear he
          go_wp2_with fail
          (refine wp_region_quiet_lit (by kernel_rfl) (by kernel_rfl) ?_; (repeat (first | go_big_quiet_step (fail) | quiet_step (fail))); refine wpQuiet_nil ?_; intro _ hwq; obtain ⟨nq, hwq2⟩ := hwq; subst hwq2)
          go_wp2
          go_roundw
          case rel => exact ⟨k + 1, by omega, by go_num, HE, hD.one _⟩
          case measure => simp [intOf]; omega
        · have heb : (l[k] == m[k]) = false := by simpa using he
          have HE : Hid (decide (l = m) = false) := decide_eq_false (fun e => by subst e; exact he rfl)
          go_wp2_with fail
          (refine wp_region_quiet_lit (by kernel_rfl) (by kernel_rfl) ?_; (repeat (first | go_big_quiet_step (fail) | quiet_step (fail))); refine wpQuiet_nil ?_; intro _ hwq; obtain ⟨nq, hwq2⟩ := hwq; subst hwq2)
          go_wp2
          go_ret
          exact ⟨ret_bool HE.out.symm, hD.one _⟩
      · obtain rfl : k = l.length := by omega
        have HE : Hid (decide (l = m) = true) := by
          have h1 := hj.out
          rw [List.take_length, HT.out, List.take_length] at h1
          simp [Hid, h1]
        go_wp2
        go_ret
        exact ⟨ret_bool HE.out.symm, hD⟩
  · have hlen' : ((l.length : Int) == (m.length : Int)) = false := by simpa using fun h : (l.length : Int) = m.length => hlen (by omega)
    have HE : Hid (decide (l = m) = false) := by simp [Hid]; rintro rfl; exact hlen rfl
    clear hlen
    go_enter Tryz.func13, Tryz.ntmps13
    go_wp2
    go_ret
    exact ⟨ret_bool HE.out.symm, Dr.refl _⟩


theorem encEx (p1 p2 pl : Option Addr) (a b c : Int) (r : ByteArray) (w : World) (hin : TbIn w exT p1 p2 4 4) (hl : Sl w (Value.int .i64) pl [a, b, c]) (h : encA exT [a, b, c] = (r, 0)) :
    Calls Tryz.prog 10 #[.agg #[.int .i64 2, .int .i64 3, .slice p1 4 4, .slice p2 4 4], .slice pl 3 3] w fun e w' => e = .returned (.tuple #[.string r, .int .i64 0]) ∧ Below w.heap.size w w' := by
  have := lkEncode_any exT p1 p2 4 4 [a, b, c] pl 3 w hin hl (by simp) (by simp)
  rw [h] at this
  exact this
theorem decEx (p1 p2 : Option Addr) (s : ByteArray) (l : List Int) (w : World) (hin : TbIn w exT p1 p2 4 4) (hs : s.size ≤ maxLen) (h : decA exT s = (l, 0)) :
    Calls Tryz.prog 12 #[.agg #[.int .i64 2, .int .i64 3, .slice p1 4 4, .slice p2 4 4], .string s] w (RetSlI l 0 w) := by
  have := lkDecode_any exT p1 p2 4 4 s w hin hs
  rw [h] at this
  exact this
theorem eqEx (q1 q2 : Option Addr) (d : Nat) (w : World) (h1 : Sl w (Value.int .i64) q1 [0, 3]) (h2 : Sl w (Value.int .i64) q2 [0, 3]) :
    Calls Tryz.prog 13 #[.slice q1 2 d, .slice q2 2 2] w fun e w' => e = .returned (.bool true) ∧ Dr w w' := by
  have := equalI_any [0, 3] [0, 3] q1 q2 d 2 w h1 h2 (by simp) (by simp)
  rw [show decide (([0, 3] : List Int) = [0, 3]) = true from rfl] at this
  exact this

set_option maxRecDepth 100000 in
set_option maxHeartbeats 600000 in
theorem lkAwake_any (w : World) : Calls Tryz.prog 8 #[] w fun e w' => e = .returned (.bool true) ∧ Below w.heap.size w w' := by
  have hmx : ∀ w : World, (Builtin.max_ #[31, 31, 31, 31] 31 #[.int .i64 0, .int .i64 0, .int .i64 0, .int .i64 0]).run Tryz.prog w = .ok (.int .i64 0) w := fun _ => by kernel_rfl
  go_enter Tryz.func8, Tryz.ntmps8
  go_wp2_with fail
  refine (lkTable_any _).mono ?_
  rintro e w1 ⟨p1, p2, rfl, hin, hB1⟩
  have hb1 : VRow (w1.alloc (.cells #[.int .i64 2, .int .i64 3, .slice p1 4 4, .slice p2 4 4] 26)) w1.heap.size 26 [.int .i64 2, .int .i64 3, .slice p1 4 4, .slice p2 4 4] := VRow.new w1 _ _
  have hW1 : Below w.heap.size w (w1.alloc (.cells #[.int .i64 2, .int .i64 3, .slice p1 4 4, .slice p2 4 4] 26)) := hB1.alloc hB1.size _
  have hin1 := hin.below ((Below.refl w1.heap.size w1).alloc (Nat.le_refl _) (.cells #[.int .i64 2, .int .i64 3, .slice p1 4 4, .slice p2 4 4] 26))
  go_wp2_with fail
  have s1 := Sl.of_vrow (enc := Value.int .i64) (l := [0, 0, 1]) (VRow.new1 w1 (.cells #[.int .i64 2, .int .i64 3, .slice p1 4 4, .slice p2 4 4] 26) 3 ([0, 0, 1].map (Value.int .i64)))
  have hA1 : Below (w1.alloc (.cells #[.int .i64 2, .int .i64 3, .slice p1 4 4, .slice p2 4 4] 26)).heap.size (w1.alloc (.cells #[.int .i64 2, .int .i64 3, .slice p1 4 4, .slice p2 4 4] 26)) ((w1.alloc (.cells #[.int .i64 2, .int .i64 3, .slice p1 4 4, .slice p2 4 4] 26)).alloc (.cells ([0, 0, 1].map (Value.int .i64)).toArray 3)) := (Below.refl _ _).alloc (Nat.le_refl _) _
  refine (encEx p1 p2 _ 0 0 1 _ _ (hin1.below hA1) s1 ex1).mono ?_
  rintro e v1 ⟨rfl, hE1⟩
  have hT1 := hA1.trans (hE1.mono hA1.size)
  have hin2 := hin1.below hT1
  have hb2 := hb1.below hT1 hb1.lt
  have g2 := hb2.at 0 rfl; have m2 := hb2.at 1 rfl; have n2 := hb2.at 2 rfl; have o2 := hb2.at 3 rfl
  have hW2 := hW1.trans (hT1.mono hW1.size)
  clear hE1 hA1 s1
  go_wp2_with fail
  have s2 := Sl.of_vrow (enc := Value.int .i64) (l := [0, 1, 0]) (VRow.new v1 3 ([0, 1, 0].map (Value.int .i64)))
  have hA2 : Below v1.heap.size v1 (v1.alloc (.cells ([0, 1, 0].map (Value.int .i64)).toArray 3)) := (Below.refl _ _).alloc (Nat.le_refl _) _
  refine (encEx p1 p2 _ 0 1 0 _ _ (hin2.below hA2) s2 ex2).mono ?_
  rintro e v2 ⟨rfl, hE2⟩
  have hT2 := hA2.trans (hE2.mono hA2.size)
  have hin3 := hin2.below hT2
  have hb3 := hb2.below hT2 hb2.lt
  have g3 := hb3.at 0 rfl; have m3 := hb3.at 1 rfl; have n3 := hb3.at 2 rfl; have o3 := hb3.at 3 rfl
  have hW3 := hW2.trans (hT2.mono hW2.size)
  clear hE2 hA2 s2
  clear g2 m2 n2 o2
  go_wp2_with fail
  have s3 := Sl.of_vrow (enc := Value.int .i64) (l := [1, 0, 3]) (VRow.new v2 3 ([1, 0, 3].map (Value.int .i64)))
  have hA3 : Below v2.heap.size v2 (v2.alloc (.cells ([1, 0, 3].map (Value.int .i64)).toArray 3)) := (Below.refl _ _).alloc (Nat.le_refl _) _
  refine (encEx p1 p2 _ 1 0 3 _ _ (hin3.below hA3) s3 ex3).mono ?_
  rintro e v3 ⟨rfl, hE3⟩
  have hT3 := hA3.trans (hE3.mono hA3.size)
  have hin4 := hin3.below hT3
  have hb4 := hb3.below hT3 hb3.lt
  have g4 := hb4.at 0 rfl; have m4 := hb4.at 1 rfl; have n4 := hb4.at 2 rfl; have o4 := hb4.at 3 rfl
  have hW4 := hW3.trans (hT3.mono hW3.size)
  clear hE3 hA3 s3
  clear g3 m3 n3 o3
  go_wp2_with fail
  refine (decEx p1 p2 ⟨#[49, 48, 49, 48, 49, 48]⟩ [0, 3] _ hin4 (by decide +kernel) ex4).mono ?_
  rintro e v4 ⟨q, d, rfl, hs4, hE4⟩
  have hW5 := hW4.trans (hE4.mono hW4.size)
  have s5 := Sl.of_vrow (enc := Value.int .i64) (l := [0, 3]) (VRow.new v4 3 (([0, 3] : List Int).map (Value.int .i64)))
  clear g4 m4 n4 o4
  go_wp2_with fail
  refine (eqEx q _ d _ (hs4.below ((Below.refl _ _).alloc (Nat.le_refl _) _)) s5).mono ?_
  rintro e v5 ⟨rfl, hD5⟩
  go_wp2
  go_ret
  exact ⟨rfl, (hW5.alloc hW5.size _).trans (hD5.below _)⟩
end Go.Proofs.YtjpilmedlecdhaaGreatDoor
namespace Go.Proofs.YtjpilmedlecdhaaGreatDoor
open Go.RowKit

theorem lkEncode_r (T : Tb) (p1 p2 : Option Addr) (c1 c2 : Nat) (l : List Int) (pl : Option Addr) (cl : Nat) (w : World) (hin : TbIn w T p1 p2 c1 c2) (hl : Sl w (Value.int .i64) pl l) (hln : l.length ≤ 1000) (hcl : l.length ≤ cl) (r : ByteArray) (k : Int) (hr : encA T l = (r, k)) :
    Calls Tryz.prog 10 #[.agg #[.int .i64 T.q, .int .i64 T.n, .slice p1 T.base.length c1, .slice p2 T.swaps.length c2], .slice pl l.length cl] w fun e w' => e = .returned (.tuple #[.string r, .int .i64 k]) ∧ Below w.heap.size w w' := by
  have := lkEncode_any T p1 p2 c1 c2 l pl cl w hin hl hln hcl
  rw [hr] at this
  exact this
theorem lkEncode_n (T : Tb) (p1 p2 : Option Addr) (c1 c2 : Nat) (l : List Int) (pl : Option Addr) (cl : Nat) (w : World) (hin : TbIn w T p1 p2 c1 c2) (hl : Sl w (Value.int .i64) pl l) (hln : l.length ≤ 1000) (hcl : l.length ≤ cl) (r : ByteArray) (k : Int) (hr : encA T l = (r, k)) (n : Nat) (hn : l.length = n) :
    Calls Tryz.prog 10 #[.agg #[.int .i64 T.q, .int .i64 T.n, .slice p1 T.base.length c1, .slice p2 T.swaps.length c2], .slice pl n cl] w fun e w' => e = .returned (.tuple #[.string r, .int .i64 k]) ∧ Below w.heap.size w w' := by
  subst hn
  exact lkEncode_r T p1 p2 c1 c2 l pl cl w hin hl hln hcl r k hr
/-- What is written for two lists and for both of them together. -/
def Enc3 (T : Tb) (a b : List Int) (u v x : ByteArray) (k : Int) : Prop := encA T a = (u, k) ∧ encA T b = (v, k) ∧ encA T (a ++ b) = (x, k)
theorem enc3_bad {T : Tb} (a b : List Int) (h : fmd T = false) : Enc3 T a b ⟨#[]⟩ ⟨#[]⟩ ⟨#[]⟩ 1 := ⟨encA_bad a h, encA_bad b h, encA_bad _ h⟩
theorem enc3_ok {T : Tb} {a b : List Int} (h : fmd T = true) (ha : a.any (outB T.base.length) = false) (hb : b.any (outB T.base.length) = false) : Enc3 T a b (encW T a) (encW T b) (encW T (a ++ b)) 0 :=
  ⟨encA_ok h ha, encA_ok h hb, encA_ok h (any_app_f ha hb)⟩
/-- Two lists of numbers in two slots. -/
def Two (w : World) (A B : List Int) (v u : Value) (wx : World) : Prop :=
  ∃ pa ca pb cb, v = .slice pa A.length ca ∧ u = .slice pb B.length cb ∧ Sl wx (Value.int .i64) pa A ∧ Sl wx (Value.int .i64) pb B ∧ A.length ≤ ca ∧ B.length ≤ cb ∧ Below w.heap.size w wx
theorem box_below {w wx : World} {T : Tb} {p1 p2 : Option Addr} {c1 c2 : Nat} (h : Below (w.alloc (.cells #[.int .i64 T.q, .int .i64 T.n, .slice p1 T.base.length c1, .slice p2 T.swaps.length c2] 26)).heap.size (w.alloc (.cells #[.int .i64 T.q, .int .i64 T.n, .slice p1 T.base.length c1, .slice p2 T.swaps.length c2] 26)) wx) :
    VRow wx w.heap.size 26 [.int .i64 T.q, .int .i64 T.n, .slice p1 T.base.length c1, .slice p2 T.swaps.length c2] :=
  (VRow.new w _ _).below h (by simp)

end Go.Proofs.YtjpilmedlecdhaaGreatDoor
namespace Go.Proofs.YtjpilmedlecdhaaGreatDoor
open Go.ChangeShapes Go.WideShapes Go.ChangeAt Go.RowKit

theorem own : ownKnob Tryz.prog.godebug = none := by kernel_rfl
theorem laidOut : laidOutB Tryz.prog = true := by kernel_rfl

theorem trodAll_below {H : Type} {enc : TypeId × Value → H} {W W' : World} (hb : Below W.heap.size W W') :
    ∀ (ts : List TypeId) (vs : List Value) (ds : List (DataW H)) (p : List MemPlace), (∀ t ∈ ts, Tryz.prog.readableRec t = true ∧ t < Tryz.prog.types.size) →
      DataW.TrodAll enc Tryz.prog W 0 (fun _ => true) true ts vs ds p → (∀ x ∈ p, x.block < W.heap.size) →
      DataW.TrodAll enc Tryz.prog W' 0 (fun b => decide (b < W.heap.size)) true ts vs ds p
  | [], vs, ds, p, _, h, _ => by
    obtain ⟨rfl, rfl, rfl⟩ := trodAll_nil h
    exact trodAll_mk0
  | t :: ts, vs, ds, p, ht, h, hlt => by
    obtain ⟨v, vs', d, ds', p', q', rfl, rfl, rfl, h0, h1⟩ := trodAll_cons h
    exact trodAll_cons_mk (Below.trod laidOut (ht t List.mem_cons_self).1 (ht t List.mem_cons_self).2 h0 hb (fun x hx => hlt x (List.mem_append_left _ hx)))
      (trodAll_below hb ts vs' ds' q' (fun t h => ht t (List.mem_cons_of_mem _ h)) h1 (fun x hx => hlt x (List.mem_append_right _ hx)))

/-- What the row asks behind the call of a law. -/
theorem law_post {H : Type} {enc : TypeId × Value → H} {f : Func} {s : ChangeSpec} {W W' : World} {args : Array Value} {ds gs : List (DataW H)} {before : List MemPlace}
    (hW : DataW.Whole enc Tryz.prog f.params.toList s.vars false W args.toList ds gs before) (hv : s.vars = [])
    (hr : f.resultTypes = #[4]) (ht : ∀ t ∈ f.params.toList, Tryz.prog.readableRec t = true ∧ t < Tryz.prog.types.size)
    (hfr : (s.fn H (ds ++ gs)).results = [.lit (.bool true)]) (hfa : (s.fn H (ds ++ gs)).args = ds) (hfv : (s.fn H (ds ++ gs)).vars = [])
    (hB : Below W.heap.size W W') : s.post enc Tryz.prog f false true false false W args (.bool true) W' := by
  have hW' := hW
  obtain ⟨p, q, hA, hV, rfl, hfz, hnd⟩ := hW
  have hlt : ∀ x ∈ p, x.block < W.heap.size := fun x hx => hW'.lt x (List.mem_append_left _ hx)
  refine ⟨ds, gs, _, [] ++ [], p, [], hW', ?_, ?_, ?_, hB.frame _, fun h => by cases h⟩
  · rw [hfr, hr]; exact trodAll_mk1 (shut_bool Tryz.underlying4 true)
  · rw [hfa]; exact trodAll_below hB _ _ _ _ ht hA hlt
  · rw [hfv, hv]; exact rfl
end Go.Proofs.YtjpilmedlecdhaaGreatDoor
namespace Go.Proofs.YtjpilmedlecdhaaGreatDoor
open Go.Joins Go.ChangeShapes Go.WideShapes Go.ChangeAt Go.RowKit Go.Deep

open Go.ChangeMaps (open_string shut_string)

section
variable {H : Type} {enc : TypeId × Value → H} {P : Program} {w : World} {base : Nat} {spare : Nat → Bool} {held : Bool}
theorem open_slice_fields {t e : TypeId} {fs : Array Field} {fuel : Nat} {cs : List Value} {x : DataW H × List MemPlace} (ht : P.underlying t = some (.slice e)) (he : P.underlying e = some (.struct fs))
    (hone : oneCellFields P fs = true) (hC : P.cellsOf e = fs.size) (h : DataW.trod enc P w base spare held fuel t cs = some x) :
    (cs = [.slice none 0 0] ∧ x = (.nil, [])) ∨
    ∃ (a : Addr) (len cap m : Nat) (D : Nat → DataW H) (Pl : Nat → List MemPlace), cs = [.slice (some a) len cap] ∧ base ≤ a.block ∧ len ≤ cap ∧ cap ≤ maxLen ∧ m = (if spare a.block then cap else len) ∧
      x = (.slice ((List.range len).map D) ((List.range (m - len)).map fun j => D (len + j)), MemPlace.row a (m * fs.size) ++ (List.range m).flatMap Pl) ∧
      ∀ i, i < m → ∃ (ys : List (DataW H × List MemPlace)) (n : Nat), D i = .agg (ys.map (·.1)) ∧ Pl i = ys.flatMap (·.2) ∧ ys.length = fs.size ∧
        ∀ (j : Nat) (f : Field), fs[j]? = some f → ∃ (v : Value) (y : DataW H × List MemPlace), w.cell? (a.add (i * fs.size + j)) = some v ∧ ys[j]? = some y ∧ DataW.trod enc P w base spare held n f.type [v] = some y := by
  rcases open_slice ht h with h0 | ⟨a, len, cap, m, n, D, Pl, hcs, hb, hl, hm, hmm, hx, hi⟩
  · exact .inl h0
  · refine .inr ⟨a, len, cap, m, D, Pl, hcs, hb, hl, hm, hmm, by rw [hC] at hx; exact hx, fun i him => ?_⟩
    obtain ⟨cs', hc, ht'⟩ := hi i him
    rw [hC] at hc
    obtain ⟨ys, n', hn', hy, hlen, hyl, hf⟩ := DataW.trod_struct he ht'
    obtain ⟨_, hcl, hat⟩ := World.cells?_some hc
    simp only [Prod.mk.injEq] at hy
    refine ⟨ys, n', hy.1, hy.2, hyl, fun j f hj => ?_⟩
    obtain ⟨ho, hk⟩ := hone_of hone j f hj
    have hjl : j < fs.size := (Array.getElem?_eq_some_iff.1 hj).1
    have hcell := hat j hjl
    have hv : cs'[j]? = some (cs'[j]'(by omega)) := List.getElem?_eq_getElem (by omega)
    have h1 := hf j f hj
    rw [ho, hk] at h1
    have hone' : (cs'.drop j).take 1 = [cs'[j]'(by omega)] := by
      rw [List.drop_eq_getElem_cons (by omega)]
      rfl
    rw [hone'] at h1
    have hys : ys[j]? = some (ys[j]'(by omega)) := List.getElem?_eq_getElem (by omega)
    refine ⟨_, _, ?_, hys, h1.trans hys⟩
    rw [← Go.Deep.add_add, hcell, hv]
end
/-- Elements that each exist make a list. -/
theorem list_of {α : Type} {P : Nat → α → Prop} : ∀ (n : Nat), (∀ i, i < n → ∃ x, P i x) → ∃ l : List α, l.length = n ∧ ∀ i (h : i < l.length), P i l[i]
  | 0, _ => ⟨[], rfl, fun i h => by simp at h⟩
  | n + 1, h => by
    obtain ⟨l, hl, hp⟩ := list_of n (fun i hi => h i (by omega))
    obtain ⟨x, hx⟩ := h n (by omega)
    refine ⟨l ++ [x], by simp [hl], fun i hi => ?_⟩
    by_cases h2 : i < l.length
    · rw [List.getElem_append_left h2]; exact hp i h2
    · have : i = n := by simp at hi; omega
      subst this
      subst hl
      simpa using hx

theorem cellsString : Tryz.prog.cellsOf 9 = 1 := by kernel_rfl
theorem cellsInt : Tryz.prog.cellsOf 3 = 1 := by kernel_rfl
theorem cellsLook : Tryz.prog.cellsOf 26 = 4 := by kernel_rfl
theorem readLook : Tryz.prog.readableRec 26 = true ∧ 26 < Tryz.prog.types.size := ⟨by kernel_rfl, of_decide_eq_true (by kernel_rfl)⟩
theorem readInts : Tryz.prog.readableRec 36 = true ∧ 36 < Tryz.prog.types.size := ⟨by kernel_rfl, of_decide_eq_true (by kernel_rfl)⟩
theorem readString : Tryz.prog.readableRec 9 = true ∧ 9 < Tryz.prog.types.size := ⟨by kernel_rfl, of_decide_eq_true (by kernel_rfl)⟩

/-- A list of strings inside what came in, as the walks take it. -/
theorem strings_at {H : Type} {enc : TypeId × Value → H} {W : World} {fuel : Nat} {v : Value} {y : DataW H × List MemPlace}
    (h : DataW.trod enc Tryz.prog W 0 (fun _ => true) true fuel 23 [v] = some y) (hlt : ∀ x ∈ y.2, x.block < W.heap.size) :
    ∃ (p : Option Addr) (l : List ByteArray) (c : Nat), v = .slice p l.length c ∧ Sl W Value.string p l ∧ (∀ j (hj : j < l.length), l[j].size ≤ maxLen) ∧ l.length ≤ 9223372036854775807 ∧ l.length ≤ c := by
  rcases open_strings Tryz.underlying23 Tryz.underlying9 cellsString h with ⟨hcs, hx⟩ | ⟨a, len, cap, ss, hcs, _, hl, hm, hz, hx, hcell, hws⟩
  · simp at hcs
    subst hcs
    exact ⟨none, [], 0, rfl, Sl.nil _ _ _, fun j hj => by simp at hj, by simp, by simp⟩
  · simp at hcs
    subst hcs hx
    simp only [if_true] at hz
    have hlen : (ss.take len).length = len := by simp; omega
    refine ⟨some a, ss.take len, cap, by rw [hlen], ?_, ?_, by rw [hlen]; unfold maxLen at hm; omega, by rw [hlen]; exact hl⟩
    · by_cases h0 : len = 0
      · subst h0; exact .inl (by simp)
      · obtain ⟨b, off, spot⟩ := a
        have hspot : spot = none := by simpa [Addr.add] using World.cell?_spot (hcell 0 (by omega))
        subst hspot
        refine .inr ⟨b, off, rfl, hlt (.cell b off) (MemPlace.mem_row.2 ⟨0, by omega, by simp⟩), fun i hi => ?_⟩
        rw [← add_plain, hcell i (by omega)]
        have : i < ss.length := by omega
        simp [List.getD_eq_getElem?_getD, this]
    · intro j hj
      rw [List.getElem_take]
      exact hws _ (List.getElem_mem _)
/-- A list of ints inside what came in, as the walks take it. -/
theorem ints_at {H : Type} {enc : TypeId × Value → H} {W : World} {fuel : Nat} {v : Value} {y : DataW H × List MemPlace}
    (h : DataW.trod enc Tryz.prog W 0 (fun _ => true) true fuel 36 [v] = some y) (hlt : ∀ x ∈ y.2, x.block < W.heap.size) :
    ∃ (p : Option Addr) (l : List Int) (c : Nat), v = .slice p l.length c ∧ Sl W (Value.int .i64) p l ∧ l.length ≤ 9223372036854775807 ∧ l.length ≤ c := by
  rcases open_ints Tryz.underlying36 Tryz.underlying3 cellsInt h with ⟨hcs, hx⟩ | ⟨a, len, cap, zs, hcs, _, hl, hm, hz, hx, hcell, _⟩
  · simp at hcs
    subst hcs
    exact ⟨none, [], 0, rfl, Sl.nil _ _ _, by simp, by simp⟩
  · simp at hcs
    subst hcs hx
    simp only [if_true] at hz
    have hlen : (zs.take len).length = len := by simp; omega
    refine ⟨some a, zs.take len, cap, by rw [hlen], ?_, by rw [hlen]; unfold maxLen at hm; omega, by rw [hlen]; exact hl⟩
    by_cases h0 : len = 0
    · subst h0; exact .inl (by simp)
    · obtain ⟨b, off, spot⟩ := a
      have hspot : spot = none := by simpa [Addr.add] using World.cell?_spot (hcell 0 (by omega))
      subst hspot
      refine .inr ⟨b, off, rfl, hlt (.cell b off) (MemPlace.mem_row.2 ⟨0, by omega, by simp⟩), fun i hi => ?_⟩
      rw [← add_plain, hcell i (by omega)]
      have : i < zs.length := by omega
      simp [List.getD_eq_getElem?_getD, this]
/-- A list of swaps inside what came in, as the walks take it. -/
theorem swaps_at {H : Type} {enc : TypeId × Value → H} {W : World} {fuel : Nat} {v : Value} {y : DataW H × List MemPlace}
    (h : DataW.trod enc Tryz.prog W 0 (fun _ => true) true fuel 24 [v] = some y) (hlt : ∀ x ∈ y.2, x.block < W.heap.size) :
    ∃ (p : Option Addr) (l : List Sw) (c : Nat), v = .slice p l.length c ∧ Sg 3 W swE p l ∧ (∀ j (hj : j < l.length), l[j].wd.size ≤ maxLen) ∧ l.length ≤ 9223372036854775807 := by
  rcases open_slice_fields Tryz.underlying24 Tryz.underlying55 (by kernel_rfl) (by kernel_rfl) h with ⟨hcs, hx⟩ | ⟨a, len, cap, m, D, Pl, hcs, _, hl, hm, hmm, hx, hf⟩
  · simp at hcs
    subst hcs
    exact ⟨none, [], 0, rfl, Sg.nil _ _ _ _, fun j hj => by simp at hj, by simp⟩
  · simp at hcs
    subst hcs hx
    simp only [if_true] at hmm
    subst hmm
    obtain ⟨l, hll, hp⟩ := list_of (P := fun i (s : Sw) => W.cell? (a.add (i * 3 + 0)) = some (.int .i64 s.i) ∧ W.cell? (a.add (i * 3 + 1)) = some (.int .i64 s.j) ∧ W.cell? (a.add (i * 3 + 2)) = some (.string s.wd) ∧ s.wd.size ≤ maxLen) len (fun i hi => by
      obtain ⟨ys, n, _, _, _, hj⟩ := hf i (by omega)
      obtain ⟨v0, y0, hc0, _, h0⟩ := hj 0 _ rfl
      obtain ⟨v1, y1, hc1, _, h1⟩ := hj 1 _ rfl
      obtain ⟨v2, y2, hc2, _, h2⟩ := hj 2 _ rfl
      obtain ⟨n0, e0, _, _⟩ := DataW.trod_int Tryz.underlying3 h0
      obtain ⟨n1, e1, _, _⟩ := DataW.trod_int Tryz.underlying3 h1
      obtain ⟨s2, e2, _, hs⟩ := DataW.trod_string Tryz.underlying9 h2
      simp at e0 e1 e2
      subst e0 e1 e2
      exact ⟨⟨n0, n1, s2⟩, hc0, hc1, hc2, hs⟩)
    subst hll
    refine ⟨some a, l, _, rfl, ?_, fun j hj => (hp j hj).2.2.2, by unfold maxLen at hm; omega⟩
    by_cases h0 : l.length = 0
    · exact .inl (List.length_eq_zero_iff.1 h0)
    · obtain ⟨b, off, spot⟩ := a
      have hspot : spot = none := by simpa [Addr.add] using World.cell?_spot (hp 0 (by omega)).1
      subst hspot
      refine .inr ⟨b, off, rfl, hlt (.cell b off) (List.mem_append_left _ (MemPlace.mem_row.2 ⟨0, Nat.mul_pos (by omega) (by decide), by simp⟩)), fun i hi j hj => ?_⟩
      have hc := hp i hi
      have : j = 0 ∨ j = 1 ∨ j = 2 := by omega
      rw [Nat.add_assoc, ← add_plain]
      rcases this with rfl | rfl | rfl
      · rw [hc.1]; rfl
      · rw [hc.2.1]; rfl
      · rw [hc.2.2.1]; rfl
set_option maxRecDepth 100000 in
/-- A table that came in, as the walks take it. -/
theorem table_in {H : Type} {enc : TypeId × Value → H} {W : World} {ps : List MemPlace} {v : Value} {d : DataW H} {base : Nat} (hval : Value.okWide Tryz.prog W .any base 26 v)
    (h : DataW.Trod enc Tryz.prog W 0 (fun _ => true) true 26 v d ps) (hlt : ∀ x ∈ ps, x.block < W.heap.size) :
    ∃ (T : Tb) (p1 p2 : Option Addr) (c1 c2 : Nat), v = .agg #[.int .i64 T.q, .int .i64 T.n, .slice p1 T.base.length c1, .slice p2 T.swaps.length c2] ∧ TbIn W T p1 p2 c1 c2 := by
  obtain ⟨v0, v1, v2, v3, y0, y1, y2, y3, n, rfl, rfl, rfl, h0, h1, h2, h3⟩ := open_agg4 Tryz.underlying26 (by kernel_rfl) cellsLook hval h
  obtain ⟨q, e0, _, _⟩ := DataW.trod_int Tryz.underlying3 h0
  obtain ⟨k, e1, _, _⟩ := DataW.trod_int Tryz.underlying3 h1
  simp at e0 e1
  subst e0 e1
  obtain ⟨p1, l1, c1, rfl, s1, z1, b1, cap1⟩ := strings_at h2 (fun x hx => hlt x (List.mem_append_right _ (List.mem_append_right _ (List.mem_append_left _ hx))))
  obtain ⟨p2, l2, c2, rfl, s2, z2, b2⟩ := swaps_at h3 (fun x hx => hlt x (List.mem_append_right _ (List.mem_append_right _ (List.mem_append_right _ hx))))
  exact ⟨⟨q, k, l1, l2⟩, p1, p2, c1, c2, rfl, ⟨s1, s2, cap1, b1, b2, z1, z2⟩⟩

theorem cellsGraph : Tryz.prog.cellsOf 30 = 3 := by kernel_rfl
theorem readGraph : Tryz.prog.readableRec 30 = true ∧ 30 < Tryz.prog.types.size := ⟨by kernel_rfl, of_decide_eq_true (by kernel_rfl)⟩
/-- A list of edges inside what came in, as the walks take it. -/
theorem edges_at {H : Type} {enc : TypeId × Value → H} {W : World} {fuel : Nat} {v : Value} {y : DataW H × List MemPlace}
    (h : DataW.trod enc Tryz.prog W 0 (fun _ => true) true fuel 28 [v] = some y) (hlt : ∀ x ∈ y.2, x.block < W.heap.size) :
    ∃ (p : Option Addr) (l : List Ed) (c : Nat), v = .slice p l.length c ∧ Sg 3 W edE p l ∧ l.length ≤ 9223372036854775807 := by
  rcases open_slice_fields Tryz.underlying28 Tryz.underlying105 (by kernel_rfl) (by kernel_rfl) h with ⟨hcs, hx⟩ | ⟨a, len, cap, m, D, Pl, hcs, _, hl, hm, hmm, hx, hf⟩
  · simp at hcs
    subst hcs
    exact ⟨none, [], 0, rfl, Sg.nil _ _ _ _, by simp⟩
  · simp at hcs
    subst hcs hx
    simp only [if_true] at hmm
    subst hmm
    obtain ⟨l, hll, hp⟩ := list_of (P := fun i (s : Ed) => W.cell? (a.add (i * 3 + 0)) = some (.int .i64 s.f) ∧ W.cell? (a.add (i * 3 + 1)) = some (.int .i64 s.l) ∧ W.cell? (a.add (i * 3 + 2)) = some (.int .i64 s.t)) len (fun i hi => by
      obtain ⟨ys, n, _, _, _, hj⟩ := hf i (by omega)
      obtain ⟨v0, y0, hc0, _, h0⟩ := hj 0 _ rfl
      obtain ⟨v1, y1, hc1, _, h1⟩ := hj 1 _ rfl
      obtain ⟨v2, y2, hc2, _, h2⟩ := hj 2 _ rfl
      obtain ⟨n0, e0, _, _⟩ := DataW.trod_int Tryz.underlying3 h0
      obtain ⟨n1, e1, _, _⟩ := DataW.trod_int Tryz.underlying3 h1
      obtain ⟨n2, e2, _, _⟩ := DataW.trod_int Tryz.underlying3 h2
      simp at e0 e1 e2
      subst e0 e1 e2
      exact ⟨⟨n0, n1, n2⟩, hc0, hc1, hc2⟩)
    subst hll
    refine ⟨some a, l, _, rfl, ?_, by unfold maxLen at hm; omega⟩
    by_cases h0 : l.length = 0
    · exact .inl (List.length_eq_zero_iff.1 h0)
    · obtain ⟨b, off, spot⟩ := a
      have hspot : spot = none := by simpa [Addr.add] using World.cell?_spot (hp 0 (by omega)).1
      subst hspot
      refine .inr ⟨b, off, rfl, hlt (.cell b off) (List.mem_append_left _ (MemPlace.mem_row.2 ⟨0, Nat.mul_pos (by omega) (by decide), by simp⟩)), fun i hi j hj => ?_⟩
      have hc := hp i hi
      have : j = 0 ∨ j = 1 ∨ j = 2 := by omega
      rw [Nat.add_assoc, ← add_plain]
      rcases this with rfl | rfl | rfl
      · rw [hc.1]; rfl
      · rw [hc.2.1]; rfl
      · rw [hc.2.2]; rfl
set_option maxRecDepth 100000 in
/-- A graph that came in, as the walks take it. -/
theorem graph_in {H : Type} {enc : TypeId × Value → H} {W : World} {ps : List MemPlace} {v : Value} {d : DataW H} {base : Nat} (hval : Value.okWide Tryz.prog W .any base 30 v)
    (h : DataW.Trod enc Tryz.prog W 0 (fun _ => true) true 30 v d ps) (hlt : ∀ x ∈ ps, x.block < W.heap.size) :
    ∃ (G : Gr) (p : Option Addr) (c : Nat), v = .agg #[.int .i64 G.q, .int .i64 G.n, .slice p G.es.length c] ∧ Sg 3 W edE p G.es ∧ G.es.length ≤ 9223372036854775807 := by
  obtain ⟨v0, v1, v2, y0, y1, y2, n, rfl, rfl, rfl, h0, h1, h2⟩ := open_agg3 Tryz.underlying30 (by kernel_rfl) cellsGraph hval h
  obtain ⟨q, e0, _, _⟩ := DataW.trod_int Tryz.underlying3 h0
  obtain ⟨k, e1, _, _⟩ := DataW.trod_int Tryz.underlying3 h1
  simp at e0 e1
  subst e0 e1
  obtain ⟨p, l, c, rfl, s, b⟩ := edges_at h2 (fun x hx => hlt x (List.mem_append_right _ (List.mem_append_right _ hx)))
  exact ⟨⟨q, k, l⟩, p, c, rfl, s, b⟩

theorem cellsU8 : Tryz.prog.cellsOf 5 = 1 := by kernel_rfl
theorem readU8s : Tryz.prog.readableRec 22 = true ∧ 22 < Tryz.prog.types.size := ⟨by kernel_rfl, of_decide_eq_true (by kernel_rfl)⟩
/-- A list of bytes inside what came in, as the walks take it. -/
theorem u8s_at {H : Type} {enc : TypeId × Value → H} {W : World} {fuel : Nat} {v : Value} {y : DataW H × List MemPlace}
    (h : DataW.trod enc Tryz.prog W 0 (fun _ => true) true fuel 22 [v] = some y) (hlt : ∀ x ∈ y.2, x.block < W.heap.size) :
    ∃ (p : Option Addr) (l : List UInt8) (c : Nat), v = .slice p l.length c ∧ Sl W u8v p l ∧ l.length ≤ 9223372036854775807 ∧ l.length ≤ c := by
  rcases open_ints Tryz.underlying22 Tryz.underlying5 cellsU8 h with ⟨hcs, hx⟩ | ⟨a, len, cap, zs, hcs, _, hl, hm, hz, hx, hcell, hwf⟩
  · simp at hcs
    subst hcs
    exact ⟨none, [], 0, rfl, Sl.nil _ _ _, by simp, by simp⟩
  · simp at hcs
    subst hcs hx
    simp only [if_true] at hz
    have hlen : ((zs.take len).map (fun n => UInt8.ofNat n.toNat)).length = len := by simp; omega
    refine ⟨some a, (zs.take len).map (fun n => UInt8.ofNat n.toNat), cap, by rw [hlen], ?_, by rw [hlen]; unfold maxLen at hm; omega, by rw [hlen]; exact hl⟩
    by_cases h0 : len = 0
    · subst h0; exact .inl (by simp)
    · obtain ⟨b, off, spot⟩ := a
      have hspot : spot = none := by simpa [Addr.add] using World.cell?_spot (hcell 0 (by omega))
      subst hspot
      refine .inr ⟨b, off, rfl, hlt (.cell b off) (MemPlace.mem_row.2 ⟨0, by omega, by simp⟩), fun i hi => ?_⟩
      have hi' : i < zs.length := by rw [hlen] at hi; omega
      have hw := hwf _ (List.getElem_mem hi')
      rw [← add_plain, hcell i hi']
      have hb : 0 ≤ zs[i] ∧ zs[i] < 256 := by
        have := hw
        simp [Lit.wf, show IntKind.u8.min = 0 from rfl, show IntKind.u8.max = 255 from rfl] at this
        omega
      simp [List.getD_eq_getElem?_getD, hi', u8v]
      omega


set_option maxRecDepth 100000 in
theorem door_metN (os : Os) (args : Array Value) : laidMetH Tryz.prog Rows.lookaheadTableRow.laid ((World.doorLaid Tryz.prog 24 os).forCall (fun _ _ => 0) ⟨#[], args, []⟩).memory :=
  laidMetH_of_parts3 (fuel := 8) (laidMet_of_run' 8 (by kernel_rfl) (by kernel_rfl)) (by kernel_rfl) (by kernel_rfl)

theorem pow10_list : ((Rows.lookaheadTableRow.laid.filter (fun x => x.1 == "internal/strconv.uint64pow10")).filter fun x => x.2.handleName?.isNone) = [("internal/strconv.uint64pow10", Lib.tabData .u64 Lib.pow10Tab)] := by kernel_rfl
theorem pow10_in {W : World} (h : laidMetH Tryz.prog Rows.lookaheadTableRow.laid W) : T10 W := by
  have h2 := (laidMetH_iff.1 (h.filter (fun x => x.1 == "internal/strconv.uint64pow10"))).1
  rw [pow10_list] at h2
  exact Lib.tabIs_of_head (g := 1) (t := 191) (e := 159) (n := 20) (by kernel_rfl) (by kernel_rfl) (by kernel_rfl) (by kernel_rfl) (by kernel_rfl) (by kernel_rfl) h2
end Go.Proofs.YtjpilmedlecdhaaGreatDoor
namespace Go.Proofs.YtjpilmedlecdhaaGreatDoor
open Go.RowKit

/-- The graph of the constraint (1, 7). -/
def g17 : Gr := ⟨2, 8, [⟨0, 0, 1⟩, ⟨1, 0, 2⟩, ⟨1, 1, 0⟩, ⟨2, 0, 3⟩, ⟨2, 1, 0⟩, ⟨3, 0, 4⟩, ⟨3, 1, 0⟩, ⟨4, 0, 5⟩, ⟨4, 1, 0⟩, ⟨5, 0, 6⟩, ⟨5, 1, 0⟩, ⟨6, 0, 7⟩, ⟨6, 1, 0⟩, ⟨7, 1, 0⟩]⟩
/-- The edges as they are added, state by state. -/
def edS (s : Nat) : List Ed := (if s + 1 < 8 then [⟨(s : Int), 0, (s : Int) + 1⟩] else []) ++ (if 1 ≤ s then [⟨(s : Int), 1, 0⟩] else [])
def edF (k : Nat) : List Ed := (List.range k).flatMap edS
theorem edF_succ (k : Nat) : edF (k + 1) = edF k ++ edS k := by unfold edF; rw [List.range_succ, List.flatMap_append]; simp
theorem make17 : makeA 2 8 (edF 8) = (g17, 0) := by kernel_rfl
theorem edS_len (s : Nat) : (edS s).length ≤ 2 := by unfold edS; rw [List.length_append]; split <;> split <;> simp
theorem edF_len : ∀ k, (edF k).length ≤ 2 * k
  | 0 => Nat.le_refl 0
  | k + 1 => by have := edF_len k; have h2 := edS_len k; rw [edF_succ, List.length_append]; omega
end Go.Proofs.YtjpilmedlecdhaaGreatDoor
namespace Go.Proofs.YtjpilmedlecdhaaGreatDoor
open Go.RowKit Go.Sort

/-! ### The edges that are added -/
/-- The boxes of build: the number of states, and the list of edges under way. -/
structure Bd (W : World) (base bs bl : Nat) (es : List Ed) : Prop where
  st : VRow W bs 3 [.int .i64 8]
  li : ∃ p m c, VRow W bl 28 [.slice p m c] ∧ W.ownsRow base 105 3 (.slice p m c) es.length (cat es)
  lt : bs < bl ∧ bl < base ∧ base ≤ W.heap.size
def addE (f l t : Int) : List Ed := if 0 ≤ t ∧ t < 8 then [⟨f, l, t⟩] else []
set_option maxRecDepth 100000 in
set_option maxHeartbeats 2000000 in
theorem rlAdd_any (f l t : Int) (base bs bl : Nat) (es : List Ed) (W : World) (h : Bd W base bs bl es) (hl : es.length ≤ 1000) :
    Calls Tryz.prog 57 #[.int .i64 f, .int .i64 l, .int .i64 t, .pointer (some ⟨bs, 0, none⟩), .pointer (some ⟨bl, 0, none⟩)] W fun e w' => e = .returned (.tuple #[]) ∧ Bd w' base bs bl (es ++ addE f l t) ∧ RowKit.Below bl W w' := by
  obtain ⟨i0, hi0, hz0, hz1, hz2⟩ := info_parts (show (Tryz.prog.info? 105).map (fun i => (i.zero, i.size, i.bytes)) = some (some (.agg #[.int .i64 0, .int .i64 0, .int .i64 0]), 3, 24) by kernel_rfl)
  obtain ⟨hst, ⟨p, m, c, hbl, hown⟩, hlt⟩ := h
  have s0 := hst.at 0 rfl
  have l0 := hbl.at 0 rfl; have lf := hbl.frozen 0
  by_cases h0 : 0 ≤ t
  · by_cases h8 : t < 8
    · have d0 : decide ((0 : Int) ≤ t) = true := decide_eq_true h0
      have d1 : decide (t < 8) = true := decide_eq_true h8
      have HA : Hid (addE f l t = [⟨f, l, t⟩]) := if_pos ⟨h0, h8⟩
      have hnew := cell_new3 W ⟨f, l, t⟩ 105 W.heap.size rfl
      have hownA := hown.alloc (.cells (edE ⟨f, l, t⟩).toArray 105)
      have p0 := hst.alloc (.cells (edE ⟨f, l, t⟩).toArray 105)
      have p2 := hbl.alloc (.cells (edE ⟨f, l, t⟩).toArray 105)
      have hne : ∀ j, (Value.slice p m c).ownBlock = some j → base ≤ j := fun j e => (hown.lt j e).1
      clear h0 h8
      go_enter Tryz.func57, Tryz.ntmps57
      go_wp2_with (at_builtin; refine wpList_append_own _ rfl _ _ 28 rfl base 105 i0 _ 3 24 Tryz.underlying28 hi0 hz0 hz1 hz2 rfl (by decide) _ _ _ rfl hownA ⟨W.heap.size, 0, none⟩ 1 1 (cat [⟨f, l, t⟩]) rfl rfl hnew (cat_one _) (by simp [maxLen]; omega) (by omega) (by rw [World.size_alloc]; omega) ?_; intro v' w1 hown' hgrow _; rw [← cat_app] at hown'; obtain ⟨pv, mv, cv, rfl⟩ := own_shape hown'; have r2 := VRow.grown p2 hgrow (fun e => by have := hne _ e.symm; omega); have z2 := r2.frozen 0; have s2 := r2.at 0 rfl)
      go_end0
      refine ⟨rfl, ?_, ?_⟩
      · rw [HA.out]
        refine ⟨VRow.other (i := 0) (.slice pv mv cv) (p0.grown hgrow (fun e => by have := hne _ e.symm; omega)) (C := bl) (by omega), ⟨pv, mv, cv, VRow.set (i := 0) _ r2, ?_⟩, ?_⟩
        · exact ownsRow_setCell_below (a := (⟨bl, 0, none⟩ : Addr)) (own_conv hown' rfl (Nat.le_refl _)) (show bl < base by omega) _
        · rw [World.size_setCell]; have := hgrow.size; rw [World.size_alloc] at this; omega
      · exact (((RowKit.Below.refl bl W).alloc (by omega) _).grown hgrow (by rw [World.size_alloc]; omega) (fun j e => by have := hne _ e; omega)).setCell (show bl ≤ bl by omega) _
    · have d0 : decide ((0 : Int) ≤ t) = true := decide_eq_true h0
      have d1 : decide (t < 8) = false := decide_eq_false h8
      have HA : Hid (addE f l t = []) := if_neg (fun h => h8 h.2)
      clear h0 h8
      go_enter Tryz.func57, Tryz.ntmps57
      go_wp2_with fail
      go_end0
      exact ⟨rfl, by rw [HA.out, List.append_nil]; exact ⟨hst, ⟨p, m, c, hbl, hown⟩, hlt⟩, RowKit.Below.refl _ _⟩
  · have d0 : decide ((0 : Int) ≤ t) = false := decide_eq_false h0
    have HA : Hid (addE f l t = []) := if_neg (fun h => h0 h.1)
    clear h0
    go_enter Tryz.func57, Tryz.ntmps57
    go_wp2_with fail
    go_end0
    exact ⟨rfl, by rw [HA.out, List.append_nil]; exact ⟨hst, ⟨p, m, c, hbl, hown⟩, hlt⟩, RowKit.Below.refl _ _⟩

theorem Bd.keep {W W' : World} {base bs bl : Nat} {es : List Ed} (h : Bd W base bs bl es) (hB : RowKit.Below W.heap.size W W') : Bd W' base bs bl es := by
  obtain ⟨h1, ⟨p, m, c, h2, h3⟩, h4⟩ := h
  exact ⟨h1.below hB (by omega), ⟨p, m, c, h2.below hB (by omega), h3.below hB⟩, h4.1, h4.2.1, Nat.le_trans h4.2.2 hB.size⟩
theorem edS_all : ∀ s : Nat, s < 8 → edS s = addE s 0 (s + 1) ++ (if 1 ≤ s then addE s 1 0 else []) := by decide
theorem edS_add (s : Nat) (hs : s < 8) : edS s = addE s 0 (s + 1) ++ (if 1 ≤ s then addE s 1 0 else []) := edS_all s hs
set_option maxRecDepth 100000 in
set_option maxHeartbeats 4000000 in
theorem rlGraph1_any (base bs bl be bd bk : Nat) (W : World) (h : Bd W base bs bl []) (he : VRow W be 3 [.int .i64 7]) (hd : VRow W bd 3 [.int .i64 1]) (hk : VRow W bk 3 [.int .i64 7]) (h1 : be < bl) (h2 : bd < bl) (h3 : bk < bl) :
    Calls Tryz.prog 26 #[.func (.func 57) #[] #[.pointer (some ⟨bs, 0, none⟩), .pointer (some ⟨bl, 0, none⟩)], .pointer (some ⟨be, 0, none⟩), .pointer (some ⟨bd, 0, none⟩), .pointer (some ⟨bk, 0, none⟩)] W fun e w' => e = .returned (.tuple #[]) ∧ Bd w' base bs bl (edF 8) ∧ RowKit.Below bl W w' := by
  have eg : ∀ args w, (callFunc 57 args).run Tryz.prog w = .ok (.enter 57 args) w := enters_of Tryz.func57 (by kernel_rfl) rfl
  have e0 := he.at 0 rfl
  go_enter Tryz.func26, Tryz.ntmps26
  go_wp2_with fail
  clear e0
  go_loopw [8] (fun iv wr => ∃ s : Nat, s ≤ 8 ∧ iv = .int .i64 s ∧ Bd wr base bs bl (edF s) ∧ RowKit.Below bl W wr) (fun iv _ => 8 - (intOf iv).toNat)
  case atStart => exact ⟨0, by omega, rfl, h, RowKit.Below.refl _ _⟩
  case round =>
    obtain ⟨s, hs, rfl, hb, hB⟩ := hrel
    have d0 := (hd.below hB h2).at 0 rfl
    have k0 := (hk.below hB h3).at 0 rfl
    by_cases hlt : s < 8
    · have hltI : (s : Int) < 8 := by omega
      have HES := hidI (edF_succ s)
      have hel := edF_len s
      have HEA := hidI (edS_add s hlt)
      generalize edF s = es at *
      have HC1 := hidI (rlAdd_any s 0 (s + 1) base bs bl es wr hb (by omega))
      go_wp2_with fail
      refine HC1.out.mono ?_
      rintro e w2 ⟨rfl, hb2, hB2⟩
      have hB3 := hB.trans hB2
      clear d0 k0 HC1 hb hB hB2
      have d0 := (hd.below hB3 h2).at 0 rfl
      have hal : (es ++ addE s 0 (s + 1)).length ≤ 1000 := by
        have : (addE (s : Int) 0 (s + 1)).length ≤ 1 := by unfold addE; split <;> simp
        rw [List.length_append]; omega
      by_cases hs1 : 1 ≤ s
      · have d1 : decide ((1 : Int) ≤ (s : Int)) = true := decide_eq_true (by omega)
        have HQ : Hid (edF (s + 1) = (es ++ addE s 0 (s + 1)) ++ addE s 1 0) := by rw [Hid, HES.out, HEA.out, if_pos hs1, List.append_assoc]
        generalize es ++ addE (s : Int) 0 (s + 1) = es2 at *
        have HC2 := hidI (rlAdd_any s 1 0 base bs bl es2 w2 hb2 hal)
        clear hs1 HES HEA
        go_wp2_with fail
        refine HC2.out.mono ?_
        rintro e w3 ⟨rfl, hb3, hB4⟩
        have hB5 := hB3.trans hB4
        clear d0 HC2
        go_wp2_with fail
        go_roundw
        case rel => exact ⟨s + 1, by omega, by go_num, by rw [HQ.out]; exact hb3, hB5⟩
        case measure => simp [intOf]; omega
      · have d1 : decide ((1 : Int) ≤ (s : Int)) = false := decide_eq_false (by omega)
        have HQ : Hid (edF (s + 1) = es ++ addE s 0 (s + 1)) := by rw [Hid, HES.out, HEA.out, if_neg hs1, List.append_nil]
        generalize es ++ addE (s : Int) 0 (s + 1) = es2 at *
        clear hs1 HES HEA
        go_wp2_with fail
        go_roundw
        case rel => exact ⟨s + 1, by omega, by go_num, by rw [HQ.out]; exact hb2, hB3⟩
        case measure => simp [intOf]; omega
    · obtain rfl : s = 8 := by omega
      have hltI : ¬ ((8 : Nat) : Int) < 8 := by omega
      go_wp2_with fail
      go_end0
      exact ⟨rfl, hb, hB⟩

def Ret17 (w : World) (e : Ending) (w' : World) : Prop := ∃ p m c, e = .returned (.tuple #[.agg #[.int .i64 2, .int .i64 8, .slice p m c], .int .i64 0]) ∧ w'.ownsRow w.heap.size 105 3 (.slice p m c) g17.es.length (cat g17.es) ∧ RowKit.Below w.heap.size w w'
set_option maxRecDepth 100000 in
set_option maxHeartbeats 4000000 in
theorem rlBuild_any (be bd bk : Nat) (w : World) (he : VRow w be 3 [.int .i64 7]) (hd : VRow w bd 3 [.int .i64 1]) (hk : VRow w bk 3 [.int .i64 7]) :
    Calls Tryz.prog 25 #[.int .i64 8, .func (.func 26) #[] #[.pointer (some ⟨be, 0, none⟩), .pointer (some ⟨bd, 0, none⟩), .pointer (some ⟨bk, 0, none⟩)]] w (Ret17 w) := by
  have eg : ∀ args w, (callFunc 26 args).run Tryz.prog w = .ok (.enter 26 args) w := enters_of Tryz.func26 (by kernel_rfl) rfl
  obtain ⟨w1, hw1⟩ : ∃ w1, w1 = ((w.alloc (.cells #[.int .i64 8] 3)).alloc (.cells #[.int .i64 0, .int .i64 0, .slice none 0 0] 30)).alloc (.cells #[.slice none 0 0] 28) := ⟨_, rfl⟩
  have s1 : VRow w1 w.heap.size 3 [.int .i64 8] := by subst hw1; exact ((VRow.new w _ _).alloc _).alloc _
  have r1 : VRow w1 (w.heap.size + 1) 30 [.int .i64 0, .int .i64 0, .slice none 0 0] := by subst hw1; exact (VRow.new1 w _ _ _).alloc _
  have l1 : VRow w1 (w.heap.size + 1 + 1) 28 [.slice none 0 0] := by subst hw1; exact VRow.new2 w _ _ _ _
  have hB1 : RowKit.Below w.heap.size w w1 := by subst hw1; exact (((RowKit.Below.refl _ _).alloc (Nat.le_refl _) _).alloc (by simp) _).alloc (by simp; omega) _
  have hz1 : w1.heap.size = w.heap.size + 3 := by subst hw1; simp
  have hb1 : Bd w1 (w.heap.size + 3) w.heap.size (w.heap.size + 1 + 1) [] := ⟨s1, ⟨none, 0, 0, l1, World.ownsRow_nil w1 _ 105 3⟩, by omega, by omega, by omega⟩
  have HG := hidI (rlGraph1_any (w.heap.size + 3) w.heap.size (w.heap.size + 1 + 1) be bd bk w1 hb1 (he.below hB1 he.lt) (hd.below hB1 hd.lt) (hk.below hB1 hk.lt) (by have := he.lt; omega) (by have := hd.lt; omega) (by have := hk.lt; omega))
  have f0 := s1.at 0 rfl
  have HB1 := hidI hB1; have HR1 := hidI r1
  clear he hd hk s1 r1 l1 hB1 hb1 hz1
  go_enter Tryz.func25, Tryz.ntmps25
  go_upto_region 4 with fail
  rw [← hw1]
  clear hw1
  go_wp2_with fail
  refine HG.out.mono ?_
  rintro e w2 ⟨rfl, hb2, hB2⟩
  obtain ⟨hst, ⟨p, m, c, hbl, hown⟩, _⟩ := hb2
  have r2 := HR1.out.below hB2 (by omega)
  have x2 := HB1.out.trans (hB2.mono (by omega))
  obtain ⟨pp, cc, he, hs, hcap, _⟩ := own_sg hown
  simp only [Value.slice.injEq] at he
  obtain ⟨rfl, rfl, rfl⟩ := he
  have HM := hidI (gMake_own 2 8 (edF 8) p c w2 hs (by have := edF_len 8; omega))
  rw [make17] at HM
  have HM : Hid (Calls Tryz.prog 58 #[.int .i64 2, .int .i64 8, .slice p (edF 8).length c] w2 (RetGo ⟨2, 8, g17.es⟩ 0 w2)) := HM
  have s0 := hst.at 0 rfl; have l0 := hbl.at 0 rfl
  clear HG f0 hown hs hB2
  generalize hes : g17.es = es at *
  have HES := hidI hes
  clear hes
  go_wp2_with fail
  refine HM.out.mono ?_
  rintro e w3 ⟨p3, m3, c3, rfl, hs3, hB3⟩
  have x3 := x2.trans (hB3.mono x2.size)
  have r3 := r2.below hB3 r2.lt
  have k0 := r3.at 0 rfl; have k1 := r3.at 1 rfl; have k2 := r3.at 2 rfl
  have z0 := r3.frozen 0; have z1 := r3.frozen 1; have z2 := r3.frozen 2
  have HS3 := hidI hs3
  have hz2' : w.heap.size + 1 < w2.heap.size := r2.lt
  clear s0 l0 hs3 hB3 x2 r2
  go_wp2
  have r6 := VRow.set (i := 2) (.slice p3 m3 c3) (VRow.set (i := 1) (.int .i64 8) (VRow.set (i := 0) (.int .i64 2) r3))
  have y0 := r6.at 0 rfl; have y1 := r6.at 1 rfl; have y2 := r6.at 2 rfl
  have hz2 := hz2'
  have o6 := ownsRow_setCell_below (a := ⟨w.heap.size + 1, 2, none⟩) (ownsRow_setCell_below (a := ⟨w.heap.size + 1, 1, none⟩) (ownsRow_setCell_below (a := ⟨w.heap.size + 1, 0, none⟩) HS3.out hz2 (.int .i64 2)) hz2 (.int .i64 8)) hz2 (.slice p3 m3 c3)
  have x6 : RowKit.Below w.heap.size w (((w3.setCell ⟨w.heap.size + 1, 0, none⟩ (.int .i64 2)).setCell ⟨w.heap.size + 1, 1, none⟩ (.int .i64 8)).setCell ⟨w.heap.size + 1, 2, none⟩ (.slice p3 m3 c3)) := ((x3.setCell (show w.heap.size ≤ w.heap.size + 1 by omega) _).setCell (show w.heap.size ≤ w.heap.size + 1 by omega) _).setCell (show w.heap.size ≤ w.heap.size + 1 by omega) _
  refine bodyPost_ret (v := .tuple #[.agg #[.int .i64 2, .int .i64 8, .slice p3 m3 c3], .int .i64 0]) (by simp [results, Tryz.results25, go_sem, y0, y1, y2]) rfl ?_
  exact ⟨p3, m3, c3, rfl, own_conv (by rw [HES.out]; exact o6) rfl (by omega), x6⟩

set_option maxRecDepth 100000 in
theorem rlPair17 (w : World) : Calls Tryz.prog 23 #[.int .i64 1, .int .i64 7] w fun e w' => e = .returned (.bool true) ∧ w' = w := by
  go_enter Tryz.func23, Tryz.ntmps23
  go_wp2
  go_ret
  exact ⟨rfl, rfl⟩
set_option maxRecDepth 100000 in
theorem rlLast17 (w : World) : Calls Tryz.prog 24 #[.int .i64 1, .int .i64 7] w fun e w' => e = .returned (.int .i64 7) ∧ w' = w := by
  go_enter Tryz.func24, Tryz.ntmps24
  go_wp2
  go_ret
  exact ⟨rfl, rfl⟩
set_option maxRecDepth 100000 in
set_option maxHeartbeats 4000000 in
theorem rlGraph17 (w : World) : Calls Tryz.prog 6 #[.int .i64 1, .int .i64 7] w (Ret17 w) := by
  obtain ⟨w1, hw1⟩ : ∃ w1, w1 = ((w.alloc (.cells #[.int .i64 1] 3)).alloc (.cells #[.int .i64 7] 3)).alloc (.cells #[.int .i64 0, .int .i64 0, .slice none 0 0] 30) := ⟨_, rfl⟩
  have d1 : VRow w1 w.heap.size 3 [.int .i64 1] := by subst hw1; exact ((VRow.new w _ _).alloc _).alloc _
  have k1 : VRow w1 (w.heap.size + 1) 3 [.int .i64 7] := by subst hw1; exact (VRow.new1 w _ _ _).alloc _
  have r1 : VRow w1 (w.heap.size + 1 + 1) 30 [.int .i64 0, .int .i64 0, .slice none 0 0] := by subst hw1; exact VRow.new2 w _ _ _ _
  have hB1 : RowKit.Below w.heap.size w w1 := by subst hw1; exact (((RowKit.Below.refl _ _).alloc (Nat.le_refl _) _).alloc (by simp) _).alloc (by simp; omega) _
  have hz1 : w1.heap.size = w.heap.size + 1 + 1 + 1 := by subst hw1; simp
  obtain ⟨w2, hw2⟩ : ∃ w2, w2 = w1.alloc (.cells #[.int .i64 7] 3) := ⟨_, rfl⟩
  have e2 : VRow w2 w1.heap.size 3 [.int .i64 7] := by subst hw2; exact VRow.new w1 _ _
  have hB2 : RowKit.Below w1.heap.size w1 w2 := by subst hw2; exact (RowKit.Below.refl _ _).alloc (Nat.le_refl _) _
  have d2 := d1.below hB2 d1.lt; have k2 := k1.below hB2 k1.lt; have r2 := r1.below hB2 r1.lt
  have x2 := hB1.trans (hB2.mono hB1.size)
  have HBD := hidI (rlBuild_any w1.heap.size w.heap.size (w.heap.size + 1) w2 e2 d2 k2)
  have f0 := d1.at 0 rfl; have f1 := k1.at 0 rfl
  have g0 := e2.at 0 rfl
  have HR2 := hidI r2; have HX2 := hidI x2
  have hr2 := r2.lt
  rw [hz1] at HBD g0
  clear d1 k1 r1 hB1 e2 d2 k2 r2 x2 hB2
  go_enter Tryz.func6, Tryz.ntmps6
  go_upto_region 1 with fail
  rw [← hw1]
  clear hw1
  go_wp2_with fail
  refine (rlPair17 w1).mono ?_
  rintro e w9 ⟨rfl, h9⟩
  replace h9 := h9.symm
  subst h9
  go_wp2_with fail
  refine (rlLast17 w1).mono ?_
  rintro e w9 ⟨rfl, h9⟩
  replace h9 := h9.symm
  subst h9
  go_upto_region 4 with fail
  rw [← hw2]
  clear hw2 hz1 f0 f1
  go_wp2_with fail
  refine HBD.out.mono ?_
  rintro e w3 ⟨p3, m3, c3, rfl, hs3, hB3⟩
  have x3 := HX2.out.trans (hB3.mono HX2.out.size)
  have r3 := HR2.out.below hB3 hr2
  have k0 := r3.at 0 rfl; have k1 := r3.at 1 rfl; have k2 := r3.at 2 rfl
  have z0 := r3.frozen 0; have z1 := r3.frozen 1; have z2 := r3.frozen 2
  have HS3 := hidI hs3
  clear g0 hs3 hB3
  go_wp2
  have r6 := VRow.set (i := 2) (.slice p3 m3 c3) (VRow.set (i := 1) (.int .i64 8) (VRow.set (i := 0) (.int .i64 2) r3))
  have y0 := r6.at 0 rfl; have y1 := r6.at 1 rfl; have y2 := r6.at 2 rfl
  have o6 := ownsRow_setCell_below (a := ⟨w.heap.size + 1 + 1, 2, none⟩) (ownsRow_setCell_below (a := ⟨w.heap.size + 1 + 1, 1, none⟩) (ownsRow_setCell_below (a := ⟨w.heap.size + 1 + 1, 0, none⟩) HS3.out hr2 (.int .i64 2)) hr2 (.int .i64 8)) hr2 (.slice p3 m3 c3)
  have x6 : RowKit.Below w.heap.size w (((w3.setCell ⟨w.heap.size + 1 + 1, 0, none⟩ (.int .i64 2)).setCell ⟨w.heap.size + 1 + 1, 1, none⟩ (.int .i64 8)).setCell ⟨w.heap.size + 1 + 1, 2, none⟩ (.slice p3 m3 c3)) := ((x3.setCell (show w.heap.size ≤ w.heap.size + 1 + 1 by omega) _).setCell (show w.heap.size ≤ w.heap.size + 1 + 1 by omega) _).setCell (show w.heap.size ≤ w.heap.size + 1 + 1 by omega) _
  refine bodyPost_ret (v := .tuple #[.agg #[.int .i64 2, .int .i64 8, .slice p3 m3 c3], .int .i64 0]) (by simp [results, Tryz.results6, go_sem, y0, y1, y2]) rfl ?_
  exact ⟨p3, m3, c3, rfl, own_conv o6 rfl (by omega), x6⟩
#print axioms rlGraph17
end Go.Proofs.YtjpilmedlecdhaaGreatDoor
namespace Go.Proofs.YtjpilmedlecdhaaGreatDoor
open Go.RowKit Go.ChangeMaps Go.MapKept Go.Maps

/-- The entries' numbers. -/
def Bo (w : World) (b : Nat) : Prop := ∃ es clock, w.heap[b]? = some (.map es clock) ∧ (es.toList.map (·.born)).Nodup ∧ ∀ e ∈ es.toList, e.born < clock
theorem Bo.same {w w' : World} {b : Nat} (h : Bo w b) (hb : w'.heap[b]? = w.heap[b]?) : Bo w' b := by
  obtain ⟨es, clock, h1, h2⟩ := h
  exact ⟨es, clock, hb.trans h1, h2⟩
theorem Bo.made (w : World) : Bo (w.alloc (.map #[] 0)) w.heap.size := ⟨#[], 0, heap_alloc_new w _, by simp, by simp⟩
section
variable {α β : Type} {kv : α → Value} {ok : α → Prop} {vv : β → Value} {w : World} {b : Nat} {f : α → Option β} {P : Program} {k : TypeId}
/-- A map with its entries' numbers. -/
def MpB (kv : α → Value) (ok : α → Prop) (vv : β → Value) (w : World) (b : Nat) (f : α → Option β) : Prop := Mp kv ok vv w b f ∧ Bo w b
theorem MpB.same {w' : World} (h : MpB kv ok vv w b f) (hb : w'.heap[b]? = w.heap[b]?) : MpB kv ok vv w' b f := ⟨h.1.same hb, h.2.same hb⟩
theorem MpB.lt (h : MpB kv ok vv w b f) : b < w.heap.size := h.1.lt
theorem MpB.made (w : World) : MpB kv ok vv (w.alloc (.map #[] 0)) w.heap.size (fun _ => none) := ⟨Mp.made w, Bo.made w⟩
theorem MpB.congr {g : α → Option β} (h : MpB kv ok vv w b f) (e : ∀ a, f a = g a) : MpB kv ok vv w b g := ⟨h.1.congr e, h.2⟩
theorem MpB.store [DecidableEq α] {t e : TypeId} (h : MpB kv ok vv w b f) (K : KeyBy P k kv ok) (ht : P.underlying t = some (.map k e)) (a : α) (ha : ok a) (x : β) :
    ∃ w', (Instr.mapUpdate t (.map (some b)) (kv a) (vv x)).run P w = .ok () w' ∧ MpB kv ok vv w' b (mset f a x) ∧ w.mapTurned w' b := by
  obtain ⟨w', hrun, h2, h3⟩ := Mp.store (t := t) h.1 K ht a ha x
  refine ⟨w', hrun, ⟨h2, ?_⟩, h3⟩
  obtain ⟨es, clock, hb, hd, hr, hc⟩ := h.1
  obtain ⟨es', clock', hb', hbn, hbl⟩ := h.2
  rw [hb] at hb'; cases hb'
  obtain ⟨kl, hkey⟩ := K.reads a ha
  have hkeys : ∀ e ∈ es.toList, ∃ l, keyOf P k e.key = some l := fun e he => by
    obtain ⟨a', y, h1, h2, _⟩ := hr e he
    rw [h1]; exact K.reads a' h2
  rcases K.law.find w hkey es.toList hkeys with ⟨h1, _⟩ | ⟨j, e0, h1, h2', h3'⟩
  · have hr2 : (Instr.mapUpdate t (.map (some b)) (kv a) (vv x)).run P w = .ok () (setBlock w b (.map (es.push ⟨kv a, vv x, clock⟩) (clock + 1))) := by
      simp [Instr.mapUpdate, run_underlying ht, MapKept.run_getObj_map hb, K.law.check w false hkey, h1, MapKept.run_setObj_map _ hb, Result.andThen, setBlock]
    rw [hrun] at hr2
    cases hr2
    refine ⟨_, _, heap_setBlock_same hb _, ?_, ?_⟩
    · rw [Array.toList_push, List.map_append, List.nodup_append]
      refine ⟨hbn, by simp, ?_⟩
      intro x hx y hy
      simp at hy; subst hy
      obtain ⟨e, he, rfl⟩ := List.mem_map.1 hx
      have := hbl e he; omega
    · intro e he
      rw [Array.toList_push, List.mem_append, List.mem_singleton] at he
      rcases he with he | rfl
      · have := hbl e he; omega
      · show clock < clock + 1
        omega
  · have hj : es[j]? = some e0 := by simpa using h2'
    have hst := K.law.stays w hkey
    have hr2 : (Instr.mapUpdate t (.map (some b)) (kv a) (vv x)).run P w = .ok () (setBlock w b (.map (es.modify j (fun e' => { e' with key := kv a, val := vv x })) clock)) := by
      simp [Instr.mapUpdate, run_underlying ht, MapKept.run_getObj_map hb, K.law.check w false hkey, h1, hj, h3', hst, MapKept.run_setObj_map _ hb, Result.andThen, setBlock]
    rw [hrun] at hr2
    cases hr2
    have hlist : (es.modify j (fun e' => { e' with key := kv a, val := vv x })).toList = es.toList.set j { e0 with key := kv a, val := vv x } := by rw [Array.toList_modify, modify_eq_set _ _ _ _ h2']
    have hbm : (es.toList.set j { e0 with key := kv a, val := vv x }).map (·.born) = es.toList.map (·.born) := by
      rw [List.map_set]
      apply List.ext_getElem?
      intro i
      rw [List.getElem?_set]
      split
      · rename_i hi; subst hi
        have hjl : j < es.toList.length := (List.getElem?_eq_some_iff.1 h2').1
        rw [if_pos (by simpa using hjl), List.getElem?_map, h2']
        rfl
      · rfl
    refine ⟨_, _, heap_setBlock_same hb _, by rw [hlist, hbm]; exact hbn, ?_⟩
    intro e he
    have : e.born ∈ (es.toList.set j { e0 with key := kv a, val := vv x }).map (·.born) := by rw [← hlist]; exact List.mem_map_of_mem he
    rw [hbm] at this
    obtain ⟨e', he', hb'⟩ := List.mem_map.1 this
    rw [← hb']; exact hbl e' he'

/-- Block r ranges over the map in block b; ks: the keys that have come. -/
def RgA (kv : α → Value) (ok : α → Prop) (vv : β → Value) (w : World) (b r : Nat) (ks : List α) (f : α → Option β) : Prop :=
  ∃ (es : Array MapEntry) (clock : Nat) (seen : Array Nat) (vis : List MapEntry), w.heap[b]? = some (.map es clock) ∧ w.heap[r]? = some (.mapIter (some b) clock seen clock) ∧ (es.toList.map (·.born)).Nodup ∧ (∀ e ∈ es.toList, e.born < clock) ∧
    es.toList.Pairwise (fun x y => x.key ≠ y.key) ∧ (∀ e ∈ es.toList, ∃ s x, e.key = kv s ∧ ok s ∧ e.val = vv x ∧ f s = some x) ∧ (∀ s x, f s = some x → ∃ e ∈ es.toList, e.key = kv s) ∧
    ks.map kv = vis.map (·.key) ∧ seen.toList = vis.map (·.born) ∧ (∀ e ∈ vis, e ∈ es.toList) ∧ (∀ s ∈ ks, ok s)
/-- How many entries are to come. -/
def rgLe (w : World) (b r : Nat) : Nat := match w.heap[b]?, w.heap[r]? with
  | some (.map es _), some (.mapIter _ _ seen _) => (leftOf es seen).size
  | _, _ => 0
theorem rgLe_eq {w w' : World} {b r : Nat} (hb : w'.heap[b]? = w.heap[b]?) (hr : w'.heap[r]? = w.heap[r]?) : rgLe w' b r = rgLe w b r := by unfold rgLe; rw [hb, hr]
theorem RgA.same {w w' : World} {b r : Nat} {ks : List α} {f : α → Option β} (h : RgA kv ok vv w b r ks f) (hb : w'.heap[b]? = w.heap[b]?) (hr : w'.heap[r]? = w.heap[r]?) : RgA kv ok vv w' b r ks f := by
  obtain ⟨es, clock, seen, vis, h1, h2, h3⟩ := h
  exact ⟨es, clock, seen, vis, hb.trans h1, hr.trans h2, h3⟩
theorem RgA.lt {w : World} {b r : Nat} {ks : List α} {f : α → Option β} (h : RgA kv ok vv w b r ks f) : b < w.heap.size ∧ r < w.heap.size ∧ b ≠ r := by
  obtain ⟨es, clock, seen, vis, h1, h2, h3⟩ := h
  refine ⟨(Array.getElem?_eq_some_iff.1 h1).1, (Array.getElem?_eq_some_iff.1 h2).1, ?_⟩
  rintro rfl
  rw [h1] at h2; cases h2
theorem RgA.iter {w : World} {b r : Nat} {ks : List α} {f : α → Option β} (h : RgA kv ok vv w b r ks f) : ∃ o, w.heap[r]? = some o ∧ o.isCells = false ∧ o.isWalk = true := by
  obtain ⟨es, clock, seen, vis, h1, h2, h3⟩ := h
  exact ⟨_, h2, rfl, rfl⟩
theorem RgA.mapO {w : World} {b r : Nat} {ks : List α} {f : α → Option β} (h : RgA kv ok vv w b r ks f) : ∃ o, w.heap[b]? = some o ∧ o.isCells = false := by
  obtain ⟨es, clock, seen, vis, h1, h2, h3⟩ := h
  exact ⟨_, h1, rfl⟩
theorem RgA.map {w : World} {b r : Nat} {ks : List α} {f : α → Option β} (h : RgA kv ok vv w b r ks f) : Mp kv ok vv w b f := by
  obtain ⟨es, clock, seen, vis, h1, h2, h3, h4, h5, h6, h7, h8⟩ := h
  exact ⟨es, clock, h1, h5, h6, h7⟩
theorem RgA.mapB {w : World} {b r : Nat} {ks : List α} {f : α → Option β} (h : RgA kv ok vv w b r ks f) : MpB kv ok vv w b f := by
  obtain ⟨es, clock, seen, vis, h1, h2, h3, h4, h5, h6, h7, h8⟩ := h
  exact ⟨⟨es, clock, h1, h5, h6, h7⟩, es, clock, h1, h3, h4⟩
/-- The range begins. -/
theorem RgA.start {t e : TypeId} {w : World} {b : Nat} {f : α → Option β} (h : MpB kv ok vv w b f) (ht : P.underlying t = some (.map k e)) :
    ∃ w', (Instr.range t (.map (some b))).run P w = .ok (.pointer (some ⟨w.heap.size, 0, none⟩)) w' ∧ RgA kv ok vv w' b w.heap.size [] f ∧ w'.heap.size = w.heap.size + 1 ∧ w.grownBy w' none := by
  obtain ⟨es, clock, hb, hd, hr, hc⟩ := h.1
  obtain ⟨es', clock', hb', hbn, hbl⟩ := h.2
  rw [hb] at hb'; cases hb'
  refine ⟨_, run_range_map w t k _ b es clock ht hb, ⟨es, clock, #[], [], ?_, heap_alloc_new w _, hbn, hbl, hd, hr, hc, rfl, rfl, by simp, by simp⟩, World.size_alloc _ _, World.grownBy_alloc w _ none⟩
  · rw [Below.heap_alloc w _ b h.lt]; exact hb
theorem setB_at {w : World} {r : Nat} {o o' : Obj} (h : w.heap[r]? = some o) : (setBlock w r o').heap[r]? = some o' := by
  have := (Array.getElem?_eq_some_iff.1 h).1
  simp [setBlock, this]
theorem setB_ne {w : World} {r i : Nat} {o' : Obj} (h : i ≠ r) : (setBlock w r o').heap[i]? = w.heap[i]? := by
  have h' : r ≠ i := fun e => h e.symm
  simp [setBlock, Array.getElem?_setIfInBounds, h']
/-- The range's step. -/
theorem RgA.next {w : World} {b r : Nat} {ks : List α} {f : α → Option β} (h : RgA kv ok vv w b r ks f) (hinj : ∀ a a', ok a → ok a' → kv a = kv a' → a = a') (ty : TypeId) :
    ((∀ s y, ok s → f s = some y → s ∈ ks) ∧ (Instr.next (.pointer (some ⟨r, 0, none⟩)) false ty).run P w = .ok (.tuple #[.bool false]) w) ∨
    ∃ x y w', f x = some y ∧ x ∉ ks ∧ ok x ∧ (Instr.next (.pointer (some ⟨r, 0, none⟩)) false ty).run P w = .ok (.tuple #[.bool true, kv x, vv y]) w' ∧ RgA kv ok vv w' b r (ks ++ [x]) f ∧ rgLe w' b r < rgLe w b r ∧
      w.grownBy w' (some r) ∧ w'.heap.size = w.heap.size ∧ (Instr.entry (.pointer (some ⟨r, 0, none⟩))).run P w' = .ok (.tuple #[kv x, vv y]) w' := by
  have hbr := h.lt
  obtain ⟨es, clock, seen, vis, hb, hr, hbn, hbl, hd, hent, hcov, hks, hseen, hvis, hoks⟩ := h
  rcases run_next_at (P := P) w ty r b clock clock seen es clock hr hb hbl (Nat.le_refl _) with ⟨h0, hrun⟩ | ⟨e, he, w1, hw1, hrun⟩
  · refine .inl ⟨fun s y hos hs => ?_, hrun⟩
    obtain ⟨e, he, hk⟩ := hcov s y hs
    have hall := all_seen es seen h0 e he
    have hmem : e.born ∈ seen.toList := by simpa using hall
    rw [hseen] at hmem
    obtain ⟨e', he', hbe⟩ := List.mem_map.1 hmem
    have hee : e' = e := by
      have hi := List.mem_iff_getElem.1 (hvis e' he'); have hj := List.mem_iff_getElem.1 he
      obtain ⟨i, hil, hi⟩ := hi; obtain ⟨j, hjl, hj⟩ := hj
      have hij : i = j := by
        have hp := List.pairwise_iff_getElem.1 (show (es.toList.map (·.born)).Pairwise (· ≠ ·) from hbn)
        rcases Nat.lt_trichotomy i j with hlt | heq | hlt
        · exact absurd (by rw [List.getElem_map, List.getElem_map, hi, hj, hbe]) (hp i j (by simpa using hil) (by simpa using hjl) hlt)
        · exact heq
        · exact absurd (by rw [List.getElem_map, List.getElem_map, hi, hj, hbe]) (hp j i (by simpa using hjl) (by simpa using hil) hlt)
      subst hij
      rw [← hi, ← hj]
    subst hee
    have : kv s ∈ vis.map (·.key) := by rw [← hk]; exact List.mem_map_of_mem he'
    rw [← hks] at this
    obtain ⟨s', hs', e⟩ := List.mem_map.1 this
    have := hinj s' s (hoks s' hs') hos e
    rw [← this]; exact hs'
  · obtain ⟨hes, hns⟩ := mem_left he
    obtain ⟨x, y, k1, k2, k3, k4⟩ := hent e hes
    have hw1h : w1.heap = w.heap := by rcases hw1 with rfl | rfl <;> rfl
    have hr1 : w1.heap[r]? = some (.mapIter (some b) clock seen clock) := by rw [hw1h]; exact hr
    have hb2 : (setBlock w1 r (.mapIter (some b) clock (seen.push e.born) clock)).heap[b]? = some (.map es clock) := by
      rw [setB_ne (fun e => hbr.2.2 e)]; rw [hw1h]; exact hb
    have hr2 : (setBlock w1 r (.mapIter (some b) clock (seen.push e.born) clock)).heap[r]? = some (.mapIter (some b) clock (seen.push e.born) clock) := setB_at hr1
    refine .inr ⟨x, y, _, k4, ?_, k2, by rw [k1, k3] at hrun; exact hrun, ⟨es, clock, seen.push e.born, vis ++ [e], hb2, hr2, hbn, hbl, hd, hent, hcov, by simp [hks, k1], by simp [hseen], ?_, ?_⟩, ?_, ?_, ?_, ?_⟩
    · intro hx
      have : kv x ∈ vis.map (·.key) := by rw [← hks]; exact List.mem_map_of_mem hx
      obtain ⟨e', he', hk'⟩ := List.mem_map.1 this
      have hee : e' = e := by
        obtain ⟨i, hil, hi⟩ := List.mem_iff_getElem.1 (hvis e' he'); obtain ⟨j, hjl, hj⟩ := List.mem_iff_getElem.1 hes
        rcases Nat.lt_trichotomy i j with hlt | heq | hlt
        · exact absurd (by rw [hi, hj, hk', k1]) (List.pairwise_iff_getElem.1 hd i j hil hjl hlt)
        · subst heq; rw [← hi, ← hj]
        · exact absurd (by rw [hi, hj, hk', k1]) (List.pairwise_iff_getElem.1 hd j i hjl hil hlt)
      subst hee
      have hc : seen.contains e'.born = true := by
        have : e'.born ∈ seen.toList := by rw [hseen]; exact List.mem_map_of_mem he'
        simpa using this
      rw [hc] at hns; cases hns
    · intro e' he'
      rcases List.mem_append.1 he' with he' | he'
      · exact hvis e' he'
      · rw [List.mem_singleton.1 he']; exact hes
    · intro s hs
      rcases List.mem_append.1 hs with hs | hs
      · exact hoks s hs
      · rw [List.mem_singleton.1 hs]; exact k2
    · unfold rgLe
      rw [hb2, hr2, hb, hr]
      exact left_shrinks es seen e he
    · refine ⟨?_, ?_, ?_, ?_, ?_⟩
      all_goals first
        | (rcases hw1 with rfl | rfl <;> rfl)
        | skip
      · rw [show (setBlock w1 r (.mapIter (some b) clock (seen.push e.born) clock)).heap.size = w1.heap.size by simp [setBlock], hw1h]; exact Nat.le_refl _
      · intro i hi hne
        rw [setB_ne (fun e => hne (by rw [e])), hw1h]
    · rw [show (setBlock w1 r (.mapIter (some b) clock (seen.push e.born) clock)).heap.size = w1.heap.size by simp [setBlock], hw1h]
    · have := run_entry_at (P := P) (setBlock w1 r (.mapIter (some b) clock (seen.push e.born) clock)) r b clock seen es clock e hr2 hb2 hes hbn
      rw [k1, k3] at this
      exact this
end
end Go.Proofs.YtjpilmedlecdhaaGreatDoor
namespace Go.Proofs.YtjpilmedlecdhaaGreatDoor
open Go.RowKit Go.Shelf
attribute [local go_sem] Oper.semAt_some

/-- A map of the swaps, with its entries' numbers. -/
def SwB (l : List Sw) (w : World) (b : Nat) : Prop := MpB k2 ok2 Value.string w b (swapF l)
theorem MpB.alloc {α β : Type} {kv : α → Value} {ok : α → Prop} {vv : β → Value} {w : World} {b : Nat} {f : α → Option β} (h : MpB kv ok vv w b f) (o : Obj) : MpB kv ok vv (w.alloc o) b f := h.same (Below.heap_alloc w o b h.lt)
theorem SwB.look {T : Tb} (hf : fmd T = true) {w : World} {b : Nat} (h : SwB T.swaps w b) (i j : Int) (hi : (Lit.int .i64 i).wf = true) (hj : (Lit.int .i64 j).wf = true) :
    (Instr.lookup 66 (.map (some b)) (.agg #[.int .i64 i, .int .i64 j]) true).run Tryz.prog w = .ok (match swapW T.swaps i j with | some x => .tuple #[.string x, .bool true] | none => .tuple #[.string ⟨#[]⟩, .bool false]) w := by
  have := Mp.look h.1 key2 Tryz.underlying66 (zeroStr w) (i, j) ⟨hi, hj⟩ true
  rw [swapF_eq hf] at this
  cases hs : swapW T.swaps i j <;> rw [hs] at this <;> exact this

set_option maxHeartbeats 1000000 in
theorem lkPairsB_any (T : Tb) (p1 p2 : Option Addr) (c1 c2 : Nat) (w : World) (hp : Sg 3 w swE p2 T.swaps) (h2 : T.swaps.length ≤ 9223372036854775807) (hok : ∀ j (h : j < T.swaps.length), ok2 (T.swaps[j].i, T.swaps[j].j)) :
    Calls Tryz.prog 29 #[.agg #[.int .i64 T.q, .int .i64 T.n, .slice p1 T.base.length c1, .slice p2 T.swaps.length c2]] w fun e w' => e = .returned (.map (some (w.heap.size + 1))) ∧ SwB T.swaps w' (w.heap.size + 1) ∧ Below w.heap.size w w' := by
  have HO := hidI hok
  clear hok
  have hmm := @run_makeMap Tryz.prog
  go_enter Tryz.func29, Tryz.ntmps29
  go_wp2
  go_loopw [10] (fun iv wr => ∃ k : Nat, k ≤ T.swaps.length ∧ iv = .int .i64 k ∧ SwB (T.swaps.take k) wr (w.heap.size + 1) ∧ Below w.heap.size w wr) (fun iv _ => T.swaps.length - (intOf iv).toNat)
  case atStart =>
    refine ⟨0, by omega, rfl, ?_, ((Below.refl _ _).alloc (Nat.le_refl _) _).alloc (by simp) _⟩
    have h : SwB [] _ _ := MpB.made (kv := k2) (ok := ok2) (vv := Value.string) (w.alloc (.cells #[.int .i64 T.q, .int .i64 T.n, .slice p1 T.base.length c1, .slice p2 T.swaps.length c2] 26))
    rwa [World.size_alloc] at h
  case round =>
    obtain ⟨k, hk, rfl, hM, hB⟩ := hrel
    by_cases hlt : k < T.swaps.length
    · obtain ⟨b1, o1, rfl, hb1, e0, e1, e2⟩ := (hp.below hB).get3 k hlt rfl
      have HT := hidI (swapF_take T.swaps k hlt)
      have hok := HO.out k hlt
      obtain ⟨w1, hrun, hM1, hturn⟩ := MpB.store (t := 66) (hM.alloc (.cells #[.int .i64 T.swaps[k].i, .int .i64 T.swaps[k].j, .string T.swaps[k].wd] 55)) key2 Tryz.underlying66 (T.swaps[k].i, T.swaps[k].j) hok T.swaps[k].wd
      unfold k2 at hrun
      go_wp2
      go_roundw
      case rel => exact ⟨k + 1, by omega, by go_num, hM1.congr (fun x => (HT.out x).symm), (hB.alloc hB.size _).grown hturn.grown (Nat.le_trans hB.size (by simp)) (fun j e => by cases e; omega)⟩
      case measure => simp [intOf]; omega
    · obtain rfl : k = T.swaps.length := by omega
      rw [List.take_length] at hM
      go_wp2
      go_ret
      exact ⟨rfl, hM, hB⟩

/-! ### The sequence -/
abbrev SubN := {u : ByteArray // u.size ≤ 16}
def encN (u : SubN) : Array Value := #[.string u.1]
def fl1 (T : Tb) (i : Int) (k : Nat) : List ByteArray := ((List.range k).filter (fun (j : Nat) => frW T i (j : Int))).map (fun j => bget T.base j)
def fl2 (T : Tb) (i : Int) (k : Nat) : List ByteArray := ((T.swaps.take k).filter (fun s => frW T i s.i)).map (fun s => s.wd.extract 0 T.n.toNat)
theorem flw_eq (T : Tb) (i : Int) : flw T i = fl1 T i T.base.length ++ fl2 T i T.swaps.length := by unfold flw fl1 fl2; rw [List.take_length]
theorem fl1_succ (T : Tb) (i : Int) (k : Nat) : fl1 T i (k + 1) = fl1 T i k ++ (if frW T i (k : Int) = true then [bget T.base k] else []) := by
  unfold fl1
  rw [List.range_succ, List.filter_append, List.map_append]
  congr 1
  cases h : frW T i (k : Int) <;> simp [h]
theorem fl2_succ (T : Tb) (i : Int) (k : Nat) (h : k < T.swaps.length) : fl2 T i (k + 1) = fl2 T i k ++ (if frW T i T.swaps[k].i = true then [T.swaps[k].wd.extract 0 T.n.toNat] else []) := by
  unfold fl2
  rw [List.take_succ_eq_append_getElem h, List.filter_append, List.map_append]
  congr 1
  cases hh : frW T i T.swaps[k].i <;> simp [hh]
theorem fl1_len (T : Tb) (i : Int) (k : Nat) : (fl1 T i k).length ≤ k := by
  unfold fl1; rw [List.length_map]; exact Nat.le_trans (List.length_filter_le _ _) (by simp)
theorem fl2_len (T : Tb) (i : Int) (k : Nat) : (fl2 T i k).length ≤ k := by
  unfold fl2; rw [List.length_map]; exact Nat.le_trans (List.length_filter_le _ _) (by rw [List.length_take]; omega)
theorem fl1_sub {T : Tb} {i : Int} {k : Nat} (hk : k ≤ T.base.length) {u : ByteArray} (h : u ∈ fl1 T i k) : u ∈ flw T i := by
  rw [flw_eq]
  refine List.mem_append_left _ ?_
  unfold fl1 at *
  obtain ⟨j, hj, rfl⟩ := List.mem_map.1 h
  obtain ⟨h1, h2⟩ := List.mem_filter.1 hj
  exact List.mem_map.2 ⟨j, List.mem_filter.2 ⟨List.mem_range.2 (by have := List.mem_range.1 h1; omega), h2⟩, rfl⟩
theorem fl2_sub {T : Tb} {i : Int} {k : Nat} {u : ByteArray} (h : u ∈ fl2 T i k) : u ∈ flw T i := by
  rw [flw_eq]
  refine List.mem_append_right _ ?_
  unfold fl2 at *
  obtain ⟨s, hs, rfl⟩ := List.mem_map.1 h
  obtain ⟨h1, h2⟩ := List.mem_filter.1 hs
  exact List.mem_map.2 ⟨s, List.mem_filter.2 ⟨by rw [List.take_length]; exact List.mem_of_mem_take h1, h2⟩, rfl⟩
theorem pre_sub {T : Tb} {i : Int} {l : List ByteArray} {pre : List SubN} {x : SubN} (h1 : pre.map (·.1) ++ [x.1] = l) (h2 : ∀ u ∈ l, u ∈ flw T i) : ∀ u ∈ pre ++ [x], u.1 ∈ flw T i := fun u hu => by
  apply h2
  rw [← h1]
  rcases List.mem_append.1 hu with h | h
  · exact List.mem_append_left _ (List.mem_map_of_mem h)
  · rw [List.mem_singleton.1 h]; simp
/-- Words in memory, in a block below n. -/
def SlB (n : Nat) (w : World) (p : Option Addr) (l : List ByteArray) : Prop :=
  l = [] ∨ ∃ b off, p = some ⟨b, off, none⟩ ∧ b < n ∧ b < w.heap.size ∧ ∀ i (h : i < l.length), w.cell? ⟨b, off + i, none⟩ = some (.string l[i])
def SwpB (n : Nat) (w : World) (p : Option Addr) (l : List Sw) : Prop :=
  l = [] ∨ ∃ b off, p = some ⟨b, off, none⟩ ∧ b < n ∧ b < w.heap.size ∧ ∀ i (h : i < l.length) j, j < 3 → w.cell? ⟨b, off + i * 3 + j, none⟩ = (swE l[i])[j]?
theorem SlB.of {n : Nat} {w : World} {p : Option Addr} {l : List ByteArray} (h : Sl w Value.string p l) (hn : w.heap.size ≤ n) : SlB n w p l := by
  rcases h with h | ⟨b, off, h1, h2, h3⟩
  · exact .inl h
  · exact .inr ⟨b, off, h1, by omega, h2, h3⟩
theorem SlB.sl {n : Nat} {w : World} {p : Option Addr} {l : List ByteArray} (h : SlB n w p l) : Sl w Value.string p l := by
  rcases h with h | ⟨b, off, h1, _, h2, h3⟩
  · exact .inl h
  · exact .inr ⟨b, off, h1, h2, h3⟩
theorem lt_kept {n b : Nat} {w w' : World} (hk : ∀ i, i < n → w'.heap[i]? = w.heap[i]?) (h1 : b < n) (h2 : b < w.heap.size) : b < w'.heap.size := by
  have e := hk b h1
  rcases Nat.lt_or_ge b w'.heap.size with h' | h'
  · exact h'
  · rw [Array.getElem?_eq_none h', Array.getElem?_eq_getElem h2] at e; cases e
theorem SlB.kept {n : Nat} {w w' : World} {p : Option Addr} {l : List ByteArray} (h : SlB n w p l) (hk : ∀ i, i < n → w'.heap[i]? = w.heap[i]?) : SlB n w' p l := by
  rcases h with h | ⟨b, off, h1, h2, h3, h4⟩
  · exact .inl h
  · exact .inr ⟨b, off, h1, h2, lt_kept hk h2 h3, fun i hi => (World.cell?_of_block (w := w) (a := ⟨b, off + i, none⟩) (hk b h2)).trans (h4 i hi)⟩
theorem SwpB.of {n : Nat} {w : World} {p : Option Addr} {l : List Sw} (h : Sg 3 w swE p l) (hn : w.heap.size ≤ n) : SwpB n w p l := by
  rcases h with h | ⟨b, off, h1, h2, h3⟩
  · exact .inl h
  · exact .inr ⟨b, off, h1, by omega, h2, h3⟩
theorem SwpB.sg {n : Nat} {w : World} {p : Option Addr} {l : List Sw} (h : SwpB n w p l) : Sg 3 w swE p l := by
  rcases h with h | ⟨b, off, h1, _, h2, h3⟩
  · exact .inl h
  · exact .inr ⟨b, off, h1, h2, h3⟩
theorem SwpB.kept {n : Nat} {w w' : World} {p : Option Addr} {l : List Sw} (h : SwpB n w p l) (hk : ∀ i, i < n → w'.heap[i]? = w.heap[i]?) : SwpB n w' p l := by
  rcases h with h | ⟨b, off, h1, h2, h3, h4⟩
  · exact .inl h
  · exact .inr ⟨b, off, h1, h2, lt_kept hk h2 h3, fun i hi j hj => (World.cell?_of_block (w := w) (a := ⟨b, off + i * 3 + j, none⟩) (hk b h2)).trans (h4 i hi j hj)⟩
/-- What the sequence reads. -/
structure FB (n : Nat) (W : World) (T : Tb) (p1 p2 : Option Addr) (c1 c2 Bt Bm Bi mb : Nat) (i : Int) : Prop where
  tb : VRow W Bt 26 [.int .i64 T.q, .int .i64 T.n, .slice p1 T.base.length c1, .slice p2 T.swaps.length c2]
  mp : VRow W Bm 66 [.map (some mb)]
  ix : VRow W Bi 3 [.int .i64 i]
  base : SlB n W p1 T.base
  swaps : SwpB n W p2 T.swaps
  rd : SwB T.swaps W mb
  l1 : Bt < n
  l2 : Bm < n
  l3 : Bi < n
  l4 : mb < n
  sz : n ≤ W.heap.size
theorem FB.kept {n : Nat} {W W' : World} {T : Tb} {p1 p2 : Option Addr} {c1 c2 Bt Bm Bi mb : Nat} {i : Int} (h : FB n W T p1 p2 c1 c2 Bt Bm Bi mb i) (hk : ∀ j, j < n → W'.heap[j]? = W.heap[j]?) : FB n W' T p1 p2 c1 c2 Bt Bm Bi mb i where
  tb := (hk _ h.l1).trans h.tb
  mp := (hk _ h.l2).trans h.mp
  ix := (hk _ h.l3).trans h.ix
  base := h.base.kept hk
  swaps := h.swaps.kept hk
  rd := MpB.same h.rd (hk _ h.l4)
  l1 := h.l1
  l2 := h.l2
  l3 := h.l3
  l4 := h.l4
  sz := by
    have := lt_kept (b := n - 1) hk (by have := h.l1; omega) (by have := h.sz; have := h.l1; omega)
    omega
theorem FB.alloc {n : Nat} {W : World} {T : Tb} {p1 p2 : Option Addr} {c1 c2 Bt Bm Bi mb : Nat} {i : Int} (h : FB n W T p1 p2 c1 c2 Bt Bm Bi mb i) (o : Obj) : FB n (W.alloc o) T p1 p2 c1 c2 Bt Bm Bi mb i :=
  h.kept (fun j hj => Below.heap_alloc W o j (by have := h.sz; omega))
theorem FB.kx {n a b : Nat} {W W' : World} {T : Tb} {p1 p2 : Option Addr} {c1 c2 Bt Bm Bi mb : Nat} {i : Int} (h : FB n W T p1 p2 c1 c2 Bt Bm Bi mb i) (hk : KX a b W W') (h1 : n ≤ b) (h2 : n ≤ a) : FB n W' T p1 p2 c1 c2 Bt Bm Bi mb i :=
  h.kept (fun j hj => hk j (by omega) (by omega))

set_option maxHeartbeats 1000000 in
theorem following_in (F : Fence) (n : Nat) (hf : F.fn 60) (hro : F.round = none) (T : Tb) (p1 p2 : Option Addr) (c1 c2 mb : Nat) (i : Int) (w : World) :
    CallsIn F n Tryz.prog 60 #[.agg #[.int .i64 T.q, .int .i64 T.n, .slice p1 T.base.length c1, .slice p2 T.swaps.length c2], .map (some mb), .int .i64 i] w fun e w' =>
      e = .returned (.func (.func 79) #[] #[.pointer (some ⟨w.heap.size, 0, none⟩), .pointer (some ⟨w.heap.size + 1, 0, none⟩), .pointer (some ⟨w.heap.size + 1 + 1, 0, none⟩)]) ∧
      w' = ((w.alloc (.cells #[.int .i64 T.q, .int .i64 T.n, .slice p1 T.base.length c1, .slice p2 T.swaps.length c2] 26)).alloc (.cells #[.map (some mb)] 66)).alloc (.cells #[.int .i64 i] 3) := by
  refine callsIn_of_wp Tryz.func60 rfl hf ?_ hro
  simp only [Tryz.ntmps60, List.size_toArray, List.length_cons, List.length_nil, Nat.reduceAdd, Nat.reduceSub, Array.replicate_succ, Array.replicate_zero, List.push_toArray, List.append_toArray, List.nil_append, List.cons_append]
  gi_wp2
  go_ret
  exact ⟨rfl, rfl⟩

set_option maxRecDepth 100000 in
set_option maxHeartbeats 4000000 in
theorem following1_in (F : Fence) (n : Nat) (hf : F.fn 79) (hro : F.round = none) (hn : 1 ≤ n) (l a b m Bt Bm Bi mb : Nat) (T : Tb) (i : Int) (p1 p2 : Option Addr) (c1 c2 : Nat) (hfm : fmd T = true) (hi : 0 ≤ i ∧ i ≤ 100) (J Jx : List SubN → World → Prop)
    (hA : ∀ pre W o, J pre W → J pre (W.alloc o))
    (hY : ∀ pre x W, J pre W → pre.length < T.base.length + T.swaps.length → YieldAt F (n - 1) Tryz.prog l (encN x) W fun e W' =>
      (e = .returned (.bool true) ∧ J (pre ++ [x]) W' ∧ KX a b W W') ∨ (e = .returned (.bool false) ∧ Jx (pre ++ [x]) W'))
    (W : World) (hma : m ≤ a) (hmb : m ≤ b) (hFB : FB m W T p1 p2 c1 c2 Bt Bm Bi mb i) (h0 : J [] W) :
    CallsIn F n Tryz.prog 79 #[.func (.yield l) #[] #[], .pointer (some ⟨Bt, 0, none⟩), .pointer (some ⟨Bm, 0, none⟩), .pointer (some ⟨Bi, 0, none⟩)] W fun e W' => (∃ v, e = .returned v) ∧
      ((∃ ys : List SubN, ys.map (·.1) = flw T i ∧ J ys W') ∨ (∃ pre : List SubN, (∀ u ∈ pre, u.1 ∈ flw T i) ∧ Jx pre W')) := by
  have hN := pre_all (fmd_split hfm).1
  refine callsIn_of_wp Tryz.func79 rfl hf ?_ hro
  simp only [Tryz.ntmps79, List.size_toArray, List.length_cons, List.length_nil, Nat.reduceAdd, Nat.reduceSub, Array.replicate_succ, Array.replicate_zero, List.push_toArray, List.append_toArray, List.nil_append, List.cons_append]
  have f2 := hFB.tb.at 2 rfl
  gi_wp2
  clear f2
  gi_loopw [16] (fun iv wr => ∃ (k : Nat) (pre : List SubN), k ≤ T.base.length ∧ iv = .int .i64 k ∧ Hid (pre.map (·.1) = fl1 T i k) ∧ J pre wr ∧ FB m wr T p1 p2 c1 c2 Bt Bm Bi mb i) (fun iv _ => T.base.length - (intOf iv).toNat)
  case atStart => exact ⟨0, [], Nat.zero_le _, rfl, rfl, h0, hFB⟩
  case round =>
    clear hFB h0
    obtain ⟨k, pre, hk, rfl, hp, hJs, hfb⟩ := hrel
    by_cases hlt : k < T.base.length
    · have hltI : (k : Int) < (T.base.length : Int) := by omega
      have hpl : pre.length < T.base.length + T.swaps.length := by
        have := congrArg List.length hp.out
        rw [List.length_map] at this
        have := fl1_len T i k
        omega
      obtain ⟨b3, o3, rfl, hb3, hc3⟩ := hfb.base.sl.get k hlt
      have e0 := hc3 k hlt
      have m0 := hfb.mp.at 0 rfl; have i0 := hfb.ix.at 0 rfl
      have hlk := SwB.look hfm hfb.rd i (k : Int) (WalkArith.wf_i64 (by omega)) (WalkArith.wf_i64 (by omega))
      have hsz := base_sz hfm k hlt
      rw [bget_eq _ _ hlt] at hsz
      have HN := hidI (fl1_succ T i k)
      have HFR : Hid (frW T i (k : Int) = (swapW T.swaps i (k : Int)).isNone) := rfl
      have HBG := hidI (bget_eq T.base k hlt)
      rw [HBG.out] at HN
      clear hc3
      generalize swapW T.swaps i (k : Int) = sw at *
      generalize T.base[k] = x at *
      have HY := hidI (hY pre ⟨x, by omega⟩ wr hJs hpl)
      cases sw with
      | none =>
        have HN1 : Hid (fl1 T i (k + 1) = fl1 T i k ++ [x]) := by rw [Hid, HN.out, HFR.out]; simp
        obtain ⟨fn, tmps, assign, body, hy, hR⟩ := HY.out
        unfold encN at hy
        simp only at hy hlk
        gi_wp2
        refine hR.mono ?_
        rintro e W3 (⟨rfl, hJ3, hk3⟩ | ⟨rfl, hJx3⟩)
        · gi_wp2
          go_roundw
          case rel => exact ⟨k + 1, _, by omega, by go_num, by unfold Hid; rw [HN1.out, ← hp.out, List.map_append]; rfl, hJ3, hfb.kx hk3 hmb hma⟩
          case measure => simp [intOf]; omega
        · gi_wp2
          refine bodyPost_ret (results_none rfl _ _ _) rfl ?_
          exact ⟨⟨_, rfl⟩, .inr ⟨_, pre_sub (by rw [hp.out]; exact HN1.out.symm) (fun u hu => fl1_sub (by omega) hu), hJx3⟩⟩
      | some y =>
        have HN1 : Hid (fl1 T i (k + 1) = fl1 T i k) := by rw [Hid, HN.out, HFR.out]; simp
        simp only at hlk
        gi_wp2
        rename_i K1 hK1 x1 h1 w1 e1
        refine ⟨fun f hf => (by cases hf), hK1 _ _ ?_⟩
        clear e1
        gi_wp2
        go_roundw
        case rel => exact ⟨k + 1, _, by omega, by go_num, by unfold Hid; rw [HN1.out, ← hp.out], hJs, hfb⟩
        case measure => simp [intOf]; omega
    · obtain rfl : k = T.base.length := by omega
      have hltI : ¬ (T.base.length : Int) < (T.base.length : Int) := by omega
      have f3 := hfb.tb.at 3 rfl
      gi_wp2
      clear f3
      gi_loopw [41] (fun iv wr => ∃ (k : Nat) (pre : List SubN), k ≤ T.swaps.length ∧ iv = .int .i64 k ∧ Hid (pre.map (·.1) = fl1 T i T.base.length ++ fl2 T i k) ∧ J pre wr ∧ FB m wr T p1 p2 c1 c2 Bt Bm Bi mb i) (fun iv _ => T.swaps.length - (intOf iv).toNat)
      case atStart => exact ⟨0, pre, Nat.zero_le _, rfl, by unfold Hid; rw [hp.out]; simp [fl2], hJs, hfb⟩
      case round =>
        clear hfb hJs hp
        obtain ⟨k, pre, hk, rfl, hp, hJs, hfb⟩ := hrel
        by_cases hlt : k < T.swaps.length
        · have hltI : (k : Int) < (T.swaps.length : Int) := by omega
          have hpl : pre.length < T.base.length + T.swaps.length := by
            have := congrArg List.length hp.out
            rw [List.length_map, List.length_append] at this
            have := fl1_len T i T.base.length
            have := fl2_len T i k
            omega
          obtain ⟨b3, o3, rfl, hb3, e0, e1, e2⟩ := hfb.swaps.sg.get3 k hlt rfl
          have hin := swaps_in hfm (List.getElem_mem hlt)
          have hsz := swap_size hfm k hlt
          have HN := hidI (fl2_succ T i k hlt)
          generalize T.swaps[k] = s at *
          have hfA := hfb.alloc (.cells #[.int .i64 s.i, .int .i64 s.j, .string s.wd] 55)
          have hJA := hA pre wr (.cells #[.int .i64 s.i, .int .i64 s.j, .string s.wd] 55) hJs
          have m0 := hfA.mp.at 0 rfl; have i0 := hfA.ix.at 0 rfl; have t1 := hfA.tb.at 1 rfl
          have hlk := SwB.look hfm hfA.rd i s.i (WalkArith.wf_i64 (by omega)) (WalkArith.wf_i64 (by omega))
          have HFR : Hid (frW T i s.i = (swapW T.swaps i s.i).isNone) := rfl
          generalize swapW T.swaps i s.i = sw at *
          obtain ⟨nn, hnn⟩ := Int.eq_ofNat_of_zero_le (show 0 ≤ T.n by omega)
          have hn1 : (0 : Int) ≤ T.n := by omega
          have hn2 : T.n ≤ (s.wd.size : Int) := by omega
          have hez : (s.wd.extract 0 T.n.toNat).size ≤ 16 := by simp; omega
          have HY := hidI (hY pre ⟨s.wd.extract 0 T.n.toNat, hez⟩ _ hJA hpl)
          clear hnn
          cases sw with
          | none =>
            have HN1 : Hid (fl2 T i (k + 1) = fl2 T i k ++ [s.wd.extract 0 T.n.toNat]) := by rw [Hid, HN.out, HFR.out]; simp
            obtain ⟨fn, tmps, assign, body, hy, hR⟩ := HY.out
            unfold encN at hy
            simp only at hy hlk
            gi_wp2
            refine hR.mono ?_
            rintro e W3 (⟨rfl, hJ3, hk3⟩ | ⟨rfl, hJx3⟩)
            · gi_wp2
              go_roundw
              case rel => exact ⟨k + 1, _, by omega, by go_num, by unfold Hid; rw [HN1.out, ← List.append_assoc, ← hp.out, List.map_append]; rfl, hJ3, hfA.kx hk3 hmb hma⟩
              case measure => simp [intOf]; omega
            · gi_wp2
              refine bodyPost_ret (results_none rfl _ _ _) rfl ?_
              exact ⟨⟨_, rfl⟩, .inr ⟨_, pre_sub (l := fl1 T i T.base.length ++ fl2 T i (k + 1)) (by rw [hp.out, HN1.out, List.append_assoc]) (fun u hu => by
                rcases List.mem_append.1 hu with h | h
                · exact fl1_sub (Nat.le_refl _) h
                · exact fl2_sub h), hJx3⟩⟩
          | some y =>
            have HN1 : Hid (fl2 T i (k + 1) = fl2 T i k) := by rw [Hid, HN.out, HFR.out]; simp
            simp only at hlk
            gi_wp2
            rename_i K1 hK1 x1 h1 w1 e1
            refine ⟨fun f hf => (by cases hf), hK1 _ _ ?_⟩
            clear e1
            gi_wp2
            go_roundw
            case rel => exact ⟨k + 1, _, by omega, by go_num, by unfold Hid; rw [HN1.out, ← hp.out], hJA, hfA⟩
            case measure => simp [intOf]; omega
        · obtain rfl : k = T.swaps.length := by omega
          have hltI : ¬ (T.swaps.length : Int) < (T.swaps.length : Int) := by omega
          gi_wp2
          go_end0
          exact ⟨⟨_, rfl⟩, .inl ⟨_, by rw [flw_eq]; exact hp.out, hJs⟩⟩

/-- The sequence, as the law of the loop takes it. -/
theorem following_stops (F : Fence) (n : Nat) (hf : F.fn 79) (hro : F.round = none) (hn : 1 ≤ n) (a b m Bt Bm Bi mb : Nat) (T : Tb) (i : Int) (p1 p2 : Option Addr) (c1 c2 : Nat) (hfm : fmd T = true) (hi : 0 ≤ i ∧ i ≤ 100) (w : World)
    (hma : m ≤ a) (hmb : m ≤ b) (hFB : FB m w T p1 p2 c1 c2 Bt Bm Bi mb i) :
    SeqStopsK F n Tryz.prog 79 #[.pointer (some ⟨Bt, 0, none⟩), .pointer (some ⟨Bm, 0, none⟩), .pointer (some ⟨Bi, 0, none⟩)] encN (KX a b) (fun ys => ys.map (·.1) = flw T i) (fun pre => ∀ u ∈ pre, u.1 ∈ flw T i) (T.base.length + T.swaps.length) w := fun l J Jx W hW hJ _ hY h0 =>
  following1_in F n hf hro hn l a b m Bt Bm Bi mb T i p1 p2 c1 c2 hfm hi J Jx (fun pre W o h => hJ pre W _ none h (World.grownBy_alloc W o none) (fun r e => by cases e)) hY W hma hmb (hFB.kept (fun j hj => hW.block j (by have := hFB.sz; omega))) h0
end Go.Proofs.YtjpilmedlecdhaaGreatDoor
