/-
  Words, plain lemmas and walks, merged: LkI, LkN, Law, Yg, Xb, Xc, Sv, X0.
-/
import Derived.Test.YtjpilmedlecdhaaGreatZxg
import Derived.Deep.RegionHeld3
import Derived.Deep.DeepCutAuto
import Derived.Test.YtjpilmedlecdhaaGreatRows
import Derived.ProofKit
import Derived.OpenShut
import Derived.ShutString
import Derived.SliceStrings
import Derived.Test.YtjpilmedlecdhaaGreatZxf
import Derived.Lib.SmallJoins
import Derived.Deep.Slices
import Derived.Deep.Fields
import Derived.ChangeSame
import Derived.Carry
import Derived.Test.YtjpilmedlecdhaaGreatZxc
import Derived.Deep.QuietTactic
import Derived.BigQuiet
import Derived.Laws.Entries
import Derived.Laws.Shifts
import Derived.Maps.AppendAt
import Derived.Laws.CopyRow
import Derived.Laws.CopyOwn
import Derived.Lib.AppendZerosOnto
import Derived.Lib.Overlaps
import Derived.Laws.Externs
import Derived.Shelf.Spec.SlicesInsert
import Derived.Shelf.RegionOpenPlain
import Derived.Lib.AppendZeros
import Derived.Test.YtjpilmedlecdhaaGreatZxa
set_option linter.unusedVariables false
set_option linter.unusedSimpArgs false
namespace Go.Proofs.YtjpilmedlecdhaaGreat
open Go.RowKit

set_option maxRecDepth 100000 in
set_option maxHeartbeats 1000000 in
theorem lkDecode_any (T : Tb) (p1 p2 : Option Addr) (c1 c2 : Nat) (s : ByteArray) (w : World) (hin : TbIn w T p1 p2 c1 c2) (hs : s.size ≤ maxLen) :
    Calls Tryz.prog 12 #[.agg #[.int .i64 T.q, .int .i64 T.n, .slice p1 T.base.length c1, .slice p2 T.swaps.length c2], .string s] w (RetSlI (decA T s).1 (decA T s).2 w) := by
  have hB0 : Below w.heap.size w (w.alloc (.cells #[.int .i64 T.q, .int .i64 T.n, .slice p1 T.base.length c1, .slice p2 T.swaps.length c2] 25)) := (Below.refl _ _).alloc (Nat.le_refl _) _
  have b0 : VRow (w.alloc (.cells #[.int .i64 T.q, .int .i64 T.n, .slice p1 T.base.length c1, .slice p2 T.swaps.length c2] 25)) w.heap.size 25 [.int .i64 T.q, .int .i64 T.n, .slice p1 T.base.length c1, .slice p2 T.swaps.length c2] := VRow.new w _ _
  cases hf : fmd T
  · have HF := hidI hf
    have HR := hidI (decA_bad s hf)
    clear hf
    go_enter Tryz.func12, Tryz.ntmps12
    go_wp2_with fail
    refine (lkFormed_any T p1 p2 c1 c2 _ (hin.below hB0)).mono ?_
    rintro e w1 ⟨rfl, hB1⟩
    rw [HF.out]
    go_wp2
    go_ret2
    exact RetSlI.nil HR.out (hB0.trans (hB1.mono hB0.size))
  by_cases hck : wchk T.q s.data.toList = 0
  · exact lkDecode_ok T p1 p2 c1 c2 s w hin hs hf hck
  · have HF := hidI hf
    have HR := hidI (decA_chk hf hck)
    have hck' : (wchk T.q s.data.toList == 0) = false := by simpa using hck
    clear hf hck
    go_enter Tryz.func12, Tryz.ntmps12
    go_wp2_with fail
    refine (lkFormed_any T p1 p2 c1 c2 _ (hin.below hB0)).mono ?_
    rintro e w1 ⟨rfl, hB1⟩
    rw [HF.out]
    have hBa := hB0.trans (hB1.mono hB0.size)
    have f0 := (b0.below hB1 (by simp)).at 0 rfl
    go_wp2_with fail
    refine (wcheck_any T.q s _ hs).mono ?_
    rintro e w2 ⟨rfl, hD⟩
    go_wp2
    go_ret2
    exact RetSlI.nil HR.out (hBa.trans (hD.below _))

def exT : Tb := ⟨2, 3, [⟨#[49, 48, 49]⟩, ⟨#[49, 48, 48]⟩, ⟨#[48, 48, 49]⟩, ⟨#[48, 49, 48]⟩], [⟨0, 0, ⟨#[49, 48, 49, 48, 48, 48]⟩⟩, ⟨0, 1, ⟨#[49, 48, 48, 48, 48, 48]⟩⟩, ⟨2, 0, ⟨#[48, 48, 49, 48, 48, 48]⟩⟩, ⟨2, 1, ⟨#[48, 49, 48, 48, 48, 48]⟩⟩]⟩
theorem flat_get {α β : Type} {enc : α → List β} {m : Nat} (hm : ∀ x, (enc x).length = m) : ∀ (l : List α) (i : Nat) (hi : i < l.length) (j : Nat), j < m → (l.flatMap enc)[i * m + j]? = (enc l[i])[j]?
  | [], i, hi, _, _ => by simp at hi
  | x :: l, 0, _, j, hj => by
    rw [List.flatMap_cons, Nat.zero_mul, Nat.zero_add, List.getElem?_append_left (by rw [hm]; exact hj)]; rfl
  | x :: l, i + 1, hi, j, hj => by
    rw [List.flatMap_cons, List.getElem?_append_right (by rw [hm, Nat.succ_mul]; omega), hm, show (i + 1) * m + j - m = i * m + j by rw [Nat.succ_mul]; omega]
    exact flat_get hm l i (by simpa using hi) j hj
theorem Sg.of_vrow {α : Type} {w : World} {B t m : Nat} {enc : α → List Value} {l : List α} (hm : ∀ x, (enc x).length = m) (h : VRow w B t (l.flatMap enc)) : Sg m w enc (some ⟨B, 0, none⟩) l :=
  .inr ⟨B, 0, rfl, h.lt, fun i hi j hj => by rw [Nat.zero_add, h.cell, flat_get hm l i hi j hj]⟩
/-- The table of the chapter, in memory of the call's own. -/
def RetTb (w : World) (e : Ending) (w' : World) : Prop := ∃ p1 p2, e = .returned (.agg #[.int .i64 2, .int .i64 3, .slice p1 4 4, .slice p2 4 4]) ∧ TbIn w' exT p1 p2 4 4 ∧ Below w.heap.size w w'
set_option maxHeartbeats 1000000 in
theorem lkTable_any (w : World) : Calls Tryz.prog 10 #[] w (RetTb w) := by
  go_enter Tryz.func10, Tryz.ntmps10
  go_wp2
  refine bodyPost_ret (v := .agg #[.int .i64 2, .int .i64 3, .slice (some ⟨w.heap.size + 1, 0, none⟩) 4 4, .slice (some ⟨w.heap.size + 1 + 1, 0, none⟩) 4 4]) (by simp [results, Tryz.results10, go_sem]) rfl ?_
  have h1 := (VRow.new1 w (.cells #[.int .i64 2, .int .i64 3, .slice (some ⟨w.heap.size + 1, 0, none⟩) 4 4, .slice (some ⟨w.heap.size + 1 + 1, 0, none⟩) 4 4] 25) 9 (exT.base.map Value.string)).alloc (.cells (exT.swaps.flatMap swE).toArray 53)
  have h2 := VRow.new2 w (.cells #[.int .i64 2, .int .i64 3, .slice (some ⟨w.heap.size + 1, 0, none⟩) 4 4, .slice (some ⟨w.heap.size + 1 + 1, 0, none⟩) 4 4] 25) (.cells (exT.base.map Value.string).toArray 9) 53 (exT.swaps.flatMap swE)
  exact ⟨_, _, rfl, ⟨Sl.of_vrow h1, Sg.of_vrow (m := 3) (fun _ => rfl) h2, by decide, by decide, by decide, by decide +kernel, by decide +kernel⟩, (((Below.refl _ _).alloc (Nat.le_refl _) _).alloc (by simp) _).alloc (by simp; omega) _⟩
theorem exT_fmd : fmd exT = true := by decide +kernel
theorem ex1 : encA exT [0, 0, 1] = (⟨#[49, 48, 49, 48, 48, 48, 49, 48, 48]⟩, 0) := by decide +kernel
theorem ex2 : encA exT [0, 1, 0] = (⟨#[49, 48, 48, 48, 48, 48, 49, 48, 49]⟩, 0) := by decide +kernel
theorem ex3 : encA exT [1, 0, 3] = (⟨#[49, 48, 48, 49, 48, 49, 48, 49, 48]⟩, 0) := by decide +kernel
theorem ex4 : decA exT ⟨#[49, 48, 49, 48, 49, 48]⟩ = ([0, 3], 0) := by decide +kernel
theorem ne_of_get {α : Type} {l m : List α} (k : Nat) (h1 : k < l.length) (h2 : k < m.length) (h : l[k] ≠ m[k]) : l ≠ m := by
  intro e; subst e; exact h rfl

set_option maxHeartbeats 400000 in
theorem equalI_any (l m : List Int) (p q : Option Addr) (c d : Nat) (w : World) (hp : Sl w (Value.int .i64) p l) (hq : Sl w (Value.int .i64) q m) (hl : l.length ≤ 9223372036854775807) (hm : m.length ≤ 9223372036854775807) :
    Calls Tryz.prog 13 #[.slice p l.length c, .slice q m.length d] w fun e w' => e = .returned (.bool (decide (l = m))) ∧ Dr w w' := by
  by_cases hlen : l.length = m.length
  · have hlen' : ((l.length : Int) == (m.length : Int)) = true := by simp [hlen]
    have HT : Hid (l.length = m.length) := hlen
    clear hlen
    go_enter Tryz.func13, Tryz.ntmps13
    go_wp2
    go_loopw [13] (fun i wr => ∃ k : Nat, k ≤ l.length ∧ i = .int .i64 k ∧ Hid (l.take k = m.take k) ∧ Dr w wr) (fun i _ => l.length - (intOf i).toNat)
    case atStart => exact ⟨0, by omega, rfl, by simp [Hid], Dr.refl _⟩
    case round =>
      obtain ⟨k, hk, rfl, hj, hD⟩ := hrel
      by_cases hlt : k < l.length
      · have hlt2 : k < m.length := by have := HT.out; omega
        obtain ⟨b1, o1, rfl, hb1, hc1⟩ := (hp.dr hD).get k hlt
        obtain ⟨b2, o2, rfl, hb2, hc2⟩ := (hq.dr hD).get k hlt2
        have e1 := hc1 k hlt
        have e2 := hc2 k hlt2
        clear hc1 hc2
        have h2' : (k : Int) < (m.length : Int) := by omega
        by_cases he : l[k] = m[k]
        · have heb : (l[k] == m[k]) = true := by simpa using he
          have HE : Hid (l.take (k + 1) = m.take (k + 1)) := by unfold Hid; rw [List.take_succ_eq_append_getElem hlt, List.take_succ_eq_append_getElem hlt2, hj.out, he]
          clear he
          go_wp2_with fail
          (refine wp_region_quiet_lit (by kernel_rfl) (by kernel_rfl) ?_; (repeat (first | go_big_quiet_step (fail) | quiet_step (fail))); refine wpQuiet_nil ?_; intro _ hwq; obtain ⟨nq, hwq2⟩ := hwq; subst hwq2)
          go_wp2
          go_roundw
          case rel => exact ⟨k + 1, by omega, by go_num, HE, hD.one _⟩
          case measure => simp [intOf]; omega
        · have heb : (l[k] == m[k]) = false := by simpa using he
          have HE : Hid (decide (l = m) = false) := decide_eq_false (fun e => by subst e; exact he rfl)
          go_wp2_with fail
          (refine wp_region_quiet_lit (by kernel_rfl) (by kernel_rfl) ?_; (repeat (first | go_big_quiet_step (fail) | quiet_step (fail))); refine wpQuiet_nil ?_; intro _ hwq; obtain ⟨nq, hwq2⟩ := hwq; subst hwq2)
          go_wp2
          go_ret
          exact ⟨ret_bool HE.out.symm, hD.one _⟩
      · obtain rfl : k = l.length := by omega
        have HE : Hid (decide (l = m) = true) := by
          have h1 := hj.out
          rw [List.take_length, HT.out, List.take_length] at h1
          simp [Hid, h1]
        go_wp2
        go_ret
        exact ⟨ret_bool HE.out.symm, hD⟩
  · have hlen' : ((l.length : Int) == (m.length : Int)) = false := by simpa using fun h : (l.length : Int) = m.length => hlen (by omega)
    have HE : Hid (decide (l = m) = false) := by simp [Hid]; rintro rfl; exact hlen rfl
    clear hlen
    go_enter Tryz.func13, Tryz.ntmps13
    go_wp2
    go_ret
    exact ⟨ret_bool HE.out.symm, Dr.refl _⟩


theorem encEx (p1 p2 pl : Option Addr) (a b c : Int) (r : ByteArray) (w : World) (hin : TbIn w exT p1 p2 4 4) (hl : Sl w (Value.int .i64) pl [a, b, c]) (h : encA exT [a, b, c] = (r, 0)) :
    Calls Tryz.prog 11 #[.agg #[.int .i64 2, .int .i64 3, .slice p1 4 4, .slice p2 4 4], .slice pl 3 3] w fun e w' => e = .returned (.tuple #[.string r, .int .i64 0]) ∧ Below w.heap.size w w' := by
  have := lkEncode_any exT p1 p2 4 4 [a, b, c] pl 3 w hin hl (by simp) (by simp)
  rw [h] at this
  exact this
theorem decEx (p1 p2 : Option Addr) (s : ByteArray) (l : List Int) (w : World) (hin : TbIn w exT p1 p2 4 4) (hs : s.size ≤ maxLen) (h : decA exT s = (l, 0)) :
    Calls Tryz.prog 12 #[.agg #[.int .i64 2, .int .i64 3, .slice p1 4 4, .slice p2 4 4], .string s] w (RetSlI l 0 w) := by
  have := lkDecode_any exT p1 p2 4 4 s w hin hs
  rw [h] at this
  exact this
theorem eqEx (q1 q2 : Option Addr) (d : Nat) (w : World) (h1 : Sl w (Value.int .i64) q1 [0, 3]) (h2 : Sl w (Value.int .i64) q2 [0, 3]) :
    Calls Tryz.prog 13 #[.slice q1 2 d, .slice q2 2 2] w fun e w' => e = .returned (.bool true) ∧ Dr w w' := by
  have := equalI_any [0, 3] [0, 3] q1 q2 d 2 w h1 h2 (by simp) (by simp)
  rw [show decide (([0, 3] : List Int) = [0, 3]) = true from rfl] at this
  exact this

set_option maxRecDepth 100000 in
set_option maxHeartbeats 600000 in
theorem lkAwake_any (w : World) : Calls Tryz.prog 6 #[] w fun e w' => e = .returned (.bool true) ∧ Below w.heap.size w w' := by
  have hmx : ∀ w : World, (Builtin.max_ #[32, 32, 32, 32] 32 #[.int .i64 0, .int .i64 0, .int .i64 0, .int .i64 0]).run Tryz.prog w = .ok (.int .i64 0) w := fun _ => by kernel_rfl
  go_enter Tryz.func6, Tryz.ntmps6
  go_wp2_with fail
  refine (lkTable_any _).mono ?_
  rintro e w1 ⟨p1, p2, rfl, hin, hB1⟩
  have hb1 : VRow (w1.alloc (.cells #[.int .i64 2, .int .i64 3, .slice p1 4 4, .slice p2 4 4] 25)) w1.heap.size 25 [.int .i64 2, .int .i64 3, .slice p1 4 4, .slice p2 4 4] := VRow.new w1 _ _
  have hW1 : Below w.heap.size w (w1.alloc (.cells #[.int .i64 2, .int .i64 3, .slice p1 4 4, .slice p2 4 4] 25)) := hB1.alloc hB1.size _
  have hin1 := hin.below ((Below.refl w1.heap.size w1).alloc (Nat.le_refl _) (.cells #[.int .i64 2, .int .i64 3, .slice p1 4 4, .slice p2 4 4] 25))
  go_wp2_with fail
  have s1 := Sl.of_vrow (enc := Value.int .i64) (l := [0, 0, 1]) (VRow.new1 w1 (.cells #[.int .i64 2, .int .i64 3, .slice p1 4 4, .slice p2 4 4] 25) 3 ([0, 0, 1].map (Value.int .i64)))
  have hA1 : Below (w1.alloc (.cells #[.int .i64 2, .int .i64 3, .slice p1 4 4, .slice p2 4 4] 25)).heap.size (w1.alloc (.cells #[.int .i64 2, .int .i64 3, .slice p1 4 4, .slice p2 4 4] 25)) ((w1.alloc (.cells #[.int .i64 2, .int .i64 3, .slice p1 4 4, .slice p2 4 4] 25)).alloc (.cells ([0, 0, 1].map (Value.int .i64)).toArray 3)) := (Below.refl _ _).alloc (Nat.le_refl _) _
  refine (encEx p1 p2 _ 0 0 1 _ _ (hin1.below hA1) s1 ex1).mono ?_
  rintro e v1 ⟨rfl, hE1⟩
  have hT1 := hA1.trans (hE1.mono hA1.size)
  have hin2 := hin1.below hT1
  have hb2 := hb1.below hT1 hb1.lt
  have g2 := hb2.at 0 rfl; have m2 := hb2.at 1 rfl; have n2 := hb2.at 2 rfl; have o2 := hb2.at 3 rfl
  have hW2 := hW1.trans (hT1.mono hW1.size)
  clear hE1 hA1 s1
  go_wp2_with fail
  have s2 := Sl.of_vrow (enc := Value.int .i64) (l := [0, 1, 0]) (VRow.new v1 3 ([0, 1, 0].map (Value.int .i64)))
  have hA2 : Below v1.heap.size v1 (v1.alloc (.cells ([0, 1, 0].map (Value.int .i64)).toArray 3)) := (Below.refl _ _).alloc (Nat.le_refl _) _
  refine (encEx p1 p2 _ 0 1 0 _ _ (hin2.below hA2) s2 ex2).mono ?_
  rintro e v2 ⟨rfl, hE2⟩
  have hT2 := hA2.trans (hE2.mono hA2.size)
  have hin3 := hin2.below hT2
  have hb3 := hb2.below hT2 hb2.lt
  have g3 := hb3.at 0 rfl; have m3 := hb3.at 1 rfl; have n3 := hb3.at 2 rfl; have o3 := hb3.at 3 rfl
  have hW3 := hW2.trans (hT2.mono hW2.size)
  clear hE2 hA2 s2
  clear g2 m2 n2 o2
  go_wp2_with fail
  have s3 := Sl.of_vrow (enc := Value.int .i64) (l := [1, 0, 3]) (VRow.new v2 3 ([1, 0, 3].map (Value.int .i64)))
  have hA3 : Below v2.heap.size v2 (v2.alloc (.cells ([1, 0, 3].map (Value.int .i64)).toArray 3)) := (Below.refl _ _).alloc (Nat.le_refl _) _
  refine (encEx p1 p2 _ 1 0 3 _ _ (hin3.below hA3) s3 ex3).mono ?_
  rintro e v3 ⟨rfl, hE3⟩
  have hT3 := hA3.trans (hE3.mono hA3.size)
  have hin4 := hin3.below hT3
  have hb4 := hb3.below hT3 hb3.lt
  have g4 := hb4.at 0 rfl; have m4 := hb4.at 1 rfl; have n4 := hb4.at 2 rfl; have o4 := hb4.at 3 rfl
  have hW4 := hW3.trans (hT3.mono hW3.size)
  clear hE3 hA3 s3
  clear g3 m3 n3 o3
  go_wp2_with fail
  refine (decEx p1 p2 ⟨#[49, 48, 49, 48, 49, 48]⟩ [0, 3] _ hin4 (by decide +kernel) ex4).mono ?_
  rintro e v4 ⟨q, d, rfl, hs4, hE4⟩
  have hW5 := hW4.trans (hE4.mono hW4.size)
  have s5 := Sl.of_vrow (enc := Value.int .i64) (l := [0, 3]) (VRow.new v4 3 (([0, 3] : List Int).map (Value.int .i64)))
  clear g4 m4 n4 o4
  go_wp2_with fail
  refine (eqEx q _ d _ (hs4.below ((Below.refl _ _).alloc (Nat.le_refl _) _)) s5).mono ?_
  rintro e v5 ⟨rfl, hD5⟩
  go_wp2
  go_ret
  exact ⟨rfl, (hW5.alloc hW5.size _).trans (hD5.below _)⟩
end Go.Proofs.YtjpilmedlecdhaaGreat
namespace Go.Proofs.YtjpilmedlecdhaaGreat
open Go.RowKit

theorem lkEncode_r (T : Tb) (p1 p2 : Option Addr) (c1 c2 : Nat) (l : List Int) (pl : Option Addr) (cl : Nat) (w : World) (hin : TbIn w T p1 p2 c1 c2) (hl : Sl w (Value.int .i64) pl l) (hln : l.length ≤ 1000) (hcl : l.length ≤ cl) (r : ByteArray) (k : Int) (hr : encA T l = (r, k)) :
    Calls Tryz.prog 11 #[.agg #[.int .i64 T.q, .int .i64 T.n, .slice p1 T.base.length c1, .slice p2 T.swaps.length c2], .slice pl l.length cl] w fun e w' => e = .returned (.tuple #[.string r, .int .i64 k]) ∧ Below w.heap.size w w' := by
  have := lkEncode_any T p1 p2 c1 c2 l pl cl w hin hl hln hcl
  rw [hr] at this
  exact this
theorem lkEncode_n (T : Tb) (p1 p2 : Option Addr) (c1 c2 : Nat) (l : List Int) (pl : Option Addr) (cl : Nat) (w : World) (hin : TbIn w T p1 p2 c1 c2) (hl : Sl w (Value.int .i64) pl l) (hln : l.length ≤ 1000) (hcl : l.length ≤ cl) (r : ByteArray) (k : Int) (hr : encA T l = (r, k)) (n : Nat) (hn : l.length = n) :
    Calls Tryz.prog 11 #[.agg #[.int .i64 T.q, .int .i64 T.n, .slice p1 T.base.length c1, .slice p2 T.swaps.length c2], .slice pl n cl] w fun e w' => e = .returned (.tuple #[.string r, .int .i64 k]) ∧ Below w.heap.size w w' := by
  subst hn
  exact lkEncode_r T p1 p2 c1 c2 l pl cl w hin hl hln hcl r k hr
/-- What is written for two lists and for both of them together. -/
def Enc3 (T : Tb) (a b : List Int) (u v x : ByteArray) (k : Int) : Prop := encA T a = (u, k) ∧ encA T b = (v, k) ∧ encA T (a ++ b) = (x, k)
theorem enc3_bad {T : Tb} (a b : List Int) (h : fmd T = false) : Enc3 T a b ⟨#[]⟩ ⟨#[]⟩ ⟨#[]⟩ 1 := ⟨encA_bad a h, encA_bad b h, encA_bad _ h⟩
theorem enc3_ok {T : Tb} {a b : List Int} (h : fmd T = true) (ha : a.any (outB T.base.length) = false) (hb : b.any (outB T.base.length) = false) : Enc3 T a b (encW T a) (encW T b) (encW T (a ++ b)) 0 :=
  ⟨encA_ok h ha, encA_ok h hb, encA_ok h (any_app_f ha hb)⟩
/-- Two lists of numbers in two slots. -/
def Two (w : World) (A B : List Int) (v u : Value) (wx : World) : Prop :=
  ∃ pa ca pb cb, v = .slice pa A.length ca ∧ u = .slice pb B.length cb ∧ Sl wx (Value.int .i64) pa A ∧ Sl wx (Value.int .i64) pb B ∧ A.length ≤ ca ∧ B.length ≤ cb ∧ Below w.heap.size w wx
theorem box_below {w wx : World} {T : Tb} {p1 p2 : Option Addr} {c1 c2 : Nat} (h : Below (w.alloc (.cells #[.int .i64 T.q, .int .i64 T.n, .slice p1 T.base.length c1, .slice p2 T.swaps.length c2] 25)).heap.size (w.alloc (.cells #[.int .i64 T.q, .int .i64 T.n, .slice p1 T.base.length c1, .slice p2 T.swaps.length c2] 25)) wx) :
    VRow wx w.heap.size 25 [.int .i64 T.q, .int .i64 T.n, .slice p1 T.base.length c1, .slice p2 T.swaps.length c2] :=
  (VRow.new w _ _).below h (by simp)

end Go.Proofs.YtjpilmedlecdhaaGreat
namespace Go.Proofs.YtjpilmedlecdhaaGreat
open Go.ChangeShapes Go.WideShapes Go.ChangeAt Go.RowKit

theorem own : ownKnob Tryz.prog.godebug = none := by kernel_rfl
theorem laidOut : laidOutB Tryz.prog = true := by kernel_rfl

theorem trodAll_below {H : Type} {enc : TypeId × Value → H} {W W' : World} (hb : Below W.heap.size W W') :
    ∀ (ts : List TypeId) (vs : List Value) (ds : List (DataW H)) (p : List MemPlace), (∀ t ∈ ts, Tryz.prog.readableRec t = true ∧ t < Tryz.prog.types.size) →
      DataW.TrodAll enc Tryz.prog W 0 (fun _ => true) true ts vs ds p → (∀ x ∈ p, x.block < W.heap.size) →
      DataW.TrodAll enc Tryz.prog W' 0 (fun b => decide (b < W.heap.size)) true ts vs ds p
  | [], vs, ds, p, _, h, _ => by
    obtain ⟨rfl, rfl, rfl⟩ := trodAll_nil h
    exact trodAll_mk0
  | t :: ts, vs, ds, p, ht, h, hlt => by
    obtain ⟨v, vs', d, ds', p', q', rfl, rfl, rfl, h0, h1⟩ := trodAll_cons h
    exact trodAll_cons_mk (Below.trod laidOut (ht t List.mem_cons_self).1 (ht t List.mem_cons_self).2 h0 hb (fun x hx => hlt x (List.mem_append_left _ hx)))
      (trodAll_below hb ts vs' ds' q' (fun t h => ht t (List.mem_cons_of_mem _ h)) h1 (fun x hx => hlt x (List.mem_append_right _ hx)))

/-- What the row asks behind the call of a law. -/
theorem law_post {H : Type} {enc : TypeId × Value → H} {f : Func} {s : ChangeSpec} {W W' : World} {args : Array Value} {ds gs : List (DataW H)} {before : List MemPlace}
    (hW : DataW.Whole enc Tryz.prog f.params.toList s.vars false W args.toList ds gs before) (hv : s.vars = [])
    (hr : f.resultTypes = #[4]) (ht : ∀ t ∈ f.params.toList, Tryz.prog.readableRec t = true ∧ t < Tryz.prog.types.size)
    (hfr : (s.fn H (ds ++ gs)).results = [.lit (.bool true)]) (hfa : (s.fn H (ds ++ gs)).args = ds) (hfv : (s.fn H (ds ++ gs)).vars = [])
    (hB : Below W.heap.size W W') : s.post enc Tryz.prog f false true false false W args (.bool true) W' := by
  have hW' := hW
  obtain ⟨p, q, hA, hV, rfl, hfz, hnd⟩ := hW
  have hlt : ∀ x ∈ p, x.block < W.heap.size := fun x hx => hW'.lt x (List.mem_append_left _ hx)
  refine ⟨ds, gs, _, [] ++ [], p, [], hW', ?_, ?_, ?_, hB.frame _, fun h => by cases h⟩
  · rw [hfr, hr]; exact trodAll_mk1 (shut_bool Tryz.underlying4 true)
  · rw [hfa]; exact trodAll_below hB _ _ _ _ ht hA hlt
  · rw [hfv, hv]; exact rfl
end Go.Proofs.YtjpilmedlecdhaaGreat
namespace Go.Proofs.YtjpilmedlecdhaaGreat
open Go.Joins Go.ChangeShapes Go.WideShapes Go.ChangeAt Go.RowKit Go.Deep

open Go.ChangeMaps (open_string shut_string)

section
variable {H : Type} {enc : TypeId × Value → H} {P : Program} {w : World} {base : Nat} {spare : Nat → Bool} {held : Bool}
theorem open_slice_fields {t e : TypeId} {fs : Array Field} {fuel : Nat} {cs : List Value} {x : DataW H × List MemPlace} (ht : P.underlying t = some (.slice e)) (he : P.underlying e = some (.struct fs))
    (hone : oneCellFields P fs = true) (hC : P.cellsOf e = fs.size) (h : DataW.trod enc P w base spare held fuel t cs = some x) :
    (cs = [.slice none 0 0] ∧ x = (.nil, [])) ∨
    ∃ (a : Addr) (len cap m : Nat) (D : Nat → DataW H) (Pl : Nat → List MemPlace), cs = [.slice (some a) len cap] ∧ base ≤ a.block ∧ len ≤ cap ∧ cap ≤ maxLen ∧ m = (if spare a.block then cap else len) ∧
      x = (.slice ((List.range len).map D) ((List.range (m - len)).map fun j => D (len + j)), MemPlace.row a (m * fs.size) ++ (List.range m).flatMap Pl) ∧
      ∀ i, i < m → ∃ (ys : List (DataW H × List MemPlace)) (n : Nat), D i = .agg (ys.map (·.1)) ∧ Pl i = ys.flatMap (·.2) ∧ ys.length = fs.size ∧
        ∀ (j : Nat) (f : Field), fs[j]? = some f → ∃ (v : Value) (y : DataW H × List MemPlace), w.cell? (a.add (i * fs.size + j)) = some v ∧ ys[j]? = some y ∧ DataW.trod enc P w base spare held n f.type [v] = some y := by
  rcases open_slice ht h with h0 | ⟨a, len, cap, m, n, D, Pl, hcs, hb, hl, hm, hmm, hx, hi⟩
  · exact .inl h0
  · refine .inr ⟨a, len, cap, m, D, Pl, hcs, hb, hl, hm, hmm, by rw [hC] at hx; exact hx, fun i him => ?_⟩
    obtain ⟨cs', hc, ht'⟩ := hi i him
    rw [hC] at hc
    obtain ⟨ys, n', hn', hy, hlen, hyl, hf⟩ := DataW.trod_struct he ht'
    obtain ⟨_, hcl, hat⟩ := World.cells?_some hc
    simp only [Prod.mk.injEq] at hy
    refine ⟨ys, n', hy.1, hy.2, hyl, fun j f hj => ?_⟩
    obtain ⟨ho, hk⟩ := hone_of hone j f hj
    have hjl : j < fs.size := (Array.getElem?_eq_some_iff.1 hj).1
    have hcell := hat j hjl
    have hv : cs'[j]? = some (cs'[j]'(by omega)) := List.getElem?_eq_getElem (by omega)
    have h1 := hf j f hj
    rw [ho, hk] at h1
    have hone' : (cs'.drop j).take 1 = [cs'[j]'(by omega)] := by
      rw [List.drop_eq_getElem_cons (by omega)]
      rfl
    rw [hone'] at h1
    have hys : ys[j]? = some (ys[j]'(by omega)) := List.getElem?_eq_getElem (by omega)
    refine ⟨_, _, ?_, hys, h1.trans hys⟩
    rw [← Go.Deep.add_add, hcell, hv]
end
/-- Elements that each exist make a list. -/
theorem list_of {α : Type} {P : Nat → α → Prop} : ∀ (n : Nat), (∀ i, i < n → ∃ x, P i x) → ∃ l : List α, l.length = n ∧ ∀ i (h : i < l.length), P i l[i]
  | 0, _ => ⟨[], rfl, fun i h => by simp at h⟩
  | n + 1, h => by
    obtain ⟨l, hl, hp⟩ := list_of n (fun i hi => h i (by omega))
    obtain ⟨x, hx⟩ := h n (by omega)
    refine ⟨l ++ [x], by simp [hl], fun i hi => ?_⟩
    by_cases h2 : i < l.length
    · rw [List.getElem_append_left h2]; exact hp i h2
    · have : i = n := by simp at hi; omega
      subst this
      subst hl
      simpa using hx

theorem cellsString : Tryz.prog.cellsOf 9 = 1 := by kernel_rfl
theorem cellsInt : Tryz.prog.cellsOf 3 = 1 := by kernel_rfl
theorem cellsLook : Tryz.prog.cellsOf 25 = 4 := by kernel_rfl
theorem readLook : Tryz.prog.readableRec 25 = true ∧ 25 < Tryz.prog.types.size := ⟨by kernel_rfl, of_decide_eq_true (by kernel_rfl)⟩
theorem readInts : Tryz.prog.readableRec 40 = true ∧ 40 < Tryz.prog.types.size := ⟨by kernel_rfl, of_decide_eq_true (by kernel_rfl)⟩
theorem readString : Tryz.prog.readableRec 9 = true ∧ 9 < Tryz.prog.types.size := ⟨by kernel_rfl, of_decide_eq_true (by kernel_rfl)⟩

/-- A list of strings inside what came in, as the walks take it. -/
theorem strings_at {H : Type} {enc : TypeId × Value → H} {W : World} {fuel : Nat} {v : Value} {y : DataW H × List MemPlace}
    (h : DataW.trod enc Tryz.prog W 0 (fun _ => true) true fuel 22 [v] = some y) (hlt : ∀ x ∈ y.2, x.block < W.heap.size) :
    ∃ (p : Option Addr) (l : List ByteArray) (c : Nat), v = .slice p l.length c ∧ Sl W Value.string p l ∧ (∀ j (hj : j < l.length), l[j].size ≤ maxLen) ∧ l.length ≤ 9223372036854775807 ∧ l.length ≤ c := by
  rcases open_strings Tryz.underlying22 Tryz.underlying9 cellsString h with ⟨hcs, hx⟩ | ⟨a, len, cap, ss, hcs, _, hl, hm, hz, hx, hcell, hws⟩
  · simp at hcs
    subst hcs
    exact ⟨none, [], 0, rfl, Sl.nil _ _ _, fun j hj => by simp at hj, by simp, by simp⟩
  · simp at hcs
    subst hcs hx
    simp only [if_true] at hz
    have hlen : (ss.take len).length = len := by simp; omega
    refine ⟨some a, ss.take len, cap, by rw [hlen], ?_, ?_, by rw [hlen]; unfold maxLen at hm; omega, by rw [hlen]; exact hl⟩
    · by_cases h0 : len = 0
      · subst h0; exact .inl (by simp)
      · obtain ⟨b, off, spot⟩ := a
        have hspot : spot = none := by simpa [Addr.add] using World.cell?_spot (hcell 0 (by omega))
        subst hspot
        refine .inr ⟨b, off, rfl, hlt (.cell b off) (MemPlace.mem_row.2 ⟨0, by omega, by simp⟩), fun i hi => ?_⟩
        rw [← add_plain, hcell i (by omega)]
        have : i < ss.length := by omega
        simp [List.getD_eq_getElem?_getD, this]
    · intro j hj
      rw [List.getElem_take]
      exact hws _ (List.getElem_mem _)
/-- A list of ints inside what came in, as the walks take it. -/
theorem ints_at {H : Type} {enc : TypeId × Value → H} {W : World} {fuel : Nat} {v : Value} {y : DataW H × List MemPlace}
    (h : DataW.trod enc Tryz.prog W 0 (fun _ => true) true fuel 40 [v] = some y) (hlt : ∀ x ∈ y.2, x.block < W.heap.size) :
    ∃ (p : Option Addr) (l : List Int) (c : Nat), v = .slice p l.length c ∧ Sl W (Value.int .i64) p l ∧ l.length ≤ 9223372036854775807 ∧ l.length ≤ c := by
  rcases open_ints Tryz.underlying40 Tryz.underlying3 cellsInt h with ⟨hcs, hx⟩ | ⟨a, len, cap, zs, hcs, _, hl, hm, hz, hx, hcell, _⟩
  · simp at hcs
    subst hcs
    exact ⟨none, [], 0, rfl, Sl.nil _ _ _, by simp, by simp⟩
  · simp at hcs
    subst hcs hx
    simp only [if_true] at hz
    have hlen : (zs.take len).length = len := by simp; omega
    refine ⟨some a, zs.take len, cap, by rw [hlen], ?_, by rw [hlen]; unfold maxLen at hm; omega, by rw [hlen]; exact hl⟩
    by_cases h0 : len = 0
    · subst h0; exact .inl (by simp)
    · obtain ⟨b, off, spot⟩ := a
      have hspot : spot = none := by simpa [Addr.add] using World.cell?_spot (hcell 0 (by omega))
      subst hspot
      refine .inr ⟨b, off, rfl, hlt (.cell b off) (MemPlace.mem_row.2 ⟨0, by omega, by simp⟩), fun i hi => ?_⟩
      rw [← add_plain, hcell i (by omega)]
      have : i < zs.length := by omega
      simp [List.getD_eq_getElem?_getD, this]
/-- A list of swaps inside what came in, as the walks take it. -/
theorem swaps_at {H : Type} {enc : TypeId × Value → H} {W : World} {fuel : Nat} {v : Value} {y : DataW H × List MemPlace}
    (h : DataW.trod enc Tryz.prog W 0 (fun _ => true) true fuel 23 [v] = some y) (hlt : ∀ x ∈ y.2, x.block < W.heap.size) :
    ∃ (p : Option Addr) (l : List Sw) (c : Nat), v = .slice p l.length c ∧ Sg 3 W swE p l ∧ (∀ j (hj : j < l.length), l[j].wd.size ≤ maxLen) ∧ l.length ≤ 9223372036854775807 := by
  rcases open_slice_fields Tryz.underlying23 Tryz.underlying53 (by kernel_rfl) (by kernel_rfl) h with ⟨hcs, hx⟩ | ⟨a, len, cap, m, D, Pl, hcs, _, hl, hm, hmm, hx, hf⟩
  · simp at hcs
    subst hcs
    exact ⟨none, [], 0, rfl, Sg.nil _ _ _ _, fun j hj => by simp at hj, by simp⟩
  · simp at hcs
    subst hcs hx
    simp only [if_true] at hmm
    subst hmm
    obtain ⟨l, hll, hp⟩ := list_of (P := fun i (s : Sw) => W.cell? (a.add (i * 3 + 0)) = some (.int .i64 s.i) ∧ W.cell? (a.add (i * 3 + 1)) = some (.int .i64 s.j) ∧ W.cell? (a.add (i * 3 + 2)) = some (.string s.wd) ∧ s.wd.size ≤ maxLen) len (fun i hi => by
      obtain ⟨ys, n, _, _, _, hj⟩ := hf i (by omega)
      obtain ⟨v0, y0, hc0, _, h0⟩ := hj 0 _ rfl
      obtain ⟨v1, y1, hc1, _, h1⟩ := hj 1 _ rfl
      obtain ⟨v2, y2, hc2, _, h2⟩ := hj 2 _ rfl
      obtain ⟨n0, e0, _, _⟩ := DataW.trod_int Tryz.underlying3 h0
      obtain ⟨n1, e1, _, _⟩ := DataW.trod_int Tryz.underlying3 h1
      obtain ⟨s2, e2, _, hs⟩ := DataW.trod_string Tryz.underlying9 h2
      simp at e0 e1 e2
      subst e0 e1 e2
      exact ⟨⟨n0, n1, s2⟩, hc0, hc1, hc2, hs⟩)
    subst hll
    refine ⟨some a, l, _, rfl, ?_, fun j hj => (hp j hj).2.2.2, by unfold maxLen at hm; omega⟩
    by_cases h0 : l.length = 0
    · exact .inl (List.length_eq_zero_iff.1 h0)
    · obtain ⟨b, off, spot⟩ := a
      have hspot : spot = none := by simpa [Addr.add] using World.cell?_spot (hp 0 (by omega)).1
      subst hspot
      refine .inr ⟨b, off, rfl, hlt (.cell b off) (List.mem_append_left _ (MemPlace.mem_row.2 ⟨0, Nat.mul_pos (by omega) (by decide), by simp⟩)), fun i hi j hj => ?_⟩
      have hc := hp i hi
      have : j = 0 ∨ j = 1 ∨ j = 2 := by omega
      rw [Nat.add_assoc, ← add_plain]
      rcases this with rfl | rfl | rfl
      · rw [hc.1]; rfl
      · rw [hc.2.1]; rfl
      · rw [hc.2.2.1]; rfl
set_option maxRecDepth 100000 in
/-- A table that came in, as the walks take it. -/
theorem table_in {H : Type} {enc : TypeId × Value → H} {W : World} {ps : List MemPlace} {v : Value} {d : DataW H} {base : Nat} (hval : Value.okWide Tryz.prog W .any base 25 v)
    (h : DataW.Trod enc Tryz.prog W 0 (fun _ => true) true 25 v d ps) (hlt : ∀ x ∈ ps, x.block < W.heap.size) :
    ∃ (T : Tb) (p1 p2 : Option Addr) (c1 c2 : Nat), v = .agg #[.int .i64 T.q, .int .i64 T.n, .slice p1 T.base.length c1, .slice p2 T.swaps.length c2] ∧ TbIn W T p1 p2 c1 c2 := by
  obtain ⟨v0, v1, v2, v3, y0, y1, y2, y3, n, rfl, rfl, rfl, h0, h1, h2, h3⟩ := open_agg4 Tryz.underlying25 (by kernel_rfl) cellsLook hval h
  obtain ⟨q, e0, _, _⟩ := DataW.trod_int Tryz.underlying3 h0
  obtain ⟨k, e1, _, _⟩ := DataW.trod_int Tryz.underlying3 h1
  simp at e0 e1
  subst e0 e1
  obtain ⟨p1, l1, c1, rfl, s1, z1, b1, cap1⟩ := strings_at h2 (fun x hx => hlt x (List.mem_append_right _ (List.mem_append_right _ (List.mem_append_left _ hx))))
  obtain ⟨p2, l2, c2, rfl, s2, z2, b2⟩ := swaps_at h3 (fun x hx => hlt x (List.mem_append_right _ (List.mem_append_right _ (List.mem_append_right _ hx))))
  exact ⟨⟨q, k, l1, l2⟩, p1, p2, c1, c2, rfl, ⟨s1, s2, cap1, b1, b2, z1, z2⟩⟩

theorem cellsGraph : Tryz.prog.cellsOf 28 = 3 := by kernel_rfl
theorem readGraph : Tryz.prog.readableRec 28 = true ∧ 28 < Tryz.prog.types.size := ⟨by kernel_rfl, of_decide_eq_true (by kernel_rfl)⟩
/-- A list of edges inside what came in, as the walks take it. -/
theorem edges_at {H : Type} {enc : TypeId × Value → H} {W : World} {fuel : Nat} {v : Value} {y : DataW H × List MemPlace}
    (h : DataW.trod enc Tryz.prog W 0 (fun _ => true) true fuel 26 [v] = some y) (hlt : ∀ x ∈ y.2, x.block < W.heap.size) :
    ∃ (p : Option Addr) (l : List Ed) (c : Nat), v = .slice p l.length c ∧ Sg 3 W edE p l ∧ l.length ≤ 9223372036854775807 := by
  rcases open_slice_fields Tryz.underlying26 Tryz.underlying106 (by kernel_rfl) (by kernel_rfl) h with ⟨hcs, hx⟩ | ⟨a, len, cap, m, D, Pl, hcs, _, hl, hm, hmm, hx, hf⟩
  · simp at hcs
    subst hcs
    exact ⟨none, [], 0, rfl, Sg.nil _ _ _ _, by simp⟩
  · simp at hcs
    subst hcs hx
    simp only [if_true] at hmm
    subst hmm
    obtain ⟨l, hll, hp⟩ := list_of (P := fun i (s : Ed) => W.cell? (a.add (i * 3 + 0)) = some (.int .i64 s.f) ∧ W.cell? (a.add (i * 3 + 1)) = some (.int .i64 s.l) ∧ W.cell? (a.add (i * 3 + 2)) = some (.int .i64 s.t)) len (fun i hi => by
      obtain ⟨ys, n, _, _, _, hj⟩ := hf i (by omega)
      obtain ⟨v0, y0, hc0, _, h0⟩ := hj 0 _ rfl
      obtain ⟨v1, y1, hc1, _, h1⟩ := hj 1 _ rfl
      obtain ⟨v2, y2, hc2, _, h2⟩ := hj 2 _ rfl
      obtain ⟨n0, e0, _, _⟩ := DataW.trod_int Tryz.underlying3 h0
      obtain ⟨n1, e1, _, _⟩ := DataW.trod_int Tryz.underlying3 h1
      obtain ⟨n2, e2, _, _⟩ := DataW.trod_int Tryz.underlying3 h2
      simp at e0 e1 e2
      subst e0 e1 e2
      exact ⟨⟨n0, n1, n2⟩, hc0, hc1, hc2⟩)
    subst hll
    refine ⟨some a, l, _, rfl, ?_, by unfold maxLen at hm; omega⟩
    by_cases h0 : l.length = 0
    · exact .inl (List.length_eq_zero_iff.1 h0)
    · obtain ⟨b, off, spot⟩ := a
      have hspot : spot = none := by simpa [Addr.add] using World.cell?_spot (hp 0 (by omega)).1
      subst hspot
      refine .inr ⟨b, off, rfl, hlt (.cell b off) (List.mem_append_left _ (MemPlace.mem_row.2 ⟨0, Nat.mul_pos (by omega) (by decide), by simp⟩)), fun i hi j hj => ?_⟩
      have hc := hp i hi
      have : j = 0 ∨ j = 1 ∨ j = 2 := by omega
      rw [Nat.add_assoc, ← add_plain]
      rcases this with rfl | rfl | rfl
      · rw [hc.1]; rfl
      · rw [hc.2.1]; rfl
      · rw [hc.2.2]; rfl
set_option maxRecDepth 100000 in
/-- A graph that came in, as the walks take it. -/
theorem graph_in {H : Type} {enc : TypeId × Value → H} {W : World} {ps : List MemPlace} {v : Value} {d : DataW H} {base : Nat} (hval : Value.okWide Tryz.prog W .any base 28 v)
    (h : DataW.Trod enc Tryz.prog W 0 (fun _ => true) true 28 v d ps) (hlt : ∀ x ∈ ps, x.block < W.heap.size) :
    ∃ (G : Gr) (p : Option Addr) (c : Nat), v = .agg #[.int .i64 G.q, .int .i64 G.n, .slice p G.es.length c] ∧ Sg 3 W edE p G.es ∧ G.es.length ≤ 9223372036854775807 := by
  obtain ⟨v0, v1, v2, y0, y1, y2, n, rfl, rfl, rfl, h0, h1, h2⟩ := open_agg3 Tryz.underlying28 (by kernel_rfl) cellsGraph hval h
  obtain ⟨q, e0, _, _⟩ := DataW.trod_int Tryz.underlying3 h0
  obtain ⟨k, e1, _, _⟩ := DataW.trod_int Tryz.underlying3 h1
  simp at e0 e1
  subst e0 e1
  obtain ⟨p, l, c, rfl, s, b⟩ := edges_at h2 (fun x hx => hlt x (List.mem_append_right _ (List.mem_append_right _ hx)))
  exact ⟨⟨q, k, l⟩, p, c, rfl, s, b⟩

theorem cellsU8 : Tryz.prog.cellsOf 5 = 1 := by kernel_rfl
theorem readU8s : Tryz.prog.readableRec 70 = true ∧ 70 < Tryz.prog.types.size := ⟨by kernel_rfl, of_decide_eq_true (by kernel_rfl)⟩
/-- A list of bytes inside what came in, as the walks take it. -/
theorem u8s_at {H : Type} {enc : TypeId × Value → H} {W : World} {fuel : Nat} {v : Value} {y : DataW H × List MemPlace}
    (h : DataW.trod enc Tryz.prog W 0 (fun _ => true) true fuel 70 [v] = some y) (hlt : ∀ x ∈ y.2, x.block < W.heap.size) :
    ∃ (p : Option Addr) (l : List UInt8) (c : Nat), v = .slice p l.length c ∧ Sl W u8v p l ∧ l.length ≤ 9223372036854775807 ∧ l.length ≤ c := by
  rcases open_ints Tryz.underlying70 Tryz.underlying5 cellsU8 h with ⟨hcs, hx⟩ | ⟨a, len, cap, zs, hcs, _, hl, hm, hz, hx, hcell, hwf⟩
  · simp at hcs
    subst hcs
    exact ⟨none, [], 0, rfl, Sl.nil _ _ _, by simp, by simp⟩
  · simp at hcs
    subst hcs hx
    simp only [if_true] at hz
    have hlen : ((zs.take len).map (fun n => UInt8.ofNat n.toNat)).length = len := by simp; omega
    refine ⟨some a, (zs.take len).map (fun n => UInt8.ofNat n.toNat), cap, by rw [hlen], ?_, by rw [hlen]; unfold maxLen at hm; omega, by rw [hlen]; exact hl⟩
    by_cases h0 : len = 0
    · subst h0; exact .inl (by simp)
    · obtain ⟨b, off, spot⟩ := a
      have hspot : spot = none := by simpa [Addr.add] using World.cell?_spot (hcell 0 (by omega))
      subst hspot
      refine .inr ⟨b, off, rfl, hlt (.cell b off) (MemPlace.mem_row.2 ⟨0, by omega, by simp⟩), fun i hi => ?_⟩
      have hi' : i < zs.length := by rw [hlen] at hi; omega
      have hw := hwf _ (List.getElem_mem hi')
      rw [← add_plain, hcell i hi']
      have hb : 0 ≤ zs[i] ∧ zs[i] < 256 := by
        have := hw
        simp [Lit.wf, show IntKind.u8.min = 0 from rfl, show IntKind.u8.max = 255 from rfl] at this
        omega
      simp [List.getD_eq_getElem?_getD, hi', u8v]
      omega


end Go.Proofs.YtjpilmedlecdhaaGreat
namespace Go.Proofs.YtjpilmedlecdhaaGreat
open Go.RowKit Go.Sort Go.Shelf Go.Lib

/-- The swaps are in order. -/
def SrtW (l : List Sw) : Prop := ∀ i j (hi : i < l.length) (hj : j < l.length), i < j → lexB l[i] l[j] = true
/-- A place that parts the lesser swaps from the others. -/
def PrtW (l : List Sw) (s : Sw) (p : Nat) : Prop := p ≤ l.length ∧ (∀ k (h : k < l.length), k < p → lexB l[k] s = true) ∧ (∀ k (h : k < l.length), p ≤ k → lexB l[k] s = false)

def RetPos (l : List Sw) (s : Sw) (w : World) (e : Ending) (w' : World) : Prop := ∃ (a : Nat) (b : Bool), e = .returned (.tuple #[.int .i64 a, .bool b]) ∧ PrtW l s a ∧ RowKit.Below w.heap.size w w'
set_option maxRecDepth 100000 in
set_option maxHeartbeats 2000000 in
theorem bsearchSw_any (l : List Sw) (s : Sw) (p : Option Addr) (c : Nat) (w : World) (hin : Sg 3 w swE p l) (hl : l.length ≤ 1000) (hs : SrtW l) :
    Calls Tryz.prog 51 #[.slice p l.length c, (.agg #[.int .i64 s.i, .int .i64 s.j, .string s.wd]), .func (.func 52) #[] #[]] w (RetPos l s w) := by
  obtain ⟨w0, hw0⟩ : ∃ w0, w0 = w.alloc (.cells #[.int .i64 s.i, .int .i64 s.j, .string s.wd] 53) := ⟨_, rfl⟩
  have b0 : VRow w0 w.heap.size 53 [.int .i64 s.i, .int .i64 s.j, .string s.wd] := by subst hw0; exact VRow.new w _ _
  have hB0 : RowKit.Below w.heap.size w w0 := by subst hw0; exact (RowKit.Below.refl _ _).alloc (Nat.le_refl _) _
  have HIN := hidI (hin.below hB0)
  have HB := hidI b0
  have HS := hidI hs
  clear hin hs b0
  go_enter Tryz.func51, Tryz.ntmps51
  go_upto_region 1 with fail
  rw [← hw0]
  clear hw0
  go_wp2_with fail
  go_loopw [9, 10] (fun iv jv W => ∃ (i j : Nat), i ≤ j ∧ j ≤ l.length ∧ iv = .int .i64 i ∧ jv = .int .i64 j ∧ Hid (∀ k (h : k < l.length), k < i → lexB l[k] s = true) ∧ Hid (∀ k (h : k < l.length), j ≤ k → lexB l[k] s = false) ∧ RowKit.Below w0.heap.size w0 W) (fun iv jv _ => (intOf jv).toNat - (intOf iv).toNat)
  case atStart => exact ⟨0, l.length, by omega, by omega, rfl, rfl, fun k _ h => by omega, fun k h1 h2 => by omega, RowKit.Below.refl _ _⟩
  case round =>
    obtain ⟨i, j, hij, hj, rfl, rfl, h1, h2, hB⟩ := hrel
    by_cases hlt : i < j
    · have hltI : (i : Int) < (j : Int) := by omega
      obtain ⟨h, hh⟩ : ∃ h, h = (i + j) / 2 := ⟨_, rfl⟩
      have hmid : ((i : Int) + (j : Int)) / 2 = (h : Int) := by omega
      have hhl : h < l.length := by omega
      have hhI : (h : Int) < (l.length : Int) := by omega
      replace hh := hidI hh
      go_upto_region 5 with fail
      refine region_tail 6 (by kernel_rfl) (by kernel_rfl) fun W hD => ?_
      obtain ⟨bb, oo, rfl, hbb, e0, e1, e2⟩ := (HIN.out.below (hB.trans (hD.below _))).get3 h hhl rfl
      have fB := (HB.out.below (hB.trans (hD.below _)) HB.out.lt)
      have f0 := fB.at 0 rfl; have f1 := fB.at 1 rfl; have f2 := fB.at 2 rfl
      simp only [List.take_succ_cons, List.take_zero, List.drop_succ_cons, List.drop_zero]
      still_step
      still_step
      still_step
      still_step
      still_step
      still_step
      refine wpStill_nil ?_
      have HLT : Hid (cmpS l[h] s < 0 ↔ lexB l[h] s = true) := by
        have := cmpS_lex l[h] s
        rw [Hid]
        constructor
        · intro h1
          rw [decide_eq_false (by omega)] at this
          cases hx : lexB l[h] s
          · rw [hx] at this; cases this
          · rfl
        · intro h1
          rw [h1] at this
          have := of_decide_eq_false this
          omega
      have hB2 := hB.trans (hD.below _)
      have HST := hidI (fun k (hk : k < l.length) => HS.out k h hk hhl)
      have HST2 := hidI (fun k (hk : k < l.length) => HS.out h k hhl hk)
      have hxs := hidI (rfl : l[h] = l[h])
      generalize hx : l[h] = x at HLT e0 e1 e2 HST HST2
      replace hx := hidI hx
      have HCM := hidI (lkCompare_any x s W)
      generalize cmpS x s = r at *
      clear hbb f0 f1 f2 e0 e1 e2 fB
      go_wp2_with fail
      refine HCM.out.mono ?_
      rintro e w2 ⟨rfl, hB3⟩
      have hB4 := hB2.trans (hB3.mono hB2.size)
      by_cases hr : r < 0
      · have HL := hidI (HLT.out.1 hr)
        go_wp2_with fail
        go_roundw
        case rel => exact ⟨h + 1, j, by have := hh.out; omega, hj, by go_num, rfl, fun k hk hlt => by
          by_cases hkh : k < h
          · exact lexB_trans (HST.out k hk hkh) HL.out
          · have : k = h := by omega
            subst this; rw [hx.out]; exact HL.out, h2, hB4⟩
        case measure => have := hh.out; simp [intOf]; omega
      · have HL : Hid (lexB x s = false) := by
          rw [Hid, ← Bool.not_eq_true]; exact fun h => hr (HLT.out.2 h)
        go_wp2_with fail
        go_roundw
        case rel => exact ⟨i, h, by have := hh.out; omega, by omega, rfl, rfl, h1, fun k hk hle => by
          by_cases hkh : h < k
          · rw [← Bool.not_eq_true]; intro h3
            have h4 := lexB_trans (HST2.out k hk hkh) h3
            rw [HL.out] at h4; cases h4
          · have : k = h := by omega
            subst this; rw [hx.out]; exact HL.out, hB4⟩
        case measure => have := hh.out; simp [intOf]; omega
    · obtain rfl : i = j := by omega
      have hltI : ¬ (i : Int) < (i : Int) := by omega
      have HP := hidI (show PrtW l s i from ⟨hj, h1.out, h2.out⟩)
      clear h1 h2
      by_cases hin : i < l.length
      · have hinI : (i : Int) < (l.length : Int) := by omega
        obtain ⟨bb, oo, rfl, hbb, e0, e1, e2⟩ := (HIN.out.below hB).get3 i hin rfl
        have fB := HB.out.below hB HB.out.lt
        have f0 := fB.at 0 rfl; have f1 := fB.at 1 rfl; have f2 := fB.at 2 rfl
        have z0 := fB.lt
        have HCM := hidI (fun W => lkCompare_any l[i] s W)
        generalize l[i] = x at *
        generalize cmpS x s = r at *
        have HBB := hidI hB
        clear hB fB
        go_upto_region 8 with fail
        go_region_held3 (fun w' => w'.cell? ⟨bb, oo + i * 3, none⟩ = some (.int .i64 x.i) ∧ w'.cell? ⟨bb, oo + i * 3 + 1, none⟩ = some (.int .i64 x.j) ∧ w'.cell? ⟨bb, oo + i * 3 + 2, none⟩ = some (.string x.wd) ∧ w'.cell? ⟨w.heap.size, 0, none⟩ = some (.int .i64 s.i) ∧ w'.cell? ⟨w.heap.size, 1, none⟩ = some (.int .i64 s.j) ∧ w'.cell? ⟨w.heap.size, 2, none⟩ = some (.string s.wd) ∧ RowKit.Below wr.heap.size wr w')
          (first | (go_split_ands; exact ⟨(by first | assumption | exact (hBa.cell (Nat.lt_of_lt_of_le hbb (RowKit.Below.size (by assumption)))).trans (by assumption)), (by first | assumption | exact (hBa.cell (Nat.lt_of_lt_of_le hbb (RowKit.Below.size (by assumption)))).trans (by assumption)), (by first | assumption | exact (hBa.cell (Nat.lt_of_lt_of_le hbb (RowKit.Below.size (by assumption)))).trans (by assumption)), (by first | assumption | exact (hBa.cell (Nat.lt_of_lt_of_le z0 (RowKit.Below.size (by assumption)))).trans (by assumption)), (by first | assumption | exact (hBa.cell (Nat.lt_of_lt_of_le z0 (RowKit.Below.size (by assumption)))).trans (by assumption)), (by first | assumption | exact (hBa.cell (Nat.lt_of_lt_of_le z0 (RowKit.Below.size (by assumption)))).trans (by assumption)), (by first | assumption | exact below_drewN (RowKit.Below.refl _ _) 1 | exact RowKit.Below.trans (by assumption) (hBa.mono (RowKit.Below.size (by assumption))))⟩) | (go_split_ands; refine ⟨?_, ?_, ?_, ?_, ?_, ?_, ?_⟩ <;> first | assumption | exact below_drewN (RowKit.Below.refl _ _) 1 | (go_keep; done)) | fail)
          (first
            | (go_at_call 52; go_split_ands; (with_reducible refine (HCM.out _).mono ?_); rintro e wa ⟨rfl, hBa⟩)
            | fail)
        all_goals
          go_split_ands
          have hB9 : RowKit.Below wr.heap.size wr wa := by assumption
          go_wp2_with fail
          go_ret2
          exact ⟨i, _, rfl, HP.out, hB0.trans ((HBB.out.trans (hB9.mono HBB.out.size)).mono hB0.size)⟩
      · obtain rfl : i = l.length := by omega
        have hinI : ¬ (l.length : Int) < (l.length : Int) := by omega
        go_upto_region 8 with fail
        (refine wp_region_quiet_lit (by kernel_rfl) (by kernel_rfl) ?_; (repeat (first | go_big_quiet_step (fail) | quiet_step (fail))); refine wpQuiet_nil ?_; intro _ hwq; obtain ⟨nq, hwq2⟩ := hwq; subst hwq2)
        go_wp2_with fail
        go_ret2
        exact ⟨l.length, false, rfl, HP.out, hB0.trans ((hB.trans ((Dr.one (Dr.refl _) _).below _)).mono hB0.size)⟩
end Go.Proofs.YtjpilmedlecdhaaGreat
namespace Go.Proofs.YtjpilmedlecdhaaGreat
open Go.RowKit Go.Sort Go.Shelf Go.Lib

def catS (l : List Sw) : List Value := l.flatMap swE
theorem catS_len (l : List Sw) : (catS l).length = l.length * 3 := by
  induction l with
  | nil => rfl
  | cons x l ih => simp only [catS, List.flatMap_cons, List.length_append, List.length_cons] at *; rw [ih]; simp [swE]; omega
theorem catS_get (l : List Sw) (i : Nat) (hi : i < l.length) (j : Nat) (hj : j < 3) : (catS l)[i * 3 + j]? = (swE l[i])[j]? := flat_get (enc := swE) (m := 3) (fun _ => rfl) l i hi j hj
theorem catS_app (l m : List Sw) : catS (l ++ m) = catS l ++ catS m := by simp [catS, List.flatMap_append]
theorem swE_one (x : Sw) : ∀ u ∈ swE x, u.oneCell' = true := by
  intro u hx
  simp only [swE, List.mem_cons, List.not_mem_nil, or_false] at hx
  rcases hx with rfl | rfl | rfl <;> rfl
theorem catS_one (l : List Sw) : ∀ u ∈ catS l, u.oneCell' = true := by
  intro u hu
  obtain ⟨x, _, hx⟩ := List.mem_flatMap.1 hu
  exact swE_one x u hx
theorem catS_take (l : List Sw) (i : Nat) : catS (l.take i) = (catS l).take (i * 3) := by
  induction l generalizing i with
  | nil => simp [catS]
  | cons x l ih =>
    cases i with
    | zero => simp [catS]
    | succ i =>
      have e : (i + 1) * 3 = (swE x).length + i * 3 := by simp [swE]; omega
      simp only [catS, List.take_succ_cons, List.flatMap_cons] at ih ⊢
      rw [ih, e, List.take_length_add_append]
theorem catS_drop (l : List Sw) (i : Nat) : catS (l.drop i) = (catS l).drop (i * 3) := by
  induction l generalizing i with
  | nil => simp [catS]
  | cons x l ih =>
    cases i with
    | zero => simp [catS]
    | succ i =>
      have e : (i + 1) * 3 = (swE x).length + i * 3 := by simp [swE]; omega
      simp only [catS, List.drop_succ_cons, List.flatMap_cons] at ih ⊢
      rw [ih, e, List.drop_length_add_append]
theorem own_sgS {B e n : Nat} {w : World} {v : Value} {l : List Sw} (h : w.ownsRow B e 3 v n (catS l)) : ∃ p cap, v = .slice p l.length cap ∧ Sg 3 w swE p l ∧ l.length ≤ cap ∧ l.length = n := by
  have hn : l.length = n := by have := h.1; rw [catS_len] at this; omega
  rcases h.2 with ⟨rfl, h0⟩ | ⟨g, cap, cur, rfl, hg, hh, hc, hm, hs, ht⟩
  · subst h0
    have : l = [] := List.length_eq_zero_iff.1 hn
    subst this
    exact ⟨none, 0, rfl, Sg.nil _ _ _ _, by simp, rfl⟩
  · refine ⟨some ⟨g, 0, none⟩, cap, by rw [hn], .inr ⟨g, 0, rfl, (Array.getElem?_eq_some_iff.1 hh).1, fun i hi j hj => ?_⟩, by omega, hn⟩
    have hij : i * 3 + j < n * 3 := by omega
    rw [Nat.zero_add, ← catS_get l i hi j hj, ← ht, List.getElem?_take, if_pos hij]
    simp [World.cell?, hh]
theorem sw_cells {w : World} {b off : Nat} {l : List Sw} (hc : ∀ i (h : i < l.length) j, j < 3 → w.cell? ⟨b, off + i * 3 + j, none⟩ = (swE l[i])[j]?) : ∀ (j : Nat) (u : Value), (catS l)[j]? = some u → w.cell? ⟨b, off + j, none⟩ = some u := by
  intro j u hu
  have hj : j < (catS l).length := (List.getElem?_eq_some_iff.1 hu).1
  rw [catS_len] at hj
  have h1 := hc (j / 3) (by omega) (j % 3) (by omega)
  have h2 := catS_get l (j / 3) (by omega) (j % 3) (by omega)
  rw [show j / 3 * 3 + j % 3 = j by omega] at h2
  rw [show off + j / 3 * 3 + j % 3 = off + j by omega] at h1
  rw [h1, ← h2, hu]
theorem infoSw : (Tryz.prog.info? 53).map (fun i => (i.zero, i.size, i.bytes)) = some (some (.agg #[.int .i64 0, .int .i64 0, .string ⟨#[]⟩]), 3, 32) := by kernel_rfl
/-- Swaps in memory of the call's own. -/
def RetOwnS (l : List Sw) (w : World) (e : Ending) (w' : World) : Prop := ∃ v, e = .returned v ∧ w'.ownsRow w.heap.size 53 3 v l.length (catS l) ∧ Below w.heap.size w w'
set_option maxRecDepth 100000 in
theorem cloneSw_any (l : List Sw) (p : Option Addr) (c : Nat) (w : World) (hin : Sg 3 w swE p l) (hl : l.length ≤ 1000) :
    Calls Tryz.prog 23 #[.slice p l.length c] w (RetOwnS l w) := by
  obtain ⟨i0, hi0, hz0, hz1, hz2⟩ := info_parts infoSw
  have q22 : ∀ (w : World) (a : Option Addr) (n c n' c' : Nat), (binOp .eql 23 (.slice a n c) (.slice none n' c')).run Tryz.prog w = .ok (.bool a.isNone) w := fun w a n c n' c' => Lib.run_eql_slice_nil w _ _ a n c n' c' Tryz.underlying23
  have hown0 : (w.alloc (.cells #[] 53)).ownsRow w.heap.size 53 3 (.slice (some ⟨w.heap.size, 0, none⟩) 0 0) 0 [] := ⟨rfl, .inr ⟨w.heap.size, _, _, rfl, Nat.le_refl _, heap_alloc_new w _, Nat.le_refl _, by simp, rfl, rfl⟩⟩
  cases p with
  | none =>
    have h0 : l = [] := by rcases hin with h | ⟨_, _, hp, _⟩; exact h; cases hp
    subst h0
    go_enter Tryz.func23, Tryz.ntmps23
    go_wp2_with fail
    go_ret
    exact ⟨_, rfl, World.ownsRow_nil _ _ _ _, Below.refl _ _⟩
  | some ad =>
    have hcl : ∀ (j : Nat) (u : Value), (catS l)[j]? = some u → (w.alloc (.cells #[] 53)).cell? (ad.add j) = some u := by
      intro j u hu
      rcases hin with h0 | ⟨b, off, hp, hb, hc⟩
      · subst h0; simp [catS] at hu
      · cases hp
        have := sw_cells hc j u hu
        rw [Addr.add_lit]
        exact (((Below.refl _ _).alloc (Nat.le_refl _) _).cell (p := ⟨b, off + j, none⟩) hb).trans this
    have hcl2 := catS_len l
    have h1 := catS_one l
    clear hin
    generalize hL : catS l = L at hcl hcl2 h1
    replace hL := hidI hL
    go_enter Tryz.func23, Tryz.ntmps23
    go_wp2_with (at_builtin; refine wpList_append_own _ rfl _ _ 23 rfl w.heap.size 53 i0 _ 3 32 Tryz.underlying23 hi0 hz0 hz1 hz2 rfl (by decide) _ _ _ rfl hown0 ad l.length c L rfl hcl2 hcl h1 (by simp [maxLen]; omega) (by omega) (by simp) ?_; intro v' w1 hown' hgrow _)
    go_ret
    exact ⟨_, rfl, by rw [hL.out]; simpa using hown', ((Below.refl _ _).alloc (Nat.le_refl _) _).grown hgrow (by simp) (fun j e => by cases e; exact Nat.le_refl _)⟩

/-! ### Insert -/
/-- copy between rows of elements of whatever size. -/
theorem run_copyK {P : Program} (w : World) (dT sT ty elem : TypeId) (K g o dLen dCap : Nat) (a : Addr) (sLen sCap : Nat) (cur : Array Value) (t : TypeId) (cs : List Value)
    (hu : P.underlying dT = some (.slice elem)) (hs : (P.info? elem).map (·.size) = some K)
    (hg : w.heap[g]? = some (.cells cur t (0, 0))) (hn : cs.length = Nat.min sLen dLen * K)
    (hsrc : ∀ j v, cs[j]? = some v → w.cell? (a.add j) = some v) (hfit : o + cs.length ≤ cur.size) (h1 : ∀ v ∈ cs, v.oneCell' = true) :
    (Builtin.copy_ #[dT, sT] ty #[.slice (some ⟨g, o, none⟩) dLen dCap, .slice (some a) sLen sCap]).run P w =
      .ok (goInt (Nat.min sLen dLen)) (w.setRow g (cur.toList.take o ++ cs ++ cur.toList.drop (o + cs.length)).toArray) := by
  have hl := run_loadCells_list (P := P) w a cs hsrc
  have hst := run_storeCells_at P g o t cs 0 cur w hg (by simpa using hfit) h1
  cases hq : P.info? elem with
  | none => simp [hq] at hs
  | some i =>
    have hi : i.size = K := by simpa [hq] using hs
    simp [Builtin.copy_, run_underlying hu, Builtin.lenOf, Builtin.firstCells, sizeOf, typeInfo, hq, hi, ← hn, hl, hst]
theorem sizeOfSw (w : World) : (Go.sizeOf 53).run Tryz.prog w = .ok 3 w := by kernel_rfl
theorem size_sw : (Tryz.prog.info? 53).map (·.size) = some 3 := by kernel_rfl
def insAt (l : List Sw) (s : Sw) (i : Nat) : List Sw := l.take i ++ s :: l.drop i
/-- A further swap in the call's own row. -/
def RetIns (l : List Sw) (s : Sw) (i B : Nat) (w : World) (e : Ending) (w' : World) : Prop := ∃ v, e = .returned v ∧ w'.ownsRow B 53 3 v (l.length + 1) (catS (insAt l s i)) ∧ Below B w w'
set_option maxRecDepth 100000 in
set_option maxHeartbeats 1000000 in
theorem insertSw_end (l : List Sw) (s : Sw) (B : Nat) (v : Value) (vb : Nat) (w : World) (h : w.ownsRow B 53 3 v l.length (catS l)) (hB : B ≤ w.heap.size) (hv : VRow w vb 53 (swE s)) (hl : l.length ≤ 1000) :
    Calls Tryz.prog 53 #[v, .int .i64 l.length, .slice (some ⟨vb, 0, none⟩) 1 1] w (RetIns l s l.length B w) := by
  obtain ⟨i0, hi0, hz0, hz1, hz2⟩ := info_parts infoSw
  have hnew : ∀ (j : Nat) (u : Value), (swE s)[j]? = some u → w.cell? ((⟨vb, 0, none⟩ : Addr).add j) = some u := by
    intro j u hu
    rw [Addr.add_lit, Nat.zero_add, hv.cell]; exact hu
  have h1 := swE_one s
  have h3 : (swE s).length = 3 := rfl
  have HC : Hid (catS l ++ swE s = catS (insAt l s l.length)) := by
    unfold insAt; rw [List.take_length, List.drop_length, catS_app]; simp [catS, Hid]
  generalize swE s = S at *
  obtain ⟨p, c, rfl, _, hc, _⟩ := own_sgS h
  have hlt := h.lt
  clear hv
  go_enter Tryz.func53, Tryz.ntmps53
  go_wp2_with (at_builtin; refine wpList_append_own _ rfl _ _ 23 rfl B 53 i0 _ 3 32 Tryz.underlying23 hi0 hz0 hz1 hz2 rfl (by decide) _ _ _ rfl h ⟨vb, 0, none⟩ 1 1 S rfl h3 hnew h1 (by simp [maxLen]; omega) (by omega) hB ?_; intro v' w1 hown' hgrow _)
  all_goals
    go_ret
    exact ⟨_, rfl, by rw [← HC.out]; exact hown', (Below.refl _ _).grown hgrow hB (fun j e => (hlt j e).1)⟩

theorem spl_len {x c : List Value} {o : Nat} (h : o + c.length ≤ x.length) : (x.take o ++ c ++ x.drop (o + c.length)).length = x.length := by
  simp only [List.length_append, List.length_take, List.length_drop]; omega
theorem spl_take {x c : List Value} {o m : Nat} (h : o ≤ x.length) (hm : m = o + c.length) : (x.take o ++ c ++ x.drop m).take m = x.take o ++ c := by
  have e : (x.take o ++ c).length = m := by rw [List.length_append, List.length_take]; omega
  conv => lhs; rw [← e]
  exact List.take_left
theorem spl_low {x c y : List Value} {o m : Nat} (h : o ≤ x.length) (hm : m ≤ o) : (x.take o ++ c ++ y).take m = x.take m := by
  rw [List.append_assoc, List.take_append_of_le_length (by rw [List.length_take]; omega), List.take_take, Nat.min_eq_left hm]
/-- The row, when all is in its place. -/
theorem fin_own {w : World} {B g cap n : Nat} {cur : Array Value} {L : List Value} (hh : w.heap[g]? = some (.cells cur 53 (0, 0))) (hB : B ≤ g) (hc : n ≤ cap) (hm : cap ≤ maxLen) (hs : cur.size = cap * 3) (hL : L.length = n * 3) (ht : cur.toList.take (n * 3) = L) :
    w.ownsRow B 53 3 (.slice (some ⟨g, 0, none⟩) n cap) n L := ⟨hL, .inr ⟨g, cap, cur, rfl, hB, hh, hc, hm, hs, ht⟩⟩
theorem insAt_len {l : List Sw} {s : Sw} {i : Nat} (hi : i ≤ l.length) : (insAt l s i).length = l.length + 1 := by
  unfold insAt; rw [List.length_append, List.length_take, List.length_cons, List.length_drop]; omega
theorem catS_ins (l : List Sw) (s : Sw) (i : Nat) : catS (insAt l s i) = catS (l.take i) ++ swE s ++ catS (l.drop i) := by
  unfold insAt; rw [catS_app]; simp [catS]

set_option maxRecDepth 100000 in
set_option maxHeartbeats 400000 in
theorem insertSw_grow (l : List Sw) (s : Sw) (i B g vb : Nat) (w : World) (h : w.ownsRow B 53 3 (.slice (some ⟨g, 0, none⟩) l.length l.length) l.length (catS l)) (hB : B ≤ w.heap.size) (hv : VRow w vb 53 (swE s)) (hl : l.length ≤ 1000) (hi : i < l.length) :
    Calls Tryz.prog 53 #[.slice (some ⟨g, 0, none⟩) l.length l.length, .int .i64 i, .slice (some ⟨vb, 0, none⟩) 1 1] w (RetIns l s i B w) := by
  obtain ⟨i0, hi0, hz0, hz1, hz2⟩ := info_parts infoSw
  rcases h.2 with ⟨h0, _⟩ | ⟨g', cap, cur, h0, hg, hh, hc, hm, hs, ht⟩
  · cases h0
  cases h0
  have hglt : g < w.heap.size := (Array.getElem?_eq_some_iff.1 hh).1
  have hcl : ∀ (k : Nat) (u : Value), (catS l)[k]? = some u → w.cell? ⟨g, k, none⟩ = some u := by
    intro k u hu
    have hk : k < l.length * 3 := by rw [← catS_len]; exact (List.getElem?_eq_some_iff.1 hu).1
    rw [← ht, List.getElem?_take, if_pos hk] at hu
    simp only [World.cell?, hh]
    simpa using hu
  have ha3 : (catS (l.take i)).length = i * 3 := by rw [catS_len, List.length_take]; omega
  have hd3 : (catS (l.drop i)).length = (l.length - i) * 3 := by rw [catS_len, List.length_drop]
  have hb3 : (swE s).length = 3 := rfl
  have hL3 : (catS (insAt l s i)).length = (l.length + 1) * 3 := by rw [catS_len, insAt_len (by omega)]
  have hCI := catS_ins l s i
  have hold : (Builtin.firstCells i0.size i (.slice (some ⟨g, 0, none⟩) i l.length)).run Tryz.prog w.drew = .ok (catS (l.take i)).toArray w.drew := by
    refine run_firstCells_some w.drew _ i ⟨g, 0, none⟩ i l.length (catS (l.take i)) (by rw [hz1]; exact ha3) ?_
    intro k u hu
    rw [Addr.add_lit, Nat.zero_add]
    refine hcl k u ?_
    rw [catS_take, List.getElem?_take] at hu
    split at hu
    · exact hu
    · cases hu
  obtain ⟨C, hC⟩ : ∃ C, C = grownCap w (l.length + 1) l.length 53 := ⟨_, rfl⟩
  have hC1 : l.length + 1 ≤ C := by rw [hC]; exact grownCap_ge _ _ _ _
  have hC2 : C ≤ maxLen := by rw [hC]; exact grownCap_le_maxLen _ _ _ _ (by unfold maxLen; omega)
  obtain ⟨k, hk⟩ : ∃ k, k = l.length + 1 - i := ⟨_, rfl⟩
  have hik : i + k = l.length + 1 := by omega
  have hkI : (l.length : Int) + 1 - (i : Int) = (k : Int) := by omega
  have hap0 := fun ty => Lib.run_append_grow_zeros (P := Tryz.prog) w 23 3 ty 53 i0 (.agg #[.int .i64 0, .int .i64 0, .string ⟨#[]⟩]) .i64 .i64 Tryz.underlying23 Tryz.underlying3 hi0 hz0 (some ⟨g, 0, none⟩) i l.length (catS (l.take i)) hold k (by omega) (by omega) (by omega) (by omega) (by rw [hz2]; omega) (by rw [hz2]; exact growslice_fits (by omega) (by omega))
  rw [hik, ← hC] at hap0
  clear hk hik
  obtain ⟨cur1, hcur1⟩ : ∃ cur1, cur1 = (catS (l.take i)).toArray ++ Builtin.zeroCells (Value.cells (.agg #[.int .i64 0, .int .i64 0, .string ⟨#[]⟩])) k ++ Builtin.zeroCells (Value.cells (.agg #[.int .i64 0, .int .i64 0, .string ⟨#[]⟩])) (C - (l.length + 1)) := ⟨_, rfl⟩
  have hs1 : cur1.size = C * 3 := by
    rw [hcur1]
    simp only [Array.size_append, List.size_toArray, size_zeroCells, ha3]
    rw [show (Value.cells (.agg #[.int .i64 0, .int .i64 0, .string ⟨#[]⟩])).size = 3 from rfl]
    omega
  have ht1 : cur1.toList.take (i * 3) = catS (l.take i) := by
    rw [hcur1]
    simp only [Array.toList_append, List.append_assoc]
    rw [← ha3]
    exact List.take_left
  rw [← hcur1] at hap0
  clear hcur1 hC hold
  obtain ⟨w1, hw1⟩ : ∃ w1, w1 = w.drew.alloc (.cells cur1 53) := ⟨_, rfl⟩
  have hr1 : w1.heap[w.heap.size]? = some (.cells cur1 53 (0, 0)) := by rw [hw1]; exact heap_alloc_new w.drew _
  have hB1 : Below B w w1 := by rw [hw1]; exact ((Below.refl _ _).trans ((Dr.one (Dr.refl w) 1).below _)).alloc hB _
  have hB1' : Below w.heap.size w w1 := by rw [hw1]; exact ((Below.refl _ _).trans ((Dr.one (Dr.refl w) 1).below _)).alloc (Nat.le_refl _) _
  rw [← hw1] at hap0
  clear hw1
  have hcp1 : ∀ ty, (Builtin.copy_ #[23, 23] ty #[.slice (some ⟨w.heap.size, i * 3, none⟩) (l.length + 1 - i) (C - i), .slice (some ⟨vb, 0, none⟩) 1 1]).run Tryz.prog w1 = .ok (goInt (Nat.min 1 (l.length + 1 - i))) (w1.setRow w.heap.size (cur1.toList.take (i * 3) ++ swE s ++ cur1.toList.drop (i * 3 + 3)).toArray) := fun ty =>
    run_copyK w1 23 23 ty 53 3 w.heap.size (i * 3) _ _ ⟨vb, 0, none⟩ 1 1 cur1 53 (swE s) Tryz.underlying23 size_sw hr1 (by rw [show Nat.min 1 (l.length + 1 - i) = 1 from Nat.min_eq_left (by omega)]; rfl) (fun j v hj => by rw [Addr.add_lit, Nat.zero_add, (hB1'.cell (p := ⟨vb, j, none⟩) hv.lt), hv.cell]; exact hj) (by rw [hb3, hs1]; omega) (swE_one s)
  obtain ⟨cur2, hcur2⟩ : ∃ cur2, cur2 = (cur1.toList.take (i * 3) ++ swE s ++ cur1.toList.drop (i * 3 + 3)).toArray := ⟨_, rfl⟩
  rw [← hcur2] at hcp1
  have hs2 : cur2.size = C * 3 := by
    rw [hcur2, List.size_toArray]; exact (spl_len (c := swE s) (by rw [hb3, Array.length_toList, hs1]; omega)).trans (by rw [Array.length_toList, hs1])
  have ht2 : cur2.toList.take (i * 3 + 3) = catS (l.take i) ++ swE s := by
    rw [hcur2, List.toList_toArray, spl_take (by rw [Array.length_toList, hs1]; omega) (by rw [hb3]), ht1]
  obtain ⟨w2, hw2⟩ : ∃ w2, w2 = w1.setRow w.heap.size cur2 := ⟨_, rfl⟩
  have hr2 : w2.heap[w.heap.size]? = some (.cells cur2 53 (0, 0)) := by rw [hw2]; exact setRow_heap _ _ _ _ _ _ hr1
  have hB2 : Below B w w2 := by rw [hw2]; exact below_setRow hB1 hB _
  have hB2' : Below w.heap.size w w2 := by rw [hw2]; exact below_setRow hB1' (Nat.le_refl _) _
  rw [← hw2] at hcp1
  clear hw2 hcur2 hr1 ht1 hs1 hB1 hB1'
  have hcp2 : ∀ ty (W : World), (∀ x, W.cell? x = w2.cell? x) → W.heap = w2.heap → (Builtin.copy_ #[23, 23] ty #[.slice (some ⟨w.heap.size, (i + 1) * 3, none⟩) (l.length + 1 - (i + 1)) (C - (i + 1)), .slice (some ⟨g, i * 3, none⟩) (l.length - i) (l.length - i)]).run Tryz.prog W = .ok (goInt (Nat.min (l.length - i) (l.length + 1 - (i + 1)))) (W.setRow w.heap.size (cur2.toList.take ((i + 1) * 3) ++ catS (l.drop i) ++ cur2.toList.drop ((i + 1) * 3 + (l.length - i) * 3)).toArray) := fun ty W hWc hWh => by
    rw [← hd3]
    exact run_copyK W 23 23 ty 53 3 w.heap.size ((i + 1) * 3) _ _ ⟨g, i * 3, none⟩ _ _ cur2 53 (catS (l.drop i)) Tryz.underlying23 size_sw (by rw [hWh]; exact hr2) (by rw [show Nat.min (l.length - i) (l.length + 1 - (i + 1)) = l.length - i from Nat.min_eq_left (by omega)]; exact hd3) (fun j v hj => by
      rw [Addr.add_lit, hWc, hB2'.cell (p := ⟨g, i * 3 + j, none⟩) hglt]
      refine hcl _ v ?_
      rw [catS_drop, List.getElem?_drop] at hj; exact hj) (by rw [hd3, hs2]; omega) (catS_one _)
  obtain ⟨cur3, hcur3⟩ : ∃ cur3, cur3 = (cur2.toList.take ((i + 1) * 3) ++ catS (l.drop i) ++ cur2.toList.drop ((i + 1) * 3 + (l.length - i) * 3)).toArray := ⟨_, rfl⟩
  rw [← hcur3] at hcp2
  have hs3 : cur3.size = C * 3 := by
    rw [hcur3, List.size_toArray, ← hd3]; exact (spl_len (by rw [hd3]; have := hs2; rw [← Array.length_toList] at this; omega)).trans (by rw [Array.length_toList, hs2])
  have ht3 : cur3.toList.take ((l.length + 1) * 3) = catS (insAt l s i) := by
    rw [hcur3, List.toList_toArray, show (l.length + 1) * 3 = (i + 1) * 3 + (l.length - i) * 3 by omega, spl_take (by rw [Array.length_toList, hs2]; omega) (by rw [hd3]), Nat.succ_mul, ht2, hCI]
  have hFIN : ∀ W : World, W.heap = w2.heap → (W.setRow w.heap.size cur3).ownsRow B 53 3 (.slice (some ⟨w.heap.size, 0, none⟩) (l.length + 1) C) (l.length + 1) (catS (insAt l s i)) := fun W hW =>
    fin_own (setRow_heap _ _ _ _ _ _ (by rw [hW]; exact hr2)) hB hC1 hC2 hs3 hL3 ht3
  have HFIN := hidI hFIN
  have HB2 := hidI hB2
  have hne : ¬ ((i : Int) = (l.length : Int)) := by omega
  clear hFIN hcur3 ht3 ht2 hs3 hs2 hr2 hB2 hB2' hCI hL3 hd3 ha3 hb3 hcl h hv ht hs hh hm
  go_enter Tryz.func53, Tryz.ntmps53
  go_upto_region 9 with fail
  go_wp2_with (first | (at_builtin; refine Lib.wpList_append_run _ rfl _ _ 23 3 rfl (.slice (some ⟨g, 0, none⟩) i l.length) (.int .i64 k) rfl rfl _ _ (hap0 _) ?_) | (at_builtin; refine wpList_copy_runI _ rfl _ _ 23 23 rfl (.slice (some ⟨w.heap.size, i * 3, none⟩) (l.length + 1 - i) (C - i)) (.slice (some ⟨vb, 0, none⟩) 1 1) rfl rfl (hcp1 _) ?_))
  have mixed : Tryz.prog.follows .mixedOrders = true := by kernel_rfl
  have q1 : IntKind.i64.wrap ((i : Int) + 1) = (i : Int) + 1 := by rw [IntKind.wrap_i64]; omega
  have q2 : (0 : Int) ≤ (i : Int) + 1 := by omega
  have q3 : ((i : Int) + 1).toNat = i + 1 := by omega
  have q4 : (i : Int) + 1 ≤ (l.length : Int) + 1 := by omega
  have q5 : ¬ (C = i + 1) := by omega
  have q6 : (i : Int) ≤ (l.length : Int) := by omega
  have q7 : ¬ (l.length = i) := by omega
  go_region_law_o (refine step_copy_runI rfl _ _ 23 23 rfl _ _ (by simp [Act.eval, Act.put]; first | done | rfl) (by simp [Act.eval, Act.put]; first | done | rfl) (hcp2 _ _ (fun _ => rfl) rfl) ?_)
  go_wp2
  go_ret
  exact ⟨_, rfl, HFIN.out _ rfl, below_setRow (HB2.out.trans ((Dr.one (Dr.refl w2) 1).below _)) hB _⟩

set_option maxRecDepth 100000 in
set_option maxHeartbeats 400000 in
theorem insertSw_shift (l : List Sw) (s : Sw) (i B g c vb : Nat) (w : World) (h : w.ownsRow B 53 3 (.slice (some ⟨g, 0, none⟩) l.length c) l.length (catS l)) (hB : B ≤ w.heap.size) (hv : VRow w vb 53 (swE s)) (hl : l.length ≤ 1000) (hi : i < l.length) (hcn : l.length + 1 ≤ c) (hvb : vb ≠ g) :
    Calls Tryz.prog 53 #[.slice (some ⟨g, 0, none⟩) l.length c, .int .i64 i, .slice (some ⟨vb, 0, none⟩) 1 1] w (RetIns l s i B w) := by
  rcases h.2 with ⟨h0, _⟩ | ⟨g', cap, cur, h0, hg, hh, hc, hm, hs, ht⟩
  · cases h0
  cases h0
  have hglt : g < w.heap.size := (Array.getElem?_eq_some_iff.1 hh).1
  have hsa : w.shape? vb = some (53, 3) := by have := hv; unfold VRow at this; simp [World.shape?, this, swE]
  have hsb : w.shape? g = some (53, c * 3) := by simp [World.shape?, hh, hs]
  have hfa : w.frozen? ⟨vb, 0, none⟩ = false := hv.frozen 0
  have hfe : w.frozen? ⟨vb, 3, none⟩ = false := hv.frozen 3
  have hov : ∀ lb cb, (callFunc 75 #[.slice (some ⟨vb, 0, none⟩) 1 1, .slice (some ⟨g, (i + 1) * 3, none⟩) lb cb]).run Tryz.prog w = .ok (.value (.bool false)) w := fun lb cb => by
    rw [run_callFunc_extern Tryz.func75 (by kernel_rfl) (by kernel_rfl) (by kernel_rfl) (e := Extern.SlicesOverlaps.overlaps #[23, 23] #[4]) (by kernel_rfl),
      Lib.run_overlaps_apart w 23 4 53 Tryz.underlying23 3 sizeOfSw ⟨vb, 0, none⟩ ⟨g, (i + 1) * 3, none⟩ 1 1 lb cb hvb 53 53 3 (c * 3) hsa hsb (by omega) hfa hfe]
    rfl
  have hcl : ∀ (k : Nat) (u : Value), (catS l)[k]? = some u → w.cell? ⟨g, k, none⟩ = some u := by
    intro k u hu
    have hk : k < l.length * 3 := by rw [← catS_len]; exact (List.getElem?_eq_some_iff.1 hu).1
    rw [← ht, List.getElem?_take, if_pos hk] at hu
    simp only [World.cell?, hh]
    simpa using hu
  have hta : cur.toList.take (i * 3) = catS (l.take i) := by
    rw [catS_take, ← ht, List.take_take, Nat.min_eq_left (by omega)]
  have ha3 : (catS (l.take i)).length = i * 3 := by rw [catS_len, List.length_take]; omega
  have hd3 : (catS (l.drop i)).length = (l.length - i) * 3 := by rw [catS_len, List.length_drop]
  have hb3 : (swE s).length = 3 := rfl
  have hL3 : (catS (insAt l s i)).length = (l.length + 1) * 3 := by rw [catS_len, insAt_len (by omega)]
  have hCI := catS_ins l s i
  have hcp1 : ∀ ty (W : World), (∀ x, W.cell? x = w.cell? x) → W.heap = w.heap → (Builtin.copy_ #[23, 23] ty #[.slice (some ⟨g, (i + 1) * 3, none⟩) (l.length + 1 - (i + 1)) (c - (i + 1)), .slice (some ⟨g, i * 3, none⟩) (l.length + 1 - i) (c - i)]).run Tryz.prog W = .ok (goInt (Nat.min (l.length + 1 - i) (l.length + 1 - (i + 1)))) (W.setRow g (cur.toList.take ((i + 1) * 3) ++ catS (l.drop i) ++ cur.toList.drop ((i + 1) * 3 + (l.length - i) * 3)).toArray) := fun ty W hWc hWh => by
    rw [← hd3]
    exact run_copyK W 23 23 ty 53 3 g ((i + 1) * 3) _ _ ⟨g, i * 3, none⟩ _ _ cur 53 (catS (l.drop i)) Tryz.underlying23 size_sw (by rw [hWh]; exact hh) (by rw [show Nat.min (l.length + 1 - i) (l.length + 1 - (i + 1)) = l.length - i from (Nat.min_eq_right (by omega)).trans (by omega)]; exact hd3) (fun j v hj => by
      rw [Addr.add_lit, hWc]
      refine hcl _ v ?_
      rw [catS_drop, List.getElem?_drop] at hj; exact hj) (by rw [hd3, hs]; omega) (catS_one _)
  obtain ⟨cur2, hcur2⟩ : ∃ cur2, cur2 = (cur.toList.take ((i + 1) * 3) ++ catS (l.drop i) ++ cur.toList.drop ((i + 1) * 3 + (l.length - i) * 3)).toArray := ⟨_, rfl⟩
  rw [← hcur2] at hcp1
  have hs2 : cur2.size = c * 3 := by
    rw [hcur2, List.size_toArray, ← hd3]; exact (spl_len (by rw [hd3]; have := hs; rw [← Array.length_toList] at this; omega)).trans (by rw [Array.length_toList, hs])
  have ht2 : cur2.toList.take (i * 3) = catS (l.take i) := by
    rw [hcur2, List.toList_toArray, spl_low (by rw [Array.length_toList, hs]; omega) (by omega), hta]
  have ht3 : (cur2.toList.drop (i * 3 + 3)).take ((l.length - i) * 3) = catS (l.drop i) := by
    have e := spl_take (x := cur.toList) (c := catS (l.drop i)) (o := (i + 1) * 3) (m := (i + 1) * 3 + (l.length - i) * 3) (by rw [Array.length_toList, hs]; omega) (by rw [hd3])
    have e2 := congrArg (List.drop ((i + 1) * 3)) e
    rw [List.drop_take, Nat.add_sub_cancel_left] at e2
    rw [hcur2, List.toList_toArray, show i * 3 + 3 = (i + 1) * 3 by omega, e2]
    have e3 : (cur.toList.take ((i + 1) * 3)).length = (i + 1) * 3 := by rw [List.length_take, Array.length_toList, hs]; omega
    exact List.drop_left' e3
  obtain ⟨w2, hw2⟩ : ∃ w2, w2 = w.drew.setRow g cur2 := ⟨_, rfl⟩
  have hr2 : w2.heap[g]? = some (.cells cur2 53 (0, 0)) := by rw [hw2]; exact setRow_heap _ _ _ _ _ _ hh
  have hB2 : Below B w w2 := by rw [hw2]; exact below_setRow ((Dr.one (Dr.refl w) 1).below B) hg _
  have hv2 : VRow w2 vb 53 (swE s) := by rw [hw2]; exact (setRow_other _ _ _ _ hvb).trans hv
  have hcp2 : ∀ ty, (Builtin.copy_ #[23, 23] ty #[.slice (some ⟨g, i * 3, none⟩) (l.length + 1 - i) (c - i), .slice (some ⟨vb, 0, none⟩) 1 1]).run Tryz.prog w2 = .ok (goInt (Nat.min 1 (l.length + 1 - i))) (w2.setRow g (cur2.toList.take (i * 3) ++ swE s ++ cur2.toList.drop (i * 3 + 3)).toArray) := fun ty =>
    run_copyK w2 23 23 ty 53 3 g (i * 3) _ _ ⟨vb, 0, none⟩ 1 1 cur2 53 (swE s) Tryz.underlying23 size_sw hr2 (by rw [show Nat.min 1 (l.length + 1 - i) = 1 from Nat.min_eq_left (by omega)]; rfl) (fun j v hj => by rw [Addr.add_lit, Nat.zero_add, hv2.cell]; exact hj) (by rw [hb3, hs2]; omega) (swE_one s)
  obtain ⟨cur3, hcur3⟩ : ∃ cur3, cur3 = (cur2.toList.take (i * 3) ++ swE s ++ cur2.toList.drop (i * 3 + 3)).toArray := ⟨_, rfl⟩
  rw [← hcur3] at hcp2
  have hs3 : cur3.size = c * 3 := by
    rw [hcur3, List.size_toArray]; exact (spl_len (c := swE s) (by rw [hb3]; have := hs2; rw [← Array.length_toList] at this; omega)).trans (by rw [Array.length_toList, hs2])
  have ht4 : cur3.toList.take ((l.length + 1) * 3) = catS (insAt l s i) := by
    have hx : cur2.toList.length = c * 3 := by rw [Array.length_toList, hs2]
    rw [hcur3, List.toList_toArray, show (l.length + 1) * 3 = (cur2.toList.take (i * 3) ++ swE s).length + (l.length - i) * 3 by rw [List.length_append, List.length_take, hx, hb3]; omega, List.take_length_add_append, ht2, ht3, hCI]
  have hFIN : ∀ W : World, W.heap = w2.heap → (W.setRow g cur3).ownsRow B 53 3 (.slice (some ⟨g, 0, none⟩) (l.length + 1) c) (l.length + 1) (catS (insAt l s i)) := fun W hW =>
    fin_own (setRow_heap _ _ _ _ _ _ (by rw [hW]; exact hr2)) hg hcn hm hs3 hL3 ht4
  have HFIN := hidI hFIN
  have HB2 := hidI hB2
  have hne : ¬ ((i : Int) = (l.length : Int)) := by omega
  have hg' := hidI hg
  have hm' : c ≤ 9223372036854775807 := by unfold maxLen at hm; omega
  have hcp1 := fun ty => hcp1 ty w.drew (fun _ => rfl) rfl
  rw [← hw2] at hcp1
  clear hw2 hFIN hcur3 hcur2 ht3 ht2 ht4 hs3 hs2 hr2 hB2 hCI hL3 hd3 ha3 hb3 hcl h hv hv2 ht hs hh hm hta hsa hsb hfa hfe hg
  have mixed : Tryz.prog.follows .mixedOrders = true := by kernel_rfl
  have q1 : IntKind.i64.wrap ((i : Int) + 1) = (i : Int) + 1 := by rw [IntKind.wrap_i64]; omega
  have q2 : (0 : Int) ≤ (i : Int) + 1 := by omega
  have q3 : ((i : Int) + 1).toNat = i + 1 := by omega
  have q4 : (i : Int) + 1 ≤ (l.length : Int) + 1 := by omega
  have q5 : ¬ (c = i + 1) := by omega
  have q6 : (i : Int) ≤ (l.length : Int) + 1 := by omega
  have q7 : ¬ (c = i) := by omega
  go_enter Tryz.func53, Tryz.ntmps53
  go_wp2_with (simp only [hov])
  go_region_law_o (refine step_copy_runI rfl _ _ 23 23 rfl _ _ (by simp [Act.eval, Act.put]; first | done | rfl) (by simp [Act.eval, Act.put]; first | done | rfl) (hcp1 _) ?_)
  go_wp2_with (at_builtin; refine wpList_copy_runI _ rfl _ _ 23 23 rfl (.slice (some ⟨g, i * 3, none⟩) (l.length + 1 - i) (c - i)) (.slice (some ⟨vb, 0, none⟩) 1 1) rfl rfl (hcp2 _) ?_)
  go_ret
  exact ⟨_, rfl, HFIN.out _ rfl, below_setRow HB2.out hg'.out _⟩

/-- slices.Insert of one swap into the call's own row. -/
theorem insertSw_any (l : List Sw) (s : Sw) (i B vb : Nat) (v : Value) (w : World) (h : w.ownsRow B 53 3 v l.length (catS l)) (hB : B ≤ w.heap.size) (hv : VRow w vb 53 (swE s)) (hvb : v.ownBlock ≠ some vb) (hl : l.length ≤ 1000) (hi : i ≤ l.length) :
    Calls Tryz.prog 53 #[v, .int .i64 i, .slice (some ⟨vb, 0, none⟩) 1 1] w (RetIns l s i B w) := by
  rcases Nat.lt_or_eq_of_le hi with hlt | rfl
  · rcases h.2 with ⟨_, h0⟩ | ⟨g, cap, cur, rfl, hg, hh, hc, hm, hs, ht⟩
    · omega
    · by_cases hcap : cap = l.length
      · subst hcap; exact insertSw_grow l s i B g vb w h hB hv hl hlt
      · exact insertSw_shift l s i B g cap vb w h hB hv hl hlt (by omega) (fun e => hvb (by rw [e]; rfl))
  · exact insertSw_end l s B v vb w h hB hv hl
end Go.Proofs.YtjpilmedlecdhaaGreat
namespace Go.Proofs.YtjpilmedlecdhaaGreat
open Go.RowKit

/-! ### Readable tables, as the reference asks -/
def rdRs (T : Tb) (i j : Nat) (k : Nat) : Bool := (T.swaps.take k).all (fun s => !(decide (s.i = (j : Int)) && tkn T (bget T.base i ++ s.wd.extract 0 T.n.toNat)))
def rdRj (T : Tb) (i j : Nat) : Bool := !frW T (i : Int) (j : Int) || (!tkn T (bget T.base i ++ bget T.base j) && rdRs T i j T.swaps.length)
def rdRi (T : Tb) (i k : Nat) : Bool := (List.range k).all (rdRj T i)
def rdR (T : Tb) (k : Nat) : Bool := (List.range k).all (fun i => rdRi T i T.base.length)
theorem rdRs_zero (T : Tb) (i j : Nat) : rdRs T i j 0 = true := rfl
theorem rdRs_succ (T : Tb) (i j k : Nat) (h : k < T.swaps.length) : rdRs T i j (k + 1) = (rdRs T i j k && !(decide (T.swaps[k].i = (j : Int)) && tkn T (bget T.base i ++ T.swaps[k].wd.extract 0 T.n.toNat))) := by
  unfold rdRs; rw [List.take_succ_eq_append_getElem h, List.all_append]; simp
theorem rdRi_succ (T : Tb) (i k : Nat) : rdRi T i (k + 1) = (rdRi T i k && rdRj T i k) := by
  unfold rdRi; rw [List.range_succ, List.all_append]; simp
theorem rdR_succ (T : Tb) (k : Nat) : rdR T (k + 1) = (rdR T k && rdRi T k T.base.length) := by
  unfold rdR; rw [List.range_succ, List.all_append]; simp
theorem all_false {α : Type} {l : List α} {f : α → Bool} {k : Nat} (h : k < l.length) (hf : f l[k] = false) : l.all f = false := by
  cases hx : l.all f
  · rfl
  · have := List.all_eq_true.1 hx _ (List.getElem_mem h); rw [hf] at this; cases this
theorem range_all_false {n : Nat} {f : Nat → Bool} {k : Nat} (h : k < n) (hf : f k = false) : (List.range n).all f = false := by
  cases hx : (List.range n).all f
  · rfl
  · have := List.all_eq_true.1 hx k (List.mem_range.2 h); rw [hf] at this; cases this
theorem rdR_eq {T : Tb} (hf : fmd T = true) : rdR T T.base.length = rdbl T := by
  unfold rdR rdbl
  apply Bool.eq_iff_iff.2
  simp only [List.all_eq_true, List.mem_range]
  constructor
  · intro h i hi b hb
    have h1 := h i hi
    unfold rdRi at h1
    rw [List.all_eq_true] at h1
    unfold flw at hb
    rcases List.mem_append.1 hb with hb | hb
    · obtain ⟨j, hj, rfl⟩ := List.mem_map.1 hb
      rw [List.mem_filter, List.mem_range] at hj
      have h2 := h1 j (List.mem_range.2 hj.1)
      unfold rdRj at h2
      rw [hj.2] at h2
      simp only [Bool.not_true, Bool.false_or, Bool.and_eq_true] at h2
      exact h2.1
    · obtain ⟨s, hs, rfl⟩ := List.mem_map.1 hb
      rw [List.mem_filter] at hs
      have hin := swaps_in hf hs.1
      have h2 := h1 s.i.toNat (List.mem_range.2 (by omega))
      have e : ((s.i.toNat : Nat) : Int) = s.i := by omega
      unfold rdRj at h2
      rw [e, hs.2] at h2
      simp only [Bool.not_true, Bool.false_or, Bool.and_eq_true] at h2
      have h3 := h2.2
      unfold rdRs at h3
      rw [List.take_length, List.all_eq_true] at h3
      have h4 := h3 s hs.1
      rw [e] at h4
      simpa using h4
  · intro h i hi
    unfold rdRi
    rw [List.all_eq_true]
    intro j hj
    rw [List.mem_range] at hj
    unfold rdRj
    cases hfr : frW T (i : Int) (j : Int)
    · rfl
    · simp only [Bool.not_true, Bool.false_or, Bool.and_eq_true]
      refine ⟨h i hi _ ?_, ?_⟩
      · unfold flw
        exact List.mem_append_left _ (List.mem_map.2 ⟨j, List.mem_filter.2 ⟨List.mem_range.2 hj, hfr⟩, rfl⟩)
      · unfold rdRs
        rw [List.take_length, List.all_eq_true]
        intro s hs
        by_cases e : s.i = (j : Int)
        · have := h i hi (s.wd.extract 0 T.n.toNat) (by
            unfold flw
            exact List.mem_append_right _ (List.mem_map.2 ⟨s, List.mem_filter.2 ⟨hs, by rw [e]; exact hfr⟩, rfl⟩))
          rw [decide_eq_true e, Bool.true_and]; exact this
        · rw [decide_eq_false e, Bool.false_and]; rfl

/-! ### The pairs that follow one -/
def folB (T : Tb) (G : Gr) (p : Pl) (k : Nat) : List Pl := (List.range k).flatMap (fun (j : Nat) => if frW T p.1 (j : Int) = true then [((j : Int), endA G p.2 (ltr (bget T.base j)))] else [])
def folS (T : Tb) (G : Gr) (p : Pl) (k : Nat) : List Pl := (T.swaps.take k).flatMap (fun s => if frW T p.1 s.i = true then [((-1 : Int), endA G p.2 (ltr s.wd))] else [])
def folP (T : Tb) (G : Gr) (p : Pl) : List Pl := folB T G p T.base.length ++ folS T G p T.swaps.length
/-- One pair is noted. -/
def ntP (x : List Pl × Int) (y : Pl) : List Pl × Int :=
  if x.2 ≠ 0 then x else if y.2 = [] then (x.1, 13) else if y ∈ x.1 then (x.1, 0) else if x.1.length = 1024 then (x.1, 4) else (x.1 ++ [y], 0)
theorem wr_nt {G : Gr} {x : List Pl × Int} (h : ¬ x.2 ≠ 0) (p : Pl) (w : ByteArray) (last : Int) : wrP G x.1 p w last = ntP x (last, endA G p.2 (ltr w)) := by
  unfold wrP ntP; rw [if_neg h]
theorem folB_succ (T : Tb) (G : Gr) (p : Pl) (k : Nat) : folB T G p (k + 1) = folB T G p k ++ (if frW T p.1 (k : Int) = true then [((k : Int), endA G p.2 (ltr (bget T.base k)))] else []) := by
  unfold folB; rw [List.range_succ, List.flatMap_append]; simp
theorem folS_succ (T : Tb) (G : Gr) (p : Pl) (k : Nat) (h : k < T.swaps.length) : folS T G p (k + 1) = folS T G p k ++ (if frW T p.1 T.swaps[k].i = true then [((-1 : Int), endA G p.2 (ltr T.swaps[k].wd))] else []) := by
  unfold folS; rw [List.take_succ_eq_append_getElem h, List.flatMap_append]; simp
theorem nt_err {x : List Pl × Int} (h : x.2 ≠ 0) (y : Pl) : ntP x y = x := by unfold ntP; rw [if_pos h]
theorem rB_fol (T : Tb) (G : Gr) (p : Pl) (q : List Pl) : ∀ k, rB T G p q k = (folB T G p k).foldl ntP (q, 0)
  | 0 => rfl
  | k + 1 => by
    rw [rB_succ, folB_succ, List.foldl_append, rB_fol T G p q k]
    unfold bsP
    by_cases hx : ((folB T G p k).foldl ntP (q, 0)).2 ≠ 0
    · rw [if_pos hx]
      cases hfr : frW T p.1 (k : Int)
      · rfl
      · simp only [if_true, List.foldl_cons, List.foldl_nil]; rw [nt_err hx]
    · rw [if_neg hx]
      cases hfr : frW T p.1 (k : Int)
      · rfl
      · simp only [if_true, List.foldl_cons, List.foldl_nil]; rw [wr_nt hx]
theorem rS_fol (T : Tb) (G : Gr) (p : Pl) (x : List Pl × Int) : ∀ k, k ≤ T.swaps.length → rS T G p x k = (folS T G p k).foldl ntP x
  | 0, _ => by unfold rS folS; rw [List.take_zero]; rfl
  | k + 1, h => by
    rw [rS_succ T G p x k (by omega), folS_succ T G p k (by omega), List.foldl_append, rS_fol T G p x k (by omega)]
    unfold ssP
    by_cases hx : ((folS T G p k).foldl ntP x).2 ≠ 0
    · rw [if_pos hx]
      cases hfr : frW T p.1 T.swaps[k].i
      · rfl
      · simp only [if_true, List.foldl_cons, List.foldl_nil]; rw [nt_err hx]
    · rw [if_neg hx]
      cases hfr : frW T p.1 T.swaps[k].i
      · rfl
      · simp only [if_true, List.foldl_cons, List.foldl_nil]; rw [wr_nt hx]
theorem rnd_fol (T : Tb) (G : Gr) (p : Pl) (q : List Pl) : rndP T G p q = (folP T G p).foldl ntP (q, 0) := by
  unfold rndP folP
  rw [List.foldl_append, rS_fol _ _ _ _ _ (Nat.le_refl _), rB_fol]
theorem fold_err {x : List Pl × Int} (h : x.2 ≠ 0) : ∀ l : List Pl, l.foldl ntP x = x
  | [] => rfl
  | y :: l => by rw [List.foldl_cons, nt_err h]; exact fold_err h l
/-- A first part of the round ends with an error: so does the round. -/
theorem fold_stop {l : List Pl} {x : List Pl × Int} {k : Nat} (h : ((l.take k).foldl ntP x).2 ≠ 0) : l.foldl ntP x = (l.take k).foldl ntP x := by
  conv => lhs; rw [← List.take_append_drop k l, List.foldl_append]
  exact fold_err h _
theorem fold_take {l : List Pl} {x : List Pl × Int} {k : Nat} (h : k < l.length) : (l.take (k + 1)).foldl ntP x = ntP ((l.take k).foldl ntP x) l[k] := by
  rw [List.take_succ_eq_append_getElem h, List.foldl_append]; rfl
theorem folB_len (T : Tb) (G : Gr) (p : Pl) : ∀ k, (folB T G p k).length ≤ k
  | 0 => Nat.le_refl 0
  | k + 1 => by
    have := folB_len T G p k
    rw [folB_succ, List.length_append]; split <;> simp <;> omega
theorem folS_len (T : Tb) (G : Gr) (p : Pl) : ∀ k, k ≤ T.swaps.length → (folS T G p k).length ≤ k
  | 0, _ => by simp [folS]
  | k + 1, h => by
    have := folS_len T G p k (by omega)
    rw [folS_succ _ _ _ _ (by omega), List.length_append]; split <;> simp <;> omega
/-- Without states the first word ends it. -/
theorem kpA_none {T : Tb} {G : Gr} (hf : fmd T = true) (h : G.n = 0) : kpA T G = 13 := by
  have hb := pre_base hf
  have hs : stP G = (-1, []) := by unfold stP; rw [h]; rfl
  have he : ∀ w, endA G [] w = [] := by
    intro w
    unfold endA
    induction w with
    | nil => rfl
    | cons a w ih =>
      rw [List.foldl_cons]
      have e : nextA G [] a = [] := by
        unfold nextA nxP
        rw [List.filter_eq_nil_iff]
        intro x _
        simp [nxE]
      rw [e]; exact ih
  have h1 : (folB T G (stP G) 1).foldl ntP ([stP G], 0) = ([stP G], 13) := by
    rw [folB_succ, hs]
    simp only [frW_start hf, if_true, List.foldl_append]
    show ntP ([(-1, [])], 0) ((0 : Int), endA G [] _) = _
    rw [he]
    rfl
  have h2 : rB T G (stP G) [stP G] T.base.length = ([stP G], 13) := by
    rw [rB_fol]
    have h3 : ∀ k, 1 ≤ k → (folB T G (stP G) k).foldl ntP ([stP G], 0) = ([stP G], 13) := by
      intro k hk
      induction k with
      | zero => omega
      | succ k ih =>
        rcases Nat.eq_zero_or_pos k with rfl | hp
        · exact h1
        · rw [folB_succ, List.foldl_append, ih hp, fold_err (by simp)]
    exact h3 _ (by omega)
  have h4 : rndP T G (stP G) [stP G] = ([stP G], 13) := by
    unfold rndP; rw [h2, rS_fol _ _ _ _ _ (Nat.le_refl _), fold_err (by simp)]
  unfold kpA
  show kpN T G (1024 + 1) 0 [stP G] = 13
  unfold kpN
  rw [dif_pos (by simp)]
  simp only [List.getElem_cons_zero]
  rw [h4]
  rfl
end Go.Proofs.YtjpilmedlecdhaaGreat
namespace Go.Proofs.YtjpilmedlecdhaaGreat
open Go.RowKit

/-! ### All words of a number of letters -/
def letb1 (c : Nat) : ByteArray := Chg.letb.extract c (c + 1)
/-- All words of m letters over q; none if a list would be too long. -/
def allF (q : Nat) : Nat → Option (List ByteArray)
  | 0 => some [⟨#[]⟩]
  | m + 1 => (allF q m).bind (fun l => if 4096 < l.length * q then none else some (l.flatMap (fun w => (List.range q).map (fun c => w ++ letb1 c))))
theorem letb1_size (c : Nat) (h : c < 16) : (letb1 c).size = 1 := by
  have hb : Chg.letb.size = 16 := rfl
  unfold letb1; rw [ByteArray.size_extract, hb]; omega
theorem letb1_all : ∀ c : Nat, c < 16 → ∀ q : Nat, q ≤ 16 → c < q → Chg.okw q (letb1 c).data.toList = true := by decide +kernel
theorem allF_ok (q : Nat) (hq : q ≤ 16) : ∀ (m : Nat) (l : List ByteArray), allF q m = some l → l.length ≤ 4096 ∧ ∀ w ∈ l, w.size = m ∧ Chg.okw q w.data.toList = true
  | 0, l, h => by
    unfold allF at h
    cases h
    exact ⟨by simp, fun w hw => by rw [List.mem_singleton.1 hw]; exact ⟨rfl, rfl⟩⟩
  | m + 1, l, h => by
    unfold allF at h
    obtain ⟨l0, h0, h1⟩ := Option.bind_eq_some_iff.1 h
    obtain ⟨_, h3⟩ := allF_ok q hq m l0 h0
    split at h1
    · cases h1
    · rename_i hl
      cases h1
      constructor
      · have : ∀ (l : List ByteArray), (l.flatMap (fun w => (List.range q).map (fun c => w ++ letb1 c))).length = l.length * q := by
          intro l
          induction l with
          | nil => simp
          | cons x l ih => rw [List.flatMap_cons, List.length_append, ih, List.length_map, List.length_range, List.length_cons, Nat.succ_mul]; omega
        rw [this]; omega
      · intro w hw
        obtain ⟨w0, hw0, hw1⟩ := List.mem_flatMap.1 hw
        obtain ⟨c, hc, rfl⟩ := List.mem_map.1 hw1
        have hcq := List.mem_range.1 hc
        obtain ⟨e1, e2⟩ := h3 w0 hw0
        refine ⟨by rw [ByteArray.size_append, e1, letb1_size c (by omega)], ?_⟩
        rw [ByteArray.data_append, Array.toList_append]
        unfold Chg.okw at e2 ⊢
        have e3 := letb1_all c (by omega) q hq hcq
        unfold Chg.okw at e3
        rw [List.all_append, e2, e3]; rfl
end Go.Proofs.YtjpilmedlecdhaaGreat
