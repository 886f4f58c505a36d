/-
  ChargeWords: for every two numbers and every string the law returns true, and its arguments read as they did.
-/
import Derived.Test.YtccdocnaijdcnaaWn
import Derived.Test.YtccdocnaijdcnaaWs
import Derived.Test.YtccdocnaijdcnaaWr
import Derived.Test.YtccdocnaijdcnaaLaw
namespace Go.Proofs.Ytccdocnaijdcnaa
open Go.ChangeShapes Go.WideShapes Go.ChangeAt Go.RowKit
open Go.ChangeMaps (open_string shut_string)

set_option maxRecDepth 100000 in
set_option maxHeartbeats 1000000 in
theorem lawWords_any (n k : Int) (s : ByteArray) (w : World) (hs : s.size ≤ maxLen) :
    Calls Try.prog 4 #[.int .i64 n, .int .i64 k, .string s] w fun e w' => e = .returned (.bool true) ∧ Below w.heap.size w w' := by
  by_cases h1 : 100 < s.size
  · go_enter Try.func4, Try.ntmps4
    go_wp2_with (go_at_call 10; refine (awake_any _).mono ?_; rintro e w' ⟨rfl, hB⟩)
    go_ret
    exact ⟨rfl, hB⟩
  go_enter Try.func4, Try.ntmps4
  go_wp2_with fail
  refine (valid_any n s _ hs).mono ?_
  rintro e w1 ⟨rfl, hB1⟩
  go_wp2_with fail
  refine (rvalid_any n s _ hs).mono ?_
  rintro e w' ⟨rfl, rfl⟩
  generalize vld false 63 n s = a
  go_wp2_with fail
  refine (nullv_any n s _ hs).mono ?_
  rintro e w2 ⟨rfl, hB2⟩
  go_wp2_with fail
  refine (rnullv_any n s _ hs).mono ?_
  rintro e w' ⟨rfl, rfl⟩
  generalize vld true 31 n s = b
  go_wp2_with fail
  refine (balanced_any k _).mono ?_
  rintro e w' ⟨rfl, rfl⟩
  go_wp2_with fail
  refine (rbalanced_any k _).mono ?_
  rintro e w3 ⟨rfl, hB3⟩
  generalize blc k = c
  go_wp2_with fail
  refine (spectrum_any k s _ hs).mono ?_
  rintro e w4 ⟨rfl, hB4⟩
  go_wp2_with fail
  refine (rspectrum_any k s _ hs).mono ?_
  rintro e w' ⟨rfl, rfl⟩
  generalize spe k s = d
  go_wp2_with fail
  refine (awake_any _).mono ?_
  rintro e w5 ⟨rfl, hB5⟩
  go_wp2
  go_ret
  have h2 : w.heap.size ≤ w2.heap.size := Nat.le_trans hB1.size hB2.size
  have h3 : w.heap.size ≤ w3.heap.size := Nat.le_trans h2 hB3.size
  exact ⟨rfl, hB1.trans ((hB2.mono hB1.size).trans ((hB3.mono h2).trans ((hB4.mono h3).trans (hB5.mono (Nat.le_trans h3 hB4.size)))))⟩

theorem readInt' : Try.prog.readableRec 3 = true ∧ 3 < Try.prog.types.size := ⟨by kernel_rfl, of_decide_eq_true (by kernel_rfl)⟩
theorem readString : Try.prog.readableRec 9 = true ∧ 9 < Try.prog.types.size := ⟨by kernel_rfl, of_decide_eq_true (by kernel_rfl)⟩

set_option maxRecDepth 100000 in
theorem words_lifted (os : Os) (started : os.Started) (H : Type) (enc : TypeId × Value → H) :
    ReturnsInHanded {} Try.checked os 4 .any (Rows.chargeWordsSpec.pre6 enc Try.prog Try.f4 Rows.chargeWordsRow.domain false) (Rows.chargeWordsSpec.post enc Try.prog Try.f4 false true false false) := by
  refine returnsInHanded_of_change (C := Try.checked) own started (by kernel_rfl) Try.func4
    (ChangeSpec.witness6 (enc := enc) (C := Try.checked) false ⟨#[], #[.int .i64 0, .int .i64 0, .string ByteArray.empty], []⟩ 8 (by kernel_rfl) (by kernel_rfl) (by kernel_rfl) (by kernel_rfl)) ?_
  intro W base args ds gs before hval0 hW hcnd _
  have hval : ∀ (j : Nat) t v, Try.f4.params[j]? = some t → args[j]? = some v → Value.okWide Try.prog W .any base t v := hval0
  have hW' := hW
  obtain ⟨p, q, hA0, hV, rfl, hfz, hnd⟩ := hW
  have hA : DataW.TrodAll enc Try.prog W 0 (fun _ => true) true Try.f4.params.toList args.toList ds p := hA0
  rw [Try.params4] at hA hval
  obtain ⟨v0, v1, v2, d0, d1, d2, p0, p1, p2, rfl, rfl, rfl, h0, h1, h2⟩ := trodAll_three hA
  obtain ⟨rfl, rfl⟩ := trodVars_none hV
  obtain ⟨a0, rfl, rfl, rfl, w0⟩ := open_int Try.underlying3 (hval 0 3 v0 rfl rfl) h0
  obtain ⟨a1, rfl, rfl, rfl, w1⟩ := open_int Try.underlying3 (hval 1 3 v1 rfl rfl) h1
  obtain ⟨a2, rfl, rfl, rfl, w2⟩ := open_string Try.underlying9 (hval 2 9 v2 rfl rfl) h2
  refine (lawWords_any a0 a1 a2 W w2).mono fun e W' ⟨he, hB⟩ => ?_
  subst he
  refine ⟨_, rfl, law_post hW' rfl (by kernel_rfl) ?_ rfl rfl rfl hB⟩
  rw [Try.params4]
  intro t ht
  simp only [List.mem_cons, List.not_mem_nil, or_false] at ht
  rcases ht with rfl | rfl | rfl
  · exact readInt'
  · exact readInt'
  · exact readString

theorem chargeWords_holds : Rows.ChargeWordsSaid :=
  OpenClaim.holds_of_wide 4 Try.f4 rfl rfl rfl rfl rfl rfl rfl ⟨rfl, rfl, rfl, rfl, rfl⟩ rfl rfl rfl rfl rfl (by kernel_rfl) Try.func4 (by kernel_rfl)
    (of_decide_eq_true (by kernel_rfl)) (by unfold Func.isWrapper; rw [if_neg (of_decide_eq_false (by kernel_rfl))]; exact ⟨rfl, rfl⟩)
    (fun os started H enc _ => words_lifted os started H enc)
#print axioms chargeWords_holds
end Go.Proofs.Ytccdocnaijdcnaa
