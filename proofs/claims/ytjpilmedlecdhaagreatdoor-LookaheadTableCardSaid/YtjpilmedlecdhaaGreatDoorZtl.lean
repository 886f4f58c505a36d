/-
  LookaheadTable: whatever comes in, the law returns true, and its arguments read as they did; the tables of the library that its row lists are tied to the program's text.
-/
import Derived.Test.YtjpilmedlecdhaaGreatDoorZtk
import Derived.Test.YtjpilmedlecdhaaGreatDoorZtj
import Derived.Test.YtjpilmedlecdhaaGreatDoorZte
import Derived.Test.YtjpilmedlecdhaaGreatDoorZti
set_option linter.unusedVariables false
set_option linter.unusedSimpArgs false
namespace Go.Proofs.YtjpilmedlecdhaaGreatDoor
open Go.RowKit Go.Sort Go.Shelf Go.Lib

theorem Ret17.open {w w' : World} {e : Ending} (h : Ret17 w e w') : ∃ p c, e = .returned (.tuple #[.agg #[.int .i64 2, .int .i64 8, .slice p 14 c], .int .i64 0]) ∧ Sg 3 w' edE p g17.es ∧ RowKit.Below w.heap.size w w' := by
  obtain ⟨p, m, c, rfl, ho, hB⟩ := h
  obtain ⟨hm, hs⟩ := sg_len (p' := none) ho
  rw [show g17.es.length = 14 from by decide] at hm
  subst hm
  exact ⟨p, c, rfl, hs, hB⟩

theorem inv17 {l : List Int} (ho : l.any (outB exT.base.length) = false) (hl : l.length ≤ 12) : InvL exT g17 l (encW exT l) := by
  have h := chk17
  obtain ⟨hf, hv, hq⟩ := chk_split h
  obtain ⟨h1, h2⟩ := inv_law h ho
  have hN := pre_all (fmd_split hf).1
  have hz := encW_size hf l ho
  have hb : l.length * exT.n.toNat ≤ 12 * 8 := Nat.mul_le_mul hl (by omega)
  have hok := encW_okw hf l.length l (Nat.le_refl _) ho
  have hck : Chg.wchk exT.q (encW exT l).data.toList = 0 := Chg.wchk_ok _ _ (by omega) (by omega) (by rw [toL_len]; omega) hok
  refine ⟨encA_ok hf ho, decA_ok hf hck (by rw [hz]; exact Nat.mul_mod_left _ _) h1, h2, ?_, by rw [hq]; exact hck, by omega⟩
  rw [hz, Int.natCast_mul]
  congr 1

set_option maxRecDepth 100000 in
set_option maxHeartbeats 400000 in
theorem lawTable_any (l : List UInt8) (pl : Option Addr) (cl : Nat) (w : World) (hL : Sl w u8v pl l) (hll : l.length ≤ 9223372036854775807) (ht : T10 w) :
    Calls Tryz.prog 3 #[.slice pl l.length cl] w fun e w' => e = .returned (.bool true) ∧ RowKit.Below w.heap.size w w' := by
  have H10 := hidI ht; have HL := hidI hL
  clear ht hL
  go_enter Tryz.func3, Tryz.ntmps3
  go_wp2_with fail
  refine (lkTable_any w).mono ?_
  rintro e w1 ⟨p1, p2, rfl, hT, hB1⟩
  have HT := hidI hT
  clear hT
  obtain ⟨w2, hw2⟩ : ∃ w2, w2 = w1.alloc (Obj.cells #[Value.int IntKind.i64 2, Value.int IntKind.i64 3, Value.slice p1 4 4, Value.slice p2 4 4] 26) := ⟨_, rfl⟩
  have b2 : VRow w2 w1.heap.size 26 [.int .i64 2, .int .i64 3, .slice p1 4 4, .slice p2 4 4] := by subst hw2; exact VRow.new w1 _ _
  have hB2 : RowKit.Below w1.heap.size w1 w2 := by subst hw2; exact (RowKit.Below.refl _ _).alloc (Nat.le_refl _) _
  have hT := hidI (HT.out.below hB2)
  have x2 := hB1.trans (hB2.mono hB1.size)
  clear HT hB1 hB2
  go_wp2_with fail
  rw [← hw2]
  clear hw2
  refine (rlGraph17 w2).mono ?_
  intro e w3 h3
  obtain ⟨p, c, rfl, hG, hB3⟩ := h3.open
  clear h3
  have x3 := x2.trans (hB3.mono x2.size)
  have c3 := b2.below hB3 b2.lt
  obtain ⟨w4, hw4⟩ : ∃ w4, w4 = w3.alloc (Obj.cells #[.int .i64 2, .int .i64 8, .slice p 14 c] 30) := ⟨_, rfl⟩
  have d4 : VRow w4 w3.heap.size 30 [.int .i64 2, .int .i64 8, .slice p 14 c] := by subst hw4; exact VRow.new w3 _ _
  have hB4 : RowKit.Below w3.heap.size w3 w4 := by subst hw4; exact (RowKit.Below.refl _ _).alloc (Nat.le_refl _) _
  have c4 := c3.below hB4 c3.lt
  have hT4 := hidI ((hT.out.below hB3).below hB4)
  have hG4 := hidI (hG.below hB4)
  have x4 := x3.trans (hB4.mono x3.size)
  clear hT hG b2 c3 hB3 hB4 x2 x3
  go_upto_region 3 with fail
  rw [← hw4]
  clear hw4
  have a0 := c4.at 0 rfl; have a1 := c4.at 1 rfl; have a2 := c4.at 2 rfl; have a3 := c4.at 3 rfl
  have e0 := d4.at 0 rfl; have e1 := d4.at 1 rfl; have e2 := d4.at 2 rfl
  have HCK := hidI (lkCheck_any exT p1 p2 4 4 g17 p c w4 hT4.out hG4.out (by decide) (H10.out.below x4))
  rw [chk17] at HCK
  go_wp2_with fail
  refine HCK.out.mono ?_
  rintro e w5 ⟨rfl, hB5⟩
  have x5 := x4.trans (hB5.mono x4.size)
  have t5 := c4.below hB5 c4.lt
  have hT5 := hidI (hT4.out.below hB5)
  clear a0 a1 a2 a3 e0 e1 e2 c4 d4 hB5 x4 HCK hT4 hG4
  have a0 := t5.at 0 rfl; have a1 := t5.at 1 rfl; have a2 := t5.at 2 rfl; have a3 := t5.at 3 rfl
  by_cases h12 : (12 : Int) < (l.length : Int)
  · (go_wp2_with fail; refine (lkAwake_any _).mono ?_; rintro e w99 ⟨rfl, hB99⟩; go_wp2; go_ret; exact ⟨rfl, x5.trans (hB99.mono (x5).size)⟩)
  have hl12 : l.length ≤ 12 := by omega
  have hpl : (picks exT.base.length l).length = l.length := by simp [picks]
  have hpk := picks_ok (N := exT.base.length) (by decide) l
  have HALL := hidI (inv17 hpk (by omega))
  have HRL := hidI (rl_enc hpk)
  have HSO := hidI (lkSome_any exT p1 p2 4 4 l pl cl w5 (HL.out.below x5) (by omega) (by decide) (by decide))
  clear hpk
  have hlL : (picks exT.base.length l).length ≤ 12 := by omega
  clear hpl
  generalize picks exT.base.length l = L at *
  go_wp2_with fail
  refine HSO.out.mono ?_
  rintro e w6 ⟨ps, cs, rfl, hs6, hcs, hB6⟩
  have x6 := x5.trans (hB6.mono x5.size)
  have t6 := t5.below hB6 t5.lt
  have hT6 := hidI (hT5.out.below hB6)
  clear a0 a1 a2 a3 t5 hB6 x5 HSO hT5
  have a0 := t6.at 0 rfl; have a1 := t6.at 1 rfl; have a2 := t6.at 2 rfl; have a3 := t6.at 3 rfl
  have hmx : ∀ w : World, (Builtin.max_ #[31, 31, 31] 31 #[.int .i64 0, .int .i64 0, .int .i64 0]).run Tryz.prog w = .ok (.int .i64 0) w := fun _ => by kernel_rfl
  have hsz := HALL.out.size
  have hn8 := HALL.out.len
  have hwr : IntKind.i64.wrap (3 * (L.length : Int)) = 3 * (L.length : Int) := IntWalk.i64_in _ (by omega)
  have hq : (((encW exT L).size : Int) == 3 * (L.length : Int)) = true := by rw [hsz]; simp [exT]; omega
  have HE := hidI HALL.out.enc; have HD := hidI HALL.out.dec; have HC := hidI HALL.out.chk
  clear hsz HALL
  generalize encW exT L = W at *
  go_wp2_with fail
  refine (lkEncode_r exT p1 p2 4 4 L ps cs w6 hT6.out hs6 (by omega) hcs W 0 HE.out).mono ?_
  rintro e w7 ⟨rfl, hB7⟩
  have x7 := x6.trans (hB7.mono x6.size)
  have hs7 := hs6.below hB7
  have t7 := t6.below hB7 t6.lt
  have hT7 := hidI (hT6.out.below hB7)
  clear a0 a1 a2 a3 t6 hB7 x6 hs6 hT6
  have a0 := t7.at 0 rfl; have a1 := t7.at 1 rfl; have a2 := t7.at 2 rfl; have a3 := t7.at 3 rfl
  go_wp2_with fail
  refine (rlValid17 W w7 hn8 HC.out).mono ?_
  rw [HRL.out]
  rintro e w8 ⟨rfl, hD8⟩
  have x8 := x7.trans (hD8.below _)
  have hs8 := hs7.below (hD8.below _)
  have t8 := t7.below (hD8.below _) t7.lt
  have hT8 := hidI (hT7.out.below (hD8.below _))
  clear a0 a1 a2 a3 t7 hD8 x7 hs7 hT7
  have a0 := t8.at 0 rfl; have a1 := t8.at 1 rfl; have a2 := t8.at 2 rfl; have a3 := t8.at 3 rfl
  go_wp2_with fail
  refine (lkDecode_any exT p1 p2 4 4 W w8 hT8.out (by unfold maxLen; omega)).mono ?_
  rw [HD.out]
  rintro e w9 ⟨qd, dd, rfl, hs9, hB9⟩
  have x9 := x8.trans (hB9.mono x8.size)
  have hs9' := hs8.below hB9
  have HEQ := equalI_any L L qd ps dd cs w9 hs9 hs9' (by omega) (by omega)
  rw [decide_eq_true (rfl : L = L)] at HEQ
  have HEQ := hidI HEQ
  clear a0 a1 a2 a3 t8 hB9 x8
  go_wp2_with fail
  refine HEQ.out.mono ?_
  rintro e w10 ⟨rfl, hD10⟩
  have x10 := x9.trans (hD10.below _)
  go_wp2_with fail
  refine (lkAwake_any _).mono ?_
  rintro e w11 ⟨rfl, hB11⟩
  go_wp2
  go_ret
  exact ⟨rfl, x10.trans (hB11.mono x10.size)⟩
#print axioms lawTable_any
end Go.Proofs.YtjpilmedlecdhaaGreatDoor
namespace Go.Proofs.YtjpilmedlecdhaaGreatDoor
open Go.Joins Go.ChangeShapes Go.WideShapes Go.ChangeAt Go.RowKit Go.Deep

set_option maxRecDepth 100000 in
theorem lookaheadTable_lifted (os : Os) (started : os.Started) (H : Type) (enc : TypeId × Value → H) :
    ReturnsInHanded {} Tryz.checked os 3 .any (fun w args => (Rows.lookaheadTableSpec.pre enc Tryz.prog Tryz.f3 [] false w args ∧ laidMetH Tryz.prog Rows.lookaheadTableRow.laid w) ∧ sizedMet enc Tryz.prog Tryz.f3 (OpenSpec.ofChange Rows.lookaheadTableSpec) false w args)
      (Rows.lookaheadTableSpec.post enc Tryz.prog Tryz.f3 false true false false) := by
  refine returnsInHanded_of_change_and (C := Tryz.checked) (X := fun w _ => laidMetH Tryz.prog Rows.lookaheadTableRow.laid w) (fun _ _ _ hh h => h.of_heap hh) own started (by kernel_rfl) Tryz.func3
    (ChangeSpec.witness_shaped (enc := enc) (C := Tryz.checked) (os := os) (X := fun w _ => laidMetH Tryz.prog Rows.lookaheadTableRow.laid w) false (World.doorLaid Tryz.prog 24 os) #[.slice none 0 0] 8 rfl (World.shaped_of_RefB (by kernel_rfl) (by kernel_rfl)) (by kernel_rfl) (by kernel_rfl) (by kernel_rfl) (door_metN os _)) ?_
  intro W base args ds gs before hval0 hW _ _ hL _
  have hval : ∀ (j : Nat) t v, Tryz.f3.params[j]? = some t → args[j]? = some v → Value.okWide Tryz.prog W .any base t v := hval0
  have hW' := hW
  obtain ⟨p, q, hA0, hV, rfl, hfz, hnd⟩ := hW
  have hA : DataW.TrodAll enc Tryz.prog W 0 (fun _ => true) true Tryz.f3.params.toList args.toList ds p := hA0
  rw [Tryz.params3] at hA hval
  obtain ⟨v0, d0, rfl, rfl, h0⟩ := trodAll_one hA
  obtain ⟨rfl, rfl⟩ := trodVars_none hV
  have hlt : ∀ x ∈ p, x.block < W.heap.size := fun x hx => hW'.lt x (List.mem_append_left _ (by simpa using hx))
  obtain ⟨a0, len0, cap0, rfl⟩ := okWide_slice Tryz.underlying22 (hval 0 22 v0 rfl rfl)
  obtain ⟨fuel0, hf0⟩ := h0
  simp only [Value.cells] at hf0
  obtain ⟨q0, l0, c0, he0, hl0, hll0, _⟩ := u8s_at hf0 hlt
  rw [he0] at hval hW' ⊢
  refine (lawTable_any l0 q0 c0 W hl0 hll0 (pow10_in hL)).mono fun e W' ⟨he, hB⟩ => ?_
  subst he
  refine ⟨_, rfl, law_post hW' rfl (by kernel_rfl) ?_ rfl rfl rfl hB⟩
  rw [Tryz.params3]
  intro t ht
  simp only [List.mem_cons, List.not_mem_nil, or_false] at ht
  subst ht
  · exact readU8s

theorem lookaheadTable_holds : Rows.LookaheadTableSaid :=
  OpenClaim.holds_of_wide 3 Tryz.f3 rfl rfl rfl rfl rfl rfl rfl ⟨rfl, rfl, rfl, rfl, rfl⟩ rfl rfl rfl rfl rfl (by kernel_rfl) Tryz.func3 (by kernel_rfl)
    (of_decide_eq_true (by kernel_rfl)) (by unfold Func.isWrapper; rw [if_neg (of_decide_eq_false (by kernel_rfl))]; exact ⟨rfl, rfl⟩)
    (fun os started H enc _ => lookaheadTable_lifted os started H enc)

theorem lookaheadTable_card : Rows.LookaheadTableCardSaid :=
  Claim7.holds_tied_plain_at .later [] [.data, .data, .data] true _ false
    lookaheadTable_holds (fun _ h => by cases h) (by kernel_rfl) (fun _ h => by cases h) lookaheadTable_row_tie rfl ⟨rfl, rfl⟩ (by kernel_rfl) rfl
    (fun f fn hf hfn => by
      obtain rfl : f = 3 := Option.some.inj ((show Tryz.prog.funcNamed "groove/groovelaw32.LookaheadTable" = some 3 by kernel_rfl).symm.trans hf) |>.symm
      obtain rfl : fn = Tryz.f3 := (Option.some.inj (Tryz.func3.symm.trans hfn)).symm
      exact ⟨by kernel_rfl, fun j t ht => by
        rw [Tryz.params3] at ht
        rcases j with _ | j
        · obtain rfl : t = 22 := by simpa using ht.symm
          exact (show Tryz.prog.wantsStandIn 22 = false by kernel_rfl)
        · simp at ht⟩)
    (by kernel_rfl)
#print axioms lookaheadTable_card
end Go.Proofs.YtjpilmedlecdhaaGreatDoor
