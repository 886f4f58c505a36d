/-
  Walks: the law on what is written for two lists.
-/
import Derived.Test.YthfgdahooigifaaLkM
import Derived.Test.YthfgdahooigifaaLkI
import Derived.Deep.RegionHeld3
import Derived.Deep.DeepCutAuto
namespace Go.Proofs.Ythfgdahooigifaa
open Go.RowKit

theorem lkEncode_r (T : Tb) (p1 p2 : Option Addr) (c1 c2 : Nat) (l : List Int) (pl : Option Addr) (cl : Nat) (w : World) (hin : TbIn w T p1 p2 c1 c2) (hl : Sl w (Value.int .i64) pl l) (hln : l.length ≤ 1000) (hcl : l.length ≤ cl) (r : ByteArray) (k : Int) (hr : encA T l = (r, k)) :
    Calls Try.prog 7 #[.agg #[.int .i64 T.q, .int .i64 T.n, .slice p1 T.base.length c1, .slice p2 T.swaps.length c2], .slice pl l.length cl] w fun e w' => e = .returned (.tuple #[.string r, .int .i64 k]) ∧ Below w.heap.size w w' := by
  have := lkEncode_any T p1 p2 c1 c2 l pl cl w hin hl hln hcl
  rw [hr] at this
  exact this
theorem lkEncode_n (T : Tb) (p1 p2 : Option Addr) (c1 c2 : Nat) (l : List Int) (pl : Option Addr) (cl : Nat) (w : World) (hin : TbIn w T p1 p2 c1 c2) (hl : Sl w (Value.int .i64) pl l) (hln : l.length ≤ 1000) (hcl : l.length ≤ cl) (r : ByteArray) (k : Int) (hr : encA T l = (r, k)) (n : Nat) (hn : l.length = n) :
    Calls Try.prog 7 #[.agg #[.int .i64 T.q, .int .i64 T.n, .slice p1 T.base.length c1, .slice p2 T.swaps.length c2], .slice pl n cl] w fun e w' => e = .returned (.tuple #[.string r, .int .i64 k]) ∧ Below w.heap.size w w' := by
  subst hn
  exact lkEncode_r T p1 p2 c1 c2 l pl cl w hin hl hln hcl r k hr
/-- What is written for two lists and for both of them together. -/
def Enc3 (T : Tb) (a b : List Int) (u v x : ByteArray) (k : Int) : Prop := encA T a = (u, k) ∧ encA T b = (v, k) ∧ encA T (a ++ b) = (x, k)
theorem enc3_bad {T : Tb} (a b : List Int) (h : fmd T = false) : Enc3 T a b ⟨#[]⟩ ⟨#[]⟩ ⟨#[]⟩ 1 := ⟨encA_bad a h, encA_bad b h, encA_bad _ h⟩
theorem enc3_ok {T : Tb} {a b : List Int} (h : fmd T = true) (ha : a.any (outB T.base.length) = false) (hb : b.any (outB T.base.length) = false) : Enc3 T a b (encW T a) (encW T b) (encW T (a ++ b)) 0 :=
  ⟨encA_ok h ha, encA_ok h hb, encA_ok h (any_app_f ha hb)⟩
/-- Two lists of numbers in two slots. -/
def Two (w : World) (A B : List Int) (v u : Value) (wx : World) : Prop :=
  ∃ pa ca pb cb, v = .slice pa A.length ca ∧ u = .slice pb B.length cb ∧ Sl wx (Value.int .i64) pa A ∧ Sl wx (Value.int .i64) pb B ∧ A.length ≤ ca ∧ B.length ≤ cb ∧ Below w.heap.size w wx
theorem box_below {w wx : World} {T : Tb} {p1 p2 : Option Addr} {c1 c2 : Nat} (h : Below (w.alloc (.cells #[.int .i64 T.q, .int .i64 T.n, .slice p1 T.base.length c1, .slice p2 T.swaps.length c2] 25)).heap.size (w.alloc (.cells #[.int .i64 T.q, .int .i64 T.n, .slice p1 T.base.length c1, .slice p2 T.swaps.length c2] 25)) wx) :
    VRow wx w.heap.size 25 [.int .i64 T.q, .int .i64 T.n, .slice p1 T.base.length c1, .slice p2 T.swaps.length c2] :=
  (VRow.new w _ _).below h (by simp)

set_option maxRecDepth 100000 in
set_option maxHeartbeats 2000000 in
theorem lawLkJoins_ok (T : Tb) (p1 p2 : Option Addr) (c1 c2 : Nat) (l m : List UInt8) (pl pm : Option Addr) (cl cm : Nat) (w : World) (hin : TbIn w T p1 p2 c1 c2) (hl : Sl w u8v pl l) (hm : Sl w u8v pm m)
    (hg : greatT T = false) (h8 : l.length ≤ 8) (h8' : m.length ≤ 8) (h0 : 0 < T.base.length) :
    Calls Try.prog 4 #[.agg #[.int .i64 T.q, .int .i64 T.n, .slice p1 T.base.length c1, .slice p2 T.swaps.length c2], .slice pl l.length cl, .slice pm m.length cm] w fun e w' => e = .returned (.bool true) ∧ Below w.heap.size w w' := by
  have hB0 : Below w.heap.size w (w.alloc (.cells #[.int .i64 T.q, .int .i64 T.n, .slice p1 T.base.length c1, .slice p2 T.swaps.length c2] 25)) := (Below.refl _ _).alloc (Nat.le_refl _) _
  have b0 : VRow (w.alloc (.cells #[.int .i64 T.q, .int .i64 T.n, .slice p1 T.base.length c1, .slice p2 T.swaps.length c2] 25)) w.heap.size 25 [.int .i64 T.q, .int .i64 T.n, .slice p1 T.base.length c1, .slice p2 T.swaps.length c2] := VRow.new w _ _
  have h1 := hin.l1
  have h2 := hin.l2
  have HIN := hidI hin
  have HL := hidI hl
  have HM := hidI hm
  have HG := hidI hg
  have h8a : (l.length : Int) ≤ 8 := by omega
  have h8b : (m.length : Int) ≤ 8 := by omega
  have hz : ((T.base.length : Int) == 0) = false := by simpa using (by omega : ¬ T.base.length = 0)
  clear hin hl hm hg
  go_enter Try.func4, Try.ntmps4
  go_wp2_with fail
  refine (great_any T p1 p2 c1 c2 _ h1 h2).mono ?_
  rintro e w1 ⟨rfl, hB1⟩
  rw [HG.out]
  have x1 := hB0.trans (hB1.mono hB0.size)
  have b1 := b0.below hB1 (by simp)
  have g0 := b1.at 0 rfl; have g1 := b1.at 1 rfl; have g2 := b1.at 2 rfl; have g3 := b1.at 3 rfl
  have zb : w.heap.size < w1.heap.size := b1.lt
  have X1 := hidI x1
  have HLX : Hid (∀ W, Below w1.heap.size w1 W → Sl W u8v pl l) := fun W h => HL.out.below (x1.trans (h.mono x1.size))
  have HMX : Hid (∀ W, Below w1.heap.size w1 W → Sl W u8v pm m) := fun W h => HM.out.below (x1.trans (h.mono x1.size))
  clear hB1 b0 x1 hB0
  go_upto_region 3 with fail
  go_cut [7, 8] (fun s7 s8 wx => Two w1 (picks T.base.length l) (picks T.base.length m) s7 s8 wx)
  case first =>
    go_region_held3 (fun w' => w'.cell? ⟨w.heap.size, 0, none⟩ = some (.int .i64 T.q) ∧ w'.cell? ⟨w.heap.size, 1, none⟩ = some (.int .i64 T.n) ∧ w'.cell? ⟨w.heap.size, 2, none⟩ = some (.slice p1 T.base.length c1) ∧ w'.cell? ⟨w.heap.size, 3, none⟩ = some (.slice p2 T.swaps.length c2) ∧ Below w1.heap.size w1 w')
      (first | (go_split_ands; refine ⟨?_, ?_, ?_, ?_, ?_⟩ <;> first | assumption | (go_keep; done) | exact below_drewN (Below.refl _ _) 1 | exact (hBa.cell (Nat.lt_of_lt_of_le zb (Below.size (by assumption)))).trans (by assumption) | exact (hBb.cell (Nat.lt_of_lt_of_le zb (Below.size (by assumption)))).trans (by assumption) | exact Below.trans (by assumption) (hBa.mono (Below.size (by assumption))) | exact Below.trans (by assumption) (hBb.mono (Below.size (by assumption)))))
      (first
        | (go_at_call_of 12 (Value.slice pl l.length cl); go_split_ands; refine (lkSome_any T p1 p2 c1 c2 l pl cl _ (HLX.out _ (by assumption)) (by omega) h0 h1).mono ?_; rintro e wA ⟨pa, ca, rfl, hsa, hca, hBa⟩)
        | (go_at_call_of 12 (Value.slice pm m.length cm); go_split_ands; refine (lkSome_any T p1 p2 c1 c2 m pm cm _ (HMX.out _ (by assumption)) (by omega) h0 h1).mono ?_; rintro e wB ⟨pb, cb, rfl, hsb, hcb, hBb⟩))
    go_wp2_with fail
    go_meet
    exact ⟨pa, ca, pb, cb, rfl, rfl, hsa.below hBb, hsb, hca, hcb, Below.trans (by assumption) (hBb.mono (Below.size (by assumption)))⟩
  case rest =>
    obtain ⟨pa, ca, pb, cb, rfl, rfl, hsa, hsb, hca, hcb, hB2⟩ := hcut
    have hpa := picks_ok h0 l
    have hpb := picks_ok h0 m
    have hAl : (picks T.base.length l).length = l.length := by simp [picks]
    have hBl : (picks T.base.length m).length = m.length := by simp [picks]
    have hA8 : (picks T.base.length l).length ≤ 8 := by omega
    have hB8 : (picks T.base.length m).length ≤ 8 := by omega
    have hX : ∃ u v x k, Enc3 T (picks T.base.length l) (picks T.base.length m) u v x k ∧ ((fmd T = false ∧ k = 1 ∧ u = ⟨#[]⟩ ∧ v = ⟨#[]⟩ ∧ x = ⟨#[]⟩) ∨ (fmd T = true ∧ k = 0 ∧ u = encW T (picks T.base.length l) ∧ v = encW T (picks T.base.length m) ∧ x = encW T (picks T.base.length l ++ picks T.base.length m))) := by
      cases hf : fmd T
      · exact ⟨_, _, _, _, enc3_bad _ _ hf, .inl ⟨rfl, rfl, rfl, rfl, rfl⟩⟩
      · exact ⟨_, _, _, _, enc3_ok hf hpa hpb, .inr ⟨rfl, rfl, rfl, rfl, rfl⟩⟩
    clear hAl hBl
    generalize picks T.base.length l = A at *
    generalize picks T.base.length m = B at *
    obtain ⟨u, v, x, k, hE, hK⟩ := hX
    have HE := hidI hE
    have HK := hidI hK
    have HPA := hidI hpa
    have HPB := hidI hpb
    have xw := X1.out.trans (hB2.mono X1.out.size)
    have b2 := b1.below hB2 b1.lt
    clear g0 g1 g2 g3 hE hK hpa hpb b1 HLX HMX
    have g0 := b2.at 0 rfl; have g1 := b2.at 1 rfl; have g2 := b2.at 2 rfl; have g3 := b2.at 3 rfl
    go_wp2_with fail
    refine (lkEncode_r T p1 p2 c1 c2 A pa ca _ (HIN.out.below xw) hsa (by omega) hca u k HE.out.1).mono ?_
    rintro e w3 ⟨rfl, hB3⟩
    have xw3 := xw.trans (hB3.mono xw.size)
    have b3 := b2.below hB3 b2.lt
    have hsa3 := hsa.below hB3; have hsb3 := hsb.below hB3
    clear g0 g1 g2 g3 hB3 hsa hsb b2
    have g0 := b3.at 0 rfl; have g1 := b3.at 1 rfl; have g2 := b3.at 2 rfl; have g3 := b3.at 3 rfl
    go_wp2_with fail
    refine (lkEncode_r T p1 p2 c1 c2 B pb cb _ (HIN.out.below xw3) hsb3 (by omega) hcb v k HE.out.2.1).mono ?_
    rintro e w4 ⟨rfl, hB4⟩
    have xw4 := xw3.trans (hB4.mono xw3.size)
    have b4 := b3.below hB4 b3.lt
    have hsa4 := hsa3.below hB4; have hsb4 := hsb3.below hB4
    clear g0 g1 g2 g3 hB4 hsa3 hsb3 b3 xw3
    have g0 := b4.at 0 rfl; have g1 := b4.at 1 rfl; have g2 := b4.at 2 rfl; have g3 := b4.at 3 rfl
    have z4 : w.heap.size < w4.heap.size := b4.lt
    have hyB : Below w4.heap.size w4 (w4.alloc (.cells #[.slice pa A.length ca, .slice pb B.length cb] 26)).drew := below_drewN ((Below.refl _ _).alloc (Nat.le_refl _) _) 1
    have HYR : Hid (VRow (w4.alloc (.cells #[.slice pa A.length ca, .slice pb B.length cb] 26)).drew w4.heap.size 26 [.slice pa A.length ca, .slice pb B.length cb]) := VRow.new w4 26 [.slice pa A.length ca, .slice pb B.length cb]
    have hab : (A ++ B).length ≤ 16 := by rw [List.length_append]; omega
    have HAB := hidI hab
    clear hab
    go_upto_region 6 with fail
    go_cut [13, 14] (fun s13 s14 wx => s13 = .string x ∧ s14 = .int .i64 k ∧ Below w4.heap.size w4 wx)
    case first =>
      go_region_held3 (fun w' => w'.cell? ⟨w.heap.size, 0, none⟩ = some (.int .i64 T.q) ∧ w'.cell? ⟨w.heap.size, 1, none⟩ = some (.int .i64 T.n) ∧ w'.cell? ⟨w.heap.size, 2, none⟩ = some (.slice p1 T.base.length c1) ∧ w'.cell? ⟨w.heap.size, 3, none⟩ = some (.slice p2 T.swaps.length c2) ∧ Below w4.heap.size w4 w')
        (first | (go_split_ands; refine ⟨?_, ?_, ?_, ?_, ?_⟩ <;> first | assumption | (go_keep; done) | exact below_drewN (Below.refl _ _) 1 | exact (hBa.cell (Nat.lt_of_lt_of_le z4 (Below.size (by assumption)))).trans (by assumption) | exact (hBb.cell (Nat.lt_of_lt_of_le z4 (Below.size (by assumption)))).trans (by assumption) | exact Below.trans (by assumption) (hBa.mono (Below.size (by assumption))) | exact Below.trans (by assumption) (hBb.mono (Below.size (by assumption)))))
        (first
          | (go_at_call 13; refine (concat2_any A B pa pb ca cb w4.heap.size _ HYR.out (hsa4.below hyB) (hsb4.below hyB) (by omega) (by omega)).mono ?_; rintro e w5 ⟨pc, cc, rfl, hsc, hcc, hBa⟩)
          | (go_at_call 7; go_split_ands; refine (lkEncode_n T p1 p2 c1 c2 (A ++ B) pc cc _ (HIN.out.below (xw4.trans (Below.mono (by assumption) xw4.size))) hsc (Nat.le_trans HAB.out (by decide)) hcc x k HE.out.2.2 _ (List.length_append)).mono ?_; rintro e w6 ⟨rfl, hBb⟩))
      go_wp2_with fail
      go_meet
      exact ⟨rfl, rfl, Below.trans (by assumption) (hBb.mono (Below.size (by assumption)))⟩
    case rest =>
      obtain ⟨rfl, rfl, hB5⟩ := hcut
      have xw5 := xw4.trans (hB5.mono xw4.size)
      have b5 := b4.below hB5 b4.lt
      have hsa5 := hsa4.below hB5; have hsb5 := hsb4.below hB5
      clear g0 g1 g2 g3 hB5 hsa4 hsb4 b4 z4 hyB HYR xw4
      have g3 := b5.at 3 rfl
      have z5 : w.heap.size < wc.heap.size := b5.lt
      rcases HK.out with ⟨hf, rfl, rfl, rfl, rfl⟩ | ⟨hf, rfl, hu, hv, hx⟩
      · clear hf HE HK
        go_wp2_with fail
        refine (lkAwake_any _).mono ?_
        rintro e w7 ⟨rfl, hB7⟩
        go_wp2
        go_ret
        exact ⟨rfl, xw5.trans (hB7.mono xw5.size)⟩
      · have HF := hidI hf
        have HU := hidI hu
        have HV := hidI hv
        have HX := hidI hx
        clear hf hu hv hx HE HK
        go_wp2_with fail
        go_loopw [16, 17] (fun av iv wr => ∃ (k : Nat) (b : Bool), k ≤ A.length ∧ av = .bool b ∧ iv = .int .i64 k ∧ Hid (aloneF T.swaps b (A.drop k) = aloneL T.swaps A) ∧ Below wc.heap.size wc wr) (fun _ iv _ => A.length - (intOf iv).toNat)
        case atStart => exact ⟨0, false, by omega, rfl, rfl, aloneF_start _ _, Below.refl _ _⟩
        case round =>
          obtain ⟨k, b, hk, rfl, rfl, hal, hBr⟩ := hrel
          have xr := xw5.trans (hBr.mono xw5.size)
          have br := b5.below hBr b5.lt
          have f3 := br.at 3 rfl
          have zr : w.heap.size < wr.heap.size := br.lt
          have hsar := hsa5.below hBr; have hsbr := hsb5.below hBr
          have hsg := HIN.out.swaps.below xr
          by_cases hlt : k < A.length
          · obtain ⟨b3, o3, rfl, hb3, hc3⟩ := hsar.get k hlt
            have e0 := hc3 k hlt
            have q1 : IntKind.i64.wrap ((k : Int) + 1) = (k : Int) + 1 := IntWalk.i64_in _ (by omega)
            have n0 : (0 : Int) ≤ (k : Int) + 1 := by omega
            have n1 : ((k : Int) + 1).toNat = k + 1 := by omega
            by_cases hlt1 : k + 1 < A.length
            · have e1 := hc3 (k + 1) hlt1
              have hI : (k : Int) < (A.length : Int) := by omega
              have hI1 : (k : Int) + 1 < (A.length : Int) := by omega
              clear hc3
              cases hsw : isSw T.swaps A[k] A[k + 1]
              · have HS := hidI hsw
                have HA1 := hidI (hidI ((aloneF_base T.swaps b A k hlt1 hsw).symm.trans hal.out))
                clear hsw
                go_wp2_with fail
                refine region_tail 16 (by kernel_rfl) (by kernel_rfl) fun W hD => ?_
                have d3 := (hD.cell _).trans f3
                have d0 := (hD.cell _).trans e0
                have d1 := (hD.cell _).trans e1
                have xW := xr.trans (hD.below _)
                have zW : w.heap.size < W.heap.size := by rw [hD.size]; exact zr
                have hsW := HIN.out.swaps.below xW
                clear f3 e0 e1
                simp only [List.take_succ_cons, List.take_zero, List.drop_succ_cons, List.drop_zero]
                iterate 16 still_step
                refine wpStill_nil ?_
                go_wp2_with fail
                refine (lkJ1_any T A[k] A[k + 1] w.heap.size p2 c2 _ hsW h2 d3 zW _ HS.out).mono ?_
                rintro e w8 ⟨rfl, hB8⟩
                have hBr2 := hBr.trans ((hD.below _).trans (hB8.mono (Nat.le_trans hBr.size (by rw [hD.size]; exact Nat.le_refl _))))
                clear q1 d3 d0 d1 hD xW hsW
                go_wp2
                go_roundw
                case rel => exact ⟨k + 1, true, by omega, rfl, by go_num, HA1.out, hBr2⟩
                case measure => simp [intOf]; omega
              · have HS := hidI hsw
                have HA1 := hidI (hidI ((aloneF_swap T.swaps b A k hlt1 hsw).symm.trans hal.out))
                clear hsw
                go_wp2_with fail
                refine region_tail 16 (by kernel_rfl) (by kernel_rfl) fun W hD => ?_
                have d3 := (hD.cell _).trans f3
                have d0 := (hD.cell _).trans e0
                have d1 := (hD.cell _).trans e1
                have xW := xr.trans (hD.below _)
                have zW : w.heap.size < W.heap.size := by rw [hD.size]; exact zr
                have hsW := HIN.out.swaps.below xW
                clear f3 e0 e1
                simp only [List.take_succ_cons, List.take_zero, List.drop_succ_cons, List.drop_zero]
                iterate 16 still_step
                refine wpStill_nil ?_
                go_wp2_with fail
                refine (lkJ1_any T A[k] A[k + 1] w.heap.size p2 c2 _ hsW h2 d3 zW _ HS.out).mono ?_
                rintro e w8 ⟨rfl, hB8⟩
                have hBr2 := hBr.trans ((hD.below _).trans (hB8.mono (Nat.le_trans hBr.size (by rw [hD.size]; exact Nat.le_refl _))))
                clear q1 d3 d0 d1 hD xW hsW
                go_wp2
                go_roundw
                case rel => exact ⟨k + 2, false, by omega, rfl, by go_num, HA1.out, hBr2⟩
                case measure => simp [intOf]; omega
            · have HA1 := hidI (hidI ((aloneF_one T.swaps b A k hlt hlt1).symm.trans hal.out))
              have hd : decide ((k : Int) + 1 < (A.length : Int)) = false := decide_eq_false (by omega)
              have hd2 : decide (k + 1 < A.length) = false := decide_eq_false (by omega)
              clear hc3 e0
              go_wp2_with fail
              (refine wp_region_quiet_lit (by kernel_rfl) (by kernel_rfl) ?_; (repeat (first | go_big_quiet_step (fail) | quiet_step (fail))); refine wpQuiet_nil ?_; intro _ hwq; obtain ⟨nq, hwq2⟩ := hwq; subst hwq2)
              clear q1
              go_wp2
              go_roundw
              case rel => exact ⟨k + 1, true, by omega, rfl, by go_num, HA1.out, below_drewN hBr nq⟩
              case measure => simp [intOf]; omega
          · obtain rfl : k = A.length := by omega
            have hb : b = aloneL T.swaps A := (aloneF_end T.swaps b A A.length (Nat.le_refl _)).symm.trans hal.out
            have hus : Hid (u.size = A.length * T.n.toNat) := by unfold Hid; rw [HU.out]; exact encW_size HF.out A HPA.out
            have hvs : Hid (v.size = B.length * T.n.toNat) := by unfold Hid; rw [HV.out]; exact encW_size HF.out B HPB.out
            have hxs : Hid (x.size = (A.length + B.length) * T.n.toNat) := by unfold Hid; rw [HX.out, encW_size HF.out _ (any_app_f HPA.out HPB.out), List.length_append]
            have hn8 := (fmd_bd HF.out).2
            have hu8 : u.size ≤ 64 := by rw [hus.out]; exact Nat.le_trans (Nat.mul_le_mul hA8 (show T.n.toNat ≤ 8 by omega)) (by decide)
            have hv8 : v.size ≤ 64 := by rw [hvs.out]; exact Nat.le_trans (Nat.mul_le_mul hB8 (show T.n.toNat ≤ 8 by omega)) (by decide)
            have hus8 : ¬ (9223372036854775807 < u.size + v.size) := by omega
            have hxl : Hid (x.size = u.size + v.size) := by unfold Hid; rw [hus.out, hvs.out, hxs.out, Nat.add_mul]
            have xrd := fun n : Nat => below_drewN xr n
            have XRD := hidI xrd
            clear hn8 xrd f3
            cases b
            · have HE2 : Hid (x = u ++ v) := by unfold Hid; rw [HX.out, HU.out, HV.out]; exact encW_app T A B (fun h => by rw [← hb] at h; cases h)
              have hxe : (x.toList == (u ++ v).toList) = true := bts_t HE2.out
              clear hb hal
              go_wp2_with fail
              (refine wp_region_quiet_lit (by kernel_rfl) (by kernel_rfl) ?_; (repeat (first | go_big_quiet_step (fail) | quiet_step (fail))); refine wpQuiet_nil ?_; intro _ hwq; obtain ⟨nq, hwq2⟩ := hwq; subst hwq2)
              go_wp2_with fail
              refine (lkAwake_any _).mono ?_
              rintro e w9 ⟨rfl, hB9⟩
              go_wp2
              go_ret
              exact ⟨rfl, (XRD.out nq).trans (hB9.mono (XRD.out nq).size)⟩
            · by_cases hB0 : B.length = 0
              · have HE2 : Hid (x = u ++ v) := by unfold Hid; rw [HX.out, HU.out, HV.out]; exact encW_app T A B (fun _ p q _ hq => by rw [List.length_eq_zero_iff.1 hB0] at hq; cases hq)
                have hd : decide ((0 : Int) < (B.length : Int)) = false := decide_eq_false (by omega)
                have hd2 : decide (0 < B.length) = false := decide_eq_false (by omega)
                have hxe : (x.toList == (u ++ v).toList) = true := bts_t HE2.out
                clear hb hal hB0
                go_wp2_with fail
                (refine wp_region_quiet_lit (by kernel_rfl) (by kernel_rfl) ?_; (repeat (first | go_big_quiet_step (fail) | quiet_step (fail))); refine wpQuiet_nil ?_; intro _ hwq; obtain ⟨nq, hwq2⟩ := hwq; subst hwq2)
                go_wp2_with fail
                refine (lkAwake_any _).mono ?_
                rintro e w9 ⟨rfl, hB9⟩
                go_wp2
                go_ret
                exact ⟨rfl, (XRD.out nq).trans (hB9.mono (XRD.out nq).size)⟩
              · have hA0 : 0 < A.length := by
                  rcases Nat.eq_zero_or_pos A.length with h | h
                  · rw [List.length_eq_zero_iff.1 h] at hb; cases hb
                  · exact h
                have hB1 : 0 < B.length := by omega
                obtain ⟨b3, o3, rfl, _, hc3⟩ := hsar.get (A.length - 1) (by omega)
                obtain ⟨b4, o4, rfl, _, hc4⟩ := hsbr.get 0 hB1
                have e0 := hc3 (A.length - 1) (by omega)
                have e1 := hc4 0 hB1
                rw [Nat.add_zero] at e1
                have q1 : IntKind.i64.wrap ((A.length : Int) - 1) = (A.length : Int) - 1 := IntWalk.i64_in _ (by omega)
                have n0 : (0 : Int) ≤ (A.length : Int) - 1 := by omega
                have n1 : ((A.length : Int) - 1).toNat = A.length - 1 := by omega
                have n2 : (A.length : Int) - 1 < (A.length : Int) := by omega
                have n3 : (0 : Int) < (B.length : Int) := by omega
                have n4 : (1 : Int) ≤ (A.length : Int) := by omega
                have hlast : Hid (∀ p, A.getLast? = some p → p = A[A.length - 1]) := fun p hp => by rw [List.getLast?_eq_getElem?, List.getElem?_eq_getElem (by omega)] at hp; exact (Option.some.inj hp).symm
                have hhead : Hid (∀ p, B.head? = some p → p = B[0]) := fun p hp => by rw [List.head?_eq_getElem?, List.getElem?_eq_getElem hB1] at hp; exact (Option.some.inj hp).symm
                clear hc3 hc4 hb hal
                generalize A[A.length - 1] = ya at *
                generalize B[0] = yb at *
                cases hsw : isSw T.swaps ya yb
                · have HE2 : Hid (x = u ++ v) := by unfold Hid; rw [HX.out, HU.out, HV.out]; exact encW_app T A B (fun _ p q hp hq => by rw [hlast.out p hp, hhead.out q hq]; exact hsw)
                  have hxe : (x.toList == (u ++ v).toList) = true := bts_t HE2.out
                  have HS := hidI hsw
                  clear hsw
                  go_wp2_with fail
                  refine region_tail 17 (by kernel_rfl) (by kernel_rfl) fun W hD => ?_
                  have d3 := (hD.cell _).trans (br.at 3 rfl)
                  have d0 := (hD.cell _).trans e0
                  have d1 := (hD.cell _).trans e1
                  have xW := xr.trans (hD.below _)
                  have zW : w.heap.size < W.heap.size := by rw [hD.size]; exact zr
                  have hsW := HIN.out.swaps.below xW
                  clear e0 e1 hxe
                  simp only [List.take_succ_cons, List.take_zero, List.drop_succ_cons, List.drop_zero]
                  iterate 17 still_step
                  refine wpStill_nil ?_
                  go_wp2_with fail
                  refine (lkJ1_any T ya yb w.heap.size p2 c2 _ hsW h2 d3 zW _ HS.out).mono ?_
                  rintro e w8 ⟨rfl, hB8⟩
                  have x8 := xW.trans (hB8.mono xW.size)
                  clear q1 d3 d0 d1 hD xW hsW
                  have hxe : (x.toList == (u ++ v).toList) = true := bts_t HE2.out
                  go_wp2_with fail
                  refine (lkAwake_any _).mono ?_
                  rintro e w9 ⟨rfl, hB9⟩
                  go_wp2
                  go_ret
                  exact ⟨rfl, x8.trans (hB9.mono x8.size)⟩
                · have HS := hidI hsw
                  clear hsw
                  go_wp2_with fail
                  refine region_tail 17 (by kernel_rfl) (by kernel_rfl) fun W hD => ?_
                  have d3 := (hD.cell _).trans (br.at 3 rfl)
                  have d0 := (hD.cell _).trans e0
                  have d1 := (hD.cell _).trans e1
                  have xW := xr.trans (hD.below _)
                  have zW : w.heap.size < W.heap.size := by rw [hD.size]; exact zr
                  have hsW := HIN.out.swaps.below xW
                  clear e0 e1
                  simp only [List.take_succ_cons, List.take_zero, List.drop_succ_cons, List.drop_zero]
                  iterate 17 still_step
                  refine wpStill_nil ?_
                  go_wp2_with fail
                  refine (lkJ1_any T ya yb w.heap.size p2 c2 _ hsW h2 d3 zW _ HS.out).mono ?_
                  rintro e w8 ⟨rfl, hB8⟩
                  have x8 := xW.trans (hB8.mono xW.size)
                  clear q1 d3 d0 d1 hD xW hsW
                  have hxq : ((x.size : Int) == (u.size : Int) + (v.size : Int)) = true := by have := hxl.out; simp; omega
                  go_wp2_with fail
                  refine (lkAwake_any _).mono ?_
                  rintro e w9 ⟨rfl, hB9⟩
                  go_wp2
                  go_ret
                  exact ⟨rfl, x8.trans (hB9.mono x8.size)⟩
end Go.Proofs.Ythfgdahooigifaa
