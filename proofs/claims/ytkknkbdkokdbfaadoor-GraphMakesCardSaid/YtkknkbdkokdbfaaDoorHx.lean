/-
  Walks: the example of layer 9 is as the chapter says (door seat).
-/
import Derived.Test.YtkknkbdkokdbfaaDoorHu
import Derived.Test.YtkknkbdkokdbfaaDoorHw
import Derived.Test.YtkknkbdkokdbfaaDoorHg
import Derived.Test.YtkknkbdkokdbfaaDoorHm
import Derived.Test.YtkknkbdkokdbfaaDoorGi
namespace Go.Proofs.YtkknkbdkokdbfaaDoor
open Go.RowKit Go.Sort Go.Shelf Go.Lib

theorem equalI_any (l m : List Int) (p p' : Option Addr) (c c' : Nat) (w : World) (hl : Sl w (Value.int .i64) p l) (hm : Sl w (Value.int .i64) p' m) (h1 : l.length ≤ 9223372036854775807) (h2 : m.length ≤ 9223372036854775807) :
    Calls Tryd.prog 27 #[.slice p l.length c, .slice p' m.length c'] w fun e w' => e = .returned (.bool (decide (l = m))) ∧ Dr w w' := by
  by_cases hlen : l.length = m.length
  · rcases Nat.eq_zero_or_pos l.length with h0 | h0
    · have e1 : l = [] := List.length_eq_zero_iff.1 h0
      have e2 : m = [] := List.length_eq_zero_iff.1 (by omega)
      subst e1; subst e2
      refine (Tryd.slices_Equal_int_empty p p' c 0 c' w (by omega)).mono ?_
      rintro e w' ⟨rfl, rfl⟩
      exact ⟨rfl, Dr.refl _⟩
    · obtain ⟨b, off, rfl, hb, hc⟩ := hl.get 0 h0
      obtain ⟨b', off', rfl, hb', hc'⟩ := hm.get 0 (by omega)
      refine (Tryd.slices_Equal_int b off l.length c b' off' m.length c' l m w (Nat.le_refl _) (Nat.le_refl _) h1 h2 (fun j hj => by rw [hc j hj, List.getD_eq_getElem?_getD, List.getElem?_eq_getElem hj]; rfl) (fun j hj => by rw [hc' j hj, List.getD_eq_getElem?_getD, List.getElem?_eq_getElem hj]; rfl)).mono ?_
      rintro e w' ⟨rfl, hD⟩
      rw [List.take_length, List.take_length]
      refine ⟨?_, hD⟩
      by_cases e : l = m <;> simp [e]
  · have hne : l ≠ m := fun e => hlen (by rw [e])
    refine (Tryd.slices_Equal_int_lens p p' l.length c m.length c' w hlen).mono ?_
    rintro e w' ⟨rfl, rfl⟩
    exact ⟨by rw [decide_eq_false hne], Dr.refl _⟩

theorem gold_txt : (⟨(txtG goldG).toArray⟩ : ByteArray) = ⟨#[103, 114, 97, 112, 104, 32, 50, 32, 50, 10, 48, 32, 48, 32, 48, 10, 48, 32, 49, 32, 49, 10, 49, 32, 48, 32, 48, 10]⟩ := by
  have : txtG goldG = [103, 114, 97, 112, 104, 32, 50, 32, 50, 10, 48, 32, 48, 32, 48, 10, 48, 32, 49, 32, 49, 10, 49, 32, 48, 32, 48, 10] := by decide +kernel
  rw [this]
def moreG : Gr := ⟨2, 3, goldG.es ++ [⟨1, 1, 2⟩]⟩
theorem gold_vg : Vg goldG := chkG_ok.1 (by decide)
theorem gold_det : detA goldG = (true, 0) := by decide
theorem gold_sm : Sm goldG := ⟨by decide, by decide, by decide⟩
theorem more_ess : essA moreG = (goldG, [0, 1], 0) := by
  rw [essA_ok (by decide)]
  have : ess moreG.es (upto moreG.n.toNat) = [0, 1] := by
    rw [ess_go (by decide), show essS moreG.es (upto moreG.n.toNat) = [0, 1] by decide, ess_stop (by decide)]
  rw [this]
  rfl
theorem gPrint_gold (p : Option Addr) (c : Nat) (w : World) (hin : Sg 3 w edE p goldG.es) :
    Calls Tryd.prog 37 #[(.agg #[.int .i64 goldG.q, .int .i64 goldG.n, .slice p goldG.es.length c])] w fun e w' => e = .returned (.tuple #[.string ⟨#[103, 114, 97, 112, 104, 32, 50, 32, 50, 10, 48, 32, 48, 32, 48, 10, 48, 32, 49, 32, 49, 10, 49, 32, 48, 32, 48, 10]⟩, .int .i64 0]) ∧ RowKit.Below w.heap.size w w' := by
  have := gPrint_small goldG p c w hin gold_vg gold_sm
  rw [gold_txt] at this
  exact this

set_option maxRecDepth 100000 in
set_option maxHeartbeats 2000000 in
theorem awake_any (w : World) : Calls Tryd.prog 10 #[] w fun e w' => e = .returned (.bool true) ∧ RowKit.Below w.heap.size w w' := by
  obtain ⟨i0, hi0, hz0, hz1, hz2⟩ := info_parts infoE
  have HD := hidI gold_det
  have HP := hidI gPrint_gold
  have HM : Hid (essA ⟨2, 3, goldG.es ++ [⟨1, 1, 2⟩]⟩ = (goldG, [0, 1], 0)) := more_ess
  have HL : Hid (goldG.es.length = 3) := rfl
  have HG := hidI (golden_any w)
  generalize goldG = G at *
  go_enter Tryd.func10, Tryd.ntmps10
  go_wp2_with fail
  refine HG.out.mono ?_
  rintro e w1 ⟨p1, m1, c1, rfl, hown1, hB1⟩
  obtain ⟨p1', c1', hv, hs1, hc1, _⟩ := own_sg hown1
  cases hv
  have hl := HL.out
  have hlb : G.es.length ≤ 1000 := by omega
  clear hown1 hc1 hl
  go_wp2_with fail
  have b1 : VRow (w1.alloc (.cells #[.int .i64 G.q, .int .i64 G.n, .slice p1 G.es.length c1] 24)) w1.heap.size 24 [.int .i64 G.q, .int .i64 G.n, .slice p1 G.es.length c1] := VRow.new w1 _ _
  have x1 : RowKit.Below w.heap.size w (w1.alloc (.cells #[.int .i64 G.q, .int .i64 G.n, .slice p1 G.es.length c1] 24)) := hB1.alloc hB1.size _
  have hsA := hs1.below ((RowKit.Below.refl _ w1).alloc (Nat.le_refl _) (.cells #[.int .i64 G.q, .int .i64 G.n, .slice p1 G.es.length c1] 24))
  have hzA := hB1.size
  generalize w1.alloc (.cells #[.int .i64 G.q, .int .i64 G.n, .slice p1 G.es.length c1] 24) = wA at *
  generalize w1.heap.size = B at *
  clear hs1 hB1
  refine (gDet_any G p1 c1 wA hsA (by omega)).mono ?_
  rw [HD.out]
  rintro e w2 ⟨rfl, hB2⟩
  have b2 := b1.below hB2 b1.lt
  have x2 := x1.trans (hB2.mono x1.size)
  have hs2 := hsA.below hB2
  clear b1 x1 hsA hB2
  have f0 := b2.at 0 rfl; have f1 := b2.at 1 rfl; have f2 := b2.at 2 rfl
  go_wp2_with fail
  refine (HP.out p1 c1 w2 hs2).mono ?_
  rintro e w3 ⟨rfl, hB3⟩
  clear f0 f1 f2
  have b3 := b2.below hB3 b2.lt
  have x3 := x2.trans (hB3.mono x2.size)
  have hs3 := hs2.below hB3
  clear b2 x2 hs2 hB3
  have f0 := b3.at 0 rfl; have f1 := b3.at 1 rfl; have f2 := b3.at 2 rfl
  go_wp2_with fail
  refine (cloneE_any G.es p1 c1 w3 hs3 (by omega)).mono ?_
  rintro e w4 ⟨v4, rfl, hown4, hB4⟩
  clear f0 f1 f2
  have b4 := b3.below hB4 b3.lt
  have x4 := x3.trans (hB4.mono x3.size)
  have hk3 : SgB w3.heap.size w4 p1 G.es := (SgB.of hs3 (Nat.le_refl _)).kept (fun i hi => hB4.block i hi)
  have hz3 := hB4.size
  have hB3 : B < w3.heap.size := b3.lt
  clear b3 hs3 hB4
  have hnew := cell_new3 w4 ⟨1, 1, 2⟩ 34 w4.heap.size rfl
  have hownA := hown4.alloc (.cells (edE ⟨1, 1, 2⟩).toArray 34)
  have x4A := x4.alloc x4.size (.cells (edE ⟨1, 1, 2⟩).toArray 34)
  have b4A := b4.alloc (.cells (edE ⟨1, 1, 2⟩).toArray 34)
  have hk4 := hk3.alloc hz3 (.cells (edE ⟨1, 1, 2⟩).toArray 34)
  have hne : ∀ j, v4.ownBlock = some j → w3.heap.size ≤ j := fun j e => (hown4.lt j e).1
  go_wp2_with (at_builtin; refine wpList_append_own _ rfl _ _ 22 rfl w3.heap.size 34 i0 _ 3 24 Tryd.underlying22 hi0 hz0 hz1 hz2 rfl (by decide) _ _ _ rfl hownA ⟨w4.heap.size, 0, none⟩ 1 1 (cat [⟨1, 1, 2⟩]) rfl rfl hnew (cat_one _) (by simp [maxLen]; omega) (by omega) (by simp; omega) ?_; intro v' w5 hown' hgrow _; rw [← cat_app] at hown'; obtain ⟨pv, mv, cv, rfl⟩ := own_shape hown')
  have b5 := (b4A.grown hgrow (fun e => by have := hne _ e.symm; omega)).alloc (.cells #[.int .i64 2, .int .i64 3, .slice pv mv cv] 24)
  have x5 := x4A.grown hgrow (Nat.le_trans x4.size (by simp)) (fun j e => by have := hne _ e; omega)
  have x6 := x5.alloc x5.size (.cells #[.int .i64 2, .int .i64 3, .slice pv mv cv] 24)
  have hgz := hgrow.size
  have hk5 : SgB w3.heap.size w5 p1 G.es := hk4.kept (fun i hi => hgrow.block i (by simp; omega) (fun e => by have := hne _ e.symm; omega))
  have hk6 := hk5.alloc (by rw [World.size_alloc] at hgz; omega) (.cells #[.int .i64 2, .int .i64 3, .slice pv mv cv] 24)
  have hz6 : w3.heap.size ≤ (w5.alloc (.cells #[.int .i64 2, .int .i64 3, .slice pv mv cv] 24)).heap.size := by rw [World.size_alloc] at hgz ⊢; omega
  have hE : Hid (Calls Tryd.prog 32 #[.agg #[.int .i64 2, .int .i64 3, .slice pv mv cv]] (w5.alloc (.cells #[.int .i64 2, .int .i64 3, .slice pv mv cv] 24)) (RetEs G [0, 1] 0 (w5.alloc (.cells #[.int .i64 2, .int .i64 3, .slice pv mv cv] 24)))) := by
    obtain ⟨_, _, hv, hs5, _⟩ := own_sg hown'
    cases hv
    have := gEss_any ⟨2, 3, G.es ++ [⟨1, 1, 2⟩]⟩ pv cv _ (hs5.below ((RowKit.Below.refl _ w5).alloc (Nat.le_refl _) (.cells #[.int .i64 2, .int .i64 3, .slice pv (G.es ++ [(⟨1, 1, 2⟩ : Ed)]).length cv] 24))) (by simp; omega)
    rw [HM.out] at this
    exact this
  clear hown' hk5 hk4 hk3 b4A b4 x4A x4 x5 hownA hown4 hnew hgrow
  generalize w5.alloc (.cells #[.int .i64 2, .int .i64 3, .slice pv mv cv] 24) = w6 at *
  refine hE.out.mono ?_
  rintro e w7 ⟨p7, m7, c7, q7, d7, rfl, hown7, howni, hB7⟩
  clear hE
  obtain ⟨p7', c7', hv7, hs7, _, _⟩ := own_sg hown7
  cases hv7
  obtain ⟨q7', d7', hq7, hi7⟩ := own_sl howni
  cases hq7
  have b7 := b5.below hB7 b5.lt
  have x7 := x6.trans (hB7.mono x6.size)
  have hk7 : SgB w3.heap.size w7 p1 G.es := hk6.kept (fun i hi => hB7.block i (by omega))
  clear hown7 howni
  have b8 := b7.alloc (.cells #[.int .i64 G.q, .int .i64 G.n, .slice p7 G.es.length c7] 24)
  have b9 : VRow (w7.alloc (.cells #[.int .i64 G.q, .int .i64 G.n, .slice p7 G.es.length c7] 24)) w7.heap.size 24 [.int .i64 G.q, .int .i64 G.n, .slice p7 G.es.length c7] := VRow.new w7 _ _
  have x8 := x7.alloc x7.size (.cells #[.int .i64 G.q, .int .i64 G.n, .slice p7 G.es.length c7] 24)
  have s8 := hs7.below ((RowKit.Below.refl _ w7).alloc (Nat.le_refl _) (.cells #[.int .i64 G.q, .int .i64 G.n, .slice p7 G.es.length c7] 24))
  have i8 := hi7.below ((RowKit.Below.refl _ w7).alloc (Nat.le_refl _) (.cells #[.int .i64 G.q, .int .i64 G.n, .slice p7 G.es.length c7] 24))
  have hb5 := b5.lt
  have k8 := (hk7.alloc (Nat.le_trans hz6 hB7.size) (.cells #[.int .i64 G.q, .int .i64 G.n, .slice p7 G.es.length c7] 24)).sg
  clear b7 x7 hs7 hi7 hk7 hB7 x6 b5 hk6
  go_upto_region 6 with fail
  have f0 := b8.at 0 rfl; have f1 := b8.at 1 rfl; have f2 := b8.at 2 rfl
  have g0 := b9.at 0 rfl; have g1 := b9.at 1 rfl; have g2 := b9.at 2 rfl
  generalize (w7.alloc (.cells #[.int .i64 G.q, .int .i64 G.n, .slice p7 G.es.length c7] 24)) = w8 at *
  go_wp2_with fail
  refine (gSame_any G G p7 p1 c7 c1 w8 s8 k8 (by omega) (by omega)).mono ?_
  rw [sameG_refl]
  rintro e w9 ⟨rfl, hB9⟩
  have x9 := x8.trans (hB9.mono x8.size)
  have i9 := i8.below hB9
  clear f0 f1 f2 g0 g1 g2
  go_wp2_with fail
  have hnI : Sl (w9.alloc (.cells #[.int .i64 0, .int .i64 1] 3)) (Value.int .i64) (some ⟨w9.heap.size, 0, none⟩) [0, 1] := Sl.of_vrow (VRow.new w9 3 [.int .i64 0, .int .i64 1])
  refine (equalI_any [0, 1] [0, 1] q7 (some ⟨w9.heap.size, 0, none⟩) d7 2 (w9.alloc (.cells #[.int .i64 0, .int .i64 1] 3)) (i9.below ((RowKit.Below.refl _ w9).alloc (Nat.le_refl _) _)) hnI (by simp) (by simp)).mono ?_
  rintro e w10 ⟨rfl, hD⟩
  have x10 := (x9.alloc x9.size (.cells #[.int .i64 0, .int .i64 1] 3)).trans (hD.below _)
  go_wp2
  go_ret
  exact ⟨by simp, x10⟩
end Go.Proofs.YtkknkbdkokdbfaaDoor
