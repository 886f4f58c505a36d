/-
  Words, plain lemmas and walks, merged: Vc, Sr, Vf, Va, Yc, Yd.
-/
import Derived.Test.YtjpilmedlecdhaaGreatZxl
import Derived.Test.YtjpilmedlecdhaaGreatZxe
import Derived.Test.YtjpilmedlecdhaaGreatZxj
import Derived.Test.YtjpilmedlecdhaaGreatZxh
import Derived.Deep.RegionHeld3
import Derived.Test.YtjpilmedlecdhaaGreatZxg
import Derived.Test.YtjpilmedlecdhaaGreatZxk
import Derived.Test.YtjpilmedlecdhaaGreatZxi
set_option linter.unusedVariables false
set_option linter.unusedSimpArgs false
namespace Go.Proofs.YtjpilmedlecdhaaGreat
open Go.RowKit Go.Sort Go.Shelf Go.Lib

theorem one_size (s : ByteArray) (k : Nat) (h : k < s.size) : (s.extract k (k + 1)).size = 1 := by simp; omega
theorem one_get (s : ByteArray) (k : Nat) (h : k < s.size) : (s.extract k (k + 1))[0]'(by rw [one_size s k h]; omega) = s[k] := by
  rw [ByteArray.getElem_extract]; rfl
theorem one_chk {q : Int} (hq : 2 ≤ q) (hq2 : q ≤ 16) (s : ByteArray) (k : Nat) (h : k < s.size) (hw : Chg.okw q s.data.toList = true) : Chg.wchk q (s.extract k (k + 1)).data.toList = 0 := by
  refine Chg.wchk_ok _ _ (by omega) (by omega) (by rw [toL_len, one_size s k h]; omega) ?_
  unfold Chg.okw at hw ⊢
  rw [toL_ext, List.all_eq_true]
  intro c hc
  exact List.all_eq_true.1 hw c (List.mem_of_mem_take (List.mem_of_mem_drop hc))

/-! ### Rows of pairs -/
set_option maxRecDepth 100000 in
set_option maxHeartbeats 1000000 in
theorem rlkFits_any (T : Tb) (p1 p2 : Option Addr) (c1 c2 : Nat) (G : Gr) (p : Option Addr) (c : Nat) (w : World) (hT : TbIn w T p1 p2 c1 c2) (hG : Sg 3 w edE p G.es) (hl : G.es.length ≤ 9223372036854775807) :
    Calls Tryz.prog 31 #[.agg #[.int .i64 T.q, .int .i64 T.n, .slice p1 T.base.length c1, .slice p2 T.swaps.length c2], (.agg #[.int .i64 G.q, .int .i64 G.n, .slice p G.es.length c])] w fun e w' => e = .returned (.int .i64 (fitA T G)) ∧ RowKit.Below w.heap.size w w' := by
  obtain ⟨w0, hw0⟩ : ∃ w0, w0 = (w.alloc (.cells #[.int .i64 T.q, .int .i64 T.n, .slice p1 T.base.length c1, .slice p2 T.swaps.length c2] 25)).alloc (.cells #[.int .i64 G.q, .int .i64 G.n, .slice p G.es.length c] 28) := ⟨_, rfl⟩
  have b0 : VRow w0 w.heap.size 25 [.int .i64 T.q, .int .i64 T.n, .slice p1 T.base.length c1, .slice p2 T.swaps.length c2] := by subst hw0; exact (VRow.new w _ _).alloc _
  have d0 : VRow w0 (w.heap.size + 1) 28 [.int .i64 G.q, .int .i64 G.n, .slice p G.es.length c] := by subst hw0; exact VRow.new1 w _ _ _
  have hB0 : RowKit.Below w.heap.size w w0 := by subst hw0; exact ((RowKit.Below.refl _ _).alloc (Nat.le_refl _) _).alloc (by simp) _
  have HF := hidI (rlkFormed_any T p1 p2 c1 c2 w0 (hT.below hB0))
  have HC := hidI (fun (r : Int) (hr : chkG G = r) (W : World) (hW : RowKit.Below w.heap.size w W) => rCheck_r G p c W r hr (hG.below hW) hl)
  have a0 := b0.at 0 rfl; have a1 := b0.at 1 rfl; have a2 := b0.at 2 rfl; have a3 := b0.at 3 rfl
  have HX : Hid (∀ f k, fmd T = f → chkG G = k → fitA T G = if f = false ∨ k ≠ 0 then 1 else if G.q ≠ T.q then 11 else 0) := fun f k h1 h2 => by unfold fitA; rw [h1, h2]
  clear hT hG
  generalize fitA T G = r at *
  go_enter Tryz.func31, Tryz.ntmps31
  go_upto_region 1 with fail
  rw [← hw0]
  clear hw0
  go_wp2_with fail
  refine HF.out.mono ?_
  rintro e w1 ⟨rfl, hB1⟩
  have x1 := hB0.trans (hB1.mono hB0.size)
  have g1 := d0.below hB1 d0.lt
  have t1 := b0.below hB1 b0.lt
  clear a0 a1 a2 a3 hB1 HF hB0 b0 d0
  cases hf : fmd T
  · have HR : Hid (r = 1) := HX.out _ _ hf rfl
    clear hf
    go_wp2_with fail
    go_ret
    exact ⟨ret_int HR.out.symm, x1⟩
  · have e0 := g1.at 0 rfl; have e1 := g1.at 1 rfl; have e2 := g1.at 2 rfl
    obtain ⟨k, hk⟩ : ∃ k, chkG G = k := ⟨_, rfl⟩
    have HXX := hidI (HX.out _ _ hf hk)
    have HCC := hidI (HC.out k hk w1 x1)
    clear hf hk HX HC
    go_wp2_with fail
    refine HCC.out.mono ?_
    rintro e w2 ⟨rfl, hB2⟩
    have x2 := x1.trans (hB2.mono x1.size)
    have t2 := t1.below hB2 t1.lt
    have g2 := g1.below hB2 g1.lt
    clear e0 e1 e2 x1 hB2 HCC t1 g1
    by_cases hk : k = 0
    · have hkb : (k != 0) = false := by rw [hk]; rfl
      have a0 := t2.at 0 rfl; have e0 := g2.at 0 rfl
      by_cases hq : T.q = G.q
      · have HR : Hid (r = 0) := by rw [Hid, HXX.out, if_neg (by simp [hk]), if_neg (by rw [hq]; simp)]
        have hqb : (T.q != G.q) = false := by rw [hq]; simp
        clear hk hq HXX
        go_wp2_with fail
        go_ret
        exact ⟨ret_int HR.out.symm, x2⟩
      · have HR : Hid (r = 11) := by rw [Hid, HXX.out, if_neg (by simp [hk]), if_pos (fun e => hq e.symm)]
        have hqb : (T.q != G.q) = true := by simpa using hq
        clear hk hq HXX
        go_wp2_with fail
        go_ret
        exact ⟨ret_int HR.out.symm, x2⟩
    · have hkb : (k != 0) = true := by simpa using hk
      have HR : Hid (r = 1) := by rw [Hid, HXX.out, if_pos (.inr hk)]
      clear hk HXX
      go_wp2_with fail
      go_ret
      exact ⟨ret_int HR.out.symm, x2⟩
end Go.Proofs.YtjpilmedlecdhaaGreat
namespace Go.Proofs.YtjpilmedlecdhaaGreat
open Go.RowKit Go.Sort Go.Shelf Go.Lib

def badA (T : Tb) (G : Gr) : List (List Int) × Int := if fitA T G = 0 then (badL T G, 0) else ([], fitA T G)
theorem lists_ne {L M : List (List Int)} {k : Nat} (h1 : k < L.length) (h2 : k < M.length) (h : L[k] ≠ M[k]) : L ≠ M := fun e => by subst e; exact h rfl
theorem lists_eq {L M : List (List Int)} (hl : L.length = M.length) (h : ∀ j (h1 : j < L.length) (h2 : j < M.length), j < L.length → L[j] = M[j]) : L = M :=
  List.ext_getElem hl (fun j h1 h2 => h j h1 h2 h1)
end Go.Proofs.YtjpilmedlecdhaaGreat
namespace Go.Proofs.YtjpilmedlecdhaaGreat
open Go.RowKit Go.Sort Go.Shelf Go.Lib

set_option maxRecDepth 100000 in
set_option maxHeartbeats 4000000 in
theorem rlkBad1_any (T : Tb) (p1 p2 : Option Addr) (c1 c2 : Nat) (G : Gr) (p : Option Addr) (c : Nat) (i j : Nat) (w : World) (hin : TbIn w T p1 p2 c1 c2) (hG : Sg 3 w edE p G.es) (hf : fmd T = true) (hv : Vg G) (hq : G.q = T.q) (hi : i < T.base.length) (hj : j < T.base.length) :
    Calls Tryz.prog 33 #[(.agg #[.int .i64 T.q, .int .i64 T.n, .slice p1 T.base.length c1, .slice p2 T.swaps.length c2]), (.agg #[.int .i64 G.q, .int .i64 G.n, .slice p G.es.length c]), .int .i64 i, .int .i64 j] w fun e w' => e = .returned (.bool (!accA G (bget T.base i ++ bget T.base j))) ∧ RowKit.Below w.heap.size w w' := by
  obtain ⟨w0, hw0⟩ : ∃ w0, w0 = (w.alloc (.cells #[.int .i64 T.q, .int .i64 T.n, .slice p1 T.base.length c1, .slice p2 T.swaps.length c2] 25)).alloc (.cells #[.int .i64 G.q, .int .i64 G.n, .slice p G.es.length c] 28) := ⟨_, rfl⟩
  have b0 : VRow w0 w.heap.size 25 [.int .i64 T.q, .int .i64 T.n, .slice p1 T.base.length c1, .slice p2 T.swaps.length c2] := by subst hw0; exact (VRow.new w _ _).alloc _
  have d0 : VRow w0 (w.heap.size + 1) 28 [.int .i64 G.q, .int .i64 G.n, .slice p G.es.length c] := by subst hw0; exact VRow.new1 w _ _ _
  have hB0 : RowKit.Below w.heap.size w w0 := by subst hw0; exact ((RowKit.Below.refl _ _).alloc (Nat.le_refl _) _).alloc (by simp) _
  have hN := pre_all (fmd_split hf).1
  have hwd := wdP (G := G) hf hq hi hj
  have hs1 := hwd.s1; have hs2 := hwd.s2
  have HAC := hidI (fun (W : World) (hB : RowKit.Below w0.heap.size w0 W) => r11Accepts_any G p c (bget T.base i ++ bget T.base j) W (hG.below (hB0.trans (hB.mono hB0.size))) hv (by omega) hwd.chk (by rw [ByteArray.size_append]; omega))
  obtain ⟨bb, oo, rfl, hbb, hc⟩ := (hin.base.below hB0).get i hi
  have e0 := hc i hi
  have e1 := hc j hj
  rw [← bget_eq T.base i hi] at e0
  rw [← bget_eq T.base j hj] at e1
  have hml : (bget T.base i).size + (bget T.base j).size ≤ maxLen := by unfold maxLen; omega
  have hml2 : ¬ 9223372036854775807 < (bget T.base i).size + (bget T.base j).size := by omega
  have hiI : (i : Int) < (T.base.length : Int) := by omega
  have hjI : (j : Int) < (T.base.length : Int) := by omega
  have f2 := b0.at 2 rfl
  have g0 := d0.at 0 rfl; have g1 := d0.at 1 rfl; have g2 := d0.at 2 rfl
  have z0 := b0.lt; have z1 := d0.lt
  clear hin hG hf hv hq hN hwd hc b0 d0
  generalize bget T.base i = ba at *
  generalize bget T.base j = bj at *
  generalize accA G (ba ++ bj) = r at *
  go_enter Tryz.func33, Tryz.ntmps33
  go_upto_region 1 with fail
  rw [← hw0]
  clear hw0
  go_region_held3 (fun w' => w'.cell? ⟨w.heap.size, 2, none⟩ = some (.slice (some ⟨bb, oo, none⟩) T.base.length c1) ∧ w'.cell? ⟨w.heap.size + 1, 0, none⟩ = some (.int .i64 G.q) ∧ w'.cell? ⟨w.heap.size + 1, 1, none⟩ = some (.int .i64 G.n) ∧ w'.cell? ⟨w.heap.size + 1, 2, none⟩ = some (.slice p G.es.length c) ∧ w'.cell? ⟨bb, oo + i, none⟩ = some (.string ba) ∧ w'.cell? ⟨bb, oo + j, none⟩ = some (.string bj) ∧ RowKit.Below w0.heap.size w0 w')
    (first | (go_split_ands; refine ⟨?_, ?_, ?_, ?_, ?_, ?_, ?_⟩ <;> first | assumption | exact (hBa.cell (Nat.lt_of_lt_of_le z0 (RowKit.Below.size (by assumption)))).trans (by assumption) | exact (hBa.cell (Nat.lt_of_lt_of_le z1 (RowKit.Below.size (by assumption)))).trans (by assumption) | exact (hBa.cell (Nat.lt_of_lt_of_le hbb (RowKit.Below.size (by assumption)))).trans (by assumption) | exact RowKit.Below.trans (by assumption) (hBa.mono (RowKit.Below.size (by assumption))) | exact below_drewN (RowKit.Below.refl _ _) 1 | (go_keep; done)))
    (first
      | (go_at_call 57; go_split_ands; (with_reducible refine (HAC.out _ (by assumption)).mono ?_); rintro e wA ⟨rfl, hBa⟩)
      | fail)
  all_goals
    go_split_ands
    have hB9 : RowKit.Below w0.heap.size w0 wA := by assumption
    go_wp2_with fail
    go_ret
    exact ⟨rfl, hB0.trans (hB9.mono hB0.size)⟩
#print axioms rlkBad1_any

end Go.Proofs.YtjpilmedlecdhaaGreat
namespace Go.Proofs.YtjpilmedlecdhaaGreat
open Go.RowKit Go.Sort Go.Shelf Go.Lib

theorem any_hit {α : Type} {l : List α} {f : α → Bool} {k : Nat} (h : k < l.length) (hf : f l[k] = true) : l.any f = true := List.any_eq_true.2 ⟨_, List.getElem_mem h, hf⟩
theorem any_miss {α : Type} {l : List α} {f : α → Bool} (h : ∀ j (hj : j < l.length), f l[j] = false) : l.any f = false := by
  rw [List.any_eq_false]
  intro x hx
  obtain ⟨j, hj, rfl⟩ := List.getElem_of_mem hx
  rw [h j hj]; simp
set_option maxRecDepth 100000 in
set_option maxHeartbeats 1000000 in
theorem rlkWord_any (T : Tb) (s : ByteArray) (p1 p2 : Option Addr) (c1 c2 : Nat) (w : World) (hp : Sg 3 w swE p2 T.swaps) (h2 : T.swaps.length ≤ 9223372036854775807) :
    Calls Tryz.prog 60 #[(.agg #[.int .i64 T.q, .int .i64 T.n, .slice p1 T.base.length c1, .slice p2 T.swaps.length c2]), .string s] w fun e w' => e = .returned (.bool (tkn T s)) ∧ RowKit.Below w.heap.size w w' := by
  have hB0 : RowKit.Below w.heap.size w (w.alloc (.cells #[.int .i64 T.q, .int .i64 T.n, .slice p1 T.base.length c1, .slice p2 T.swaps.length c2] 25)) := (RowKit.Below.refl _ _).alloc (Nat.le_refl _) _
  have b0 : VRow (w.alloc (.cells #[.int .i64 T.q, .int .i64 T.n, .slice p1 T.base.length c1, .slice p2 T.swaps.length c2] 25)) w.heap.size 25 [.int .i64 T.q, .int .i64 T.n, .slice p1 T.base.length c1, .slice p2 T.swaps.length c2] := VRow.new w _ _
  go_enter Tryz.func60, Tryz.ntmps60
  go_wp2
  generalize (w.alloc (.cells #[.int .i64 T.q, .int .i64 T.n, .slice p1 T.base.length c1, .slice p2 T.swaps.length c2] 25)) = w0 at b0 hB0 ⊢
  have f3 := b0.at 3 rfl
  go_loop [5] (fun iv => ∃ k : Nat, k ≤ T.swaps.length ∧ iv = .int .i64 k ∧ Hid (∀ m (hm : m < T.swaps.length), m < k → eqb T.swaps[m].wd s = false)) (fun iv => T.swaps.length - (intOf iv).toNat)
  case atStart => exact ⟨0, by omega, rfl, fun _ _ h => by omega⟩
  case round =>
    obtain ⟨k, hk, rfl, hj⟩ := hrel
    by_cases hlt : k < T.swaps.length
    · obtain ⟨b1, o1, rfl, hb1, e0, e1, e2⟩ := (hp.below hB0).get3 k hlt rfl
      by_cases h1 : T.swaps[k].wd = s
      · have HH : Hid (tkn T s = true) := any_hit hlt (eqb_t h1)
        have h1b := bts_t h1
        clear h1
        go_wp2
        go_ret
        exact ⟨ret_bool HH.out.symm, hB0⟩
      · have HN : Hid (∀ m (hm : m < T.swaps.length), m < k + 1 → eqb T.swaps[m].wd s = false) := fun m hm h => by
          rcases Nat.lt_succ_iff_lt_or_eq.1 h with h3 | h3
          · exact hj.out m hm h3
          · subst h3; exact eqb_f h1
        have h1b := bts_f h1
        clear h1
        go_wp2
        go_round
        case rel => exact ⟨k + 1, by omega, by go_num, HN⟩
        case measure => simp [intOf]; omega
    · have HH : Hid (tkn T s = false) := any_miss (fun j hj' => hj.out j hj' (by omega))
      go_wp2
      go_ret
      exact ⟨ret_bool HH.out.symm, hB0⟩

theorem swS_none {T : Tb} {i j : Int} (h : frW T i j = true) : swS T.swaps i j = ⟨#[]⟩ := by
  unfold swS; unfold frW at h; rw [Option.isNone_iff_eq_none.1 h]; rfl
theorem swS_some {T : Tb} (hf : fmd T = true) {i j : Int} (h : frW T i j = false) : 0 < (swS T.swaps i j).size := by
  unfold swS
  unfold frW at h
  cases hs : swapW T.swaps i j with
  | none => rw [hs] at h; cases h
  | some w =>
    have := swapW_size hf hs
    have h2 := (fmd_bd hf).1
    simp only [Option.getD_some]
    omega

set_option maxRecDepth 100000 in
set_option maxHeartbeats 4000000 in
theorem rlkReadable_any (T : Tb) (p1 p2 : Option Addr) (c1 c2 : Nat) (w : World) (hin : TbIn w T p1 p2 c1 c2) (hf : fmd T = true) :
    Calls Tryz.prog 37 #[(.agg #[.int .i64 T.q, .int .i64 T.n, .slice p1 T.base.length c1, .slice p2 T.swaps.length c2])] w fun e w' => e = .returned (.bool (rdbl T)) ∧ RowKit.Below w.heap.size w w' := by
  rw [← rdR_eq hf]
  obtain ⟨w0, hw0⟩ : ∃ w0, w0 = w.alloc (.cells #[.int .i64 T.q, .int .i64 T.n, .slice p1 T.base.length c1, .slice p2 T.swaps.length c2] 25) := ⟨_, rfl⟩
  have hB0 : RowKit.Below w.heap.size w w0 := by subst hw0; exact (RowKit.Below.refl _ _).alloc (Nat.le_refl _) _
  have b0 : VRow w0 w.heap.size 25 [.int .i64 T.q, .int .i64 T.n, .slice p1 T.base.length c1, .slice p2 T.swaps.length c2] := by subst hw0; exact VRow.new w _ _
  have HT := hidI hin; have HB0 := hidI hB0; have HB := hidI b0
  have hN := pre_all (fmd_split hf).1
  have hN16 : T.base.length ≤ 16 := by omega
  have hM64 : T.swaps.length ≤ 64 := by omega
  have hn1 : 1 ≤ T.n ∧ T.n ≤ 8 := by omega
  have HSS := hidI (fun (i j : Int) (h : frW T i j = false) => swS_some hf h)
  have HSN := hidI (fun (i j : Int) (h : frW T i j = true) => swS_none h)
  have HBG := hidI (fun (k : Nat) (hk : k < T.base.length) => bget_eq T.base k hk)
  have HBZ := hidI (fun (k : Nat) (hk : k < T.base.length) => base_sz hf k hk)
  have HWZ := hidI (fun (k : Nat) (hk : k < T.swaps.length) => swap_size hf k hk)
  have HDR : ∀ a, Hid (rdR T a = false → a ≤ T.base.length → rdR T T.base.length = false) := fun a h hle => by
    unfold rdR at h ⊢
    cases hx : (List.range T.base.length).all (fun i => rdRi T i T.base.length)
    · rfl
    · rw [List.all_eq_true] at hx
      rw [← h]; symm
      rw [List.all_eq_true]
      intro i hi
      exact hx i (List.mem_range.2 (by have := List.mem_range.1 hi; omega))
  have HDI : ∀ i a, Hid (rdRi T i a = false → i < T.base.length → a ≤ T.base.length → rdR T T.base.length = false) := fun i a h hi hle => by
    refine (HDR (i + 1)) ?_ (by omega)
    rw [rdR_succ]
    have : rdRi T i T.base.length = false := by
      unfold rdRi at h ⊢
      cases hx : (List.range T.base.length).all (rdRj T i)
      · rfl
      · rw [List.all_eq_true] at hx
        rw [← h]; symm
        rw [List.all_eq_true]
        intro j hj
        exact hx j (List.mem_range.2 (by have := List.mem_range.1 hj; omega))
    rw [this, Bool.and_false]
  have HDJ := hidI (fun (i j : Nat) (h : rdRj T i j = false) (hi : i < T.base.length) (hj : j < T.base.length) => (HDI i (j + 1)).out (by rw [rdRi_succ, h, Bool.and_false]) hi (by omega))
  clear hin hf hN hB0 b0 HDR HDI
  go_enter Tryz.func37, Tryz.ntmps37
  go_upto_region 1 with fail
  rw [← hw0]
  clear hw0
  go_wp2_with fail
  go_loopw [3] (fun iv W => ∃ k : Nat, k ≤ T.base.length ∧ iv = .int .i64 k ∧ Hid (rdR T k = true) ∧ RowKit.Below w0.heap.size w0 W) (fun iv _ => T.base.length - (intOf iv).toNat)
  case atStart => exact ⟨0, by omega, rfl, rfl, RowKit.Below.refl _ _⟩
  case round =>
    obtain ⟨k, hk, rfl, hr, hB⟩ := hrel
    have f2 := (HB.out.below hB HB.out.lt).at 2 rfl
    by_cases hlt : k < T.base.length
    · have hltI : (k : Int) < (T.base.length : Int) := by omega
      have HS := hidI (rdR_succ T k)
      obtain ⟨wo, hwo⟩ : ∃ wo : World, wo = wr := ⟨_, rfl⟩
      go_wp2_with fail
      go_loopw [4] (fun iv W => ∃ j : Nat, j ≤ T.base.length ∧ iv = .int .i64 j ∧ Hid (rdRi T k j = true) ∧ RowKit.Below w0.heap.size w0 W) (fun iv _ => T.base.length - (intOf iv).toNat)
      case atStart => exact ⟨0, by omega, rfl, rfl, hB⟩
      case round =>
        clear hB f2 hwo
        obtain ⟨j, hj, rfl, hri, hB⟩ := hrel
        have hb := HB.out.below hB HB.out.lt
        have f2 := hb.at 2 rfl
        by_cases hlt2 : j < T.base.length
        · have hltJ : (j : Int) < (T.base.length : Int) := by omega
          have f0 := hb.at 0 rfl; have f1 := hb.at 1 rfl; have f3 := hb.at 3 rfl
          have hBW := HB0.out.trans (hB.mono HB0.out.size)
          have HSI := hidI (rdRi_succ T k j)
          have HJ := hidI (HDJ.out k j)
          have HR := hidI (rlkSwap_any T k j p1 p2 c1 c2 wr (HT.out.swaps.below hBW) HT.out.l2)
          cases hfr : frW T (k : Int) (j : Int)
          · have hsn := ne_empty (HSS.out _ _ hfr)
            have HX : Hid (rdRi T k (j + 1) = true) := by rw [Hid, HSI.out, hri.out]; unfold rdRj; rw [hfr]; rfl
            clear hfr HJ HSI
            generalize swS T.swaps k j = sw at *
            go_wp2_with fail
            refine HR.out.mono ?_
            rintro e w1 ⟨rfl, hB1⟩
            go_wp2_with fail
            go_roundw
            case rel => exact ⟨j + 1, by omega, by go_num, HX, hB.trans (hB1.mono hB.size)⟩
            case measure => simp [intOf]; omega
          · have hsn := HSN.out _ _ hfr
            rw [hsn] at HR
            have HX1 : Hid (rdRj T k j = (!tkn T (bget T.base k ++ bget T.base j) && rdRs T k j T.swaps.length)) := by rw [Hid]; unfold rdRj; rw [hfr]; rfl
            clear hfr hsn
            go_wp2_with fail
            refine HR.out.mono ?_
            rintro e w1 ⟨rfl, hB1⟩
            have hBw1 := hB.trans (hB1.mono hB.size)
            have hb1 := HB.out.below hBw1 HB.out.lt
            have hBW1 := HB0.out.trans (hBw1.mono HB0.out.size)
            obtain ⟨bb, oo, rfl, hbb, hc⟩ := (HT.out.base.below hBW1).get k hlt
            have e0 := hc k hlt
            have e1 := hc j hlt2
            rw [← HBG.out k hlt] at e0
            rw [← HBG.out j hlt2] at e1
            have hs1 := HBZ.out k hlt
            have hs2 := HBZ.out j hlt2
            have hml : (bget T.base k).size + (bget T.base j).size ≤ maxLen := by unfold maxLen; omega
            have hml2 : ¬ 9223372036854775807 < (bget T.base k).size + (bget T.base j).size := by omega
            clear f0 f1 f2 f3 hb hB hB1 hBW HR
            have f0 := hb1.at 0 rfl; have f1 := hb1.at 1 rfl; have f2 := hb1.at 2 rfl; have f3 := hb1.at 3 rfl
            have HRW := hidI (fun (s : ByteArray) (W : World) (h : RowKit.Below w0.heap.size w0 W) => rlkWord_any T s (some ⟨bb, oo, none⟩) p2 c1 c2 W (HT.out.swaps.below (HB0.out.trans (h.mono HB0.out.size))) HT.out.l2)
            generalize hba : bget T.base k = ba at *
            have HBA := hidI hba
            generalize bget T.base j = bj at *
            clear hba hc
            go_wp2_with fail
            refine region_tail 12 (by kernel_rfl) (by kernel_rfl) fun W hD => ?_
            have d0 := (hD.cell _).trans f0; have d1 := (hD.cell _).trans f1; have d2 := (hD.cell _).trans f2; have d3 := (hD.cell _).trans f3
            have q0 := (hD.cell _).trans e0; have q1 := (hD.cell _).trans e1
            have hBW := hBw1.trans (hD.below _)
            clear f0 f1 f2 f3 e0 e1 hb1 hBw1 hBW1
            simp only [List.take_succ_cons, List.take_zero, List.drop_succ_cons, List.drop_zero]
            iterate 12 still_step
            refine wpStill_nil ?_
            go_wp2_with fail
            refine (HRW.out (ba ++ bj) W hBW).mono ?_
            rintro e w2 ⟨rfl, hB2⟩
            have hBw2 := hBW.trans (hB2.mono hBW.size)
            clear hBW hB2 d0 d1 d2 d3 q0 q1 hD hbb hml
            cases ht : tkn T (ba ++ bj)
            · have HX2 : Hid (rdRj T k j = rdRs T k j T.swaps.length) := by rw [Hid, HX1.out, ht]; rfl
              clear ht HX1
              go_wp2_with fail
              go_loopw [5] (fun iv W => ∃ m : Nat, m ≤ T.swaps.length ∧ iv = .int .i64 m ∧ Hid (rdRs T k j m = true) ∧ RowKit.Below w0.heap.size w0 W) (fun iv _ => T.swaps.length - (intOf iv).toNat)
              case atStart => exact ⟨0, by omega, rfl, rfl, hBw2⟩
              case round =>
                clear hBw2
                obtain ⟨m, hm, rfl, hrs, hB⟩ := hrel
                have hb := HB.out.below hB HB.out.lt
                have f0 := hb.at 0 rfl; have f1 := hb.at 1 rfl; have f2 := hb.at 2 rfl; have f3 := hb.at 3 rfl
                have hBW := HB0.out.trans (hB.mono HB0.out.size)
                by_cases hlt3 : m < T.swaps.length
                · have hltM : (m : Int) < (T.swaps.length : Int) := by omega
                  have HRS := hidI (rdRs_succ T k j m hlt3)
                  obtain ⟨b3, o3, rfl, hb3, g0, g1, g2⟩ := (HT.out.swaps.below hBW).get3 m hlt3 rfl
                  obtain ⟨bb', oo', hp', hbb', hc'⟩ := (HT.out.base.below hBW).get k hlt
                  cases hp'
                  have e0 := hc' k hlt
                  rw [← HBG.out k hlt, HBA.out] at e0
                  rw [HBA.out] at HRS
                  have hz := HWZ.out m hlt3
                  clear hc'
                  generalize T.swaps[m] = sw at *
                  by_cases hij : sw.i = (j : Int)
                  · have hijb : (sw.i == (j : Int)) = true := by simpa using hij
                    have hT0 : 0 ≤ T.n := by omega
                    have hTs : T.n ≤ (sw.wd.size : Int) := by omega
                    have hTn : T.n.toNat ≤ sw.wd.size := by omega
                    have hes : (sw.wd.extract 0 T.n.toNat).size ≤ 8 := by simp; omega
                    have hm2 : ¬ 9223372036854775807 < ba.size + (sw.wd.extract 0 T.n.toNat).size := by omega
                    have hm3 : ¬ 9223372036854775807 < ba.size + T.n.toNat := by omega
                    clear hz
                    go_wp2_with fail
                    refine region_tail 25 (by kernel_rfl) (by kernel_rfl) fun W hD => ?_
                    have d0 := (hD.cell _).trans f0; have d1 := (hD.cell _).trans f1; have d2 := (hD.cell _).trans f2; have d3 := (hD.cell _).trans f3
                    have q0 := (hD.cell _).trans e0; have q1 := (hD.cell _).trans g0; have q2 := (hD.cell _).trans g1; have q3 := (hD.cell _).trans g2
                    have hBWx := hB.trans (hD.below _)
                    have HRW2 := hidI (rlkWord_any T (ba ++ sw.wd.extract 0 T.n.toNat) (some ⟨bb, oo, none⟩) (some ⟨b3, o3, none⟩) c1 c2 W (HT.out.swaps.below (HB0.out.trans (hBWx.mono HB0.out.size))) HT.out.l2)
                    clear f0 f1 f2 f3 e0 g0 g1 g2 hb hBW hB
                    simp only [List.take_succ_cons, List.take_zero, List.drop_succ_cons, List.drop_zero]
                    iterate 25 still_step
                    refine wpStill_nil ?_
                    go_wp2_with fail
                    refine HRW2.out.mono ?_
                    rintro e w3 ⟨rfl, hB3⟩
                    have hBw3 := hBWx.trans (hB3.mono hBWx.size)
                    have hXr : Hid (rdRs T k j (m + 1) = !tkn T (ba ++ sw.wd.extract 0 T.n.toNat)) := by rw [Hid, HRS.out, hrs.out, decide_eq_true hij]; simp
                    have hXm : Hid (rdRs T k j (m + 1) = false → rdRs T k j T.swaps.length = false) := fun h => by
                      unfold rdRs at h ⊢
                      rw [List.take_length]
                      cases hx : T.swaps.all (fun s => !(decide (s.i = (j : Int)) && tkn T (bget T.base k ++ s.wd.extract 0 T.n.toNat)))
                      · rfl
                      · rw [List.all_eq_true] at hx
                        rw [← h]; symm
                        rw [List.all_eq_true]
                        intro x hx2
                        exact hx x (List.mem_of_mem_take hx2)
                    clear HRS HRW2 hBWx hB3 hm2 hes hTn hij d0 d1 d2 d3 q0 q1 q2 q3 hD
                    generalize tkn T (ba ++ sw.wd.extract 0 T.n.toNat) = r at *
                    cases r
                    · have HX : Hid (rdRs T k j (m + 1) = true) := hXr.out
                      clear hXr hXm
                      go_wp2_with fail
                      go_roundw
                      case rel => exact ⟨m + 1, by omega, by go_num, HX, hBw3⟩
                      case measure => simp [intOf]; omega
                    · have HX : Hid (rdR T T.base.length = false) := HJ.out (by rw [HX2.out]; exact hXm.out hXr.out) hlt hlt2
                      clear hXr hXm
                      go_wp2_with fail
                      go_ret
                      exact ⟨ret_bool HX.out.symm, HB0.out.trans (hBw3.mono HB0.out.size)⟩
                  · have hijb : (sw.i == (j : Int)) = false := by simpa using hij
                    have HX : Hid (rdRs T k j (m + 1) = true) := by rw [Hid, HRS.out, hrs.out, decide_eq_false hij]; rfl
                    clear hij HRS
                    go_wp2_with fail
                    (refine wp_region_quiet_lit (by kernel_rfl) (by kernel_rfl) ?_; (repeat (first | go_big_quiet_step (fail) | quiet_step (fail))); refine wpQuiet_nil ?_; intro _ hwq; obtain ⟨nq, hwq2⟩ := hwq; subst hwq2)
                    go_wp2
                    go_roundw
                    case rel => exact ⟨m + 1, by omega, by go_num, HX, below_drewN hB nq⟩
                    case measure => simp [intOf]; omega
                · obtain rfl : m = T.swaps.length := by omega
                  have hltM : ¬ (T.swaps.length : Int) < (T.swaps.length : Int) := by omega
                  have HX : Hid (rdRi T k (j + 1) = true) := by rw [Hid, HSI.out, hri.out, HX2.out, hrs.out]; rfl
                  go_wp2_with fail
                  go_roundw
                  case rel => exact ⟨j + 1, by omega, by go_num, HX, hB⟩
                  case measure => simp [intOf]; omega
            · have HX : Hid (rdR T T.base.length = false) := HJ.out (by rw [HX1.out, ht]; rfl) hlt hlt2
              clear ht HX1
              go_wp2_with fail
              go_ret
              exact ⟨ret_bool HX.out.symm, HB0.out.trans (hBw2.mono HB0.out.size)⟩
        · obtain rfl : j = T.base.length := by omega
          have hltJ : ¬ (T.base.length : Int) < (T.base.length : Int) := by omega
          have HX : Hid (rdR T (k + 1) = true) := by rw [Hid, HS.out, hr.out, hri.out]; rfl
          go_wp2_with fail
          go_roundw
          case rel => exact ⟨k + 1, by omega, by go_num, HX, hB⟩
          case measure => simp [intOf]; omega
    · obtain rfl : k = T.base.length := by omega
      have hltI : ¬ (T.base.length : Int) < (T.base.length : Int) := by omega
      go_wp2_with fail
      go_ret
      exact ⟨ret_bool hr.out.symm, HB0.out.trans (hB.mono HB0.out.size)⟩
end Go.Proofs.YtjpilmedlecdhaaGreat
namespace Go.Proofs.YtjpilmedlecdhaaGreat
open Go.RowKit Go.Sort Go.Shelf Go.Lib

theorem frW_isSw (T : Tb) (i j : Int) : frW T i j = !isSw T.swaps i j := by
  unfold frW swapW isSw
  cases h : T.swaps.find? (fun s => decide (s.i = i) && decide (s.j = j)) with
  | none =>
    have h1 := List.find?_eq_none.1 h
    have : T.swaps.any (fun s => decide (s.i = i) && decide (s.j = j)) = false := by
      rw [List.any_eq_false]; exact h1
    rw [this]; rfl
  | some x =>
    have : T.swaps.any (fun s => decide (s.i = i) && decide (s.j = j)) = true := by
      have h2 := List.find?_some h
      exact List.any_eq_true.2 ⟨x, List.mem_of_find?_eq_some h, h2⟩
    rw [this]; rfl

set_option maxRecDepth 100000 in
set_option maxHeartbeats 4000000 in
theorem rlkStands_any (T : Tb) (p1 p2 : Option Addr) (c1 c2 : Nat) (G : Gr) (p : Option Addr) (c : Nat) (i : Nat) (v : ByteArray) (w : World) (hin : TbIn w T p1 p2 c1 c2) (hG : Sg 3 w edE p G.es) (hf : fmd T = true) (hv : Vg G) (hq : G.q = T.q) (hi : i < T.base.length) (hvs : v.size ≤ 16) (hvo : Chg.okw T.q v.data.toList = true) :
    Calls Tryz.prog 38 #[(.agg #[.int .i64 T.q, .int .i64 T.n, .slice p1 T.base.length c1, .slice p2 T.swaps.length c2]), (.agg #[.int .i64 G.q, .int .i64 G.n, .slice p G.es.length c]), .int .i64 i, .string v] w fun e w' => e = .returned (.bool ((List.range T.base.length).all (okB T G T.swaps i v))) ∧ RowKit.Below w.heap.size w w' := by
  obtain ⟨w0, hw0⟩ : ∃ w0, w0 = (w.alloc (.cells #[.int .i64 T.q, .int .i64 T.n, .slice p1 T.base.length c1, .slice p2 T.swaps.length c2] 25)).alloc (.cells #[.int .i64 G.q, .int .i64 G.n, .slice p G.es.length c] 28) := ⟨_, rfl⟩
  have b0 : VRow w0 w.heap.size 25 [.int .i64 T.q, .int .i64 T.n, .slice p1 T.base.length c1, .slice p2 T.swaps.length c2] := by subst hw0; exact (VRow.new w _ _).alloc _
  have d0 : VRow w0 (w.heap.size + 1) 28 [.int .i64 G.q, .int .i64 G.n, .slice p G.es.length c] := by subst hw0; exact VRow.new1 w _ _ _
  have hB0 : RowKit.Below w.heap.size w w0 := by subst hw0; exact ((RowKit.Below.refl _ _).alloc (Nat.le_refl _) _).alloc (by simp) _
  have hN := pre_all (fmd_split hf).1
  have hn8 : 1 ≤ T.n ∧ T.n ≤ 8 := by omega
  have HT2 : 1 ≤ T.q ∧ T.q ≤ 16 := by omega
  have hN16 : T.base.length ≤ 16 := by omega
  have HT := hidI (hin.below hB0)
  have HBG := hidI (fun (k : Nat) (hk : k < T.base.length) => bget_eq T.base k hk)
  have HBO := hidI (fun (k : Nat) (hk : k < T.base.length) => show (bget T.base k).size ≤ 8 ∧ Chg.okw T.q (bget T.base k).data.toList = true from ⟨by have := base_sz hf k hk; omega, by have := baseW_okw hf (x := (k : Int)) (by omega) (by omega); simpa [baseW] using this⟩)
  have HAC := hidI (fun (s : ByteArray) (W : World) (hB : RowKit.Below w0.heap.size w0 W) (h1 : Chg.wchk T.q s.data.toList = 0 ∧ s.size ≤ 32) => r11Accepts_any G p c s W (hG.below (hB0.trans (hB.mono hB0.size))) hv (by omega) (by rw [hq]; exact h1.1) (by omega))
  have HSW := hidI (fun (k : Nat) (W : World) (hB : RowKit.Below w0.heap.size w0 W) => rlkSwap_any T k i p1 p2 c1 c2 W (hin.swaps.below (hB0.trans (hB.mono hB0.size))) hin.l2)
  have HBA := hidI (fun (k : Nat) (hk : k < T.base.length) (W : World) (hB : RowKit.Below w0.heap.size w0 W) => rlkBad1_any T p1 p2 c1 c2 G p c k i W (hin.below (hB0.trans (hB.mono hB0.size))) (hG.below (hB0.trans (hB.mono hB0.size))) hf hv hq hk hi)
  have HSS := hidI (fun (i j : Int) (h : frW T i j = false) => swS_some hf h)
  have HSN := hidI (fun (i j : Int) (h : frW T i j = true) => swS_none h)
  have HVO := hidI hvo
  have HB0 := hidI b0; have HD0 := hidI d0; have HX0 := hidI hB0
  clear hin hG hf hv hq hN b0 d0 hB0 hvo
  go_enter Tryz.func38, Tryz.ntmps38
  go_upto_region 1 with fail
  rw [← hw0]
  clear hw0
  go_wp2_with fail
  go_loopw [9] (fun iv W => ∃ k : Nat, k ≤ T.base.length ∧ iv = .int .i64 k ∧ Hid ((List.range k).all (okB T G T.swaps i v) = true) ∧ RowKit.Below w0.heap.size w0 W) (fun iv _ => T.base.length - (intOf iv).toNat)
  case atStart => exact ⟨0, by omega, rfl, by simp [Hid], RowKit.Below.refl _ _⟩
  case round =>
    obtain ⟨k, hk, rfl, hok, hB⟩ := hrel
    have ta := HB0.out.below hB HB0.out.lt
    have tg := HD0.out.below hB HD0.out.lt
    have f2 := ta.at 2 rfl
    by_cases hlt : k < T.base.length
    · have hltI : (k : Int) < (T.base.length : Int) := by omega
      obtain ⟨bb, oo, rfl, hbb, hc⟩ := HT.out.base.get k hlt
      have e0 := hc k hlt
      rw [← HBG.out k hlt] at e0
      obtain ⟨hbs, hbo⟩ := HBO.out k hlt
      have h12 := app_okw HT2.1 HT2.2 hvs (show (bget T.base k).size ≤ 16 by omega) HVO.out hbo
      have h21 := app_okw HT2.1 HT2.2 (show (bget T.base k).size ≤ 16 by omega) hvs hbo HVO.out
      have hm1 : v.size + (bget T.base k).size ≤ maxLen := by unfold maxLen; omega
      have hm2 : (bget T.base k).size + v.size ≤ maxLen := by unfold maxLen; omega
      have hm3 : ¬ (9223372036854775807 < v.size + (bget T.base k).size) := by omega
      have hm4 : ¬ (9223372036854775807 < (bget T.base k).size + v.size) := by omega
      have HON := hidI (okB_all (T := T) (G := G) (S := T.swaps) (i := i) (k := k) (v := v))
      have HNO := hidI (okB_not (T := T) (G := G) (S := T.swaps) (i := i) (v := v) hlt)
      have HOD : Hid (okB T G T.swaps i v k = (accA G (v ++ bget T.base k) && ((bdP T G k i || isSw T.swaps k i) || accA G (bget T.base k ++ v)))) := rfl
      have HC1 := hidI (fun W (h : RowKit.Below w0.heap.size w0 W) => HAC.out (v ++ bget T.base k) W h h12)
      have HC2 := hidI (fun W (h : RowKit.Below w0.heap.size w0 W) => HAC.out (bget T.base k ++ v) W h h21)
      have HCS := hidI (fun W (h : RowKit.Below w0.heap.size w0 W) => HSW.out k W h)
      have HCB : Hid (∀ W, RowKit.Below w0.heap.size w0 W → Calls Tryz.prog 33 #[.agg #[.int .i64 T.q, .int .i64 T.n, .slice (some ⟨bb, oo, none⟩) T.base.length c1, .slice p2 T.swaps.length c2], (.agg #[.int .i64 G.q, .int .i64 G.n, .slice p G.es.length c]), .int .i64 k, .int .i64 i] W fun e w' => e = .returned (.bool (bdP T G k i)) ∧ RowKit.Below W.heap.size W w') := hidI (fun W h => HBA.out k hlt W h)
      have KS := hidI (fun (W : World) (hW : RowKit.Below w0.heap.size w0 W) => show W.cell? ⟨w.heap.size, 2, none⟩ = some (.slice (some ⟨bb, oo, none⟩) T.base.length c1) ∧ W.cell? ⟨w.heap.size + 1, 0, none⟩ = some (.int .i64 G.q) ∧ W.cell? ⟨w.heap.size + 1, 1, none⟩ = some (.int .i64 G.n) ∧ W.cell? ⟨w.heap.size + 1, 2, none⟩ = some (.slice p G.es.length c) ∧ W.cell? ⟨bb, oo + k, none⟩ = some (.string (bget T.base k)) ∧ RowKit.Below w0.heap.size w0 W from
        ⟨(HB0.out.below hW HB0.out.lt).at 2 rfl, (HD0.out.below hW HD0.out.lt).at 0 rfl, (HD0.out.below hW HD0.out.lt).at 1 rfl, (HD0.out.below hW HD0.out.lt).at 2 rfl, (hW.cell (p := ⟨bb, oo + k, none⟩) hbb).trans e0, hW⟩)
      generalize bget T.base k = b at *
      generalize accA G (v ++ b) = r1 at *
      generalize accA G (b ++ v) = r2 at *
      go_upto_region 4 with fail
      obtain ⟨f2, g0, g1, g2, e1, _⟩ := KS.out wr hB
      clear ta tg e0 hc h12 h21 hbo
      go_region_held3 (fun W => W.cell? ⟨w.heap.size, 2, none⟩ = some (.slice (some ⟨bb, oo, none⟩) T.base.length c1) ∧ W.cell? ⟨w.heap.size + 1, 0, none⟩ = some (.int .i64 G.q) ∧ W.cell? ⟨w.heap.size + 1, 1, none⟩ = some (.int .i64 G.n) ∧ W.cell? ⟨w.heap.size + 1, 2, none⟩ = some (.slice p G.es.length c) ∧ W.cell? ⟨bb, oo + k, none⟩ = some (.string b) ∧ RowKit.Below w0.heap.size w0 W)
        (first | (go_split_ands; exact KS.out _ (by first | assumption | exact below_drewN hB 1 | exact RowKit.Below.trans (by assumption) (hBa.mono (RowKit.Below.size (by assumption))))) | fail)
        (first | (go_at_call 57; go_split_ands; (with_reducible refine (HC1.out _ (by assumption)).mono ?_); rintro e wA ⟨rfl, hBa⟩) | fail)
      go_split_ands
      have hBA : RowKit.Below w0.heap.size w0 wA := by assumption
      clear f2 g0 g1 g2 e1
      obtain ⟨f2, g0, g1, g2, e1, _⟩ := KS.out wA hBA
      go_upto_region 5 with fail
      go_region_held3 (fun W => W.cell? ⟨w.heap.size, 2, none⟩ = some (.slice (some ⟨bb, oo, none⟩) T.base.length c1) ∧ W.cell? ⟨w.heap.size + 1, 0, none⟩ = some (.int .i64 G.q) ∧ W.cell? ⟨w.heap.size + 1, 1, none⟩ = some (.int .i64 G.n) ∧ W.cell? ⟨w.heap.size + 1, 2, none⟩ = some (.slice p G.es.length c) ∧ W.cell? ⟨bb, oo + k, none⟩ = some (.string b) ∧ RowKit.Below w0.heap.size w0 W)
        (first | (go_split_ands; exact KS.out _ (by first | assumption | exact below_drewN hBA 1 | exact RowKit.Below.trans (by assumption) (hBb.mono (RowKit.Below.size (by assumption))))) | fail)
        (first | (go_at_call 57; go_split_ands; (with_reducible refine (HC2.out _ (by assumption)).mono ?_); rintro e wB ⟨rfl, hBb⟩) | fail)
      go_split_ands
      have hBB : RowKit.Below w0.heap.size w0 wB := by assumption
      have ta := HB0.out.below hBB HB0.out.lt
      have a0 := ta.at 0 rfl; have a1 := ta.at 1 rfl; have a2 := ta.at 2 rfl; have a3 := ta.at 3 rfl
      clear f2 g0 g1 g2 e1
      have HS := hidI (HCS.out wB hBB)
      have HFI := hidI (frW_isSw T k i)
      have HSS2 := hidI (HSS.out k i)
      have HSN2 := hidI (HSN.out k i)
      clear HSS HSN
      generalize frW T k i = fr at *
      generalize isSw T.swaps k i = si at *
      obtain rfl : si = !fr := by rw [HFI.out]; simp
      clear HFI
      have HXB := hidI (fun W (h : RowKit.Below w0.heap.size w0 W) => HX0.out.trans (h.mono HX0.out.size))
      have HBB := hidI hBB
      cases r1
      · go_wp2_with fail
        go_ret
        exact ⟨ret_bool (HNO.out HOD.out).symm, HXB.out _ HBB.out⟩
      · cases r2
        · cases fr
          · have hsn := ne_empty (HSS2.out rfl)
            have HX : Hid ((List.range (k + 1)).all (okB T G T.swaps i v) = true) := by rw [Hid, HON.out, hok.out, HOD.out]; simp
            clear HON HNO HOD hok HSS2 HSN2
            generalize swS T.swaps k i = sw at *
            go_wp2_with fail
            refine HS.out.mono ?_
            rintro e wC ⟨rfl, hBc⟩
            go_wp2_with fail
            go_roundw
            case rel => exact ⟨k + 1, by omega, by go_num, HX, HBB.out.trans (hBc.mono HBB.out.size)⟩
            case measure => simp [intOf]; omega
          · have hsn := HSN2.out rfl
            rw [hsn] at HS
            obtain ⟨rb, hrb⟩ : ∃ rb, bdP T G k i = rb := ⟨_, rfl⟩
            rw [hrb] at HOD
            have HCB2 := hidI (fun W (h : RowKit.Below w0.heap.size w0 W) => HCB.out W h)
            rw [hrb] at HCB2
            clear hrb HCB HSS2 HSN2 hsn
            go_wp2_with fail
            refine HS.out.mono ?_
            rintro e wC ⟨rfl, hBc⟩
            have hBC := HBB.out.trans (hBc.mono HBB.out.size)
            have HC3 := hidI (HCB2.out wC hBC)
            have tc := HB0.out.below hBC HB0.out.lt
            have td := HD0.out.below hBC HD0.out.lt
            clear a0 a1 a2 a3
            have a0 := tc.at 0 rfl; have a1 := tc.at 1 rfl; have a2 := tc.at 2 rfl; have a3 := tc.at 3 rfl
            have g0 := td.at 0 rfl; have g1 := td.at 1 rfl; have g2 := td.at 2 rfl
            cases rb
            · go_wp2_with fail
              refine HC3.out.mono ?_
              rintro e wD ⟨rfl, hBd⟩
              go_wp2_with fail
              go_ret
              exact ⟨ret_bool (HNO.out HOD.out).symm, HXB.out _ (hBC.trans (hBd.mono hBC.size))⟩
            · have HX : Hid ((List.range (k + 1)).all (okB T G T.swaps i v) = true) := by rw [Hid, HON.out, hok.out, HOD.out]; simp
              clear HON HNO HOD hok
              go_wp2_with fail
              refine HC3.out.mono ?_
              rintro e wD ⟨rfl, hBd⟩
              go_wp2_with fail
              go_roundw
              case rel => exact ⟨k + 1, by omega, by go_num, HX, hBC.trans (hBd.mono hBC.size)⟩
              case measure => simp [intOf]; omega
        · have HX : Hid ((List.range (k + 1)).all (okB T G T.swaps i v) = true) := by rw [Hid, HON.out, hok.out, HOD.out]; simp
          clear HON HNO HOD hok
          go_wp2_with fail
          go_roundw
          case rel => exact ⟨k + 1, by omega, by go_num, HX, HBB.out⟩
          case measure => simp [intOf]; omega
    · obtain rfl : k = T.base.length := by omega
      have hltI : ¬ (T.base.length : Int) < (T.base.length : Int) := by omega
      go_wp2_with fail
      go_ret
      exact ⟨ret_bool hok.out.symm, HX0.out.trans (hB.mono HX0.out.size)⟩
end Go.Proofs.YtjpilmedlecdhaaGreat
namespace Go.Proofs.YtjpilmedlecdhaaGreat
open Go.RowKit Go.Sort Go.Shelf Go.Lib

/-- One pair, if it is bad. -/
def exF (all : List ByteArray) (T : Tb) (G : Gr) (x : Option Tb) (i j : Nat) : Option Tb := if bdP T G i j = true then exR all T G x (i, j) else x
def rowF (all : List ByteArray) (T : Tb) (G : Gr) (x : Option Tb) (i m : Nat) : Option Tb := (List.range m).foldl (fun x j => exF all T G x i j) x
def tabF (all : List ByteArray) (T : Tb) (G : Gr) (m : Nat) : Option Tb := (List.range m).foldl (fun x i => rowF all T G x i T.base.length) (some T)
section
variable {all : List ByteArray} {T : Tb} {G : Gr} {x : Option Tb} {i j m : Nat}
theorem rowF_succ : rowF all T G x i (m + 1) = exF all T G (rowF all T G x i m) i m := by
  unfold rowF; rw [List.range_succ, List.foldl_append]; rfl
theorem tabF_succ : tabF all T G (m + 1) = rowF all T G (tabF all T G m) m T.base.length := by
  unfold tabF; rw [List.range_succ, List.foldl_append]; rfl
theorem rowF_list : ∀ m : Nat, (((List.range m).filter (fun j => bdP T G i j)).map (fun j => (i, j))).foldl (exR all T G) x = rowF all T G x i m
  | 0 => rfl
  | m + 1 => by
    rw [rowF_succ, List.range_succ, List.filter_append, List.map_append, List.foldl_append, rowF_list m]
    unfold exF
    cases hb : bdP T G i m <;> simp [hb]
theorem tabF_list : ∀ m : Nat, (bdN T G m).foldl (exR all T G) (some T) = tabF all T G m
  | 0 => rfl
  | m + 1 => by
    rw [tabF_succ, ← tabF_list m, ← rowF_list]
    unfold bdN
    rw [List.range_succ, List.flatMap_append, List.foldl_append]
    simp
theorem tabF_ext : tabF all T G T.base.length = extP all T G (bdN T G T.base.length) := (tabF_list _).symm.trans (ext_same bdN_bad)
theorem exF_none : exF all T G none i j = none := by unfold exF; split <;> rfl
theorem rowF_off : ∀ m : Nat, rowF all T G none i m = none
  | 0 => rfl
  | m + 1 => by rw [rowF_succ, rowF_off m, exF_none]
theorem rowF_stop (h : rowF all T G x i j = none) : ∀ m : Nat, j ≤ m → rowF all T G x i m = none
  | 0, hm => by
    obtain rfl : j = 0 := by omega
    exact h
  | m + 1, hm => by
    by_cases e : j = m + 1
    · subst e; exact h
    · rw [rowF_succ, rowF_stop h m (by omega), exF_none]
theorem tabF_stop (h : tabF all T G j = none) : ∀ m : Nat, j ≤ m → tabF all T G m = none
  | 0, hm => by
    obtain rfl : j = 0 := by omega
    exact h
  | m + 1, hm => by
    by_cases e : j = m + 1
    · subst e; exact h
    · rw [tabF_succ, tabF_stop h m (by omega), rowF_off]
theorem ext_fail (h : rowF all T G (tabF all T G i) i j = none) (hi : i < T.base.length) (hj : j ≤ T.base.length) : extP all T G (bdN T G T.base.length) = none := by
  rw [← tabF_ext]
  exact tabF_stop (j := i + 1) (by rw [tabF_succ]; exact rowF_stop h _ hj) _ hi
theorem find_first {α : Type} {p : α → Bool} : ∀ {l : List α} {k : Nat} (hk : k < l.length), (∀ m (hm : m < l.length), m < k → p l[m] = false) → p l[k] = true → l.find? p = some l[k]
  | x :: l, 0, _, _, hp => by rw [List.find?_cons]; simp only [List.getElem_cons_zero] at hp ⊢; rw [hp]
  | x :: l, k + 1, hk, h, hp => by
    have h0 := h 0 (by simp) (by omega)
    simp only [List.getElem_cons_zero, List.getElem_cons_succ] at h0 hp ⊢
    rw [List.find?_cons, h0]
    refine find_first (by simpa using hk) (fun m hm hmk => ?_) hp
    have := h (m + 1) (by simp; omega) (by omega)
    simpa using this
theorem find_no {α : Type} {p : α → Bool} {l : List α} (h : ∀ m (hm : m < l.length), p l[m] = false) : l.find? p = none := by
  rw [List.find?_eq_none]
  intro x hx
  obtain ⟨m, hm, rfl⟩ := List.mem_iff_getElem.1 hx
  rw [h m hm]; simp

/-- The table under way, in the reference's way. -/
structure RxP (all : List ByteArray) (T : Tb) (G : Gr) (i j : Nat) (out : Tb) : Prop where
  fold : rowF all T G (tabF all T G i) i j = some out
  q : out.q = T.q
  n : out.n = T.n
  base : out.base = T.base
  fm : fmd out = true
  new : ∀ y ∈ out.swaps, isSw T.swaps y.i y.j = true ∨ y.i < i ∨ (y.i = i ∧ y.j < j)
theorem RxP.start (hf : fmd T = true) : RxP all T G 0 0 T :=
  ⟨rfl, rfl, rfl, rfl, hf, fun y hy => .inl (List.any_eq_true.2 ⟨y, hy, by simp⟩)⟩
variable {out : Tb}
theorem RxP.down (h : RxP all T G i T.base.length out) : RxP all T G (i + 1) 0 out := by
  refine ⟨?_, h.q, h.n, h.base, h.fm, fun y hy => ?_⟩
  · show tabF all T G (i + 1) = some out
    rw [tabF_succ]; exact h.fold
  · rcases h.new y hy with h1 | h1 | h1
    · exact .inl h1
    · exact .inr (.inl (by omega))
    · exact .inr (.inl (by omega))
theorem RxP.skip (h : RxP all T G i j out) (hs : bdP T G i j = false ∨ isSw T.swaps i j = true) : RxP all T G i (j + 1) out := by
  refine ⟨?_, h.q, h.n, h.base, h.fm, fun y hy => ?_⟩
  · rw [rowF_succ, h.fold]
    unfold exF
    rcases hs with hs | hs
    · rw [hs]; rfl
    · unfold exR
      by_cases hb : bdP T G i j = true
      · rw [if_pos hb]
        show (if isSw T.swaps i j = true then some out else _) = _
        rw [if_pos hs]
      · rw [if_neg hb]
  · rcases h.new y hy with h1 | h1 | h1
    · exact .inl h1
    · exact .inr (.inl h1)
    · exact .inr (.inr (by omega))
theorem RxP.step (h : RxP all T G i j out) (hb : bdP T G i j = true) (hs : isSw T.swaps i j = false) : rowF all T G (tabF all T G i) i (j + 1) = exS all T G out.swaps out i j := by
  rw [rowF_succ, h.fold]
  unfold exF exR
  rw [if_pos hb]
  show (if isSw T.swaps i j = true then some out else _) = _
  rw [hs]; rfl
theorem RxP.fail (h : RxP all T G i j out) (hb : bdP T G i j = true) (hs : isSw T.swaps i j = false) (hn : ∀ m (hm : m < all.length), okE T G out.swaps out i j all[m] = false) (hi : i < T.base.length) (hj : j < T.base.length) : extP all T G (bdN T G T.base.length) = none := by
  refine ext_fail (j := j + 1) ?_ hi hj
  rw [h.step hb hs, exS, find_no hn]; rfl
theorem RxP.put (h : RxP all T G i j out) (hb : bdP T G i j = true) (hs : isSw T.swaps i j = false) {k : Nat} (hk : k < all.length) (hn : ∀ m (hm : m < all.length), m < k → okE T G out.swaps out i j all[m] = false) (hp : okE T G out.swaps out i j all[k] = true) :
    RxP all T G i (j + 1) (wthT out ⟨i, j, all[k]⟩) := by
  refine ⟨?_, h.q, h.n, h.base, okE_fmd hp, fun y hy => ?_⟩
  · rw [h.step hb hs, exS, find_first hk hn hp]; rfl
  · rcases insW_mem.1 hy with rfl | hy
    · exact .inr (.inr ⟨rfl, by show (j : Int) < ((j + 1 : Nat) : Int); omega⟩)
    · rcases h.new y hy with h1 | h1 | h1
      · exact .inl h1
      · exact .inr (.inl h1)
      · exact .inr (.inr (by omega))
theorem RxP.free (h : RxP all T G i j out) (hs : isSw T.swaps i j = false) (v : ByteArray) : rwS ⟨i, j, v⟩ out.swaps = insW out.swaps ⟨i, j, v⟩ := by
  refine rwS_ins (fun y hy e => ?_)
  obtain ⟨e1, e2⟩ := e
  simp only at e1 e2
  rcases h.new y hy with h1 | h1 | h1
  · rw [e1, e2, hs] at h1; cases h1
  · omega
  · omega
theorem RxP.done (h : RxP all T G T.base.length 0 out) : extP all T G (bdN T G T.base.length) = some out := by
  rw [← tabF_ext]; exact h.fold
theorem okE_split {S : List Sw} {v : ByteArray} (hbase : out.base = T.base) : okE T G S out i j v = ((fmd (wthT out ⟨i, j, v⟩) && rdbl (wthT out ⟨i, j, v⟩)) && (List.range out.base.length).all (okB out G S i v)) := by
  unfold okE
  rw [hbase, Bool.and_comm]
  congr 2
  funext b
  unfold okB isE bdP
  rw [hbase]
end
end Go.Proofs.YtjpilmedlecdhaaGreat
