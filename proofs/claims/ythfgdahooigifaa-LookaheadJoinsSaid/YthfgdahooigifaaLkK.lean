/-
  Walks: Decode of the reference, refusals too; the law on what is written and read.
-/
import Derived.Test.YthfgdahooigifaaLkJ
namespace Go.Proofs.Ythfgdahooigifaa
open Go.RowKit

set_option maxRecDepth 100000 in
set_option maxHeartbeats 1000000 in
theorem rlkDecode_any (T : Tb) (p1 p2 : Option Addr) (c1 c2 : Nat) (s : ByteArray) (w : World) (hin : TbIn w T p1 p2 c1 c2) (hs : s.size ≤ maxLen) :
    Calls Try.prog 10 #[.agg #[.int .i64 T.q, .int .i64 T.n, .slice p1 T.base.length c1, .slice p2 T.swaps.length c2], .string s] w (RetSlI (decA T s).1 (decA T s).2 w) := by
  have hB0 : Below w.heap.size w (w.alloc (.cells #[.int .i64 T.q, .int .i64 T.n, .slice p1 T.base.length c1, .slice p2 T.swaps.length c2] 25)) := (Below.refl _ _).alloc (Nat.le_refl _) _
  have b0 : VRow (w.alloc (.cells #[.int .i64 T.q, .int .i64 T.n, .slice p1 T.base.length c1, .slice p2 T.swaps.length c2] 25)) w.heap.size 25 [.int .i64 T.q, .int .i64 T.n, .slice p1 T.base.length c1, .slice p2 T.swaps.length c2] := VRow.new w _ _
  cases hf : fmd T
  · have HF := hidI hf
    have HR := hidI (decA_bad s hf)
    clear hf
    go_enter Try.func10, Try.ntmps10
    go_wp2_with fail
    refine (rlkFormed_any T p1 p2 c1 c2 _ (hin.below hB0)).mono ?_
    rintro e w1 ⟨rfl, hB1⟩
    rw [HF.out]
    go_wp2
    go_ret2
    exact RetSlI.nil HR.out (hB0.trans (hB1.mono hB0.size))
  by_cases hck : wchk T.q s.data.toList = 0
  · exact rlkDecode_ok T p1 p2 c1 c2 s w hin hs hf hck
  · have HF := hidI hf
    have HR := hidI (decA_chk hf hck)
    obtain ⟨r, hr⟩ : ∃ r, wchk T.q s.data.toList = r := ⟨_, rfl⟩
    have hck' : (r == 0) = false := by rw [hr] at hck; simpa using hck
    rw [hr] at HR
    have HC := hidI hr
    clear hf hck hr
    go_enter Try.func10, Try.ntmps10
    go_wp2_with fail
    refine (rlkFormed_any T p1 p2 c1 c2 _ (hin.below hB0)).mono ?_
    rintro e w1 ⟨rfl, hB1⟩
    rw [HF.out]
    have hBa := hB0.trans (hB1.mono hB0.size)
    have f0 := (b0.below hB1 (by simp)).at 0 rfl
    go_wp2_with fail
    refine (check07_r T.q s r _ hs HC.out).mono ?_
    rintro e w2 ⟨rfl, rfl⟩
    go_wp2
    go_ret2
    exact RetSlI.nil HR.out hBa

theorem decG_len {T : Tb} (hn : 0 < T.n.toNat) : ∀ (f : Nat) (w : ByteArray) (l : List Int), decG T f w = some l → l.length ≤ 2 * w.size := by
  intro f
  induction f with
  | zero => intro w l h; simp [decG] at h
  | succ f ih =>
    intro w l h
    rw [decG] at h
    split at h
    · cases h; simp
    · split at h
      · rename_i hz _ l1 k hs
        obtain ⟨l2, h2, rfl⟩ := Option.map_eq_some_iff.1 h
        have h3 := ih _ _ h2
        have hk : 0 < k ∧ l1.length ≤ 2 := by
          unfold stepS at hs
          split at hs
          · split at hs
            · rename_i l' hr; cases hs; exact ⟨by omega, (rdF_len hr).2⟩
            · obtain ⟨l', hr, h⟩ := Option.map_eq_some_iff.1 hs; cases h; exact ⟨hn, (rdF_len hr).2⟩
          · obtain ⟨l', hr, h⟩ := Option.map_eq_some_iff.1 hs; cases h; exact ⟨hn, (rdF_len hr).2⟩
        rw [ext_size] at h3
        rw [List.length_append]
        omega
      · cases h
theorem decA_len (T : Tb) (w : ByteArray) : (decA T w).1.length ≤ 2 * w.size := by
  by_cases hf : fmd T = false
  · rw [decA_bad w hf]; simp
  have hf : fmd T = true := by simpa using hf
  by_cases h2 : wchk T.q w.data.toList = 0
  · by_cases h3 : w.size % T.n.toNat = 0
    · cases hd : decF T w with
      | none => rw [decA_word hf h2 h3 hd]; simp
      | some l => rw [decA_ok hf h2 h3 hd]; exact decG_len (by have := fmd_bd hf; omega) _ _ _ hd
    · rw [decA_mod hf h2 h3]; simp
  · rw [decA_chk hf h2]; simp

set_option maxRecDepth 100000 in
set_option maxHeartbeats 2000000 in
theorem lawLkWrites_any (T : Tb) (p1 p2 : Option Addr) (c1 c2 : Nat) (l : List Int) (pl : Option Addr) (cl : Nat) (s : ByteArray) (w : World) (hin : TbIn w T p1 p2 c1 c2) (hl : Sl w (Value.int .i64) pl l)
    (hlc : l.length ≤ cl) (hll : l.length ≤ 9223372036854775807) (hs : s.size ≤ maxLen) :
    Calls Try.prog 3 #[.agg #[.int .i64 T.q, .int .i64 T.n, .slice p1 T.base.length c1, .slice p2 T.swaps.length c2], .slice pl l.length cl, .string s] w fun e w' => e = .returned (.bool true) ∧ Below w.heap.size w w' := by
  have hB0 : Below w.heap.size w (w.alloc (.cells #[.int .i64 T.q, .int .i64 T.n, .slice p1 T.base.length c1, .slice p2 T.swaps.length c2] 25)) := (Below.refl _ _).alloc (Nat.le_refl _) _
  have b0 : VRow (w.alloc (.cells #[.int .i64 T.q, .int .i64 T.n, .slice p1 T.base.length c1, .slice p2 T.swaps.length c2] 25)) w.heap.size 25 [.int .i64 T.q, .int .i64 T.n, .slice p1 T.base.length c1, .slice p2 T.swaps.length c2] := VRow.new w _ _
  have h1 := hin.l1
  have h2 := hin.l2
  have HIN := hidI hin
  have HL := hidI hl
  clear hin hl
  by_cases hsm : greatT T = false ∧ l.length ≤ 20 ∧ s.size ≤ 60
  · obtain ⟨hg, ha, hb⟩ := hsm
    have HG := hidI hg
    clear hg
    go_enter Try.func3, Try.ntmps3
    go_wp2_with fail
    refine (great_any T p1 p2 c1 c2 _ h1 h2).mono ?_
    rintro e w1 ⟨rfl, hB1⟩
    rw [HG.out]
    have x1 := hB0.trans (hB1.mono hB0.size)
    have b1 := b0.below hB1 (by simp)
    have g0 := b1.at 0 rfl; have g1 := b1.at 1 rfl; have g2 := b1.at 2 rfl; have g3 := b1.at 3 rfl
    clear hB1 b0
    go_wp2_with fail
    refine (lkEncode_any T p1 p2 c1 c2 l pl cl _ (HIN.out.below x1) (HL.out.below x1) (by omega) hlc).mono ?_
    rintro e w2 ⟨rfl, hB2⟩
    have x2 := x1.trans (hB2.mono x1.size)
    have b2 := b1.below hB2 b1.lt
    clear hB2 g0 g1 g2 g3
    have g0 := b2.at 0 rfl; have g1 := b2.at 1 rfl; have g2 := b2.at 2 rfl; have g3 := b2.at 3 rfl
    go_wp2_with fail
    refine (rlkEncode_any T p1 p2 c1 c2 l pl cl _ (HIN.out.below x2) (HL.out.below x2) (by omega)).mono ?_
    rintro e w3 ⟨rfl, hB3⟩
    generalize encA T l = ea
    have x3 := x2.trans (hB3.mono x2.size)
    have b3 := b2.below hB3 b2.lt
    clear hB3 g0 g1 g2 g3
    have g0 := b3.at 0 rfl; have g1 := b3.at 1 rfl; have g2 := b3.at 2 rfl; have g3 := b3.at 3 rfl
    go_wp2_with fail
    refine (lkDecode_any T p1 p2 c1 c2 s _ (HIN.out.below x3) hs).mono ?_
    rintro e w4 ⟨q4, d4, rfl, hs4, hB4⟩
    have x4 := x3.trans (hB4.mono x3.size)
    have b4 := b3.below hB4 b3.lt
    clear hB4 g0 g1 g2 g3
    have g0 := b4.at 0 rfl; have g1 := b4.at 1 rfl; have g2 := b4.at 2 rfl; have g3 := b4.at 3 rfl
    go_wp2_with fail
    refine (rlkDecode_any T p1 p2 c1 c2 s _ (HIN.out.below x4) hs).mono ?_
    rintro e w5 ⟨q5, d5, rfl, hs5, hB5⟩
    have x5 := x4.trans (hB5.mono x4.size)
    have hs4' := hs4.below hB5
    have hdl := decA_len T s
    clear hB5 g0 g1 g2 g3
    generalize decA T s = da at *
    go_wp2_with fail
    refine (r12Same_any da.1 da.1 q4 q5 d4 d5 _ hs4' hs5 (by omega) (by omega)).mono ?_
    rintro e w6 ⟨rfl, hD6⟩
    rw [decide_eq_true (rfl : da.1 = da.1)]
    go_wp2_with fail
    refine (lkAwake_any _).mono ?_
    rintro e w7 ⟨rfl, hB7⟩
    go_wp2
    go_ret
    exact ⟨rfl, (x5.trans (hD6.below _)).trans (hB7.mono (x5.trans (hD6.below _)).size)⟩
  · cases hg : greatT T
    · have hsm' : ¬ (l.length ≤ 20 ∧ s.size ≤ 60) := fun h => hsm ⟨hg, h.1, h.2⟩
      have HG := hidI hg
      clear hg
      rcases (by omega : 20 < l.length ∨ (l.length ≤ 20 ∧ 60 < s.size)) with ha | ⟨ha, hb⟩
      all_goals
        clear hsm hsm'
        go_enter Try.func3, Try.ntmps3
        go_wp2_with fail
        refine (great_any T p1 p2 c1 c2 _ h1 h2).mono ?_
        rintro e w1 ⟨rfl, hB1⟩
        rw [HG.out]
        go_wp2_with fail
        refine (lkAwake_any _).mono ?_
        rintro e w7 ⟨rfl, hB7⟩
        go_wp2
        go_ret
        exact ⟨rfl, (hB0.trans (hB1.mono hB0.size)).trans (hB7.mono (hB0.trans (hB1.mono hB0.size)).size)⟩
    · have HG := hidI hg
      clear hg hsm
      go_enter Try.func3, Try.ntmps3
      go_wp2_with fail
      refine (great_any T p1 p2 c1 c2 _ h1 h2).mono ?_
      rintro e w1 ⟨rfl, hB1⟩
      rw [HG.out]
      go_wp2_with fail
      refine (lkAwake_any _).mono ?_
      rintro e w7 ⟨rfl, hB7⟩
      go_wp2
      go_ret
      exact ⟨rfl, (hB0.trans (hB1.mono hB0.size)).trans (hB7.mono (hB0.trans (hB1.mono hB0.size)).size)⟩
end Go.Proofs.Ythfgdahooigifaa
