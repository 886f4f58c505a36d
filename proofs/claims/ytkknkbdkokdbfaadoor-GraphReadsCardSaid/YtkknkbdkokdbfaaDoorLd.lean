/-
  Walks: the statement GraphReads (door seat).
-/
import Derived.Test.YtkknkbdkokdbfaaDoorLb
import Derived.Test.YtkknkbdkokdbfaaDoorHj
namespace Go.Proofs.YtkknkbdkokdbfaaDoor
open Go.RowKit Go.Sort Go.Shelf Go.Lib

theorem equalI_same (l : List Int) (p p' : Option Addr) (c c' : Nat) (w : World) (h1 : Sl w (Value.int .i64) p l) (h2 : Sl w (Value.int .i64) p' l) (hl : l.length ≤ 9223372036854775807) :
    Calls Tryd.prog 27 #[.slice p l.length c, .slice p' l.length c'] w fun e w' => e = .returned (.bool true) ∧ RowKit.Below w.heap.size w w' := by
  refine (equalI_any l l p p' c c' w h1 h2 hl hl).mono ?_
  rintro e w' ⟨rfl, hD⟩
  exact ⟨by simp, hD.below _⟩
theorem RetLi.open {r : List Int} {k : Int} {w w' : World} {e : Ending} (h : RetLi r k w e w') : ∃ p c, e = .returned (.tuple #[.slice p r.length c, .int .i64 k]) ∧ Sl w' (Value.int .i64) p r ∧ RowKit.Below w.heap.size w w' := by
  obtain ⟨p, m, c, rfl, ho, hB⟩ := h
  obtain ⟨p', c', hv, hs⟩ := own_sl ho
  cases hv
  exact ⟨p, c, rfl, hs, hB⟩
theorem outA_le (G : Gr) (s : Int) : (outA G s).1.length ≤ G.es.length := by
  unfold outA
  split
  · split
    · simp
    · exact outI_len _ _ _
  · simp
theorem stepA_le (G : Gr) (st : List Int) (b : Int) : (stepA G st b).1.length ≤ 64 := by
  unfold stepA
  split
  · rename_i h
    have hv := chkG_ok.1 h
    have h1 := hv.n1; have h2 := hv.n2
    split
    · split
      · simp
      · have := uptof_len (nxP G.es st b) G.n.toNat
        show ((upto G.n.toNat).filter (nxP G.es st b)).length ≤ 64
        omega
    · simp
  · simp
theorem keepA_le (G : Gr) (st : List Int) : (keepA G st).1.es.length ≤ G.es.length := by
  unfold keepA
  split
  · split
    · exact partE_len _ _
    · simp
  · simp

set_option maxRecDepth 100000 in
set_option maxHeartbeats 4000000 in
theorem lawGReads_any (G : Gr) (p : Option Addr) (c : Nat) (s b : Int) (st : List Int) (q : Option Addr) (d : Nat) (w : World) (hin : Sg 3 w edE p G.es) (hl : G.es.length ≤ 9223372036854775807) (hst : Sl w (Value.int .i64) q st) (hsl : st.length ≤ 9223372036854775807) :
    Calls Tryd.prog 5 #[(.agg #[.int .i64 G.q, .int .i64 G.n, .slice p G.es.length c]), .int .i64 s, .int .i64 b, .slice q st.length d] w fun e w' => e = .returned (.bool true) ∧ RowKit.Below w.heap.size w w' := by
  have HIN := hidI hin; have HST := hidI hst
  clear hin hst
  have b0 : VRow (w.alloc (.cells #[.int .i64 G.q, .int .i64 G.n, .slice p G.es.length c] 24)) w.heap.size 24 [.int .i64 G.q, .int .i64 G.n, .slice p G.es.length c] := VRow.new w _ _
  have x0 : RowKit.Below w.heap.size w (w.alloc (.cells #[.int .i64 G.q, .int .i64 G.n, .slice p G.es.length c] 24)) := (RowKit.Below.refl _ _).alloc (Nat.le_refl _) _
  cases hg : greatG G
  · have HG := hidI hg
    have hs := (great_small hg).1
    clear hg
    by_cases hk : st.length ≤ 12
    · have hkb : ¬ ((12 : Int) < (st.length : Int)) := by omega
      have LO := hidI (outA_le G s); have LS := hidI (stepA_le G st b); have LK := hidI (keepA_le G st)
      go_enter Tryd.func5, Tryd.ntmps5
      go_wp2_with fail
      refine (rGreat_any G p c _ hl).mono ?_
      rw [HG.out]
      rintro e w1 ⟨rfl, hB1⟩
      have b1 := b0.below hB1 b0.lt
      have x1 := x0.trans (hB1.mono x0.size)
      clear hB1 b0 x0
      have f0 := b1.at 0 rfl; have f1 := b1.at 1 rfl; have f2 := b1.at 2 rfl
      go_wp2_with fail
      refine (gOut_any G p c s w1 (HIN.out.below x1) (by omega)).mono ?_
      rintro e w2 hret
      obtain ⟨psa, csa, rfl, sa_2, hB2⟩ := hret.open
      have b2 := b1.below hB2 b1.lt
      have x2 := x1.trans (hB2.mono x1.size)
      clear hB2 b1 x1 f0 f1 f2
      have f0 := b2.at 0 rfl; have f1 := b2.at 1 rfl; have f2 := b2.at 2 rfl
      go_wp2_with fail
      refine (rOut_any G p c s w2 (HIN.out.below x2) (by omega)).mono ?_
      rintro e w3 hret
      obtain ⟨psb, csb, rfl, sb_3, hB3⟩ := hret.open
      have b3 := b2.below hB3 b2.lt
      have x3 := x2.trans (hB3.mono x2.size)
      have sa_3 := sa_2.below hB3
      clear sa_2
      clear hB3 b2 x2 f0 f1 f2
      have f0 := b3.at 0 rfl; have f1 := b3.at 1 rfl; have f2 := b3.at 2 rfl
      go_wp2_with fail
      refine (gStep_any G p c st q d b w3 (HIN.out.below x3) (HST.out.below x3) (by omega) (by omega)).mono ?_
      rintro e w4 hret
      obtain ⟨psc, csc, rfl, sc_4, hB4⟩ := hret.open
      have b4 := b3.below hB4 b3.lt
      have x4 := x3.trans (hB4.mono x3.size)
      have sa_4 := sa_3.below hB4
      have sb_4 := sb_3.below hB4
      clear sa_3 sb_3
      clear hB4 b3 x3 f0 f1 f2
      have f0 := b4.at 0 rfl; have f1 := b4.at 1 rfl; have f2 := b4.at 2 rfl
      go_wp2_with fail
      refine (rStep_any G p c st q d b w4 (HIN.out.below x4) (HST.out.below x4) (by omega) (by omega)).mono ?_
      rintro e w5 hret
      obtain ⟨psd, csd, rfl, sd_5, hB5⟩ := hret.open
      have b5 := b4.below hB5 b4.lt
      have x5 := x4.trans (hB5.mono x4.size)
      have sa_5 := sa_4.below hB5
      have sb_5 := sb_4.below hB5
      have sc_5 := sc_4.below hB5
      clear sa_4 sb_4 sc_4
      clear hB5 b4 x4 f0 f1 f2
      have f0 := b5.at 0 rfl; have f1 := b5.at 1 rfl; have f2 := b5.at 2 rfl
      go_wp2_with fail
      refine (gDet_any G p c w5 (HIN.out.below x5) (by omega)).mono ?_
      rintro e w6 ⟨rfl, hB6⟩
      have b6 := b5.below hB6 b5.lt
      have x6 := x5.trans (hB6.mono x5.size)
      have sa_6 := sa_5.below hB6
      have sb_6 := sb_5.below hB6
      have sc_6 := sc_5.below hB6
      have sd_6 := sd_5.below hB6
      clear sa_5 sb_5 sc_5 sd_5
      clear hB6 b5 x5 f0 f1 f2
      have f0 := b6.at 0 rfl; have f1 := b6.at 1 rfl; have f2 := b6.at 2 rfl
      go_wp2_with fail
      refine (rDet_any G p c w6 (HIN.out.below x6) (by omega)).mono ?_
      rintro e w7 ⟨rfl, hB7⟩
      have b7 := b6.below hB7 b6.lt
      have x7 := x6.trans (hB7.mono x6.size)
      have sa_7 := sa_6.below hB7
      have sb_7 := sb_6.below hB7
      have sc_7 := sc_6.below hB7
      have sd_7 := sd_6.below hB7
      clear sa_6 sb_6 sc_6 sd_6
      clear hB7 b6 x6 f0 f1 f2
      have f0 := b7.at 0 rfl; have f1 := b7.at 1 rfl; have f2 := b7.at 2 rfl
      go_wp2_with fail
      refine (gKeep_any G p c st q d w7 (HIN.out.below x7) (HST.out.below x7) (by omega) (by omega)).mono ?_
      rintro e v8 ⟨pgu, cgu, rfl, gu, _, hB8⟩
      have hA8 : RowKit.Below w7.heap.size w7 (v8.alloc (.cells #[.int .i64 (keepA G st).1.q, .int .i64 (keepA G st).1.n, .slice pgu (keepA G st).1.es.length cgu] 24)) := hB8.alloc hB8.size _
      have b8 := b7.below hA8 b7.lt
      have x8 := x7.trans (hA8.mono x7.size)
      have sa_8 := sa_7.below hA8
      have sb_8 := sb_7.below hA8
      have sc_8 := sc_7.below hA8
      have sd_8 := sd_7.below hA8
      have gu_8 := gu.below ((RowKit.Below.refl _ v8).alloc (Nat.le_refl _) (.cells #[.int .i64 (keepA G st).1.q, .int .i64 (keepA G st).1.n, .slice pgu (keepA G st).1.es.length cgu] 24))
      have rgu_8 : VRow (v8.alloc (.cells #[.int .i64 (keepA G st).1.q, .int .i64 (keepA G st).1.n, .slice pgu (keepA G st).1.es.length cgu] 24)) v8.heap.size 24 [.int .i64 (keepA G st).1.q, .int .i64 (keepA G st).1.n, .slice pgu (keepA G st).1.es.length cgu] := VRow.new v8 _ _
      clear hA8 hB8 b7 x7 f0 f1 f2 gu sa_7 sb_7 sc_7 sd_7
      go_upto_region 10 with fail
      generalize v8.alloc (.cells #[.int .i64 (keepA G st).1.q, .int .i64 (keepA G st).1.n, .slice pgu (keepA G st).1.es.length cgu] 24) = w8 at *
      generalize v8.heap.size = Bgu at *
      have f0 := b8.at 0 rfl; have f1 := b8.at 1 rfl; have f2 := b8.at 2 rfl
      go_wp2_with fail
      refine (rKeep_any G p c st q d w8 (HIN.out.below x8) (HST.out.below x8) (by omega) (by omega)).mono ?_
      rintro e v9 ⟨pgw, cgw, rfl, gw, _, hB9⟩
      have hA9 : RowKit.Below w8.heap.size w8 (v9.alloc (.cells #[.int .i64 (keepA G st).1.q, .int .i64 (keepA G st).1.n, .slice pgw (keepA G st).1.es.length cgw] 24)) := hB9.alloc hB9.size _
      have b9 := b8.below hA9 b8.lt
      have x9 := x8.trans (hA9.mono x8.size)
      have sa_9 := sa_8.below hA9
      have sb_9 := sb_8.below hA9
      have sc_9 := sc_8.below hA9
      have sd_9 := sd_8.below hA9
      have gu_9 := gu_8.below hA9
      have gw_9 := gw.below ((RowKit.Below.refl _ v9).alloc (Nat.le_refl _) (.cells #[.int .i64 (keepA G st).1.q, .int .i64 (keepA G st).1.n, .slice pgw (keepA G st).1.es.length cgw] 24))
      have rgw_9 : VRow (v9.alloc (.cells #[.int .i64 (keepA G st).1.q, .int .i64 (keepA G st).1.n, .slice pgw (keepA G st).1.es.length cgw] 24)) v9.heap.size 24 [.int .i64 (keepA G st).1.q, .int .i64 (keepA G st).1.n, .slice pgw (keepA G st).1.es.length cgw] := VRow.new v9 _ _
      have rgu_9 := rgu_8.below hA9 rgu_8.lt
      clear hA9 hB9 b8 x8 f0 f1 f2 gw sa_8 sb_8 sc_8 sd_8 gu_8 rgu_8
      go_upto_region 11 with fail
      generalize v9.alloc (.cells #[.int .i64 (keepA G st).1.q, .int .i64 (keepA G st).1.n, .slice pgw (keepA G st).1.es.length cgw] 24) = w9 at *
      generalize v9.heap.size = Bgw at *
      have f0 := b9.at 0 rfl; have f1 := b9.at 1 rfl; have f2 := b9.at 2 rfl
      have la := LO.out
      have lc := LS.out
      have lk := LK.out
      clear f0 f1 f2 HIN HST
      go_wp2_with fail
      refine (equalI_same (outA G s).1 psa psb csa csb w9 sa_9 sb_9 (by omega)).mono ?_
      rintro e w10 ⟨rfl, hB10⟩
      have x10 := x9.trans (hB10.mono x9.size)
      have sc10 := sc_9.below hB10; have sd10 := sd_9.below hB10
      have gu10 := gu_9.below hB10; have gw10 := gw_9.below hB10
      have ru10 := rgu_9.below hB10 rgu_9.lt; have rw10 := rgw_9.below hB10 rgw_9.lt
      clear hB10 sa_9 sb_9 sc_9 sd_9 gu_9 gw_9 rgu_9 rgw_9 x9 b9
      go_wp2_with fail
      refine (equalI_same (stepA G st b).1 psc psd csc csd w10 sc10 sd10 (by omega)).mono ?_
      rintro e w11 ⟨rfl, hB11⟩
      have x11 := x10.trans (hB11.mono x10.size)
      have gu11 := gu10.below hB11; have gw11 := gw10.below hB11
      have ru11 := ru10.below hB11 ru10.lt; have rw11 := rw10.below hB11 rw10.lt
      clear hB11 sc10 sd10 gu10 gw10 ru10 rw10 x10
      have f0 := ru11.at 0 rfl; have f1 := ru11.at 1 rfl; have f2 := ru11.at 2 rfl
      have g0 := rw11.at 0 rfl; have g1 := rw11.at 1 rfl; have g2 := rw11.at 2 rfl
      go_wp2_with fail
      refine (rSame_s (keepA G st).1 (keepA G st).1 pgu pgw cgu cgw true w11 (sameG_refl _) gu11 gw11 (by omega) (by omega)).mono ?_
      rintro e w12 ⟨rfl, hB12⟩
      have x12 := x11.trans (hB12.mono x11.size)
      clear f0 f1 f2 g0 g1 g2
      go_wp2_with fail
      refine (awake_any w12).mono ?_
      rintro e w13 ⟨rfl, hB13⟩
      go_wp2
      go_ret
      exact ⟨rfl, x12.trans (hB13.mono x12.size)⟩
    · have hkb : (12 : Int) < (st.length : Int) := by omega
      go_enter Tryd.func5, Tryd.ntmps5
      go_wp2_with fail
      refine (rGreat_any G p c _ hl).mono ?_
      rw [HG.out]
      rintro e w1 ⟨rfl, hB1⟩
      have x1 := x0.trans (hB1.mono x0.size)
      go_wp2_with fail
      refine (awake_any w1).mono ?_
      rintro e w2 ⟨rfl, hB2⟩
      go_wp2
      go_ret
      exact ⟨rfl, x1.trans (hB2.mono x1.size)⟩
  · have HG := hidI hg
    clear hg
    go_enter Tryd.func5, Tryd.ntmps5
    go_wp2_with fail
    refine (rGreat_any G p c _ hl).mono ?_
    rw [HG.out]
    rintro e w1 ⟨rfl, hB1⟩
    have x1 := x0.trans (hB1.mono x0.size)
    go_wp2_with fail
    refine (awake_any w1).mono ?_
    rintro e w2 ⟨rfl, hB2⟩
    go_wp2
    go_ret
    exact ⟨rfl, x1.trans (hB2.mono x1.size)⟩
end Go.Proofs.YtkknkbdkokdbfaaDoor

