/-
  LookaheadExtended: whatever comes in, the law returns true, and its arguments read as they did; the tables of the library that its row lists are tied to the program's text.
-/
import Derived.Test.YtjpilmedlecdhaaGreatDoorZem
import Derived.Test.YtjpilmedlecdhaaGreatDoorZen
import Derived.Test.YtjpilmedlecdhaaGreatDoorZee
import Derived.Test.YtjpilmedlecdhaaGreatDoorZei
set_option linter.unusedVariables false
set_option linter.unusedSimpArgs false
namespace Go.Proofs.YtjpilmedlecdhaaGreatDoor
open Go.RowKit Go.Sort Go.Shelf Go.Lib

theorem RetExt.z {k : Int} {w w' : World} {e : Ending} (h : RetExt (zT, k) w e w') : ∃ q1 q2 e1 e2, e = .returned (.tuple #[.agg #[.int .i64 0, .int .i64 0, .slice q1 0 e1, .slice q2 0 e2], .int .i64 k]) ∧ RowKit.Below w.heap.size w w' := by
  obtain ⟨a, b, c, d, rfl, _, hB⟩ := h
  exact ⟨a, b, c, d, rfl, hB⟩
theorem RetExt.x {T : Tb} {S : List Sw} {w w' : World} {e : Ending} (h : RetExt ((⟨T.q, T.n, T.base, S⟩ : Tb), 0) w e w') : ∃ q1 q2 e1 e2, e = .returned (.tuple #[.agg #[.int .i64 T.q, .int .i64 T.n, .slice q1 T.base.length e1, .slice q2 S.length e2], .int .i64 0]) ∧ TbIn w' ⟨T.q, T.n, T.base, S⟩ q1 q2 e1 e2 ∧ RowKit.Below w.heap.size w w' := h
theorem badA_fit {T : Tb} {G : Gr} (h : fitA T G = 0) : badA T G = (badL T G, 0) := by unfold badA; rw [if_pos h]
set_option maxRecDepth 100000 in
set_option maxHeartbeats 8000000 in
theorem lawExtended_any (T : Tb) (p1 p2 : Option Addr) (c1 c2 : Nat) (G : Gr) (pg : Option Addr) (cg : Nat) (l : List UInt8) (pl : Option Addr) (cl : Nat) (w : World) (hin : TbIn w T p1 p2 c1 c2) (hG : Sg 3 w edE pg G.es) (hGl : G.es.length ≤ 9223372036854775807)
    (hL : Sl w u8v pl l) (hll : l.length ≤ 9223372036854775807) (ht : T10 w) :
    Calls Tryz.prog 4 #[(.agg #[.int .i64 T.q, .int .i64 T.n, .slice p1 T.base.length c1, .slice p2 T.swaps.length c2]), (.agg #[.int .i64 G.q, .int .i64 G.n, .slice pg G.es.length cg]), .slice pl l.length cl] w fun e w' => e = .returned (.bool true) ∧ RowKit.Below w.heap.size w w' := by
  obtain ⟨w0, hw0⟩ : ∃ w0, w0 = (w.alloc (.cells #[.int .i64 T.q, .int .i64 T.n, .slice p1 T.base.length c1, .slice p2 T.swaps.length c2] 26)).alloc (.cells #[.int .i64 G.q, .int .i64 G.n, .slice pg G.es.length cg] 30) := ⟨_, rfl⟩
  have b0 : VRow w0 w.heap.size 26 [.int .i64 T.q, .int .i64 T.n, .slice p1 T.base.length c1, .slice p2 T.swaps.length c2] := by subst hw0; exact (VRow.new w _ _).alloc _
  have d0 : VRow w0 (w.heap.size + 1) 30 [.int .i64 G.q, .int .i64 G.n, .slice pg G.es.length cg] := by subst hw0; exact VRow.new1 w _ _ _
  have hB0 : RowKit.Below w.heap.size w w0 := by subst hw0; exact ((RowKit.Below.refl _ _).alloc (Nat.le_refl _) _).alloc (by simp) _
  have h1 := hin.l1; have h2 := hin.l2
  have a0 := b0.at 0 rfl; have a1 := b0.at 1 rfl; have a2 := b0.at 2 rfl; have a3 := b0.at 3 rfl
  have HIN := hidI hin; have HG := hidI hG; have HL := hidI hL; have HT := hidI ht
  have HB0 := hidI b0; have HD0 := hidI d0; have HX0 := hidI hB0
  clear hin hG hL ht
  go_enter Tryz.func4, Tryz.ntmps4
  go_upto_region 1 with fail
  rw [← hw0]
  clear hw0
  go_cut [40] (fun v W => ∃ b, v = .bool b ∧ (b = false → l.length ≤ 8) ∧ RowKit.Below w0.heap.size w0 W)
  case first =>
    have hlI : (l.length : Int) ≤ 9223372036854775807 := by omega
    go_wp2_with fail
    refine (great_any T p1 p2 c1 c2 w0 h1 h2).mono ?_
    rintro e w1 ⟨rfl, hB1⟩
    have t1 := HB0.out.below hB1 HB0.out.lt
    have g1 := HD0.out.below hB1 HD0.out.lt
    clear a0 a1 a2 a3
    have e0 := g1.at 0 rfl; have e1 := g1.at 1 rfl; have e2 := g1.at 2 rfl
    generalize greatT T = gt at *
    cases gt
    · go_wp2_with fail
      refine (rGreat_any G pg cg w1 hGl).mono ?_
      rintro e w2 ⟨rfl, hB2⟩
      have x2 := hB1.trans (hB2.mono hB1.size)
      have t2 := t1.below hB2 t1.lt
      have f0 := t2.at 0 rfl; have f1 := t2.at 1 rfl
      clear e0 e1 e2
      generalize greatG G = gg at *
      cases gg
      · obtain ⟨rn, hrn⟩ : ∃ r, (T.n == 3) = r := ⟨_, rfl⟩
        obtain ⟨rq, hrq⟩ : ∃ r, (T.q == 3) = r := ⟨_, rfl⟩
        by_cases h8 : (8 : Int) < (l.length : Int)
        · cases rn <;> cases rq <;> (go_wp2_with fail; go_meet; exact ⟨true, rfl, fun h => (by cases h), x2⟩)
        · have h8' : l.length ≤ 8 := by omega
          cases rn <;> cases rq <;> (go_wp2_with fail; go_meet; exact ⟨_, rfl, fun _ => h8', x2⟩)
      · go_wp2_with fail
        go_meet
        exact ⟨true, rfl, fun h => (by cases h), x2⟩
    · go_wp2_with fail
      go_meet
      exact ⟨true, rfl, fun h => (by cases h), hB1⟩
  case rest =>
    obtain ⟨b, rfl, h8, hBc⟩ := hcut
    have xc := HX0.out.trans (hBc.mono HX0.out.size)
    cases b
    rotate_left
    · (go_wp2_with fail; refine (lkAwake_any _).mono ?_; rintro e w99 ⟨rfl, hB99⟩; go_wp2; go_ret; exact ⟨rfl, xc.trans (hB99.mono (xc).size)⟩)
    have h8 := h8 rfl
    have tc := HB0.out.below hBc HB0.out.lt
    have gc := HD0.out.below hBc HD0.out.lt
    have HEX := hidI (lkExtend_any T p1 p2 c1 c2 G pg cg wc (HIN.out.below xc) (HG.out.below xc) hGl)
    have HBD := hidI (fun W (hW : RowKit.Below w.heap.size w W) => lkBad_any T p1 p2 c1 c2 G pg cg W (HIN.out.below hW) (HG.out.below hW) hGl)
    clear a0 a1 a2 a3 HB0 HD0 HX0 hBc
    have a0 := tc.at 0 rfl; have a1 := tc.at 1 rfl; have a2 := tc.at 2 rfl; have a3 := tc.at 3 rfl
    have e0 := gc.at 0 rfl; have e1 := gc.at 1 rfl; have e2 := gc.at 2 rfl
    rcases extA_cases T G with ⟨k, hk, he⟩ | ⟨x, he, hfit, hexl⟩
    · rw [he] at HEX
      have hkn : (k != 0) = true := by simpa using hk
      generalize badA T G = BA at *
      obtain ⟨L, kb⟩ := BA
      clear he hk
      go_wp2_with fail
      refine HEX.out.mono ?_
      intro e w1 h
      obtain ⟨o1, o2, d1, d2, rfl, hB1⟩ := h.z
      clear h
      have x1 := xc.trans (hB1.mono xc.size)
      obtain ⟨w2, hw2⟩ : ∃ w2, w2 = w1.alloc (.cells #[.int .i64 0, .int .i64 0, .slice o1 0 d1, .slice o2 0 d2] 26) := ⟨_, rfl⟩
      have hB2 : RowKit.Below w1.heap.size w1 w2 := by subst hw2; exact (RowKit.Below.refl _ _).alloc (Nat.le_refl _) _
      have xb2 : VRow w2 w1.heap.size 26 [.int .i64 0, .int .i64 0, .slice o1 0 d1, .slice o2 0 d2] := by subst hw2; exact VRow.new w1 _ _
      have x2 := x1.trans (hB2.mono x1.size)
      have t2 := (tc.below hB1 tc.lt).below hB2 (Nat.lt_of_lt_of_le tc.lt hB1.size)
      have g2 := (gc.below hB1 gc.lt).below hB2 (Nat.lt_of_lt_of_le gc.lt hB1.size)
      clear a0 a1 a2 a3 e0 e1 e2 tc gc HEX
      go_upto_region 4 with fail
      rw [← hw2]
      clear hw2
      have a0 := t2.at 0 rfl; have a1 := t2.at 1 rfl; have a2 := t2.at 2 rfl; have a3 := t2.at 3 rfl
      have e0 := g2.at 0 rfl; have e1 := g2.at 1 rfl; have e2 := g2.at 2 rfl
      have HB2 := hidI (HBD.out w2 x2)
      go_wp2_with fail
      refine HB2.out.mono ?_
      rintro e w3 ⟨q3, d3, X3, rfl, hr3, hB3⟩
      have x3 := x2.trans (hB3.mono x2.size)
      have xb3 := xb2.below hB3 xb2.lt
      have y2 := xb3.at 2 rfl
      clear a0 a1 a2 a3 e0 e1 e2
      (go_wp2_with fail; refine (lkAwake_any _).mono ?_; rintro e w99 ⟨rfl, hB99⟩; go_wp2; go_ret; exact ⟨rfl, x3.trans (hB99.mono (x3).size)⟩)
    · have hX := XL.of hfit hexl
      obtain ⟨q', n', b', S⟩ := x
      obtain rfl : q' = T.q := hexl.inv.q
      obtain rfl : n' = T.n := hexl.inv.n
      obtain rfl : b' = T.base := hexl.inv.base
      rw [he] at HEX
      have HBA := hidI (badA_fit hfit)
      have HX := hidI hX
      have HMAP : Hid (badL T G = (bdN T G T.base.length).map prL) := badN_map T G T.base.length
      have hNx := pre_all (fmd_split hX.fmd).1
      have hN16 : T.base.length ≤ 16 := hNx.2.2.2.2.2.1
      have hN2 : 2 ≤ T.base.length := hNx.2.2.2.2.1
      have hS64 : S.length ≤ 64 := hNx.2.2.2.2.2.2
      have hLl : (badL T G).length ≤ 256 := by
        have hbl := badN_len T G T.base.length
        have hbl2 : T.base.length * T.base.length ≤ 16 * 16 := Nat.mul_le_mul hN16 hN16
        show (badN T G T.base.length).length ≤ 256; omega
      clear he hfit hexl hX hNx
      go_wp2_with fail
      refine HEX.out.mono ?_
      intro e w1 h
      obtain ⟨o1, o2, d1, d2, rfl, hTB, hB1⟩ := h.x
      clear h
      have x1 := xc.trans (hB1.mono xc.size)
      obtain ⟨w2, hw2⟩ : ∃ w2, w2 = w1.alloc (.cells #[.int .i64 T.q, .int .i64 T.n, .slice o1 T.base.length d1, .slice o2 S.length d2] 26) := ⟨_, rfl⟩
      have hB2 : RowKit.Below w1.heap.size w1 w2 := by subst hw2; exact (RowKit.Below.refl _ _).alloc (Nat.le_refl _) _
      have xb2 : VRow w2 w1.heap.size 26 [.int .i64 T.q, .int .i64 T.n, .slice o1 T.base.length d1, .slice o2 S.length d2] := by subst hw2; exact VRow.new w1 _ _
      have x2 := x1.trans (hB2.mono x1.size)
      have HTB := hidI (hTB.below hB2)
      have t2 := (tc.below hB1 tc.lt).below hB2 (Nat.lt_of_lt_of_le tc.lt hB1.size)
      have g2 := (gc.below hB1 gc.lt).below hB2 (Nat.lt_of_lt_of_le gc.lt hB1.size)
      clear a0 a1 a2 a3 e0 e1 e2 tc gc HEX hTB
      go_upto_region 4 with fail
      rw [← hw2]
      clear hw2
      have a0 := t2.at 0 rfl; have a1 := t2.at 1 rfl; have a2 := t2.at 2 rfl; have a3 := t2.at 3 rfl
      have e0 := g2.at 0 rfl; have e1 := g2.at 1 rfl; have e2 := g2.at 2 rfl
      have HB2 : Hid (Calls Tryz.prog 17 #[(.agg #[.int .i64 T.q, .int .i64 T.n, .slice p1 T.base.length c1, .slice p2 T.swaps.length c2]), (.agg #[.int .i64 G.q, .int .i64 G.n, .slice pg G.es.length cg])] w2 (RetLLI (badL T G) 0 w2)) := by
        have := HBD.out w2 x2
        rw [HBA.out] at this; exact this
      go_wp2_with fail
      refine HB2.out.mono ?_
      rintro e w3 ⟨q3, d3, X3, rfl, hr3, hB3⟩
      have x3 := x2.trans (hB3.mono x2.size)
      have xb3 := xb2.below hB3 xb2.lt
      have t3 := t2.below hB3 t2.lt
      have g3 := g2.below hB3 g2.lt
      have HTB3 := hidI (HTB.out.below hB3)
      have HLL3 := hidI hr3
      clear a0 a1 a2 a3 e0 e1 e2 t2 g2 xb2 HTB hr3 HB2 HBD HBA
      have a0 := t3.at 0 rfl; have a1 := t3.at 1 rfl; have a2 := t3.at 2 rfl
      have y0 := xb3.at 0 rfl; have y1 := xb3.at 1 rfl; have y2 := xb3.at 2 rfl
      have kn : (T.n != T.n) = false := by simp
      have kq : (T.q != T.q) = false := by simp
      have HEQ := hidI (equalStr_eq T.base o1 p1 d1 c1 w3 HTB3.out.base (HIN.out.below x3).base (by omega))
      go_wp2_with fail
      refine HEQ.out.mono ?_
      rintro e w4 ⟨rfl, hD4⟩
      have x4 := x3.trans (hD4.below _)
      have xb4 := xb3.dr hD4
      have t4 := t3.dr hD4
      have g4 := g3.dr hD4
      have HTB4 := hidI (HTB3.out.below (hD4.below _))
      have HLL4 := hidI (HLL3.out.below (hD4.below _))
      clear a0 a1 a2 y0 y1 y2 t3 g3 xb3 HTB3 HLL3 HEQ
      have a0 := t4.at 0 rfl; have a1 := t4.at 1 rfl; have a3 := t4.at 3 rfl
      have y0 := xb4.at 0 rfl; have y1 := xb4.at 1 rfl
      have HT4 := hidI t4; have HG4 := hidI g4; have HXB4 := hidI xb4; have HX4 := hidI x4
      clear t4 g4 xb4 x4
      go_wp2_with fail
      clear a0 a1 a3 y0 y1 kn kq
      go_loopw [90] (fun iv W => ∃ k : Nat, k ≤ T.swaps.length ∧ iv = .int .i64 k ∧ RowKit.Below w4.heap.size w4 W) (fun iv _ => T.swaps.length - (intOf iv).toNat)
      case atStart => exact ⟨0, by omega, rfl, RowKit.Below.refl _ _⟩
      case round =>
        obtain ⟨k, hk, rfl, hB⟩ := hrel
        by_cases hlt : k < T.swaps.length
        · have hltI : (k : Int) < (T.swaps.length : Int) := by omega
          have hXr := HX4.out.trans (hB.mono HX4.out.size)
          obtain ⟨b1, oo1, rfl, hb1, e0, e1, e2⟩ := ((HIN.out.below hXr).swaps).get3 k hlt rfl
          have hy := HX.out.exl.inv.sub _ (List.getElem_mem hlt)
          have hy2 : T.swaps[k] ∈ S := hy
          clear hy
          generalize T.swaps[k] = y at *
          go_upto_region 12 with fail
          obtain ⟨w5, hw5⟩ : ∃ w5, w5 = wr.alloc (.cells #[.int .i64 y.i, .int .i64 y.j, .string y.wd] 55) := ⟨_, rfl⟩
          have hB5 : RowKit.Below wr.heap.size wr w5 := by subst hw5; exact (RowKit.Below.refl _ _).alloc (Nat.le_refl _) _
          have y5 : VRow w5 wr.heap.size 55 [.int .i64 y.i, .int .i64 y.j, .string y.wd] := by subst hw5; exact VRow.new wr _ _
          rw [← hw5]
          clear hw5 e0 e1 e2 hb1
          have hB45 := hB.trans (hB5.mono hB.size)
          have f0 := y5.at 0 rfl; have f1 := y5.at 1 rfl; have f2 := y5.at 2 rfl
          have xb := HXB4.out.below hB45 HXB4.out.lt
          have f3 := xb.at 3 rfl
          have HCN := hidI (containsSwV_in S y o2 d2 w5 (HTB4.out.below hB45).swaps (by omega) hy2)
          clear hy2
          go_wp2_with fail
          refine HCN.out.mono ?_
          rintro e w6 ⟨rfl, hB6⟩
          have hB46 := hidI (hB45.trans (hB6.mono hB45.size))
          clear f0 f1 f2 f3 xb y5 hB45 hB5 hB6 HCN
          go_wp2_with fail
          go_roundw
          case rel => exact ⟨k + 1, by omega, by go_num, hB46.out⟩
          case measure => simp [intOf]; omega
        · obtain rfl : k = T.swaps.length := by omega
          have hltI : ¬ (T.swaps.length : Int) < (T.swaps.length : Int) := by omega
          obtain ⟨wo, rfl⟩ : ∃ wo : World, wo = wr := ⟨_, rfl⟩
          have HBo := hidI hB
          clear hB
          go_wp2_with fail
          go_loopw [102] (fun iv W => ∃ k : Nat, k ≤ (badL T G).length ∧ iv = .int .i64 k ∧ RowKit.Below w4.heap.size w4 W) (fun iv _ => (badL T G).length - (intOf iv).toNat)
          case atStart => exact ⟨0, by omega, rfl, HBo.out⟩
          case round =>
            clear HBo
            obtain ⟨k, hk, rfl, hB⟩ := hrel
            by_cases hlt : k < (badL T G).length
            · have hltI : (k : Int) < ((badL T G).length : Int) := by omega
              have e := HMAP.out
              have hkl : k < (bdN T G T.base.length).length := by
                have := congrArg List.length e
                rw [List.length_map] at this; omega
              obtain ⟨i, j, hij⟩ : ∃ i j, (bdN T G T.base.length)[k] = (i, j) := ⟨_, _, rfl⟩
              have hhas := HX.out.exl.has _ (List.getElem_mem hkl)
              rw [hij] at hhas
              have hLk : (badL T G)[k] = [(i : Int), (j : Int)] := by
                rw [List.getElem_of_eq e hlt, List.getElem_map, hij]; rfl
              obtain ⟨bL, oL, q, d, rfl, hbL, eL, sT⟩ := (HLL4.out.below hB).get k hlt
              rw [hLk] at eL sT
              simp only [List.length_cons, List.length_nil, Nat.zero_add] at eL
              clear e hkl hij hLk
              go_upto_region 18 with fail
              obtain ⟨w5, hw5⟩ : ∃ w5, w5 = wr.alloc (.cells #[.slice q 2 d] 36) := ⟨_, rfl⟩
              have hB5 : RowKit.Below wr.heap.size wr w5 := by subst hw5; exact (RowKit.Below.refl _ _).alloc (Nat.le_refl _) _
              have p5 : VRow w5 wr.heap.size 36 [.slice q 2 d] := by subst hw5; exact VRow.new wr _ _
              rw [← hw5]
              clear hw5 eL hbL
              have hB45 := hB.trans (hB5.mono hB.size)
              have f0 := p5.at 0 rfl
              have xb := HXB4.out.below hB45 HXB4.out.lt
              have f3 := xb.at 3 rfl
              have HCN := hidI (containsSwL S wr.heap.size (swIs i j) o2 d2 w5 (HTB4.out.below hB45).swaps (by omega) (fun k hk W hW => lawExt1_any S[k] i j q d wr.heap.size W (sT.1.below (hB5.trans (hW.mono hB5.size))) ((p5.below hW p5.lt).at 0 rfl) (p5.below hW p5.lt).lt _ rfl) true hhas)
              clear hhas sT
              go_wp2_with fail
              refine HCN.out.mono ?_
              rintro e w6 ⟨rfl, hB6⟩
              have hB46 := hidI (hB45.trans (hB6.mono hB45.size))
              clear f0 f3 xb p5 hB45 hB5 hB6 HCN
              go_wp2_with fail
              go_roundw
              case rel => exact ⟨k + 1, by omega, by go_num, hB46.out⟩
              case measure => simp [intOf]; omega
            · obtain rfl : k = (badL T G).length := by omega
              have hltI : ¬ ((badL T G).length : Int) < ((badL T G).length : Int) := by omega
              have xr := HX4.out.trans (hB.mono HX4.out.size)
              have tr := HT4.out.below hB HT4.out.lt
              have gr := HG4.out.below hB HG4.out.lt
              have xbr := HXB4.out.below hB HXB4.out.lt
              have HTR := hidI (HTB4.out.below hB)
              have HINR := hidI (HIN.out.below xr)
              have HGR := hidI (HG.out.below xr)
              have HLR := hidI (HL.out.below xr)
              have HTT := hidI (HT.out.below xr)
              clear hB HT4 HG4 HXB4 HTB4 HLL4 HIN HG HL HT
              have a0 := tr.at 0 rfl; have a1 := tr.at 1 rfl; have a2 := tr.at 2 rfl; have a3 := tr.at 3 rfl
              have y0 := xbr.at 0 rfl; have y1 := xbr.at 1 rfl; have y2 := xbr.at 2 rfl; have y3 := xbr.at 3 rfl
              have e0 := gr.at 0 rfl; have e1 := gr.at 1 rfl; have e2 := gr.at 2 rfl
              by_cases hz : (badL T G).length = 0
              · have hzb : (((badL T G).length : Int) == 0) = true := by rw [hz]; rfl
                have hnil : S = T.swaps := by
                  have e := HX.out.exl.nil (by
                    have := congrArg List.length HMAP.out
                    rw [List.length_map, hz] at this
                    exact List.length_eq_zero_iff.1 this.symm)
                  exact congrArg Tb.swaps e
                subst hnil
                have HSM := hidI (rlkSame_eq T o1 o2 p1 p2 d1 d2 c1 c2 wr HTR.out HINR.out)
                clear hz
                go_wp2_with fail
                refine HSM.out.mono ?_
                rintro e w6 ⟨rfl, hB6⟩
                have x6 := xr.trans (hB6.mono xr.size)
                (go_wp2_with fail; refine (lkAwake_any _).mono ?_; rintro e w99 ⟨rfl, hB99⟩; go_wp2; go_ret; exact ⟨rfl, x6.trans (hB99.mono (x6).size)⟩)
              · have hzb : (((badL T G).length : Int) == 0) = false := by
                  rw [beq_eq_false_iff_ne]; exact fun e => hz (by omega)
                have HCK := hidI (lkCheck_any (⟨T.q, T.n, T.base, S⟩ : Tb) o1 o2 d1 d2 G pg cg wr HTR.out HGR.out hGl HTT.out)
                have HAM := hidI HX.out.amb; have HRD := hidI HX.out.rd
                clear hz
                generalize chkL (⟨T.q, T.n, T.base, S⟩ : Tb) G = ck at *
                go_wp2_with fail
                refine HCK.out.mono ?_
                rintro e w6 ⟨rfl, hB6⟩
                have x6 := xr.trans (hB6.mono xr.size)
                have t6 := tr.below hB6 tr.lt
                have xb6 := xbr.below hB6 xbr.lt
                have HT6 := hidI (HTR.out.below hB6)
                have HL6 := hidI (HLR.out.below hB6)
                clear a0 a1 a2 a3 y0 y1 y2 y3 e0 e1 e2 tr gr xbr HTR HGR HLR HTT HINR HCK hB6 xr
                have y0 := xb6.at 0 rfl; have y1 := xb6.at 1 rfl; have y2 := xb6.at 2 rfl; have y3 := xb6.at 3 rfl
                by_cases hck : ck = 14
                · have hnil : S = T.swaps := congrArg Tb.swaps (HAM.out hck)
                  have hcb : (ck == 14) = true := by rw [hck]; rfl
                  subst hnil
                  have a3 := t6.at 3 rfl
                  have hss : (((T.swaps.length : Nat) : Int) == (T.swaps.length : Int)) = true := by simp
                  clear hck HAM HRD
                  (go_wp2_with fail; refine (lkAwake_any _).mono ?_; rintro e w99 ⟨rfl, hB99⟩; go_wp2; go_ret; exact ⟨rfl, x6.trans (hB99.mono (x6).size)⟩)
                · have hcb : (ck == 14) = false := by simpa using hck
                  have hNb : (((T.base.length : Nat) : Int) == 0) = false := by rw [beq_eq_false_iff_ne]; omega
                  have hrd := HRD.out hck
                  have hpk := picks_ok (N := T.base.length) (by omega) l
                  have hpl : (picks T.base.length l).length ≤ 8 := by simp [picks]; omega
                  have HALL := hidI (rd_all (x := (⟨T.q, T.n, T.base, S⟩ : Tb)) HX.out.fmd hrd hpk (by omega))
                  have HSO := hidI (lkSome_any (⟨T.q, T.n, T.base, S⟩ : Tb) o1 o2 d1 d2 l pl cl w6 HL6.out (by omega) (show 0 < T.base.length by omega) (show T.base.length ≤ 9223372036854775807 by omega))
                  clear hck HAM HRD hrd hpk
                  have HXX : Hid ((⟨T.q, T.n, T.base, S⟩ : Tb).base.length = T.base.length) := rfl
                  generalize picks T.base.length l = L at *
                  clear HXX
                  go_wp2_with fail
                  refine HSO.out.mono ?_
                  rintro e w7 ⟨ps, cs, rfl, hs7, hcs, hB7⟩
                  have x7 := x6.trans (hB7.mono x6.size)
                  have xb7 := xb6.below hB7 xb6.lt
                  have HT7 := hidI (HT6.out.below hB7)
                  clear y0 y1 y2 y3 xb6 hB7 x6 HSO HT6 t6 HL6
                  have y0 := xb7.at 0 rfl; have y1 := xb7.at 1 rfl; have y2 := xb7.at 2 rfl; have y3 := xb7.at 3 rfl
                  have hwl := HALL.out.len
                  have HE := hidI HALL.out.enc; have HD := hidI HALL.out.dec
                  clear HALL
                  generalize encW (⟨T.q, T.n, T.base, S⟩ : Tb) L = WW at *
                  have HEN := hidI (lkEncode_r (⟨T.q, T.n, T.base, S⟩ : Tb) o1 o2 d1 d2 L ps cs w7 HT7.out hs7 (by omega) hcs WW 0 HE.out)
                  clear HE
                  go_wp2_with fail
                  refine HEN.out.mono ?_
                  rintro e w8 ⟨rfl, hB8⟩
                  have x8 := x7.trans (hB8.mono x7.size)
                  have hs8 := hs7.below hB8
                  have xb8 := xb7.below hB8 xb7.lt
                  have HT8 := hidI (HT7.out.below hB8)
                  clear y0 y1 y2 y3 xb7 hB8 x7 hs7 HT7 HEN
                  have y0 := xb8.at 0 rfl; have y1 := xb8.at 1 rfl; have y2 := xb8.at 2 rfl; have y3 := xb8.at 3 rfl
                  have HDC := hidI (lkDecode_any (⟨T.q, T.n, T.base, S⟩ : Tb) o1 o2 d1 d2 WW w8 HT8.out (by unfold maxLen; omega))
                  rw [HD.out] at HDC
                  go_wp2_with fail
                  refine HDC.out.mono ?_
                  rintro e w9 ⟨qd, dd, rfl, hs9, hB9⟩
                  have x9 := x8.trans (hB9.mono x8.size)
                  have hs9' := hs8.below hB9
                  have HEQ := equalI_any L L qd ps dd cs w9 hs9 hs9' (by omega) (by omega)
                  rw [decide_eq_true (rfl : L = L)] at HEQ
                  have HEQ := hidI HEQ
                  clear y0 y1 y2 y3 xb8 hB9 x8 HDC HD
                  go_wp2_with fail
                  refine HEQ.out.mono ?_
                  rintro e w10 ⟨rfl, hD10⟩
                  have x10 := x9.trans (hD10.below _)
                  (go_wp2_with fail; refine (lkAwake_any _).mono ?_; rintro e w99 ⟨rfl, hB99⟩; go_wp2; go_ret; exact ⟨rfl, x10.trans (hB99.mono (x10).size)⟩)
#print axioms lawExtended_any
end Go.Proofs.YtjpilmedlecdhaaGreatDoor
namespace Go.Proofs.YtjpilmedlecdhaaGreatDoor
open Go.Joins Go.ChangeShapes Go.WideShapes Go.ChangeAt Go.RowKit Go.Deep

set_option maxRecDepth 100000 in
theorem lookaheadExtended_lifted (os : Os) (started : os.Started) (H : Type) (enc : TypeId × Value → H) :
    ReturnsInHanded {} Tryz.checked os 4 .any (fun w args => (Rows.lookaheadExtendedSpec.pre enc Tryz.prog Tryz.f4 [] false w args ∧ laidMetH Tryz.prog Rows.lookaheadExtendedRow.laid w) ∧ sizedMet enc Tryz.prog Tryz.f4 (OpenSpec.ofChange Rows.lookaheadExtendedSpec) false w args)
      (Rows.lookaheadExtendedSpec.post enc Tryz.prog Tryz.f4 false true false false) := by
  refine returnsInHanded_of_change_and (C := Tryz.checked) (X := fun w _ => laidMetH Tryz.prog Rows.lookaheadExtendedRow.laid w) (fun _ _ _ hh h => h.of_heap hh) own started (by kernel_rfl) Tryz.func4
    (ChangeSpec.witness_shaped (enc := enc) (C := Tryz.checked) (os := os) (X := fun w _ => laidMetH Tryz.prog Rows.lookaheadExtendedRow.laid w) false (World.doorLaid Tryz.prog 24 os) #[.agg #[.int .i64 0, .int .i64 0, .slice none 0 0, .slice none 0 0], .agg #[.int .i64 0, .int .i64 0, .slice none 0 0], .slice none 0 0] 8 rfl (World.shaped_of_RefB (by kernel_rfl) (by kernel_rfl)) (by kernel_rfl) (by kernel_rfl) (by kernel_rfl) (door_metN os _)) ?_
  intro W base args ds gs before hval0 hW _ _ hL _
  have hval : ∀ (j : Nat) t v, Tryz.f4.params[j]? = some t → args[j]? = some v → Value.okWide Tryz.prog W .any base t v := hval0
  have hW' := hW
  obtain ⟨p, q, hA0, hV, rfl, hfz, hnd⟩ := hW
  have hA : DataW.TrodAll enc Tryz.prog W 0 (fun _ => true) true Tryz.f4.params.toList args.toList ds p := hA0
  rw [Tryz.params4] at hA hval
  obtain ⟨v0, v1, v2, d0, d1, d2, p0, p1, p2, rfl, rfl, rfl, h0, h1, h2⟩ := trodAll_three hA
  obtain ⟨rfl, rfl⟩ := trodVars_none hV
  have hlt : ∀ x ∈ p0 ++ (p1 ++ p2), x.block < W.heap.size := fun x hx => hW'.lt x (List.mem_append_left _ (by simpa using hx))
  obtain ⟨T0, q0, r0, c0, e0, rfl, hin0⟩ := table_in (hval 0 26 v0 rfl rfl) h0 (fun x hx => hlt x (by simp only [List.mem_append]; simp [hx]))
  obtain ⟨G1, q1, c1, rfl, s1, l1⟩ := graph_in (hval 1 30 v1 rfl rfl) h1 (fun x hx => hlt x (by simp only [List.mem_append]; simp [hx]))
  obtain ⟨a2, len2, cap2, rfl⟩ := okWide_slice Tryz.underlying22 (hval 2 22 v2 rfl rfl)
  obtain ⟨fuel2, hf2⟩ := h2
  simp only [Value.cells] at hf2
  obtain ⟨q2, l2, c2, he2, hl2, hll2, _⟩ := u8s_at hf2 (fun x hx => hlt x (by simp only [List.mem_append]; simp [hx]))
  rw [he2] at hval hW' ⊢
  refine (lawExtended_any T0 q0 r0 c0 e0 G1 q1 c1 l2 q2 c2 W hin0 s1 l1 hl2 hll2 (pow10_in hL)).mono fun e W' ⟨he, hB⟩ => ?_
  subst he
  refine ⟨_, rfl, law_post hW' rfl (by kernel_rfl) ?_ rfl rfl rfl hB⟩
  rw [Tryz.params4]
  intro t ht
  simp only [List.mem_cons, List.not_mem_nil, or_false] at ht
  rcases ht with rfl | rfl | rfl
  · exact readLook
  · exact readGraph
  · exact readU8s

theorem lookaheadExtended_holds : Rows.LookaheadExtendedSaid :=
  OpenClaim.holds_of_wide 4 Tryz.f4 rfl rfl rfl rfl rfl rfl rfl ⟨rfl, rfl, rfl, rfl, rfl⟩ rfl rfl rfl rfl rfl (by kernel_rfl) Tryz.func4 (by kernel_rfl)
    (of_decide_eq_true (by kernel_rfl)) (by unfold Func.isWrapper; rw [if_neg (of_decide_eq_false (by kernel_rfl))]; exact ⟨rfl, rfl⟩)
    (fun os started H enc _ => lookaheadExtended_lifted os started H enc)

theorem lookaheadExtended_card : Rows.LookaheadExtendedCardSaid :=
  Claim7.holds_tied_plain_at .later [] [.data, .data, .data] true _ false
    lookaheadExtended_holds (fun _ h => by cases h) (by kernel_rfl) (fun _ h => by cases h) lookaheadExtended_row_tie rfl ⟨rfl, rfl⟩ (by kernel_rfl) rfl
    (fun f fn hf hfn => by
      obtain rfl : f = 4 := Option.some.inj ((show Tryz.prog.funcNamed "groove/groovelaw32.LookaheadExtended" = some 4 by kernel_rfl).symm.trans hf) |>.symm
      obtain rfl : fn = Tryz.f4 := (Option.some.inj (Tryz.func4.symm.trans hfn)).symm
      exact ⟨by kernel_rfl, fun j t ht => by
        rw [Tryz.params4] at ht
        rcases j with _ | _ | _ | j
        · obtain rfl : t = 26 := by simpa using ht.symm
          exact (show Tryz.prog.wantsStandIn 26 = false by kernel_rfl)
        · obtain rfl : t = 30 := by simpa using ht.symm
          exact (show Tryz.prog.wantsStandIn 30 = false by kernel_rfl)
        · obtain rfl : t = 22 := by simpa using ht.symm
          exact (show Tryz.prog.wantsStandIn 22 = false by kernel_rfl)
        · simp at ht⟩)
    (by kernel_rfl)
#print axioms lookaheadExtended_card
end Go.Proofs.YtjpilmedlecdhaaGreatDoor
