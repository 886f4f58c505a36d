/-
  ForbiddenBack: for every number and list of words the law returns true, and its arguments read as they did; the tables of the library that its row lists are tied to the program's text.
-/
import Derived.Test.YtaclgmhinljkbaaGreatDoorZpp
import Derived.Test.YtaclgmhinljkbaaGreatDoorZpn
import Derived.Test.YtaclgmhinljkbaaGreatDoorZpo
import Derived.Test.YtaclgmhinljkbaaGreatDoorZpl
import Derived.Test.YtaclgmhinljkbaaGreatDoorZpi
import Derived.Test.YtaclgmhinljkbaaGreatDoorRows
import Derived.ProofKit
import Derived.OpenShut
import Derived.ShutString
import Derived.SliceStrings
import Derived.HandedShaped
import Derived.Test.YtaclgmhinljkbaaGreatDoorTie
import Derived.Test.YtaclgmhinljkbaaGreatDoorCards
import Derived.Lib.SmallJoins
import Derived.Deep.Slices
import Derived.Handed
import Derived.LaidMore
import Derived.SevenTiedAt
import Derived.Carry
set_option linter.unusedVariables false
set_option linter.unusedSimpArgs false
namespace Go.Proofs.YtaclgmhinljkbaaGreatDoor
open Go.RowKit Go.Sort Go.Shelf Go.Lib

theorem eqlP (a b c d : Int) (w : World) : (binOp .eql 104 (.agg #[.int .i64 a, .int .i64 b]) (.agg #[.int .i64 c, .int .i64 d])).run Tryz.prog w = .ok (.bool (decide ((a, b) = (c, d)))) w := by
  have hS : Tryz.prog.underlying 104 = some (.struct (Tryz.prog.fieldsOf 104)) := by kernel_rfl
  have hp : Tryz.prog.stoodInHeld 104 = false := by kernel_rfl
  have hr : (Op.eqFields 9999 #[.int .i64 a, .int .i64 b] #[.int .i64 c, .int .i64 d] (Tryz.prog.fieldsOf 104).toList).run Tryz.prog w = .ok (decide ((a, b) = (c, d))) w := by
    simp only [Program.fieldsOf, Tryz.underlying104]
    have u3 := Tryz.underlying3
    have a3 := Tryz.isAgg3
    have z3 := Tryz.sizeOf3
    go_simp
    by_cases h1 : a = c <;> by_cases h2 : b = d <;> simp [h1, h2]
  rw [run_eql_struct, show (10000 : Nat) = 9999 + 1 from rfl, run_equalIn_agg w 9999 104 _ _ hS hp, hr]
  rfl
theorem sbA_q {G : Gr} (h : (sbA G).2.2 = 0) : (sbA G).1.q = G.q := by
  unfold sbA at h ⊢
  by_cases hc : chkG G = 0
  · rw [if_pos hc] at h ⊢
    by_cases hn : G.n = 0
    · rw [if_pos hn]
    · rw [if_neg hn] at h ⊢
      cases hg : sbGo G 66 0 ([upto G.n.toNat], []) with
      | none => rw [hg] at h; cases h
      | some r => rfl
  · rw [if_neg hc] at h; cases h
theorem mx2_max (x y : Int) : mx2 x y = max x y := by unfold mx2; split <;> omega
/-- The table of a graph of sets, in memory. -/
def TbAt (G : Gr) (L base : Nat) (v : Value) (W : World) : Prop :=
  ∃ B bs, v = .slice (some ⟨B, 0, none⟩) (sbA G).1.n.toNat (sbA G).1.n.toNat ∧ Tab W base B (sbA G).1.n.toNat L bs (fun s a => tgt (sbA G).1.es s a)
theorem TbAt.below {G : Gr} {L base : Nat} {v : Value} {W W' : World} (h : TbAt G L base v W) (hB : RowKit.Below W.heap.size W W') : TbAt G L base v W' := by
  obtain ⟨B, bs, e, hT⟩ := h
  exact ⟨B, bs, e, hT.later hB⟩
theorem TbAt.keep {G : Gr} {L base : Nat} {v : Value} {W W' : World} (h : TbAt G L base v W) (h1 : KX0 34 W W') (h2 : KX0 3 W W') : TbAt G L base v W' := by
  obtain ⟨B, bs, e, hT⟩ := h
  exact ⟨B, bs, e, ⟨h1.vrow hT.hd, fun s hs => h2.vrow (hT.row s hs), hT.inj, hT.lo, hT.ne⟩⟩
theorem srA_arg {G H : Gr} {is : Int × Int → Bool} (h : chkG G ≠ 0 ∨ chkG H ≠ 0) : srA G H is = ([], false, 1) := if_pos h
theorem srA_e1 {G H : Gr} {is : Int × Int → Bool} (h : chkG G = 0) (h' : chkG H = 0) (h1 : (sbA G).2.2 ≠ 0) : srA G H is = ([], false, (sbA G).2.2) := by
  unfold srA; rw [if_neg (by simp [h, h']), if_pos h1]
theorem srA_e2 {G H : Gr} {is : Int × Int → Bool} (h : chkG G = 0) (h' : chkG H = 0) (h1 : (sbA G).2.2 = 0) (h2 : (sbA H).2.2 ≠ 0) : srA G H is = ([], false, (sbA H).2.2) := by
  unfold srA; rw [if_neg (by simp [h, h']), if_neg (by simp [h1]), if_pos h2]
theorem srA_no {G H : Gr} {is : Int × Int → Bool} (h : chkG G = 0) (h' : chkG H = 0) (h1 : (sbA G).2.2 = 0) (h2 : (sbA H).2.2 = 0) (h3 : st0 G = -1 ∧ st0 H = -1) : srA G H is = ([], true, 0) := by
  unfold srA; rw [if_neg (by simp [h, h']), if_neg (by simp [h1]), if_neg (by simp [h2]), if_pos h3]
theorem srA_go {G H : Gr} {is : Int × Int → Bool} (h : chkG G = 0) (h' : chkG H = 0) (h1 : (sbA G).2.2 = 0) (h2 : (sbA H).2.2 = 0) (h3 : ¬ (st0 G = -1 ∧ st0 H = -1)) : srA G H is = ((fwA (srO G H is)).1, !(fwA (srO G H is)).2, 0) := by
  unfold srA; rw [if_neg (by simp [h, h']), if_neg (by simp [h1]), if_neg (by simp [h2]), if_neg h3]

set_option maxRecDepth 100000 in
set_option maxHeartbeats 4000000 in
theorem msearch_any (G H : Gr) (p p' : Option Addr) (c c' : Nat) (isb : Int × Int → Bool) (gi : Nat) (lb : Array Value) (w : World) (hin : Sg 3 w edE p G.es) (hin' : Sg 3 w edE p' H.es) (hl : G.es.length ≤ 9223372036854775807) (hl' : H.es.length ≤ 9223372036854775807)
    (eg : ∀ args w, (callFunc gi args).run Tryz.prog w = .ok (.enter gi args) w) (hi : ∀ n m W, IsAt n m isb gi lb W) :
    Calls Tryz.prog 28 #[(.agg #[.int .i64 G.q, .int .i64 G.n, .slice p G.es.length c]), (.agg #[.int .i64 H.q, .int .i64 H.n, .slice p' H.es.length c']), .func (.func gi) #[] lb] w (RetSp (srA G H isb).1 (srA G H isb).2.1 (srA G H isb).2.2 w) := by
  obtain ⟨w0, hw0⟩ : ∃ w0, w0 = (w.alloc (.cells #[.int .i64 G.q, .int .i64 G.n, .slice p G.es.length c] 29)).alloc (.cells #[.int .i64 H.q, .int .i64 H.n, .slice p' H.es.length c'] 29) := ⟨_, rfl⟩
  have b0 : VRow w0 w.heap.size 29 [.int .i64 G.q, .int .i64 G.n, .slice p G.es.length c] := by subst hw0; exact (VRow.new w _ _).alloc _
  have b1 : VRow w0 (w.heap.size + 1) 29 [.int .i64 H.q, .int .i64 H.n, .slice p' H.es.length c'] := by subst hw0; exact VRow.new1 w _ _ _
  have hB0 : RowKit.Below w.heap.size w w0 := by subst hw0; exact ((RowKit.Below.refl _ _).alloc (Nat.le_refl _) _).alloc (by simp) _
  have HIN := hidI (hin.below hB0); have HIN' := hidI (hin'.below hB0)
  have g0 := b0.at 0 rfl; have g1 := b0.at 1 rfl; have g2 := b0.at 2 rfl
  obtain ⟨r, hr⟩ : ∃ r, chkG G = r := ⟨_, rfl⟩
  obtain ⟨r', hr'⟩ : ∃ r', chkG H = r' := ⟨_, rfl⟩
  have HC := hidI (gCheck_r G p c w0 r hr HIN.out hl)
  have HC' := hidI (fun W (hW : RowKit.Below w0.heap.size w0 W) => gCheck_r H p' c' W r' hr' (HIN'.out.below hW) hl')
  clear hin hin'
  by_cases hr0 : r = 0
  · subst hr0
    go_enter Tryz.func28, Tryz.ntmps28
    go_wp2_with fail
    rw [← hw0]
    clear hw0
    refine HC.out.mono ?_
    rintro e w1 ⟨rfl, hB1⟩
    have c0 := b0.below hB1 b0.lt
    have c1 := b1.below hB1 b1.lt
    clear g0 g1 g2
    have h0 := c1.at 0 rfl; have h1 := c1.at 1 rfl; have h2 := c1.at 2 rfl
    go_wp2_with fail
    refine (HC'.out w1 hB1).mono ?_
    rintro e w2 ⟨rfl, hB2⟩
    have hB02 := hB1.trans (hB2.mono hB1.size)
    have x2 := hB0.trans (hB02.mono hB0.size)
    clear h0 h1 h2 hB2
    by_cases hr0' : r' = 0
    · subst hr0'
      have HR := hidI hr; have HR' := hidI hr'
      clear hr hr'
      have d0 := b0.below hB02 b0.lt
      have d1 := b1.below hB02 b1.lt
      clear c0 c1
      have g0 := d0.at 0 rfl; have g1 := d0.at 1 rfl; have g2 := d0.at 2 rfl
      have h0 := d1.at 0 rfl; have h1 := d1.at 1 rfl; have h2 := d1.at 2 rfl
      obtain ⟨w3, hw3⟩ : ∃ w3, w3 = (w2.alloc (.cells #[.slice none 0 0, .slice none 0 0] 102)).alloc (.cells #[.int .i64 (-1), .int .i64 (-1)] 104) := ⟨_, rfl⟩
      have rt : VRow w3 w2.heap.size 102 [.slice none 0 0, .slice none 0 0] := by subst hw3; exact (VRow.new w2 _ _).alloc _
      have rp : VRow w3 (w2.heap.size + 1) 104 [.int .i64 (-1), .int .i64 (-1)] := by subst hw3; exact VRow.new1 w2 _ _ _
      have hB23 : RowKit.Below w2.heap.size w2 w3 := by subst hw3; exact ((RowKit.Below.refl _ _).alloc (Nat.le_refl _) _).alloc (by simp) _
      go_upto_region 5 with fail
      rw [← hw3]
      clear hw3
      have hB03 := hB02.trans (hB23.mono hB02.size)
      obtain ⟨bt, hbt⟩ : ∃ bt, bt = w2.heap.size := ⟨_, rfl⟩
      obtain ⟨bp, hbp⟩ : ∃ bp, bp = w2.heap.size + 1 := ⟨_, rfl⟩
      have hbt0 : w0.heap.size ≤ bt := by have := hB02.size; omega
      have hbp0 : w0.heap.size ≤ bp := by have := hB02.size; omega
      rw [← hbt] at rt
      rw [← hbp] at rp
      rw [← hbp, ← hbt]
      clear hbt hbp g0 g1 g2 h0 h1 h2
      have e0 := d0.below hB23 d0.lt
      have e1 := d1.below hB23 d1.lt
      have g0 := e0.at 0 rfl; have g1 := e0.at 1 rfl; have g2 := e0.at 2 rfl
      have h0 := e1.at 0 rfl; have h1 := e1.at 1 rfl; have h2 := e1.at 2 rfl
      have hvG := chkG_ok.1 HR.out
      have hvH := chkG_ok.1 HR'.out
      obtain ⟨L, hL⟩ : ∃ L : Nat, mx2 G.q H.q = L := ⟨(mx2 G.q H.q).toNat, by have := hvG.q1; have := (mx2_max G.q H.q); omega⟩
      have hmx : ∀ w, (Builtin.max_ #[3, 3] 3 #[.int .i64 G.q, .int .i64 H.q]).run Tryz.prog w = .ok (.int .i64 L) w := fun w => by rw [run_mx2, hL]
      have HLm : Hid ((L : Int) = max G.q H.q) := by rw [Hid, ← hL, mx2_max]
      have hL256 : L ≤ 256 := by have := HLm.out; have := hvG.q2; have := hvH.q2; omega
      obtain ⟨w4, hw4⟩ : ∃ w4, w4 = w3.alloc (.cells #[.int .i64 G.q, .int .i64 G.n, .slice p G.es.length c, .int .i64 H.q, .int .i64 H.n, .slice p' H.es.length c'] 29) := ⟨_, rfl⟩
      have rl : VRow w4 w3.heap.size 29 [.int .i64 G.q, .int .i64 G.n, .slice p G.es.length c, .int .i64 H.q, .int .i64 H.n, .slice p' H.es.length c'] := by subst hw4; exact VRow.new w3 _ _
      have hB34 : RowKit.Below w3.heap.size w3 w4 := by subst hw4; exact (RowKit.Below.refl _ _).alloc (Nat.le_refl _) _
      have hB04 := hB03.trans (hB34.mono hB03.size)
      have rt4 := rt.below hB34 rt.lt
      have rp4 := rp.below hB34 rp.lt
      obtain ⟨bl, hbl⟩ : ∃ bl, bl = w3.heap.size := ⟨_, rfl⟩
      have HW4 := hidI hw4; have HBL := hidI hbl
      have hblt : bt ≠ bl := by have := rt.lt; omega
      have hblp : bp ≠ bl := by have := rp.lt; omega
      have hbtp : bt ≠ bp := fun e => by subst e; have h1 : w3.heap[bt]? = _ := rt; have h2 : w3.heap[bt]? = _ := rp; rw [h1] at h2; cases h2
      rw [← hbl] at rl
      clear hvG hvH hL hw4 hbl rt rp hB34 hB23 hB03
      go_wp2
      rw [← HW4.out, ← HBL.out]
      clear HW4 HBL hmx g0 g1 g2 h0 h1 h2 e0 e1 d0 d1
      go_loopw [37] (fun iv wr => ∃ (k : Nat) (v0 v1 : Value) (s0 s1 : Int), k ≤ 2 ∧ iv = .int .i64 k ∧ VRow wr bt 102 [v0, v1] ∧ VRow wr bp 104 [.int .i64 s0, .int .i64 s1] ∧ (0 < k → (sbA G).2.2 = 0 ∧ TbAt G L w0.heap.size v0 wr ∧ s0 = st0 G) ∧ (k = 0 → s0 = -1) ∧ (1 < k → (sbA H).2.2 = 0 ∧ TbAt H L w0.heap.size v1 wr ∧ s1 = st0 H) ∧ (k ≤ 1 → s1 = -1) ∧ VRow wr bl 29 [.int .i64 G.q, .int .i64 G.n, .slice p G.es.length c, .int .i64 H.q, .int .i64 H.n, .slice p' H.es.length c'] ∧ RowKit.Below w0.heap.size w0 wr) (fun iv _ => 2 - (RowKit.intOf iv).toNat)
      case atStart => exact ⟨0, _, _, -1, -1, by omega, rfl, rt4, rp4, (fun h => by omega), fun _ => rfl, (fun h => by omega), fun _ => rfl, rl, hB04⟩
      case round =>
        clear rt4 rp4 rl hB04
        obtain ⟨k, v0, v1, s0, s1, hk, rfl, rt, rp, q0, q0', q1, q1', rl, hB⟩ := hrel
        have hbig : ∀ x : Nat, x ≤ 2 → (x = 0 ∨ x = 1 ∨ x = 2) := fun x h => by omega
        rcases hbig k hk with rfl | rfl | rfl
        · have l0 := rl.at 0 rfl; have l1 := rl.at 1 rfl; have l2 := rl.at 2 rfl
          obtain ⟨wa, hwa⟩ : ∃ wa, wa = wr.alloc (.cells #[.int .i64 G.q, .int .i64 G.n, .slice p G.es.length c] 29) := ⟨_, rfl⟩
          have ra : VRow wa wr.heap.size 29 [.int .i64 G.q, .int .i64 G.n, .slice p G.es.length c] := by subst hwa; exact VRow.new wr _ _
          have hBa : RowKit.Below wr.heap.size wr wa := by subst hwa; exact (RowKit.Below.refl _ _).alloc (Nat.le_refl _) _
          have hB0a := hB.trans (hBa.mono hB.size)
          have HSB := hidI (sBuild_any G p c wa (HIN.out.below hB0a) hl)
          obtain ⟨⟨⟨Q1, N1, E1⟩, S1, k1⟩, hsb⟩ : ∃ sb, sb = sbA G := ⟨_, rfl⟩
          have HSX := hidI hsb.symm
          rw [← hsb] at HSB
          clear hsb
          have HWA := hidI hwa
          have m0 := ra.at 0 rfl; have m1 := ra.at 1 rfl; have m2 := ra.at 2 rfl
          clear hwa
          go_upto_region 9 with fail
          rw [← HWA.out]
          clear HWA l0 l1 l2
          go_wp2_with fail
          refine HSB.out.mono ?_
          rintro e wb ⟨pe, ce, pz, mz, cz, rfl, hob, hBb⟩
          change wb.ownsRow wa.heap.size 42 3 (.slice pe E1.length ce) E1.length (cat E1) at hob
          simp only
          by_cases hk1 : k1 = 0
          · subst hk1
            have hok : (sbA G).2.2 = 0 := by rw [HSX.out]
            have hvu := sbA_ok hok
            have hqx := sbA_q hok
            rw [HSX.out] at hvu hqx
            obtain ⟨hv1, hu1⟩ := hvu
            change Q1 = G.q at hqx
            have HOK := hidI hok
            obtain ⟨wc, hwc⟩ : ∃ wc, wc = wb.alloc (.cells #[.int .i64 Q1, .int .i64 N1, .slice pe E1.length ce] 29) := ⟨_, rfl⟩
            have rc : VRow wc wb.heap.size 29 [.int .i64 Q1, .int .i64 N1, .slice pe E1.length ce] := by subst hwc; exact VRow.new wb _ _
            have hBc : RowKit.Below wb.heap.size wb wc := by subst hwc; exact (RowKit.Below.refl _ _).alloc (Nat.le_refl _) _
            have hBwc : RowKit.Below wr.heap.size wr wc := hBa.trans ((hBb.trans (hBc.mono hBb.size)).mono hBa.size)
            obtain ⟨pe', ce', he', hsg, _, _⟩ := own_sg hob
            cases he'
            have HOF : Hid (Calls Tryz.prog 62 #[.agg #[.int .i64 Q1, .int .i64 N1, .slice pe E1.length ce], .int .i64 L] wc (RetTab N1.toNat L (fun s a => tgt E1 s a) wc)) := hidI (mof_any ⟨Q1, N1, E1⟩ pe ce L wc (hsg.below hBc) hv1 hu1 (by have := HLm.out; show Q1 ≤ L; omega) hL256)
            have hn1 : 0 ≤ N1 := hv1.n1
            have HWC := hidI hwc
            have n0 := rc.at 0 rfl; have n1' := rc.at 1 rfl; have n2 := rc.at 2 rfl
            have HQX := hidI hqx
            clear hwc hv1 hu1 hqx hok m0 m1 m2 hsg hob HSB
            go_upto_region 12 with fail
            rw [← HWC.out]
            clear HWC
            go_wp2_with fail
            refine HOF.out.mono ?_
            rintro e wd ⟨B1, bs1, rfl, hT, hBd⟩
            have hBwd : RowKit.Below wr.heap.size wr wd := hBwc.trans (hBd.mono hBwc.size)
            have rtd := rt.below hBwd rt.lt
            have rpd := rp.below hBwd rp.lt
            have rld := rl.below hBwd rl.lt
            have rcd := rc.below hBd rc.lt
            have hB0d := hB.trans (hBwd.mono hB.size)
            have rt2 := rtd.set (i := 0) (.slice (some ⟨B1, 0, none⟩) N1.toNat N1.toNat)
            have t0 := rtd.at 0 rfl; have tf := rtd.frozen 0
            have kd : ∀ t, t ≠ 102 → KX0 t wd (wd.setCell ⟨bt, 0, none⟩ (.slice (some ⟨B1, 0, none⟩) N1.toNat N1.toNat)) := fun t ht => KX0.set rtd 0 _ ht
            have rp2 := (kd _ (by decide)).vrow rpd
            have rl2 := (kd _ (by decide)).vrow rld
            have rc2 := (kd _ (by decide)).vrow rcd
            have hB2 := hB0d.setCell (p := ⟨bt, 0, none⟩) hbt0 (.slice (some ⟨B1, 0, none⟩) N1.toNat N1.toNat)
            have HT2 : Hid (TbAt G L w0.heap.size (.slice (some ⟨B1, 0, none⟩) N1.toNat N1.toNat) (wd.setCell ⟨bt, 0, none⟩ (.slice (some ⟨B1, 0, none⟩) N1.toNat N1.toNat))) := by
              refine TbAt.keep ?_ (kd _ (by decide)) (kd _ (by decide))
              unfold TbAt
              rw [HSX.out]
              exact ⟨B1, bs1, rfl, hT.mono (Nat.le_trans hB.size hBwc.size)⟩
            have HST : Hid (st0 G = if 0 < N1 then 0 else -1) := by unfold Hid st0; rw [HSX.out]
            obtain rfl := q0' (by trivial)
            obtain rfl := q1' (by omega)
            clear n0 n1' n2 rtd rpd rld rcd hT rt rp rl hBa hBwc hBd hBb
            go_upto_region 13 with fail
            generalize wd.setCell ⟨bt, 0, none⟩ (.slice (some ⟨B1, 0, none⟩) N1.toNat N1.toNat) = we at *
            clear t0 tf
            have n0 := rc2.at 1 rfl
            have u0 := rp2.at 0 rfl; have u1 := rp2.at 1 rfl; have uf0 := rp2.frozen 0; have uf1 := rp2.frozen 1
            by_cases hpos : 0 < N1
            · have HS0 : Hid (st0 G = 0) := by rw [Hid, HST.out, if_pos hpos]
              go_wp2
              go_roundw
              case rel =>
                have rp3 := rp2.set (i := 0) (.int .i64 0)
                have ke : ∀ t, t ≠ 104 → KX0 t we (we.setCell ⟨bp, 0, none⟩ (.int .i64 0)) := fun t ht => KX0.set rp2 0 _ ht
                exact ⟨1, _, _, 0, -1, by omega, rfl, (ke _ (by decide)).vrow rt2, rp3, (fun _ => ⟨HOK.out, (HT2.out.keep (ke _ (by decide)) (ke _ (by decide))), HS0.out.symm⟩), (fun h => by omega), (fun h => by omega), (fun _ => rfl), (ke _ (by decide)).vrow rl2, (hB2.setCell (p := ⟨bp, 0, none⟩) hbp0 _)⟩
              case measure => simp [RowKit.intOf]
            · have HS0 : Hid (st0 G = -1) := by rw [Hid, HST.out, if_neg hpos]
              go_wp2
              go_roundw
              case rel => exact ⟨1, _, _, -1, -1, by omega, rfl, rt2, rp2, (fun _ => ⟨HOK.out, (HT2.out), HS0.out.symm⟩), (fun h => by omega), (fun h => by omega), (fun _ => rfl), rl2, hB2⟩
              case measure => simp [RowKit.intOf]
          · have HK : Hid (srA G H isb = ([], false, k1)) := by
              rw [Hid, srA_e1 HR.out HR'.out (by rw [HSX.out]; exact hk1), HSX.out]
            have hkb : (k1 == 0) = false := by simpa using hk1
            have hkc : (k1 != 0) = true := by simpa using hk1
            clear hk1 m0 m1 m2
            go_wp2
            go_ret3
            have xb := hB0.trans ((hB0a.trans (hBb.mono hB0a.size)).mono hB0.size)
            exact RetSp.of (l := []) HK.out (Sl.nil _ _ _) (xb.alloc xb.size _)
        · have l0 := rl.at 3 rfl; have l1 := rl.at 4 rfl; have l2 := rl.at 5 rfl
          obtain ⟨wa, hwa⟩ : ∃ wa, wa = wr.alloc (.cells #[.int .i64 H.q, .int .i64 H.n, .slice p' H.es.length c'] 29) := ⟨_, rfl⟩
          have ra : VRow wa wr.heap.size 29 [.int .i64 H.q, .int .i64 H.n, .slice p' H.es.length c'] := by subst hwa; exact VRow.new wr _ _
          have hBa : RowKit.Below wr.heap.size wr wa := by subst hwa; exact (RowKit.Below.refl _ _).alloc (Nat.le_refl _) _
          have hB0a := hB.trans (hBa.mono hB.size)
          have HSB := hidI (sBuild_any H p' c' wa (HIN'.out.below hB0a) hl')
          obtain ⟨⟨⟨Q1, N1, E1⟩, S1, k1⟩, hsb⟩ : ∃ sb, sb = sbA H := ⟨_, rfl⟩
          have HSX := hidI hsb.symm
          rw [← hsb] at HSB
          clear hsb
          have HWA := hidI hwa
          have m0 := ra.at 0 rfl; have m1 := ra.at 1 rfl; have m2 := ra.at 2 rfl
          clear hwa
          go_upto_region 9 with fail
          rw [← HWA.out]
          clear HWA l0 l1 l2
          go_wp2_with fail
          refine HSB.out.mono ?_
          rintro e wb ⟨pe, ce, pz, mz, cz, rfl, hob, hBb⟩
          change wb.ownsRow wa.heap.size 42 3 (.slice pe E1.length ce) E1.length (cat E1) at hob
          simp only
          by_cases hk1 : k1 = 0
          · subst hk1
            have hok : (sbA H).2.2 = 0 := by rw [HSX.out]
            have hvu := sbA_ok hok
            have hqx := sbA_q hok
            rw [HSX.out] at hvu hqx
            obtain ⟨hv1, hu1⟩ := hvu
            change Q1 = H.q at hqx
            have HOK := hidI hok
            obtain ⟨wc, hwc⟩ : ∃ wc, wc = wb.alloc (.cells #[.int .i64 Q1, .int .i64 N1, .slice pe E1.length ce] 29) := ⟨_, rfl⟩
            have rc : VRow wc wb.heap.size 29 [.int .i64 Q1, .int .i64 N1, .slice pe E1.length ce] := by subst hwc; exact VRow.new wb _ _
            have hBc : RowKit.Below wb.heap.size wb wc := by subst hwc; exact (RowKit.Below.refl _ _).alloc (Nat.le_refl _) _
            have hBwc : RowKit.Below wr.heap.size wr wc := hBa.trans ((hBb.trans (hBc.mono hBb.size)).mono hBa.size)
            obtain ⟨pe', ce', he', hsg, _, _⟩ := own_sg hob
            cases he'
            have HOF : Hid (Calls Tryz.prog 62 #[.agg #[.int .i64 Q1, .int .i64 N1, .slice pe E1.length ce], .int .i64 L] wc (RetTab N1.toNat L (fun s a => tgt E1 s a) wc)) := hidI (mof_any ⟨Q1, N1, E1⟩ pe ce L wc (hsg.below hBc) hv1 hu1 (by have := HLm.out; show Q1 ≤ L; omega) hL256)
            have hn1 : 0 ≤ N1 := hv1.n1
            have HWC := hidI hwc
            have n0 := rc.at 0 rfl; have n1' := rc.at 1 rfl; have n2 := rc.at 2 rfl
            have HQX := hidI hqx
            clear hwc hv1 hu1 hqx hok m0 m1 m2 hsg hob HSB
            go_upto_region 12 with fail
            rw [← HWC.out]
            clear HWC
            go_wp2_with fail
            refine HOF.out.mono ?_
            rintro e wd ⟨B1, bs1, rfl, hT, hBd⟩
            have hBwd : RowKit.Below wr.heap.size wr wd := hBwc.trans (hBd.mono hBwc.size)
            have rtd := rt.below hBwd rt.lt
            have rpd := rp.below hBwd rp.lt
            have rld := rl.below hBwd rl.lt
            have rcd := rc.below hBd rc.lt
            have hB0d := hB.trans (hBwd.mono hB.size)
            have rt2 := rtd.set (i := 1) (.slice (some ⟨B1, 0, none⟩) N1.toNat N1.toNat)
            have t0 := rtd.at 1 rfl; have tf := rtd.frozen 1
            have kd : ∀ t, t ≠ 102 → KX0 t wd (wd.setCell ⟨bt, 1, none⟩ (.slice (some ⟨B1, 0, none⟩) N1.toNat N1.toNat)) := fun t ht => KX0.set rtd 1 _ ht
            have rp2 := (kd _ (by decide)).vrow rpd
            have rl2 := (kd _ (by decide)).vrow rld
            have rc2 := (kd _ (by decide)).vrow rcd
            have hB2 := hB0d.setCell (p := ⟨bt, 1, none⟩) hbt0 (.slice (some ⟨B1, 0, none⟩) N1.toNat N1.toNat)
            have HT2 : Hid (TbAt H L w0.heap.size (.slice (some ⟨B1, 0, none⟩) N1.toNat N1.toNat) (wd.setCell ⟨bt, 1, none⟩ (.slice (some ⟨B1, 0, none⟩) N1.toNat N1.toNat))) := by
              refine TbAt.keep ?_ (kd _ (by decide)) (kd _ (by decide))
              unfold TbAt
              rw [HSX.out]
              exact ⟨B1, bs1, rfl, hT.mono (Nat.le_trans hB.size hBwc.size)⟩
            have HST : Hid (st0 H = if 0 < N1 then 0 else -1) := by unfold Hid st0; rw [HSX.out]
            obtain ⟨hg0, htg, rfl⟩ := q0 (by omega)
            obtain rfl := q1' (by omega)
            have HG0 := hidI hg0
            have HTG := hidI ((htg.below hBwd).keep (kd _ (by decide)) (kd _ (by decide)))
            clear hg0 htg
            clear n0 n1' n2 rtd rpd rld rcd hT rt rp rl hBa hBwc hBd hBb
            go_upto_region 13 with fail
            generalize wd.setCell ⟨bt, 1, none⟩ (.slice (some ⟨B1, 0, none⟩) N1.toNat N1.toNat) = we at *
            clear t0 tf
            have n0 := rc2.at 1 rfl
            have u0 := rp2.at 0 rfl; have u1 := rp2.at 1 rfl; have uf0 := rp2.frozen 0; have uf1 := rp2.frozen 1
            by_cases hpos : 0 < N1
            · have HS0 : Hid (st0 H = 0) := by rw [Hid, HST.out, if_pos hpos]
              go_wp2
              go_roundw
              case rel =>
                have rp3 := rp2.set (i := 1) (.int .i64 0)
                have ke : ∀ t, t ≠ 104 → KX0 t we (we.setCell ⟨bp, 1, none⟩ (.int .i64 0)) := fun t ht => KX0.set rp2 1 _ ht
                exact ⟨2, _, _, st0 G, 0, by omega, rfl, (ke _ (by decide)).vrow rt2, rp3, (fun _ => ⟨HG0.out, (HTG.out.keep (ke _ (by decide)) (ke _ (by decide))), rfl⟩), (fun h => by omega), (fun _ => ⟨HOK.out, (HT2.out.keep (ke _ (by decide)) (ke _ (by decide))), HS0.out.symm⟩), (fun h => by omega), (ke _ (by decide)).vrow rl2, (hB2.setCell (p := ⟨bp, 1, none⟩) hbp0 _)⟩
              case measure => simp [RowKit.intOf]
            · have HS0 : Hid (st0 H = -1) := by rw [Hid, HST.out, if_neg hpos]
              go_wp2
              go_roundw
              case rel => exact ⟨2, _, _, st0 G, -1, by omega, rfl, rt2, rp2, (fun _ => ⟨HG0.out, (HTG.out), rfl⟩), (fun h => by omega), (fun _ => ⟨HOK.out, (HT2.out), HS0.out.symm⟩), (fun h => by omega), rl2, hB2⟩
              case measure => simp [RowKit.intOf]
          · have HK : Hid (srA G H isb = ([], false, k1)) := by
              rw [Hid, srA_e2 HR.out HR'.out (q0 (by omega)).1 (by rw [HSX.out]; exact hk1), HSX.out]
            have hkb : (k1 == 0) = false := by simpa using hk1
            have hkc : (k1 != 0) = true := by simpa using hk1
            clear hk1 m0 m1 m2
            go_wp2
            go_ret3
            have xb := hB0.trans ((hB0a.trans (hBb.mono hB0a.size)).mono hB0.size)
            exact RetSp.of (l := []) HK.out (Sl.nil _ _ _) (xb.alloc xb.size _)
        · obtain ⟨hg0, htg, rfl⟩ := q0 (by omega)
          obtain ⟨hh0, hth, rfl⟩ := q1 (by omega)
          obtain ⟨B1, bs1, rfl, hT1⟩ := htg
          obtain ⟨B2, bs2, rfl, hT2⟩ := hth
          have x := hB0.trans (hB.mono hB0.size)
          have u0 := rp.at 0 rfl; have u1 := rp.at 1 rfl
          have heq := eqlP (st0 G) (st0 H) (-1) (-1)
          by_cases hd : st0 G = -1 ∧ st0 H = -1
          · have HK := hidI (srA_no (is := isb) HR.out HR'.out hg0 hh0 hd)
            have hdp : (st0 G, st0 H) = (-1, -1) := by rw [hd.1, hd.2]
            rw [decide_eq_true hdp] at heq
            clear hd hdp
            generalize st0 G = s0 at *
            generalize st0 H = s1 at *
            go_wp2
            go_ret3
            exact RetSp.of (l := []) HK.out (Sl.nil _ _ _) x
          · have HK := hidI (srA_go (is := isb) HR.out HR'.out hg0 hh0 hd)
            have hdp : ¬ (st0 G, st0 H) = (-1, -1) := fun e => hd ⟨congrArg Prod.fst e, congrArg Prod.snd e⟩
            rw [decide_eq_false hdp] at heq
            obtain ⟨a1, a2, a3⟩ := sb_bd0 hg0
            obtain ⟨b1', b2, b3⟩ := sb_bd0 hh0
            have n1 := (sbA_ok hg0).1.n2
            have n2 := (sbA_ok hh0).1.n2
            have HF := hidI (mfirst_any (sbA G).1.es (sbA H).1.es (sbA G).1.n.toNat (sbA H).1.n.toNat L w0.heap.size B1 w0.heap.size B2 bs1 bs2 (st0 G) (st0 H) isb gi lb wr hT1 hT2 a1 b1' (by omega) (by omega) hL256 a2 a3 b2 b3 eg (hi _ _ wr))
            have HSO : Hid (srO G H isb = bfsA (sbA G).1.n.toNat (sbA H).1.n.toNat (sbA G).1.es (sbA H).1.es kpP isb L (st0 G) (st0 H)) := by
              unfold Hid srO
              rw [← HLm.out, Int.toNat_natCast]
            rw [← HSO.out] at HF
            have t0 := rt.at 0 rfl; have t1 := rt.at 1 rfl
            generalize srO G H isb = o at *
            generalize st0 G = s0 at *
            generalize st0 H = s1 at *
            generalize (sbA G).1.n.toNat = N1 at *
            generalize (sbA H).1.n.toNat = N2 at *
            clear hd hdp a1 a2 a3 b1' b2 b3 n1 n2 hT1 hT2 HSO
            go_wp2_with fail
            refine HF.out.mono ?_
            rintro e w3 ⟨q3, d3, rfl, hs3, hB3⟩
            go_wp2
            go_ret3
            exact RetSp.of HK.out hs3 (x.trans (hB3.mono x.size))
    · have HK := hidI (srA_arg (G := G) (H := H) (is := isb) (.inr (by rw [hr']; exact hr0')))
      have hrb : (r' == 0) = false := by simpa using hr0'
      have hrc : (r' != 0) = true := by simpa using hr0'
      clear hr hr' hr0'
      go_wp2
      go_ret3
      exact RetSp.of (l := []) HK.out (Sl.nil _ _ _) x2
  · have HK := hidI (srA_arg (G := G) (H := H) (is := isb) (.inl (by rw [hr]; exact hr0)))
    have hrb : (r == 0) = false := by simpa using hr0
    have hrc : (r != 0) = true := by simpa using hr0
    clear hr hr' hr0
    go_enter Tryz.func28, Tryz.ntmps28
    go_wp2_with fail
    rw [← hw0]
    clear hw0
    refine HC.out.mono ?_
    rintro e w1 ⟨rfl, hB1⟩
    go_wp2
    go_ret3
    exact RetSp.of (l := []) HK.out (Sl.nil _ _ _) (hB0.trans (hB1.mono hB0.size))
end Go.Proofs.YtaclgmhinljkbaaGreatDoor
namespace Go.Proofs.YtaclgmhinljkbaaGreatDoor
open Go.RowKit Go.Sort Go.Shelf Go.Lib

/-! ### Not too long -/
theorem parA_len (G : Gr) : (parA G).1.length ≤ 64 := by
  by_cases h : chkD G = 0
  · rw [parA_ok h]
    obtain ⟨hv, _⟩ := chkD_iff.1 h
    have := hv.n2
    have h2 : (clA G).length = G.n.toNat := clsN_len _
    show (clA G).length ≤ 64
    omega
  · rw [parA_bad h]; exact Nat.zero_le _
theorem norm_lenN (l : List Ed) : (norm l).length ≤ l.length := by
  have h1 : ∀ (x : Ed) (a : List Ed), (insE x a).length ≤ a.length + 1 := by
    intro x a
    induction a with
    | nil => simp [insE]
    | cons y a ih =>
      unfold insE
      split
      · simp
      · split
        · simp
        · simp only [List.length_cons]; omega
  have h2 : ∀ (l a : List Ed), (l.foldl (fun a x => insE x a) a).length ≤ a.length + l.length := by
    intro l
    induction l with
    | nil => intro a; simp
    | cons x l ih =>
      intro a
      have := ih (insE x a)
      have := h1 x a
      simp only [List.foldl_cons, List.length_cons]; omega
  simpa [norm] using h2 l []
theorem merA_len (G : Gr) : (merA G).1.es.length ≤ G.es.length ∧ (merA G).2.1.length ≤ 64 := by
  by_cases h : chkD G = 0
  · rw [merA_ok h]
    obtain ⟨hv, _⟩ := chkD_iff.1 h
    have := hv.n2
    have h2 : (clA G).length = G.n.toNat := clsN_len _
    refine ⟨?_, show (clA G).length ≤ 64 by omega⟩
    show (mgA G).1.es.length ≤ _
    unfold mgA makeA
    split
    · have := norm_lenN (G.es.map (mgE (clA G)))
      simpa using this
    · exact Nat.zero_le _
  · rw [merA_bad h]; exact ⟨Nat.zero_le _, Nat.zero_le _⟩
theorem bfs_len {f g : List Ed} {kp is : Int × Int → Bool} {L : Nat} : ∀ (m i : Nat) (l : List Pw) (w : List Int), (∀ y ∈ l, y.2.length ≤ i) → bfs f g kp is L m i l = some w → w.length ≤ i + m
  | 0, i, l, w, _, h => by simp [bfs] at h
  | m + 1, i, l, w, hl, h => by
    unfold bfs at h
    cases hx : l[i]? with
    | none => rw [hx] at h; cases h
    | some x =>
      rw [hx] at h
      have hm : x ∈ l := List.mem_of_getElem? hx
      simp only at h
      split at h
      · cases h
        have := hl x hm; omega
      · have := bfs_len m (i + 1) _ w (bRow_lens (hl x hm) (fun y hy => by have := hl y hy; omega) L) h
        omega
theorem sepA_len (G : Gr) (s t : Int) : (sepA G s t).1.length ≤ 5000 := by
  unfold sepA
  split
  · rename_i h
    split
    · exact Nat.zero_le _
    · obtain ⟨hv, _⟩ := chkD_iff.1 h
      have hn : G.n.toNat ≤ 64 := by have := hv.n2; omega
      have hN := Nat.mul_le_mul (show G.n.toNat + 1 ≤ 65 by omega) (show G.n.toNat + 1 ≤ 65 by omega)
      cases ho : sepO G s t with
      | none => exact Nat.zero_le _
      | some w =>
        have := bfs_len _ 0 _ w (fun y hy => by obtain rfl := List.mem_singleton.1 hy; simp) ho
        show w.length ≤ 5000
        omega
  · exact Nat.zero_le _

end Go.Proofs.YtaclgmhinljkbaaGreatDoor
namespace Go.Proofs.YtaclgmhinljkbaaGreatDoor
open Go.RowKit Go.Sort Go.Shelf Go.Lib

theorem det13_ok {G : Gr} (h : det13A G = true) : chkD G = 0 ∧ G.es.length ≤ 20 ∧ G.n ≤ 6 := by
  unfold det13A at h
  simp only [Bool.and_eq_true, Bool.not_eq_true', decide_eq_true_iff] at h
  obtain ⟨h1, h2, h3⟩ := h
  have hc : chkG G = 0 := by
    by_cases hc : chkG G = 0
    · exact hc
    · rw [detA_bad hc] at h2; cases h2
  rw [detA_ok hc] at h3
  have hv := chkG_ok.1 hc
  refine ⟨chkD_ok hc h3, ?_⟩
  unfold gr13 at h1
  simp only [Bool.or_eq_false_iff, Bool.and_eq_false_iff, decide_eq_false_iff_not] at h1
  have := hv.n2
  omega
theorem leadsA_run {G : Gr} (hv : Vg G) (hu : Uq G.es) : ∀ (w : List Int) (x : Int), -1 ≤ x → x < G.n → Lab G.q.toNat w → leadsA G (toS x) w = toS (run1 G.es x w)
  | [], x, _, _, _ => rfl
  | b :: w, x, h1, h2, hl => by
    have hb := hl b (by simp)
    have hq := hv.q1
    have hcs : chkS G.n none (toS x) = 0 := by
      unfold toS
      split
      · rfl
      · rw [chkS_cons, if_neg (by omega)]; rfl
    have e : stepA G (toS x) b = (toS (nxt G.es x b), 0) := by
      unfold stepA
      rw [if_pos (chkG_ok.2 hv), if_pos hcs, if_neg (by omega), next_toS hv hu]
    have hn := nxt_bd hv x b
    rw [leadsA, e]
    simp only [if_true]
    rw [leadsA_run hv hu w _ hn.1 hn.2 (fun y hy => hl y (by simp [hy])), run1_cons]

theorem sl_one (w : World) (x : Int) : Sl (w.alloc (.cells #[.int .i64 x] 3)) (Value.int .i64) (some ⟨w.heap.size, 0, none⟩) [x] :=
  Sl.of_vrow (l := [x]) (VRow.new w 3 [.int .i64 x])
theorem sl_one_drew (w : World) (x : Int) : Sl (w.alloc (.cells #[.int .i64 x] 3)).drew (Value.int .i64) (some ⟨w.heap.size, 0, none⟩) [x] := sl_one w x
theorem two_sl (w : World) (x y : Int) : RowKit.Below w.heap.size w ((w.alloc (.cells #[.int .i64 x] 3)).alloc (.cells #[.int .i64 y] 3)).drew ∧
    Sl ((w.alloc (.cells #[.int .i64 x] 3)).alloc (.cells #[.int .i64 y] 3)).drew (Value.int .i64) (some ⟨w.heap.size, 0, none⟩) [x] ∧
    Sl ((w.alloc (.cells #[.int .i64 x] 3)).alloc (.cells #[.int .i64 y] 3)).drew (Value.int .i64) (some ⟨w.heap.size + 1, 0, none⟩) [y] := by
  refine ⟨(((RowKit.Below.refl _ _).alloc (Nat.le_refl _) _).alloc (by simp) _).drew, ?_, ?_⟩
  · have h : Sl ((w.alloc (.cells #[.int .i64 x] 3)).alloc (.cells #[.int .i64 y] 3)) (Value.int .i64) (some ⟨w.heap.size, 0, none⟩) [x] := (sl_one w x).below ((RowKit.Below.refl _ _).alloc (Nat.le_refl _) _)
    exact h
  · have h := sl_one_drew (w.alloc (.cells #[.int .i64 x] 3)) y
    rw [World.size_alloc] at h
    exact h
end Go.Proofs.YtaclgmhinljkbaaGreatDoor
namespace Go.Proofs.YtaclgmhinljkbaaGreatDoor
open Go.RowKit

theorem mxC_ge : ∀ {l : List Int} {x : Int}, x ∈ l → x + 1 ≤ mxC l := by
  have key : ∀ (l : List Int) (a : Int), a ≤ l.foldl (fun n x => max n (x + 1)) a ∧ ∀ x ∈ l, x + 1 ≤ l.foldl (fun n x => max n (x + 1)) a := by
    intro l
    induction l with
    | nil => intro a; exact ⟨Int.le_refl _, fun x hx => by cases hx⟩
    | cons y l ih =>
      intro a
      obtain ⟨h1, h2⟩ := ih (max a (y + 1))
      refine ⟨by simp only [List.foldl_cons]; omega, fun x hx => ?_⟩
      simp only [List.foldl_cons]
      rcases List.mem_cons.1 hx with rfl | hx
      · omega
      · exact h2 x hx
  intro l x hx
  exact (key l 0).2 x hx
theorem mxC_le {l : List Int} {b : Int} (hb : 0 ≤ b) (h : ∀ x ∈ l, x + 1 ≤ b) : mxC l ≤ b := by
  have key : ∀ (l : List Int) (a : Int), a ≤ b → (∀ x ∈ l, x + 1 ≤ b) → l.foldl (fun n x => max n (x + 1)) a ≤ b := by
    intro l
    induction l with
    | nil => intro a h _; exact h
    | cons y l ih =>
      intro a ha h
      have := h y (by simp)
      exact ih _ (show max a (y + 1) ≤ b by omega) (fun x hx => h x (by simp [hx]))
  exact key l 0 hb h
theorem mxC_nn (l : List Int) : 0 ≤ mxC l := by
  cases l with
  | nil => exact Int.le_refl _
  | cons x l =>
    have key : ∀ (l : List Int) (a : Int), a ≤ l.foldl (fun n x => max n (x + 1)) a := by
      intro l
      induction l with
      | nil => intro a; exact Int.le_refl _
      | cons y l ih => intro a; have := ih (max a (y + 1)); simp only [List.foldl_cons]; omega
    exact key _ 0
theorem frs_num {R : Nat → Nat → Bool} : ∀ (n k : Nat), k < (frsR R n).length → ∃ s, s < n ∧ numR R s = k
  | 0, k, h => by simp [frsR] at h
  | n + 1, k, h => by
    by_cases hk : k < (frsR R n).length
    · obtain ⟨s, h1, h2⟩ := frs_num n k hk
      exact ⟨s, by omega, h2⟩
    · cases hf : fstR R n
      · rw [frsR_stay hf] at h; exact absurd h hk
      · rw [frsR_go hf, List.length_append, List.length_singleton] at h
        exact ⟨n, by omega, by rw [numR_new hf]; omega⟩
/-- The classes' numbers: from 0 on, without a gap. -/
theorem cl_num {G : Gr} {s : Nat} (hs : s < G.n.toNat) : cg (clA G) s = numR (eqA (clA G)) s := by
  have h : clA G = (List.range G.n.toNat).map (numR (eqA (clA G))) := canon (q := G.q.toNat) (n := G.n.toNat) (es := G.es) G.n.toNat
  conv => lhs; rw [h]
  exact cg_map _ hs
theorem cl_mem {G : Gr} {s : Nat} (hs : s < G.n.toNat) : cg (clA G) s ∈ clA G := by
  have hl : (clA G).length = G.n.toNat := clsN_len _
  have e : cg (clA G) s = (clA G)[s]'(by omega) := by unfold cg; simp [List.getD, hl, hs]
  rw [e]; exact List.getElem_mem _
theorem cl_lt {G : Gr} {s : Nat} (hs : s < G.n.toNat) : 0 ≤ cg (clA G) s ∧ cg (clA G) s < mxC (clA G) := by
  have h1 := cl_bd _ (cl_mem hs)
  have h2 := mxC_ge (cl_mem hs)
  omega
theorem cl_le {G : Gr} : mxC (clA G) ≤ G.n.toNat := mxC_le (by omega) (fun x hx => by have := cl_bd x hx; omega)
theorem cl_onto {G : Gr} {k : Nat} (hk : (k : Int) < mxC (clA G)) : ∃ s, s < G.n.toNat ∧ cg (clA G) s = k := by
  have h1 : mxC (clA G) ≤ ((frsR (eqA (clA G)) G.n.toNat).length : Int) := mxC_le (by omega) (fun x hx => by
    obtain ⟨s, hs, rfl⟩ := List.mem_iff_getElem.1 hx
    have hl : (clA G).length = G.n.toNat := clsN_len _
    have hs2 : s < G.n.toNat := by omega
    have e : cg (clA G) s = (clA G)[s]'hs := by unfold cg; simp [List.getD, hs]
    have h3 := numR_bd (eqA_eqv (clA G)) s G.n.toNat hs2
    rw [← cl_num hs2, e] at h3
    omega)
  obtain ⟨s, hs, h2⟩ := frs_num (R := eqA (clA G)) G.n.toNat k (by omega)
  exact ⟨s, hs, by rw [cl_num hs, h2]⟩
theorem cl_step {G : Gr} {r s a : Nat} (hr : r < G.n.toNat) (hs : s < G.n.toNat) (ha : a < G.q.toNat) (h : cg (clA G) r = cg (clA G) s) :
    (tgt G.es r a < 0 ↔ tgt G.es s a < 0) ∧ (0 ≤ tgt G.es r a → cg (clA G) (tgt G.es r a) = cg (clA G) (tgt G.es s a)) := by
  have h2 : relA G.q.toNat G.es (clA G) r s = true := by
    have := eqA_succ (q := G.q.toNat) (n := G.n.toNat) (es := G.es) G.n.toNat hr hs
    rw [cls_fix] at this
    show relA G.q.toNat G.es (clsN G.q.toNat G.n.toNat G.es G.n.toNat) r s = true
    rw [← this]
    unfold eqA
    rw [decide_eq_true_iff]; exact h
  exact (relA_iff.1 h2).2 a ha

/-! ### The merged graph -/
def mgG (G : Gr) : Gr := ⟨G.q, mxC (clA G), norm (G.es.map (mgE (clA G)))⟩
theorem mem_mg {G : Gr} {y : Ed} : y ∈ (mgG G).es ↔ ∃ x ∈ G.es, mgE (clA G) x = y := by
  show y ∈ norm _ ↔ _
  rw [mem_norm, List.mem_map]
theorem nat_of {z : Int} (h : 0 ≤ z) : ∃ n : Nat, z = n := ⟨z.toNat, by omega⟩
section
variable {G : Gr}
theorem mg_vg (hv : Vg G) : Vg (mgG G) where
  q1 := hv.q1
  q2 := hv.q2
  n1 := mxC_nn _
  n2 := by
    have := cl_le (G := G); have := hv.n2; have := hv.n1
    show mxC (clA G) ≤ 64
    omega
  len := by
    have h := norm_lenN (G.es.map (mgE (clA G)))
    rw [List.length_map] at h
    exact Nat.le_trans h hv.len
  ins := fun y hy => by
    obtain ⟨x, hx, rfl⟩ := mem_mg.1 hy
    obtain ⟨h1, h2, h3, h4, h5, h6⟩ := hv.ins x hx
    obtain ⟨f, hf⟩ := nat_of h1
    obtain ⟨t, ht⟩ := nat_of h3
    have e1 := cl_lt (G := G) (s := f) (by omega)
    have e2 := cl_lt (G := G) (s := t) (by omega)
    show 0 ≤ cg (clA G) x.f ∧ 0 ≤ x.l ∧ 0 ≤ cg (clA G) x.t ∧ cg (clA G) x.f < mxC (clA G) ∧ cg (clA G) x.t < mxC (clA G) ∧ x.l < G.q
    rw [hf, ht]
    exact ⟨e1.1, h2, e2.1, e1.2, e2.2, h6⟩
  srt := norm_srt _
theorem mg_eq (hv : Vg G) : mgA G = (mgG G, 0) := makeA_ok (chkG_ok.2 (mg_vg hv))
/-- Where an edge of the merged graph leads. -/
theorem mg_edge (hv : Vg G) (hu : Uq G.es) {x : Ed} (hx : x ∈ G.es) {s : Nat} (hs : s < G.n.toNat) (h : cg (clA G) x.f = cg (clA G) s) : 0 ≤ tgt G.es s x.l ∧ cg (clA G) x.t = cg (clA G) (tgt G.es s x.l) := by
  obtain ⟨h1, h2, h3, h4, h5, h6⟩ := hv.ins x hx
  obtain ⟨f, hf⟩ := nat_of h1
  obtain ⟨a, ha⟩ := nat_of h2
  have e := tgt_at hu hx
  rw [hf, ha] at e
  rw [hf] at h
  obtain ⟨k1, k2⟩ := cl_step (G := G) (r := f) (s := s) (a := a) (by omega) hs (by omega) h
  rw [e] at k1 k2
  rw [ha]
  refine ⟨?_, k2 h3⟩
  by_cases h0 : tgt G.es (s : Int) (a : Int) < 0
  · have := k1.2 h0; omega
  · omega
theorem mg_uq (hv : Vg G) (hu : Uq G.es) {x y : Ed} (hx : x ∈ (mgG G).es) (hy : y ∈ (mgG G).es) (hf : x.f = y.f) (hl : x.l = y.l) : x = y := by
  obtain ⟨a, ha, rfl⟩ := mem_mg.1 hx
  obtain ⟨b, hb, rfl⟩ := mem_mg.1 hy
  have hf : cg (clA G) a.f = cg (clA G) b.f := hf
  have hl : a.l = b.l := hl
  obtain ⟨h1, h2, h3, h4, h5, h6⟩ := hv.ins b hb
  obtain ⟨f, hf2⟩ := nat_of h1
  rw [hf2] at hf
  have e := mg_edge hv hu ha (s := f) (by omega) hf
  have e2 := tgt_at hu hb
  rw [hf2] at e2
  rw [hl, e2] at e
  show (⟨cg (clA G) a.f, a.l, cg (clA G) a.t⟩ : Ed) = ⟨cg (clA G) b.f, b.l, cg (clA G) b.t⟩
  rw [hf, hf2, hl, e.2]
theorem mg_det (hv : Vg G) (hu : Uq G.es) : detB (mgG G).es = true := detB_t (fun k hk ⟨h1, h2⟩ => by
  have e := mg_uq hv hu (List.getElem_mem (by omega : k < (mgG G).es.length)) (List.getElem_mem hk) h1 h2
  have h := List.pairwise_iff_getElem.1 (mg_vg hv).srt k (k + 1) (by omega) hk (by omega)
  rw [e, ltE_irrefl] at h; cases h)
theorem mg_chk (hv : Vg G) (hu : Uq G.es) : chkD (mgG G) = 0 := chkD_iff.2 ⟨mg_vg hv, mg_det hv hu⟩
theorem mg_uq' (hv : Vg G) (hu : Uq G.es) : Uq (mgG G).es := uq_det (mg_vg hv) (mg_det hv hu)
theorem mg_tgt (hv : Vg G) (hu : Uq G.es) {s : Nat} (hs : s < G.n.toNat) (a : Int) : tgt (mgG G).es (cg (clA G) s) a = if tgt G.es s a < 0 then -1 else cg (clA G) (tgt G.es s a) := by
  by_cases h0 : tgt G.es s a < 0
  · rw [if_pos h0]
    by_cases h1 : tgt (mgG G).es (cg (clA G) s) a = -1
    · exact h1
    · obtain ⟨y, hy, hf, hl, _⟩ := tgt_mem h1
      obtain ⟨x, hx, rfl⟩ := mem_mg.1 hy
      have hf : cg (clA G) x.f = cg (clA G) s := hf
      have hl : x.l = a := hl
      have := (mg_edge hv hu hx hs hf).1
      rw [hl] at this; omega
  · rw [if_neg h0]
    obtain ⟨x, hx, hf, hl, ht⟩ := tgt_mem (es := G.es) (s := s) (a := a) (by omega)
    have h := tgt_at (mg_uq' hv hu) (mem_mg.2 ⟨x, hx, rfl⟩)
    change tgt (mgG G).es (cg (clA G) x.f) x.l = cg (clA G) x.t at h
    rw [hf, hl, ht] at h
    exact h
theorem mg_run (hv : Vg G) (hu : Uq G.es) : ∀ (w : List Int) {s : Nat}, s < G.n.toNat → (run1 (mgG G).es (cg (clA G) s) w < 0 ↔ run1 G.es s w < 0)
  | [], s, hs => by
    have := (cl_lt hs).1
    show (cg (clA G) s < 0 ↔ (s : Int) < 0)
    omega
  | a :: w, s, hs => by
    have h0 := (cl_lt hs).1
    rw [run1_cons, run1_cons, nxt_pos (by omega), nxt_pos (by omega), mg_tgt hv hu hs]
    have hb := tgt_bd hv s a
    by_cases h1 : tgt G.es s a < 0
    · rw [if_pos h1]
      have e1 := run1_neg (es := (mgG G).es) w (s := -1) (by omega)
      have e2 := run1_neg (es := G.es) w h1
      exact ⟨fun _ => e2, fun _ => e1⟩
    · rw [if_neg h1]
      obtain ⟨t, ht⟩ := nat_of (show 0 ≤ tgt G.es s a by omega)
      rw [ht] at hb ⊢
      have := hv.n1
      exact mg_run hv hu w (by omega)
/-- Each state of the merged graph is a class of its own. -/
theorem mg_inj (hv : Vg G) (hu : Uq G.es) {c d : Nat} (hc : c < (mgG G).n.toNat) (hd : d < (mgG G).n.toNat) (h : cg (clA (mgG G)) c = cg (clA (mgG G)) d) : c = d := by
  have hn : (mgG G).n = mxC (clA G) := rfl
  have hb : ∀ s a, tgt (mgG G).es s a < ((mgG G).n.toNat : Int) := fun s a => by rcases tgt_lt (mg_vg hv) s a with h | h <;> omega
  have hb2 : ∀ s a, tgt G.es s a < (G.n.toNat : Int) := fun s a => by
    obtain ⟨s', hs', _⟩ := cl_onto (G := G) (k := c) (by omega)
    rcases tgt_lt hv s a with h | h <;> omega
  obtain ⟨s, hs, e1⟩ := cl_onto (G := G) (k := c) (by omega)
  obtain ⟨t, ht, e2⟩ := cl_onto (G := G) (k := d) (by omega)
  have k1 := cls_agree (q := (mgG G).q.toNat) hb hc hd h
  have k2 : cg (clA G) s = cg (clA G) t := cls_of_agree (q := G.q.toNat) hb2 G.n.toNat hs ht (fun w hw => by
    have h1 := mg_run hv hu w hs
    have h2 := mg_run hv hu w ht
    have h3 := k1 w hw
    rw [e1] at h1
    rw [e2] at h2
    exact h1.symm.trans (h3.trans h2))
  omega
theorem mg_cl (hv : Vg G) (hu : Uq G.es) : clA (mgG G) = upto (mgG G).n.toNat := by
  have hcn : clA (mgG G) = (List.range (mgG G).n.toNat).map (numR (eqA (clA (mgG G)))) := canon (q := (mgG G).q.toNat) (n := (mgG G).n.toNat) (es := (mgG G).es) (mgG G).n.toNat
  rw [hcn]
  unfold upto
  apply List.map_congr_left
  intro s hs
  have hs : s < (mgG G).n.toNat := by simpa using hs
  rw [numR_congr (R' := fun _ _ => false) hs (fun u hu2 t ht => by
    show decide (cg (clA (mgG G)) t = cg (clA (mgG G)) u) = false
    rw [decide_eq_false_iff_not]
    intro e
    have := mg_inj hv hu (by omega) hu2 e
    omega)]
  have hf : ∀ x, fstR (fun _ _ => false) x = true := fun x => fstR_iff.2 (fun _ _ => rfl)
  rw [numR_new (hf s)]
  have : frsR (fun _ _ => false) s = List.range s := List.filter_eq_self.2 (fun x _ => hf x)
  rw [this, List.length_range]
theorem mxC_upto : ∀ n : Nat, mxC (upto n) = n
  | 0 => rfl
  | n + 1 => by rw [upto_succ, mxC_snoc, mxC_upto n]; omega
theorem cg_upto {n s : Nat} (h : s < n) : cg (upto n) s = s := cg_map (fun (i : Nat) => (i : Int)) h
theorem mg_again (hv : Vg G) (hu : Uq G.es) : merA (mgG G) = (mgG G, upto (mgG G).n.toNat, 0) := by
  have hm : (mgG G).es.map (mgE (upto (mgG G).n.toNat)) = (mgG G).es := by
    conv => rhs; rw [← List.map_id (mgG G).es]
    apply List.map_congr_left
    intro x hx
    obtain ⟨h1, h2, h3, h4, h5, h6⟩ := (mg_vg hv).ins x hx
    obtain ⟨f, hf⟩ := nat_of h1
    obtain ⟨t, ht⟩ := nat_of h3
    have e1 : cg (upto (mgG G).n.toNat) x.f = x.f := by rw [hf]; exact cg_upto (by omega)
    have e2 : cg (upto (mgG G).n.toNat) x.t = x.t := by rw [ht]; exact cg_upto (by omega)
    show (⟨cg (upto (mgG G).n.toNat) x.f, x.l, cg (upto (mgG G).n.toNat) x.t⟩ : Ed) = x
    rw [e1, e2]
  have hmg : mgA (mgG G) = (mgG G, 0) := by
    unfold mgA
    rw [mg_cl hv hu, hm, mxC_upto]
    have hn := (mg_vg hv).n1
    have e : makeA (mgG G).q ((mgG G).n.toNat : Int) (mgG G).es = makeA (mgG G).q (mgG G).n (mgG G).es := by rw [Int.toNat_of_nonneg hn]
    rw [e]
    have hns := norm_of_srt (mg_vg hv).srt
    have hck : chkG ⟨(mgG G).q, (mgG G).n, norm (mgG G).es⟩ = 0 := by rw [hns]; exact chkG_ok.2 (mg_vg hv)
    rw [makeA_ok hck, hns]
  rw [merA_ok (mg_chk hv hu), hmg, mg_cl hv hu]
end
end Go.Proofs.YtaclgmhinljkbaaGreatDoor
namespace Go.Proofs.YtaclgmhinljkbaaGreatDoor
open Go.RowKit Go.Sort Go.Shelf Go.Lib

end Go.Proofs.YtaclgmhinljkbaaGreatDoor
namespace Go.Proofs.YtaclgmhinljkbaaGreatDoor
open Go.RowKit Go.Sort Go.Shelf Go.Lib

set_option maxRecDepth 100000 in
set_option maxHeartbeats 1000000 in
theorem mEqual_any (G H : Gr) (p p' : Option Addr) (c c' : Nat) (w : World) (hin : Sg 3 w edE p G.es) (hin' : Sg 3 w edE p' H.es) (hl : G.es.length ≤ 9223372036854775807) (hl' : H.es.length ≤ 9223372036854775807) :
    Calls Tryz.prog 9 #[(.agg #[.int .i64 G.q, .int .i64 G.n, .slice p G.es.length c]), (.agg #[.int .i64 H.q, .int .i64 H.n, .slice p' H.es.length c'])] w (RetSp (srA G H oneB).1 (srA G H oneB).2.1 (srA G H oneB).2.2 w) := by
  obtain ⟨w0, hw0⟩ : ∃ w0, w0 = (w.alloc (.cells #[.int .i64 G.q, .int .i64 G.n, .slice p G.es.length c] 29)).alloc (.cells #[.int .i64 H.q, .int .i64 H.n, .slice p' H.es.length c'] 29) := ⟨_, rfl⟩
  have hB0 : RowKit.Below w.heap.size w w0 := by subst hw0; exact ((RowKit.Below.refl _ _).alloc (Nat.le_refl _) _).alloc (by simp) _
  have HM := hidI (msearch_any G H p p' c c' oneB 29 #[] w0 (hin.below hB0) (hin'.below hB0) hl hl' (enters_of Tryz.func29 (by kernel_rfl) rfl) one_at)
  clear hin hin'
  generalize srA G H oneB = r at *
  go_enter Tryz.func9, Tryz.ntmps9
  go_wp2_with fail
  rw [← hw0]
  clear hw0
  refine HM.out.mono ?_
  rintro e w1 ⟨q, d, rfl, hs, hB1⟩
  go_wp2
  go_ret3
  exact ⟨q, d, rfl, hs, hB0.trans (hB1.mono hB0.size)⟩

/-! ### Words -/
theorem wordA_len (G : Gr) (ws : List Int) : decide (0 < (leadsA G (upto G.n.toNat) ws).length) = wordA G ws := by
  unfold wordA
  cases leadsA G (upto G.n.toNat) ws with
  | nil => simp
  | cons a l => simp
/-! ### Which word comes first -/
def lessA (a b : List Int) : Bool := if a.length = b.length then decide (cmpL a b < 0) else decide (a.length < b.length)
theorem cmpL_lxt : ∀ {a b : List Int}, a.length = b.length → (cmpL a b < 0 ↔ lxt a b)
  | [], [], _ => by simp [cmpL, lxt]
  | x :: a, y :: b, h => by
    have h2 : a.length = b.length := by simpa using h
    have ih := cmpL_lxt h2
    unfold cmpL lxt
    by_cases e : c3 x y = 0
    · rw [if_pos e]
      have := c3_zero.1 e
      subst this
      rw [ih]
      constructor
      · intro h; exact .inr ⟨rfl, h⟩
      · rintro (h | ⟨_, h⟩)
        · omega
        · exact h
    · rw [if_neg e, c3_neg]
      constructor
      · exact .inl
      · rintro (h | ⟨h, _⟩)
        · exact h
        · exact absurd (c3_zero.2 h) e
  | [], _ :: _, h => by simp at h
  | _ :: _, [], h => by simp at h
theorem lessA_iff {a b : List Int} : lessA a b = true ↔ slt a b := by
  unfold lessA slt
  by_cases h : a.length = b.length
  · rw [if_pos h, decide_eq_true_eq, cmpL_lxt h]
    constructor
    · intro h2; exact .inr ⟨h, h2⟩
    · rintro (h2 | ⟨_, h2⟩)
      · omega
      · exact h2
  · rw [if_neg h, decide_eq_true_eq]
    constructor
    · exact .inl
    · rintro (h2 | ⟨h2, _⟩)
      · exact h2
      · exact absurd h2 h
/-! ### Lengths; two graphs in one list -/
theorem srA_len (G H : Gr) (is : Int × Int → Bool) : (srA G H is).1.length ≤ 5000 := by
  unfold srA
  split
  · simp
  · rename_i hc
    split
    · simp
    · rename_i h1
      split
      · simp
      · rename_i h2
        split
        · simp
        · simp only
          have n1 := (sbA_ok (Decidable.not_not.1 h1)).1.n2
          have n2 := (sbA_ok (Decidable.not_not.1 h2)).1.n2
          cases ho : srO G H is with
          | none => simp [fwA]
          | some w =>
            unfold srO bfsA at ho
            have := bfs_len _ 0 _ w (fun y hy => by obtain rfl := List.mem_singleton.1 hy; simp) ho
            have hm := Nat.mul_le_mul (show (sbA G).1.n.toNat + 1 ≤ 65 by omega) (show (sbA H).1.n.toNat + 1 ≤ 65 by omega)
            simp only [fwA]
            omega
end Go.Proofs.YtaclgmhinljkbaaGreatDoor
namespace Go.Proofs.YtaclgmhinljkbaaGreatDoor
open Go.RowKit Go.Sort Go.Shelf Go.Lib

set_option maxRecDepth 100000 in
set_option maxHeartbeats 4000000 in
theorem lawBack_any (q : Int) (l : List ByteArray) (p : Option Addr) (c : Nat) (w : World) (hin : Sl w Value.string p l) (hl : l.length ≤ 9223372036854775807) (hm : Mx w) :
    Calls Tryz.prog 3 #[.int .i64 q, .slice p l.length c] w fun e w' => e = .returned (.bool true) ∧ RowKit.Below w.heap.size w w' := by
  have HIN := hidI hin
  have HMX := hidI hm
  have HAW := hidI (fun W (hW : RowKit.Below w.heap.size w W) => awake14_any W (hm.below hW))
  clear hin hm
  by_cases h1 : 4 < l.length
  · have h1I : (4 : Int) < (l.length : Int) := by omega
    go_enter Tryz.func3, Tryz.ntmps3
    (go_wp2_with fail; refine (HAW.out w (RowKit.Below.refl w.heap.size w)).mono ?_; rintro e wy ⟨rfl, hBy⟩; have xy := ((RowKit.Below.refl w.heap.size w)).trans (hBy.mono ((RowKit.Below.refl w.heap.size w)).size); go_wp2; go_ret; exact ⟨rfl, xy⟩)
  have h1I : ¬ (4 : Int) < (l.length : Int) := by omega
  by_cases h2 : 3 < q
  · go_enter Tryz.func3, Tryz.ntmps3
    (go_wp2_with fail; refine (HAW.out w (RowKit.Below.refl w.heap.size w)).mono ?_; rintro e wy ⟨rfl, hBy⟩; have xy := ((RowKit.Below.refl w.heap.size w)).trans (hBy.mono ((RowKit.Below.refl w.heap.size w)).size); go_wp2; go_ret; exact ⟨rfl, xy⟩)
  have HCK := hidI (fCheck_all q l p c w HIN.out hl)
  have HLN := hidI (fun W (hW : RowKit.Below w.heap.size w W) => fLongest_any l p c W (HIN.out.below hW) hl)
  obtain ⟨N, hN⟩ : ∃ N : Nat, lngA l = N := ⟨(lngA l).toNat, by have := lngA_bd l; omega⟩
  rw [hN] at HLN
  by_cases hk : chkF q l = 0
  case neg =>
    have hkb : (chkF q l != 0) = true := by simpa using hk
    generalize chkF q l = k at *
    clear hN HLN hk
    go_enter Tryz.func3, Tryz.ntmps3
    go_wp2_with fail
    refine HCK.out.mono ?_
    rintro e w1 ⟨rfl, hB1⟩
    (go_wp2_with fail; refine (HAW.out w1 hB1).mono ?_; rintro e wy ⟨rfl, hBy⟩; have xy := (hB1).trans (hBy.mono (hB1).size); go_wp2; go_ret; exact ⟨rfl, xy⟩)
  case pos =>
    rw [hk] at HCK
    by_cases h4 : 4 < (N : Int)
    · clear hN hk
      go_enter Tryz.func3, Tryz.ntmps3
      go_wp2_with fail
      refine HCK.out.mono ?_
      rintro e w1 ⟨rfl, hB1⟩
      go_wp2_with fail
      refine (HLN.out w1 hB1).mono ?_
      rintro e w2 ⟨rfl, hw2⟩
      have hB2 : RowKit.Below w.heap.size w w2 := by rw [hw2]; exact hB1
      clear hw2 hB1
      (go_wp2_with fail; refine (HAW.out w2 hB2).mono ?_; rintro e wy ⟨rfl, hBy⟩; have xy := (hB2).trans (hBy.mono (hB2).size); go_wp2; go_ret; exact ⟨rfl, xy⟩)
    have HS : Hid (Sz l) := fun u hu => by have := lng_ge hu; omega
    obtain ⟨B1, B2, B3, B4⟩ := back_plain hk (by omega) (by omega)
    have hNT : (lngA l).toNat = N := by omega
    rw [hNT] at B4
    have q16 := (chkF_ok hk).2.1
    have HGR := hidI (fun W (hW : RowKit.Below w.heap.size w W) => fGraph_any q l p c W (HIN.out.below hW) hl HS.out (HMX.out.below hW))
    generalize graphB q l = x at *
    obtain ⟨G, ek⟩ := x
    replace B1 : ek = 0 := B1
    replace B2 : Vg G := B2
    replace B3 : G.q = q := B3
    subst B1
    have HB4 : Hid ((fdN G N).length ≤ 64 → G.n ≠ 0 → (graphB q (fdN G N)).2 = 4 ∨ ((graphB q (fdN G N)).2 = 0 ∧ Vg (graphB q (fdN G N)).1 ∧ ((srA G (graphB q (fdN G N)).1 oneB).2.2 = 0 ∨ (srA G (graphB q (fdN G N)).1 oneB).2.2 = 4) ∧
        ((srA G (graphB q (fdN G N)).1 oneB).2.2 = 0 → (srA G (graphB q (fdN G N)).1 oneB).2.1 = true))) := B4
    have HFD := hidI (fun W (pp : Option Addr) (cc : Nat) (hs : Sg 3 W edE pp G.es) => fFind_ok G pp cc N W hs B2 (by omega) (by omega))
    have HZR : Hid (G.n = 0 → fdN G N = []) := fun h => fd_zero h _
    have HLE : Hid ((fdN G N).length ≤ 1092) := fdN_1092 (by omega) (by omega)
    have HSZ : Hid (Sz (fdN G N)) := fun u hu => by have := fdN_size (G := G) (by omega) u hu; omega
    have hGl := B2.len
    have HML := hidI hGl
    generalize fdN G N = m at *
    have HGM := hidI (fun W (pp : Option Addr) (cc : Nat) (hW : RowKit.Below w.heap.size w W) (hs : Sl W Value.string pp m) => fGraph_any q m pp cc W hs (by have := HLE.out; omega) HSZ.out (HMX.out.below hW))
    have HEQ := hidI (fun W (pp : Option Addr) (cc : Nat) (hs : Sg 3 W edE pp G.es) (pq : Option Addr) (cq : Nat) (hs' : Sg 3 W edE pq (graphB q m).1.es) (hll : (graphB q m).1.es.length ≤ 9223372036854775807) => mEqual_any G (graphB q m).1 pp pq cc cq W hs hs' (by have := HML.out; omega) hll)
    clear B2 B3 B4 hNT hN hk hGl
    go_enter Tryz.func3, Tryz.ntmps3
    go_wp2_with fail
    refine HCK.out.mono ?_
    rintro e w1 ⟨rfl, hB1⟩
    go_wp2_with fail
    refine (HLN.out w1 hB1).mono ?_
    rintro e w2 ⟨rfl, hw2⟩
    have hB2 : RowKit.Below w.heap.size w w2 := by rw [hw2]; exact hB1
    clear hw2 hB1 HCK
    go_wp2_with fail
    refine (HGR.out w2 hB2).mono ?_
    rintro e w3 ⟨pg, mg, cg, rfl, hmg, hsg, hB3⟩
    replace hmg : mg = G.es.length := hmg
    subst hmg
    have x3 := hB2.trans (hB3.mono hB2.size)
    have g3 : VRow (w3.alloc (.cells #[.int .i64 G.q, .int .i64 G.n, .slice pg G.es.length cg] 29)) w3.heap.size 29 [.int .i64 G.q, .int .i64 G.n, .slice pg G.es.length cg] := VRow.new w3 _ _
    have hb3 := (RowKit.Below.refl w3.heap.size w3).alloc (Nat.le_refl _) (.cells #[.int .i64 G.q, .int .i64 G.n, .slice pg G.es.length cg] 29)
    have x3' := x3.alloc x3.size (.cells #[.int .i64 G.q, .int .i64 G.n, .slice pg G.es.length cg] 29)
    have hs3 := hidI (Sg.below hsg hb3)
    obtain ⟨v3, hv3⟩ : ∃ v3, v3 = w3.alloc (.cells #[.int .i64 G.q, .int .i64 G.n, .slice pg G.es.length cg] 29) := ⟨_, rfl⟩
    rw [← hv3] at g3 x3' hs3
    have HV3 : Hid (w3.alloc (.cells #[.int .i64 G.q, .int .i64 G.n, .slice pg G.es.length cg] 29) = v3) := hv3.symm
    have zb := g3.lt
    have HG3 := hidI g3
    have HL3 := hidI (fun W (hW : RowKit.Below v3.heap.size v3 W) => HLN.out W (x3'.trans (hW.mono x3'.size)))
    have HF3 := hidI (fun W (hW : RowKit.Below v3.heap.size v3 W) => HFD.out W pg cg (hs3.out.below hW))
    have X3 := hidI x3'
    have a0 := g3.at 0 rfl; have a1 := g3.at 1 rfl; have a2 := g3.at 2 rfl
    clear hv3 hB3 hB2 x3 hb3 hsg HGR g3 x3' HLN HFD
    go_upto_region 4 with fail
    rw [HV3.out]
    clear HV3
    go_region_held3 (fun w' => w'.cell? ⟨w3.heap.size, 0, none⟩ = some (.int .i64 G.q) ∧ w'.cell? ⟨w3.heap.size, 1, none⟩ = some (.int .i64 G.n) ∧ w'.cell? ⟨w3.heap.size, 2, none⟩ = some (.slice pg G.es.length cg) ∧ RowKit.Below v3.heap.size v3 w')
      (first | (go_split_ands; refine ⟨?_, ?_, ?_, ?_⟩ <;> first | assumption | (go_keep; done) | exact below_dN (RowKit.Below.refl _ _) 1 | exact (RowKit.Below.cell (by assumption) zb).trans (by assumption)))
      (first
        | (go_at_call 5; go_split_ands; (with_reducible refine (HL3.out _ (by assumption)).mono ?_); rintro e wA ⟨rfl, rfl⟩)
        | (go_at_call 8; go_split_ands; (with_reducible refine (HF3.out _ (by assumption)).mono ?_); rintro e wF ⟨qm, dm, rfl, sm, hBF⟩; have xF : RowKit.Below v3.heap.size v3 wF := RowKit.Below.trans (by assumption) (hBF.mono (RowKit.Below.size (by assumption))))
        | fail)
    all_goals
      have xF0 := X3.out.trans (xF.mono X3.out.size)
      have gF := HG3.out.below xF HG3.out.lt
      have f1 := gF.at 1 rfl
      have HSM := hidI sm
      clear a0 a1 a2 sm
      by_cases hn : G.n = 0
      · have hn2 : (G.n == 0) = true := by simpa using hn
        have hm0 := HZR.out hn
        subst hm0
        clear hn
        (go_wp2_with fail; refine (HAW.out wF xF0).mono ?_; rintro e wy ⟨rfl, hBy⟩; have xy := (xF0).trans (hBy.mono (xF0).size); go_wp2; go_ret; exact ⟨rfl, xy⟩)
      have hn2 : (G.n == 0) = false := by simpa using hn
      by_cases hm : 64 < m.length
      · have hmI : (64 : Int) < (m.length : Int) := by omega
        clear hn
        (go_wp2_with fail; refine (HAW.out wF xF0).mono ?_; rintro e wy ⟨rfl, hBy⟩; have xy := (xF0).trans (hBy.mono (xF0).size); go_wp2; go_ret; exact ⟨rfl, xy⟩)
      have hmI : ¬ (64 : Int) < (m.length : Int) := by omega
      have HGM2 := hidI (HGM.out wF qm dm xF0 HSM.out)
      have HD := hidI (HB4.out (by omega) hn)
      clear HB4 HGM hn
      obtain ⟨H, hH⟩ : ∃ H, graphB q m = H := ⟨_, rfl⟩
      rw [hH] at HGM2 HD HEQ
      clear hH
      obtain ⟨H, i⟩ := H
      replace HD : Hid (i = 4 ∨ (i = 0 ∧ Vg H ∧ ((srA G H oneB).2.2 = 0 ∨ (srA G H oneB).2.2 = 4) ∧ ((srA G H oneB).2.2 = 0 → (srA G H oneB).2.1 = true))) := HD
      go_wp2_with fail
      refine HGM2.out.mono ?_
      rintro e w5 ⟨ph, mh, ch, rfl, hmh, hsh, hB5⟩
      replace hmh : mh = H.es.length := hmh
      subst hmh
      have x5 := xF0.trans (hB5.mono xF0.size)
      have g5 := gF.below hB5 gF.lt
      have hsg5 := (hs3.out.below xF).below hB5
      have h5 : VRow (w5.alloc (.cells #[.int .i64 H.q, .int .i64 H.n, .slice ph H.es.length ch] 29)) w5.heap.size 29 [.int .i64 H.q, .int .i64 H.n, .slice ph H.es.length ch] := VRow.new w5 _ _
      have hb5 := (RowKit.Below.refl w5.heap.size w5).alloc (Nat.le_refl _) (.cells #[.int .i64 H.q, .int .i64 H.n, .slice ph H.es.length ch] 29)
      have x6 := x5.alloc x5.size (.cells #[.int .i64 H.q, .int .i64 H.n, .slice ph H.es.length ch] 29)
      have g6 := g5.alloc (.cells #[.int .i64 H.q, .int .i64 H.n, .slice ph H.es.length ch] 29)
      have hs6 := hidI (hsg5.below hb5)
      have ht6 := hidI (Sg.below hsh hb5)
      obtain ⟨v5, hv5⟩ : ∃ v5, v5 = w5.alloc (.cells #[.int .i64 H.q, .int .i64 H.n, .slice ph H.es.length ch] 29) := ⟨_, rfl⟩
      rw [← hv5] at h5 x6 g6 hs6 ht6
      have HV5 : Hid (w5.alloc (.cells #[.int .i64 H.q, .int .i64 H.n, .slice ph H.es.length ch] 29) = v5) := hv5.symm
      have a0 := g6.at 0 rfl; have a1 := g6.at 1 rfl; have a2 := g6.at 2 rfl
      have b0 := h5.at 0 rfl; have b1 := h5.at 1 rfl; have b2 := h5.at 2 rfl
      clear f1 gF g5 hsg5 hb5 hv5 hB5 hsh h5 g6 x5 HGM2
      rcases HD.out with hi | ⟨hi, hvH, hk, hs⟩
      · subst hi
        go_upto_region 12 with fail
        rw [HV5.out]
        clear HV5
        (go_wp2_with fail; refine (HAW.out v5 x6).mono ?_; rintro e wy ⟨rfl, hBy⟩; have xy := (x6).trans (hBy.mono (x6).size); go_wp2; go_ret; exact ⟨rfl, xy⟩)
      · subst hi
        go_upto_region 12 with fail
        rw [HV5.out]
        clear HV5 HD
        by_cases hg10 : 10 < G.n
        · clear hk hs
          (go_wp2_with fail; refine (HAW.out v5 x6).mono ?_; rintro e wy ⟨rfl, hBy⟩; have xy := (x6).trans (hBy.mono (x6).size); go_wp2; go_ret; exact ⟨rfl, xy⟩)
        by_cases hh10 : 10 < H.n
        · clear hk hs
          (go_wp2_with fail; refine (HAW.out v5 x6).mono ?_; rintro e wy ⟨rfl, hBy⟩; have xy := (x6).trans (hBy.mono (x6).size); go_wp2; go_ret; exact ⟨rfl, xy⟩)
        have HE := hidI (HEQ.out v5 pg cg hs6.out ph ch ht6.out (by have := hvH.len; omega))
        generalize srA G H oneB = r at *
        obtain ⟨x, sm, k⟩ := r
        replace HE : Hid (Calls Tryz.prog 9 #[(.agg #[.int .i64 G.q, .int .i64 G.n, .slice pg G.es.length cg]), (.agg #[.int .i64 H.q, .int .i64 H.n, .slice ph H.es.length ch])] v5 (RetSp x sm k v5)) := HE
        replace hk : k = 0 ∨ k = 4 := hk
        replace hs : k = 0 → sm = true := hs
        rcases hk with rfl | rfl
        · obtain rfl := hs rfl
          clear hs hvH
          go_wp2_with fail
          refine HE.out.mono ?_
          rintro e w7 ⟨q7, d7, rfl, s7, hB7⟩
          have x7 := x6.trans (hB7.mono x6.size)
          clear a0 a1 a2 b0 b1 b2
          (go_wp2_with fail; refine (HAW.out w7 x7).mono ?_; rintro e wy ⟨rfl, hBy⟩; have xy := (x7).trans (hBy.mono (x7).size); go_wp2; go_ret; exact ⟨rfl, xy⟩)
        · clear hs hvH
          go_wp2_with fail
          refine HE.out.mono ?_
          rintro e w7 ⟨q7, d7, rfl, s7, hB7⟩
          have x7 := x6.trans (hB7.mono x6.size)
          clear a0 a1 a2 b0 b1 b2
          cases sm <;> ((go_wp2_with fail; refine (HAW.out w7 x7).mono ?_; rintro e wy ⟨rfl, hBy⟩; have xy := (x7).trans (hBy.mono (x7).size); go_wp2; go_ret; exact ⟨rfl, xy⟩))
end Go.Proofs.YtaclgmhinljkbaaGreatDoor
namespace Go.Proofs.YtaclgmhinljkbaaGreatDoor
open Go.ChangeShapes Go.WideShapes Go.ChangeAt Go.RowKit

theorem own : ownKnob Tryz.prog.godebug = none := by kernel_rfl
theorem laidOut : laidOutB Tryz.prog = true := by kernel_rfl

theorem trodAll_below {H : Type} {enc : TypeId × Value → H} {W W' : World} (hb : Below W.heap.size W W') :
    ∀ (ts : List TypeId) (vs : List Value) (ds : List (DataW H)) (p : List MemPlace), (∀ t ∈ ts, Tryz.prog.readableRec t = true ∧ t < Tryz.prog.types.size) →
      DataW.TrodAll enc Tryz.prog W 0 (fun _ => true) true ts vs ds p → (∀ x ∈ p, x.block < W.heap.size) →
      DataW.TrodAll enc Tryz.prog W' 0 (fun b => decide (b < W.heap.size)) true ts vs ds p
  | [], vs, ds, p, _, h, _ => by
    obtain ⟨rfl, rfl, rfl⟩ := trodAll_nil h
    exact trodAll_mk0
  | t :: ts, vs, ds, p, ht, h, hlt => by
    obtain ⟨v, vs', d, ds', p', q', rfl, rfl, rfl, h0, h1⟩ := trodAll_cons h
    exact trodAll_cons_mk (Below.trod laidOut (ht t List.mem_cons_self).1 (ht t List.mem_cons_self).2 h0 hb (fun x hx => hlt x (List.mem_append_left _ hx)))
      (trodAll_below hb ts vs' ds' q' (fun t h => ht t (List.mem_cons_of_mem _ h)) h1 (fun x hx => hlt x (List.mem_append_right _ hx)))

/-- What the row asks behind the call of a law. -/
theorem law_post {H : Type} {enc : TypeId × Value → H} {f : Func} {s : ChangeSpec} {W W' : World} {args : Array Value} {ds gs : List (DataW H)} {before : List MemPlace}
    (hW : DataW.Whole enc Tryz.prog f.params.toList s.vars false W args.toList ds gs before) (hv : s.vars = [])
    (hr : f.resultTypes = #[4]) (ht : ∀ t ∈ f.params.toList, Tryz.prog.readableRec t = true ∧ t < Tryz.prog.types.size)
    (hfr : (s.fn H (ds ++ gs)).results = [.lit (.bool true)]) (hfa : (s.fn H (ds ++ gs)).args = ds) (hfv : (s.fn H (ds ++ gs)).vars = [])
    (hB : Below W.heap.size W W') : s.post enc Tryz.prog f false true false false W args (.bool true) W' := by
  have hW' := hW
  obtain ⟨p, q, hA, hV, rfl, hfz, hnd⟩ := hW
  have hlt : ∀ x ∈ p, x.block < W.heap.size := fun x hx => hW'.lt x (List.mem_append_left _ hx)
  refine ⟨ds, gs, _, [] ++ [], p, [], hW', ?_, ?_, ?_, hB.frame _, fun h => by cases h⟩
  · rw [hfr, hr]; exact trodAll_mk1 (shut_bool Tryz.underlying4 true)
  · rw [hfa]; exact trodAll_below hB _ _ _ _ ht hA hlt
  · rw [hfv, hv]; exact rfl
end Go.Proofs.YtaclgmhinljkbaaGreatDoor
namespace Go.Proofs.YtaclgmhinljkbaaGreatDoor
open Go.ChangeShapes Go.WideShapes Go.ChangeAt Go.RowKit

theorem cellsString : Tryz.prog.cellsOf 9 = 1 := by kernel_rfl
theorem readStrings : Tryz.prog.readableRec 22 = true ∧ 22 < Tryz.prog.types.size := ⟨by kernel_rfl, of_decide_eq_true (by kernel_rfl)⟩
theorem readString1 : Tryz.prog.readableRec 9 = true ∧ 9 < Tryz.prog.types.size := ⟨by kernel_rfl, of_decide_eq_true (by kernel_rfl)⟩
theorem readIntS : Tryz.prog.readableRec 3 = true ∧ 3 < Tryz.prog.types.size := ⟨by kernel_rfl, of_decide_eq_true (by kernel_rfl)⟩

set_option maxRecDepth 10000 in
/-- A list of strings that came in, as the walks take it. -/
theorem strings_in {H : Type} {enc : TypeId × Value → H} {W : World} {ps : List MemPlace} {v : Value} {d : DataW H} {base : Nat} (hval : Value.okWide Tryz.prog W .any base 22 v)
    (h : DataW.Trod enc Tryz.prog W 0 (fun _ => true) true 22 v d ps) (hlt : ∀ x ∈ ps, x.block < W.heap.size) :
    ∃ (p : Option Addr) (l : List ByteArray) (c : Nat), v = .slice p l.length c ∧ Sl W Value.string p l ∧ (∀ j (hj : j < l.length), l[j].size ≤ maxLen) ∧ l.length ≤ 9223372036854775807 := by
  obtain ⟨a0, len, cap, rfl⟩ := okWide_slice Tryz.underlying22 hval
  obtain ⟨fuel, hf⟩ := h
  rcases open_strings Tryz.underlying22 Tryz.underlying9 cellsString hf with ⟨hcs, hx⟩ | ⟨a, len', cap', ss, hcs, _, hl, hm, hz, hx, hcell, hws⟩
  · simp [Value.cells] at hcs
    obtain ⟨rfl, rfl, rfl⟩ := hcs
    exact ⟨none, [], 0, rfl, Sl.nil _ _ _, fun j hj => by simp at hj, by simp⟩
  · simp [Value.cells] at hcs
    obtain ⟨rfl, rfl, rfl⟩ := hcs
    simp only [Prod.mk.injEq] at hx
    obtain ⟨_, rfl⟩ := hx
    simp only [if_true] at hz
    have hlen : (ss.take len).length = len := by simp; omega
    refine ⟨some a, ss.take len, cap, by rw [hlen], ?_, ?_, by rw [hlen]; unfold maxLen at hm; omega⟩
    · by_cases h0 : len = 0
      · subst h0; exact .inl (by simp)
      · obtain ⟨b, off, spot⟩ := a
        have hspot : spot = none := by simpa [Addr.add] using World.cell?_spot (hcell 0 (by omega))
        subst hspot
        refine .inr ⟨b, off, rfl, hlt (.cell b off) (MemPlace.mem_row.2 ⟨0, by omega, by simp⟩), fun i hi => ?_⟩
        rw [← add_plain, hcell i (by omega)]
        have : i < ss.length := by omega
        simp [List.getD_eq_getElem?_getD, this]
    · intro j hj
      rw [List.getElem_take]
      exact hws _ (List.getElem_mem _)

end Go.Proofs.YtaclgmhinljkbaaGreatDoor
namespace Go.Proofs.YtaclgmhinljkbaaGreatDoor
open Go.Joins Go.ChangeShapes Go.WideShapes Go.ChangeAt Go.RowKit Go.Deep

section
variable {H : Type} {enc : TypeId × Value → H}
/-- As returnsInHanded_of_change_and, with the world's shape. -/
theorem handed_and_shapedB {a : Assume} {C : Checked} {os : Os} {f : FuncId} {fn : Func} {s : ChangeSpec} {conds : List PathCond} {apart fresh handsOn again : Bool} {X : World → Array Value → Prop}
    (hX : ∀ (w w' : World) (args : Array Value), w.heap = w'.heap → X w args → X w' args)
    (own : ownKnob C.prog.godebug = none) (started : os.Started) (noInit : C.prog.inits.idxOf? f = none) (hfn : C.prog.funcs[f]? = some fn)
    (witness : ∃ (w : World) (tape : Tape) (i : Input), w.os = os ∧ (w.forCall tape i).Shaped C.prog ∧ i.vars = [] ∧ Input.okWide C.prog (w.forCall tape i) .any w.heap.size f i ∧
      ((s.pre enc C.prog fn conds apart (w.forCall tape i).memory i.args ∧ X (w.forCall tape i).memory i.args) ∧ sizedMet enc C.prog fn (OpenSpec.ofChange s) apart (w.forCall tape i).memory i.args) ∧ a.holds C.prog (lone (Frame.enter C.prog f i.args .normal) [] (w.forCall tape i)))
    (contract : ∀ (W : World) (base : Nat) (args : Array Value) (ds gs : List (DataW H)) (before : List MemPlace),
      (∀ (j : Nat) t v, fn.params[j]? = some t → args[j]? = some v → Value.okWide C.prog W .any base t v) →
      DataW.Whole enc C.prog fn.params.toList s.vars apart W args.toList ds gs before → X W args → W.ShapedOpen C.prog →
      Calls C.prog f args W fun e W' => ∃ v, e = .returned v ∧ s.post enc C.prog fn apart fresh handsOn again W args v W') :
    ReturnsInHanded a C os f .any (fun w args => (s.pre enc C.prog fn conds apart w args ∧ X w args) ∧ sizedMet enc C.prog fn (OpenSpec.ofChange s) apart w args) (s.post enc C.prog fn apart fresh handsOn again) := by
  refine returnsInHanded_of_calls own started noInit witness ?_
  intro w tape i _ hsh _ hok hpre hholds
  obtain ⟨_, _, _, fn', hfn', _, _, _, _, hval⟩ := hok
  have e : fn' = fn := Option.some.inj (hfn'.symm.trans hfn)
  subst e
  obtain ⟨⟨⟨ds, gs, before, hw, hc⟩, hx⟩, hz⟩ := hpre
  have hw' := DataW.Whole.of_heap (w' := w.forCall tape i) (by rfl) hw
  refine (contract (w.forCall tape i) w.heap.size i.args ds gs before hval hw' (hX _ _ _ (by rfl) hx) hsh).mono fun e W' ⟨v, he, hp⟩ => ?_
  subst he
  exact ChangeSpec.post_blind hp
end
set_option maxRecDepth 100000 in
theorem door_metB (os : Os) (args : Array Value) : laidMetH Tryz.prog Rows.forbiddenBackRow.laid ((World.doorLaid Tryz.prog 24 os).forCall (fun _ _ => 0) ⟨#[], args, []⟩).memory :=
  laidMetH_of_parts3 (fuel := 8) (laidMet_of_run' 8 (by kernel_rfl) (by kernel_rfl)) (by kernel_rfl) (by kernel_rfl)
set_option maxRecDepth 100000 in
theorem forbiddenBack_lifted (os : Os) (started : os.Started) (H : Type) (enc : TypeId × Value → H) :
    ReturnsInHanded {} Tryz.checked os 3 .any (fun w args => (Rows.forbiddenBackSpec.pre enc Tryz.prog Tryz.f3 [] false w args ∧ laidMetH Tryz.prog Rows.forbiddenBackRow.laid w) ∧ sizedMet enc Tryz.prog Tryz.f3 (OpenSpec.ofChange Rows.forbiddenBackSpec) false w args)
      (Rows.forbiddenBackSpec.post enc Tryz.prog Tryz.f3 false true false false) := by
  refine handed_and_shapedB (C := Tryz.checked) (X := fun w _ => laidMetH Tryz.prog Rows.forbiddenBackRow.laid w) (fun _ _ _ hh h => h.of_heap hh) own started (by kernel_rfl) Tryz.func3
    (ChangeSpec.witness_shaped (enc := enc) (C := Tryz.checked) (os := os) (X := fun w _ => laidMetH Tryz.prog Rows.forbiddenBackRow.laid w) false (World.doorLaid Tryz.prog 24 os) #[.int .i64 0, .slice none 0 0] 8 rfl (World.shaped_of_RefB (by kernel_rfl) (by kernel_rfl)) (by kernel_rfl) (by kernel_rfl) (by kernel_rfl) (door_metB os _)) ?_
  intro W base args ds gs before hval0 hW _ hsh
  have hval : ∀ (j : Nat) t v, Tryz.f3.params[j]? = some t → args[j]? = some v → Value.okWide Tryz.prog W .any base t v := hval0
  have hW' := hW
  obtain ⟨p, q, hA0, hV, rfl, hfz, hnd⟩ := hW
  have hA : DataW.TrodAll enc Tryz.prog W 0 (fun _ => true) true Tryz.f3.params.toList args.toList ds p := hA0
  rw [Tryz.params3] at hA hval
  obtain ⟨v0, v1, d0, d1, p0, p1, rfl, rfl, rfl, h0, h1⟩ := trodAll_two hA
  obtain ⟨rfl, rfl⟩ := trodVars_none hV
  have hlt : ∀ x ∈ p0 ++ p1, x.block < W.heap.size := fun x hx => hW'.lt x (List.mem_append_left _ (by simpa using hx))
  obtain ⟨x, rfl, rfl, rfl, wx⟩ := open_int Tryz.underlying3 (hval 0 3 v0 rfl rfl) h0
  obtain ⟨pa, l, c, rfl, hsl, hz, hl⟩ := strings_in (hval 1 22 v1 rfl rfl) h1 (fun x hx => hlt x (List.mem_append_right _ hx))
  have hmx : Mx W := Tryz.laysM144.s1_3 W hsh
  refine (lawBack_any x l pa c W hsl hl hmx).mono fun e W' ⟨he, hB⟩ => ?_
  subst he
  refine ⟨_, rfl, law_post hW' rfl (by kernel_rfl) ?_ rfl rfl rfl hB⟩
  rw [Tryz.params3]
  intro t ht
  simp only [List.mem_cons, List.not_mem_nil, or_false] at ht
  rcases ht with rfl | rfl
  · exact readIntS
  · exact readStrings

theorem forbiddenBack_holds : Rows.ForbiddenBackSaid :=
  OpenClaim.holds_of_wide 3 Tryz.f3 rfl rfl rfl rfl rfl rfl rfl ⟨rfl, rfl, rfl, rfl, rfl⟩ rfl rfl rfl rfl rfl (by kernel_rfl) Tryz.func3 (by kernel_rfl)
    (of_decide_eq_true (by kernel_rfl)) (by unfold Func.isWrapper; rw [if_neg (of_decide_eq_false (by kernel_rfl))]; exact ⟨rfl, rfl⟩)
    (fun os started H enc _ => forbiddenBack_lifted os started H enc)

theorem forbiddenBack_card : Rows.ForbiddenBackCardSaid :=
  Claim7.holds_tied_plain_at .later [] [.data, .data, .data] true _ false
    forbiddenBack_holds (fun _ h => by cases h) (by kernel_rfl) (fun _ h => by cases h) forbiddenBack_row_tie rfl ⟨rfl, rfl⟩ (by kernel_rfl) rfl
    (fun f fn hf hfn => by
      obtain rfl : f = 3 := Option.some.inj ((show Tryz.prog.funcNamed "groove/groovelaw14.ForbiddenBack" = some 3 by kernel_rfl).symm.trans hf) |>.symm
      obtain rfl : fn = Tryz.f3 := (Option.some.inj (Tryz.func3.symm.trans hfn)).symm
      exact ⟨by kernel_rfl, fun j t ht => by
        rw [Tryz.params3] at ht
        rcases j with _ | _ | j
        · obtain rfl : t = 3 := by simpa using ht.symm
          exact (show Tryz.prog.wantsStandIn 3 = false by kernel_rfl)
        · obtain rfl : t = 22 := by simpa using ht.symm
          exact (show Tryz.prog.wantsStandIn 22 = false by kernel_rfl)
        · simp at ht⟩)
    (by kernel_rfl)
#print axioms forbiddenBack_card
end Go.Proofs.YtaclgmhinljkbaaGreatDoor
