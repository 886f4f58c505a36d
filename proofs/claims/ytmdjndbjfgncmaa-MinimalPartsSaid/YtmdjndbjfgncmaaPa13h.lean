/-
  MinimalParts: whatever graph and numbers come in, the law returns true, and its arguments read as they did.
-/
import Derived.Test.YtmdjndbjfgncmaaPa13g
import Derived.Test.YtmdjndbjfgncmaaRows
import Derived.ProofKit
import Derived.OpenShut
import Derived.ShutString
import Derived.SliceStrings
import Derived.Lib.SmallJoins
import Derived.Deep.Slices
import Derived.Deep.Fields
import Derived.ChangeSame
namespace Go.Proofs.Ytmdjndbjfgncmaa
open Go.RowKit Go.Sort Go.Shelf Go.Lib

/-! ### Not too long -/
theorem parA_len (G : Gr) : (parA G).1.length ≤ 64 := by
  by_cases h : chkD G = 0
  · rw [parA_ok h]
    obtain ⟨hv, _⟩ := chkD_iff.1 h
    have := hv.n2
    have h2 : (clA G).length = G.n.toNat := clsN_len _
    show (clA G).length ≤ 64
    omega
  · rw [parA_bad h]; exact Nat.zero_le _
theorem norm_lenN (l : List Ed) : (norm l).length ≤ l.length := by
  have h1 : ∀ (x : Ed) (a : List Ed), (insE x a).length ≤ a.length + 1 := by
    intro x a
    induction a with
    | nil => simp [insE]
    | cons y a ih =>
      unfold insE
      split
      · simp
      · split
        · simp
        · simp only [List.length_cons]; omega
  have h2 : ∀ (l a : List Ed), (l.foldl (fun a x => insE x a) a).length ≤ a.length + l.length := by
    intro l
    induction l with
    | nil => intro a; simp
    | cons x l ih =>
      intro a
      have := ih (insE x a)
      have := h1 x a
      simp only [List.foldl_cons, List.length_cons]; omega
  simpa [norm] using h2 l []
theorem merA_len (G : Gr) : (merA G).1.es.length ≤ G.es.length ∧ (merA G).2.1.length ≤ 64 := by
  by_cases h : chkD G = 0
  · rw [merA_ok h]
    obtain ⟨hv, _⟩ := chkD_iff.1 h
    have := hv.n2
    have h2 : (clA G).length = G.n.toNat := clsN_len _
    refine ⟨?_, show (clA G).length ≤ 64 by omega⟩
    show (mgA G).1.es.length ≤ _
    unfold mgA makeA
    split
    · have := norm_lenN (G.es.map (mgE (clA G)))
      simpa using this
    · exact Nat.zero_le _
  · rw [merA_bad h]; exact ⟨Nat.zero_le _, Nat.zero_le _⟩
theorem bfs_len {f g : List Ed} {kp is : Int × Int → Bool} {L : Nat} : ∀ (m i : Nat) (l : List Pw) (w : List Int), (∀ y ∈ l, y.2.length ≤ i) → bfs f g kp is L m i l = some w → w.length ≤ i + m
  | 0, i, l, w, _, h => by simp [bfs] at h
  | m + 1, i, l, w, hl, h => by
    unfold bfs at h
    cases hx : l[i]? with
    | none => rw [hx] at h; cases h
    | some x =>
      rw [hx] at h
      have hm : x ∈ l := List.mem_of_getElem? hx
      simp only at h
      split at h
      · cases h
        have := hl x hm; omega
      · have := bfs_len m (i + 1) _ w (bRow_lens (hl x hm) (fun y hy => by have := hl y hy; omega) L) h
        omega
theorem sepA_len (G : Gr) (s t : Int) : (sepA G s t).1.length ≤ 5000 := by
  unfold sepA
  split
  · rename_i h
    split
    · exact Nat.zero_le _
    · obtain ⟨hv, _⟩ := chkD_iff.1 h
      have hn : G.n.toNat ≤ 64 := by have := hv.n2; omega
      have hN := Nat.mul_le_mul (show G.n.toNat + 1 ≤ 65 by omega) (show G.n.toNat + 1 ≤ 65 by omega)
      cases ho : sepO G s t with
      | none => exact Nat.zero_le _
      | some w =>
        have := bfs_len _ 0 _ w (fun y hy => by obtain rfl := List.mem_singleton.1 hy; simp) ho
        show w.length ≤ 5000
        omega
  · exact Nat.zero_le _

set_option maxRecDepth 100000 in
set_option maxHeartbeats 8000000 in
theorem lawParts_any (G : Gr) (p : Option Addr) (c : Nat) (s t : Int) (w : World) (hin : Sg 3 w edE p G.es) (hl : G.es.length ≤ 9223372036854775807) :
    Calls Try.prog 3 #[(.agg #[.int .i64 G.q, .int .i64 G.n, .slice p G.es.length c]), .int .i64 s, .int .i64 t] w fun e w' => e = .returned (.bool true) ∧ RowKit.Below w.heap.size w w' := by
  obtain ⟨w0, hw0⟩ : ∃ w0, w0 = w.alloc (.cells #[.int .i64 G.q, .int .i64 G.n, .slice p G.es.length c] 24) := ⟨_, rfl⟩
  have b0 : VRow w0 w.heap.size 24 [.int .i64 G.q, .int .i64 G.n, .slice p G.es.length c] := by subst hw0; exact VRow.new w _ _
  have hB0 : RowKit.Below w.heap.size w w0 := by subst hw0; exact (RowKit.Below.refl _ _).alloc (Nat.le_refl _) _
  obtain ⟨v0, hv0⟩ : ∃ v0, v0 = w0.alloc (.cells #[.int .i64 G.q, .int .i64 G.n, .slice p G.es.length c] 24) := ⟨_, rfl⟩
  have r0 : VRow v0 w0.heap.size 24 [.int .i64 G.q, .int .i64 G.n, .slice p G.es.length c] := by subst hv0; exact VRow.new w0 _ _
  have hB1 : RowKit.Below w0.heap.size w0 v0 := by subst hv0; exact (RowKit.Below.refl _ _).alloc (Nat.le_refl _) _
  have x0 := hB0.trans (hB1.mono hB0.size)
  have HGR := hidI (great13_one G p c w0.heap.size 1 v0 hl r0)
  have HAW := hidI awake13_any
  have HP1 := hidI (fun W (hW : RowKit.Below w.heap.size w W) => mPartition_any G p c W (hin.below hW) hl)
  have HP2 := hidI (fun W (hW : RowKit.Below w.heap.size w W) => rmPartition_any G p c W (hin.below hW) hl)
  have HM1 := hidI (fun W (hW : RowKit.Below w.heap.size w W) => mMerge_any G p c W (hin.below hW) hl)
  have HM2 := hidI (fun W (hW : RowKit.Below w.heap.size w W) => rmMerge_any G p c W (hin.below hW) hl)
  have HS1 := hidI (fun W (hW : RowKit.Below w.heap.size w W) => mSeparate_any G p c s t W (hin.below hW) hl)
  have HS2 := hidI (fun W (hW : RowKit.Below w.heap.size w W) => rmSeparate_any G p c s t W (hin.below hW) hl)
  have l1 := hidI (parA_len G); have l2 := hidI (merA_len G); have l3 := hidI (sepA_len G s t)
  have hlG := hidI hl
  generalize parA G = xp at *
  generalize merA G = xm at *
  generalize sepA G s t = xs at *
  obtain ⟨la, ea⟩ := xp
  obtain ⟨H, lc, em⟩ := xm
  obtain ⟨lx, bx, ex⟩ := xs
  obtain ⟨b, hb⟩ : ∃ b, gr13 G = b := ⟨_, rfl⟩
  rw [hb] at HGR
  have e1 : (ea == ea) = true := by simp
  have e2 : (em == em) = true := by simp
  have e3 : (ex == ex) = true := by simp
  have e4 : (bx == bx) = true := by simp
  have g0 := b0.at 0 rfl; have g1 := b0.at 1 rfl; have g2 := b0.at 2 rfl
  clear hin hl hb r0
  go_enter Try.func3, Try.ntmps3
  go_upto_region 1 with fail
  rw [← hw0]
  clear hw0
  go_wp2_with fail
  rw [← hv0]
  clear hv0
  refine HGR.out.mono ?_
  rintro e u ⟨rfl, hB⟩
  have x1 := x0.trans (hB.mono x0.size)
  have hBb := hB1.trans (hB.mono hB1.size)
  have b1 := b0.below hBb b0.lt
  clear g0 g1 g2 b0 x0 hB hBb hB1 hB0 HGR
  cases b
  case true =>
    go_wp2_with fail
    refine (HAW.out u).mono ?_
    rintro e u2 ⟨rfl, hB⟩
    have x2 := x1.trans (hB.mono x1.size)
    go_wp2
    go_ret
    exact ⟨rfl, x2⟩
  case false =>
    have b_1 := b1
    clear b1
    have f0 := b_1.at 0 rfl; have f1 := b_1.at 1 rfl; have f2 := b_1.at 2 rfl
    have HC := hidI (HP1.out u x1)
    go_wp2_with fail
    refine HC.out.mono ?_
    rintro e ua ⟨qa, da, rfl, hs, hB⟩
    clear f0 f1 f2 HC HP1
    change Sl ua (Value.int .i64) qa la at hs
    have za_2 := hidI hs
    have x2 := x1.trans (hB.mono x1.size)
    have b_2 := b_1.below hB b_1.lt
    clear x1 b_1
    clear hs hB
    have f0 := b_2.at 0 rfl; have f1 := b_2.at 1 rfl; have f2 := b_2.at 2 rfl
    have HC := hidI (HP2.out ua x2)
    go_wp2_with fail
    refine HC.out.mono ?_
    rintro e ub ⟨qb, db, rfl, hs, hB⟩
    clear f0 f1 f2 HC HP2
    change Sl ub (Value.int .i64) qb la at hs
    have zb_3 := hidI hs
    have x3 := x2.trans (hB.mono x2.size)
    have b_3 := b_2.below hB b_2.lt
    have za_3 := hidI (za_2.out.below hB)
    clear x2 b_2 za_2
    clear hs hB
    have f0 := b_3.at 0 rfl; have f1 := b_3.at 1 rfl; have f2 := b_3.at 2 rfl
    have HC := hidI (HM1.out ub x3)
    go_wp2_with fail
    refine HC.out.mono ?_
    rintro e uc ⟨pc, cc, qc, dc, rfl, hg, _, hs0, hB⟩
    have hs := hs0.sl
    clear f0 f1 f2 HC HM1
    change Sl uc (Value.int .i64) qc lc at hs
    change Sg 3 uc edE pc H.es at hg
    obtain ⟨vc, hvc⟩ : ∃ v, v = uc.alloc (.cells #[.int .i64 H.q, .int .i64 H.n, .slice pc H.es.length cc] 24) := ⟨_, rfl⟩
    have hq : RowKit.Below uc.heap.size uc vc := by subst hvc; exact (RowKit.Below.refl _ _).alloc (Nat.le_refl _) _
    have rc_4 : VRow vc uc.heap.size 24 [.int .i64 H.q, .int .i64 H.n, .slice pc H.es.length cc] := by subst hvc; exact VRow.new uc _ _
    have hD := hB.trans (hq.mono hB.size)
    have gc_4 := hidI (hg.below hq)
    have zc_4 := hidI (hs.below hq)
    have x4 := x3.trans (hD.mono x3.size)
    have b_4 := b_3.below hD b_3.lt
    have za_4 := hidI (za_3.out.below hD)
    have zb_4 := hidI (zb_3.out.below hD)
    clear x3 b_3 za_3 zb_3
    clear hs hs0 hg hq hB hD
    have f0 := b_4.at 0 rfl; have f1 := b_4.at 1 rfl; have f2 := b_4.at 2 rfl
    have HC := hidI (HM2.out vc x4)
    rw [hvc] at f0 f1 f2
    go_wp2_with fail
    rw [← hvc]
    clear hvc
    refine HC.out.mono ?_
    rintro e ud ⟨pd, cd, qd, dd, rfl, hg, _, hs0, hB⟩
    have hs := hs0.sl
    clear f0 f1 f2 HC HM2
    change Sl ud (Value.int .i64) qd lc at hs
    change Sg 3 ud edE pd H.es at hg
    obtain ⟨vd, hvd⟩ : ∃ v, v = ud.alloc (.cells #[.int .i64 H.q, .int .i64 H.n, .slice pd H.es.length cd] 24) := ⟨_, rfl⟩
    have hq : RowKit.Below ud.heap.size ud vd := by subst hvd; exact (RowKit.Below.refl _ _).alloc (Nat.le_refl _) _
    have rd_5 : VRow vd ud.heap.size 24 [.int .i64 H.q, .int .i64 H.n, .slice pd H.es.length cd] := by subst hvd; exact VRow.new ud _ _
    have hD := hB.trans (hq.mono hB.size)
    have gd_5 := hidI (hg.below hq)
    have zd_5 := hidI (hs.below hq)
    have x5 := x4.trans (hD.mono x4.size)
    have b_5 := b_4.below hD b_4.lt
    have rc_5 := rc_4.below hD rc_4.lt
    have za_5 := hidI (za_4.out.below hD)
    have zb_5 := hidI (zb_4.out.below hD)
    have zc_5 := hidI (zc_4.out.below hD)
    have gc_5 := hidI (gc_4.out.below hD)
    clear x4 b_4 rc_4 za_4 zb_4 zc_4 gc_4
    clear hs hs0 hg hq hB hD
    have f0 := b_5.at 0 rfl; have f1 := b_5.at 1 rfl; have f2 := b_5.at 2 rfl
    have HC := hidI (HS1.out vd x5)
    rw [hvd] at f0 f1 f2
    go_wp2_with fail
    rw [← hvd]
    clear hvd
    refine HC.out.mono ?_
    rintro e ux ⟨qx, dx, rfl, hs, hB⟩
    clear f0 f1 f2 HC HS1
    change Sl ux (Value.int .i64) qx lx at hs
    have zx_6 := hidI hs
    have x6 := x5.trans (hB.mono x5.size)
    have b_6 := b_5.below hB b_5.lt
    have rc_6 := rc_5.below hB rc_5.lt
    have rd_6 := rd_5.below hB rd_5.lt
    have za_6 := hidI (za_5.out.below hB)
    have zb_6 := hidI (zb_5.out.below hB)
    have zc_6 := hidI (zc_5.out.below hB)
    have zd_6 := hidI (zd_5.out.below hB)
    have gc_6 := hidI (gc_5.out.below hB)
    have gd_6 := hidI (gd_5.out.below hB)
    clear x5 b_5 rc_5 rd_5 za_5 zb_5 zc_5 zd_5 gc_5 gd_5
    clear hs hB
    have f0 := b_6.at 0 rfl; have f1 := b_6.at 1 rfl; have f2 := b_6.at 2 rfl
    have HC := hidI (HS2.out ux x6)
    go_wp2_with fail
    refine HC.out.mono ?_
    rintro e uy ⟨qy, dy, rfl, hs, hB⟩
    clear f0 f1 f2 HC HS2
    change Sl uy (Value.int .i64) qy lx at hs
    have zy_7 := hidI hs
    have x7 := x6.trans (hB.mono x6.size)
    have b_7 := b_6.below hB b_6.lt
    have rc_7 := rc_6.below hB rc_6.lt
    have rd_7 := rd_6.below hB rd_6.lt
    have za_7 := hidI (za_6.out.below hB)
    have zb_7 := hidI (zb_6.out.below hB)
    have zc_7 := hidI (zc_6.out.below hB)
    have zd_7 := hidI (zd_6.out.below hB)
    have zx_7 := hidI (zx_6.out.below hB)
    have gc_7 := hidI (gc_6.out.below hB)
    have gd_7 := hidI (gd_6.out.below hB)
    clear x6 b_6 rc_6 rd_6 za_6 zb_6 zc_6 zd_6 zx_6 gc_6 gd_6
    clear hs hB
    have HC := hidI (equalI_n la la qa qb da db uy za_7.out zb_7.out (by have := l1.out; (try simp only at this); omega) (by have := l1.out; (try simp only at this); omega))
    rw [decide_eq_true (rfl : la = la)] at HC
    go_wp2_with fail
    refine HC.out.mono ?_
    rintro e t1 ⟨rfl, hB0⟩
    have hB := hB0.below uy.heap.size
    have x8 := x7.trans (hB.mono x7.size)
    have b_8 := b_7.below hB b_7.lt
    have rc_8 := rc_7.below hB rc_7.lt
    have rd_8 := rd_7.below hB rd_7.lt
    have za_8 := hidI (za_7.out.below hB)
    have zb_8 := hidI (zb_7.out.below hB)
    have zc_8 := hidI (zc_7.out.below hB)
    have zd_8 := hidI (zd_7.out.below hB)
    have zx_8 := hidI (zx_7.out.below hB)
    have zy_8 := hidI (zy_7.out.below hB)
    have gc_8 := hidI (gc_7.out.below hB)
    have gd_8 := hidI (gd_7.out.below hB)
    clear x7 b_7 rc_7 rd_7 za_7 zb_7 zc_7 zd_7 zx_7 zy_7 gc_7 gd_7
    clear hB hB0 HC
    have m0 := rc_8.at 0 rfl; have m1 := rc_8.at 1 rfl; have m2 := rc_8.at 2 rfl
    have n0 := rd_8.at 0 rfl; have n1 := rd_8.at 1 rfl; have n2 := rd_8.at 2 rfl
    have HC := hidI (rSame_any H H pc pd cc cd t1 gc_8.out gd_8.out (by have h := l2.out; have h2 := hlG.out; (try simp only at h); omega) (by have h := l2.out; have h2 := hlG.out; (try simp only at h); omega))
    rw [sameG_refl] at HC
    go_wp2_with fail
    refine HC.out.mono ?_
    rintro e t2 ⟨rfl, hB0⟩
    have hB := hB0
    have x9 := x8.trans (hB.mono x8.size)
    have b_9 := b_8.below hB b_8.lt
    have rc_9 := rc_8.below hB rc_8.lt
    have rd_9 := rd_8.below hB rd_8.lt
    have za_9 := hidI (za_8.out.below hB)
    have zb_9 := hidI (zb_8.out.below hB)
    have zc_9 := hidI (zc_8.out.below hB)
    have zd_9 := hidI (zd_8.out.below hB)
    have zx_9 := hidI (zx_8.out.below hB)
    have zy_9 := hidI (zy_8.out.below hB)
    have gc_9 := hidI (gc_8.out.below hB)
    have gd_9 := hidI (gd_8.out.below hB)
    clear x8 b_8 rc_8 rd_8 za_8 zb_8 zc_8 zd_8 zx_8 zy_8 gc_8 gd_8
    clear hB hB0 HC
    clear m0 m1 m2 n0 n1 n2
    have HC := hidI (equalI_n lc lc qc qd dc dd t2 zc_9.out zd_9.out (by have := l2.out; (try simp only at this); omega) (by have := l2.out; (try simp only at this); omega))
    rw [decide_eq_true (rfl : lc = lc)] at HC
    go_wp2_with fail
    refine HC.out.mono ?_
    rintro e t3 ⟨rfl, hB0⟩
    have hB := hB0.below t2.heap.size
    have x10 := x9.trans (hB.mono x9.size)
    have b_10 := b_9.below hB b_9.lt
    have rc_10 := rc_9.below hB rc_9.lt
    have rd_10 := rd_9.below hB rd_9.lt
    have za_10 := hidI (za_9.out.below hB)
    have zb_10 := hidI (zb_9.out.below hB)
    have zc_10 := hidI (zc_9.out.below hB)
    have zd_10 := hidI (zd_9.out.below hB)
    have zx_10 := hidI (zx_9.out.below hB)
    have zy_10 := hidI (zy_9.out.below hB)
    have gc_10 := hidI (gc_9.out.below hB)
    have gd_10 := hidI (gd_9.out.below hB)
    clear x9 b_9 rc_9 rd_9 za_9 zb_9 zc_9 zd_9 zx_9 zy_9 gc_9 gd_9
    clear hB hB0 HC
    have HC := hidI (equalI_n lx lx qx qy dx dy t3 zx_10.out zy_10.out (by have := l3.out; (try simp only at this); omega) (by have := l3.out; (try simp only at this); omega))
    rw [decide_eq_true (rfl : lx = lx)] at HC
    go_wp2_with fail
    refine HC.out.mono ?_
    rintro e t4 ⟨rfl, hB0⟩
    have hB := hB0.below t3.heap.size
    have x11 := x10.trans (hB.mono x10.size)
    have b_11 := b_10.below hB b_10.lt
    have rc_11 := rc_10.below hB rc_10.lt
    have rd_11 := rd_10.below hB rd_10.lt
    have za_11 := hidI (za_10.out.below hB)
    have zb_11 := hidI (zb_10.out.below hB)
    have zc_11 := hidI (zc_10.out.below hB)
    have zd_11 := hidI (zd_10.out.below hB)
    have zx_11 := hidI (zx_10.out.below hB)
    have zy_11 := hidI (zy_10.out.below hB)
    have gc_11 := hidI (gc_10.out.below hB)
    have gd_11 := hidI (gd_10.out.below hB)
    clear x10 b_10 rc_10 rd_10 za_10 zb_10 zc_10 zd_10 zx_10 zy_10 gc_10 gd_10
    clear hB hB0 HC
    have HC := hidI (HAW.out t4)
    go_wp2_with fail
    refine HC.out.mono ?_
    rintro e t5 ⟨rfl, hB0⟩
    have hB := hB0
    have x12 := x11.trans (hB.mono x11.size)
    have b_12 := b_11.below hB b_11.lt
    have rc_12 := rc_11.below hB rc_11.lt
    have rd_12 := rd_11.below hB rd_11.lt
    have za_12 := hidI (za_11.out.below hB)
    have zb_12 := hidI (zb_11.out.below hB)
    have zc_12 := hidI (zc_11.out.below hB)
    have zd_12 := hidI (zd_11.out.below hB)
    have zx_12 := hidI (zx_11.out.below hB)
    have zy_12 := hidI (zy_11.out.below hB)
    have gc_12 := hidI (gc_11.out.below hB)
    have gd_12 := hidI (gd_11.out.below hB)
    clear x11 b_11 rc_11 rd_11 za_11 zb_11 zc_11 zd_11 zx_11 zy_11 gc_11 gd_11
    clear hB hB0 HC
    go_wp2
    go_ret
    exact ⟨rfl, x12⟩
end Go.Proofs.Ytmdjndbjfgncmaa
namespace Go.Proofs.Ytmdjndbjfgncmaa
open Go.ChangeShapes Go.WideShapes Go.ChangeAt Go.RowKit

theorem own : ownKnob Try.prog.godebug = none := by kernel_rfl
theorem laidOut : laidOutB Try.prog = true := by kernel_rfl

theorem trodAll_below {H : Type} {enc : TypeId × Value → H} {W W' : World} (hb : Below W.heap.size W W') :
    ∀ (ts : List TypeId) (vs : List Value) (ds : List (DataW H)) (p : List MemPlace), (∀ t ∈ ts, Try.prog.readableRec t = true ∧ t < Try.prog.types.size) →
      DataW.TrodAll enc Try.prog W 0 (fun _ => true) true ts vs ds p → (∀ x ∈ p, x.block < W.heap.size) →
      DataW.TrodAll enc Try.prog W' 0 (fun b => decide (b < W.heap.size)) true ts vs ds p
  | [], vs, ds, p, _, h, _ => by
    obtain ⟨rfl, rfl, rfl⟩ := trodAll_nil h
    exact trodAll_mk0
  | t :: ts, vs, ds, p, ht, h, hlt => by
    obtain ⟨v, vs', d, ds', p', q', rfl, rfl, rfl, h0, h1⟩ := trodAll_cons h
    exact trodAll_cons_mk (Below.trod laidOut (ht t List.mem_cons_self).1 (ht t List.mem_cons_self).2 h0 hb (fun x hx => hlt x (List.mem_append_left _ hx)))
      (trodAll_below hb ts vs' ds' q' (fun t h => ht t (List.mem_cons_of_mem _ h)) h1 (fun x hx => hlt x (List.mem_append_right _ hx)))

/-- What the row asks behind the call of a law. -/
theorem law_post {H : Type} {enc : TypeId × Value → H} {f : Func} {s : ChangeSpec} {W W' : World} {args : Array Value} {ds gs : List (DataW H)} {before : List MemPlace}
    (hW : DataW.Whole enc Try.prog f.params.toList s.vars false W args.toList ds gs before) (hv : s.vars = [])
    (hr : f.resultTypes = #[4]) (ht : ∀ t ∈ f.params.toList, Try.prog.readableRec t = true ∧ t < Try.prog.types.size)
    (hfr : (s.fn H (ds ++ gs)).results = [.lit (.bool true)]) (hfa : (s.fn H (ds ++ gs)).args = ds) (hfv : (s.fn H (ds ++ gs)).vars = [])
    (hB : Below W.heap.size W W') : s.post enc Try.prog f false true false false W args (.bool true) W' := by
  have hW' := hW
  obtain ⟨p, q, hA, hV, rfl, hfz, hnd⟩ := hW
  have hlt : ∀ x ∈ p, x.block < W.heap.size := fun x hx => hW'.lt x (List.mem_append_left _ hx)
  refine ⟨ds, gs, _, [] ++ [], p, [], hW', ?_, ?_, ?_, hB.frame _, fun h => by cases h⟩
  · rw [hfr, hr]; exact trodAll_mk1 (shut_bool Try.underlying4 true)
  · rw [hfa]; exact trodAll_below hB _ _ _ _ ht hA hlt
  · rw [hfv, hv]; exact rfl
end Go.Proofs.Ytmdjndbjfgncmaa
namespace Go.Proofs.Ytmdjndbjfgncmaa
open Go.Joins Go.ChangeShapes Go.WideShapes Go.ChangeAt Go.RowKit Go.Deep
open Go.ChangeMaps (open_string shut_string)

section
variable {H : Type} {enc : TypeId × Value → H} {P : Program} {w : World} {base : Nat} {spare : Nat → Bool} {held : Bool}
theorem open_slice_fields {t e : TypeId} {fs : Array Field} {fuel : Nat} {cs : List Value} {x : DataW H × List MemPlace} (ht : P.underlying t = some (.slice e)) (he : P.underlying e = some (.struct fs))
    (hone : oneCellFields P fs = true) (hC : P.cellsOf e = fs.size) (h : DataW.trod enc P w base spare held fuel t cs = some x) :
    (cs = [.slice none 0 0] ∧ x = (.nil, [])) ∨
    ∃ (a : Addr) (len cap m : Nat) (D : Nat → DataW H) (Pl : Nat → List MemPlace), cs = [.slice (some a) len cap] ∧ base ≤ a.block ∧ len ≤ cap ∧ cap ≤ maxLen ∧ m = (if spare a.block then cap else len) ∧
      x = (.slice ((List.range len).map D) ((List.range (m - len)).map fun j => D (len + j)), MemPlace.row a (m * fs.size) ++ (List.range m).flatMap Pl) ∧
      ∀ i, i < m → ∃ (ys : List (DataW H × List MemPlace)) (n : Nat), D i = .agg (ys.map (·.1)) ∧ Pl i = ys.flatMap (·.2) ∧ ys.length = fs.size ∧
        ∀ (j : Nat) (f : Field), fs[j]? = some f → ∃ (v : Value) (y : DataW H × List MemPlace), w.cell? (a.add (i * fs.size + j)) = some v ∧ ys[j]? = some y ∧ DataW.trod enc P w base spare held n f.type [v] = some y := by
  rcases open_slice ht h with h0 | ⟨a, len, cap, m, n, D, Pl, hcs, hb, hl, hm, hmm, hx, hi⟩
  · exact .inl h0
  · refine .inr ⟨a, len, cap, m, D, Pl, hcs, hb, hl, hm, hmm, by rw [hC] at hx; exact hx, fun i him => ?_⟩
    obtain ⟨cs', hc, ht'⟩ := hi i him
    rw [hC] at hc
    obtain ⟨ys, n', hn', hy, hlen, hyl, hf⟩ := DataW.trod_struct he ht'
    obtain ⟨_, hcl, hat⟩ := World.cells?_some hc
    simp only [Prod.mk.injEq] at hy
    refine ⟨ys, n', hy.1, hy.2, hyl, fun j f hj => ?_⟩
    obtain ⟨ho, hk⟩ := hone_of hone j f hj
    have hjl : j < fs.size := (Array.getElem?_eq_some_iff.1 hj).1
    have hcell := hat j hjl
    have hv : cs'[j]? = some (cs'[j]'(by omega)) := List.getElem?_eq_getElem (by omega)
    have h1 := hf j f hj
    rw [ho, hk] at h1
    have hone' : (cs'.drop j).take 1 = [cs'[j]'(by omega)] := by
      rw [List.drop_eq_getElem_cons (by omega)]
      rfl
    rw [hone'] at h1
    have hys : ys[j]? = some (ys[j]'(by omega)) := List.getElem?_eq_getElem (by omega)
    refine ⟨_, _, ?_, hys, h1.trans hys⟩
    rw [← Go.Deep.add_add, hcell, hv]
end
/-- Elements that each exist make a list. -/
theorem list_of {α : Type} {P : Nat → α → Prop} : ∀ (n : Nat), (∀ i, i < n → ∃ x, P i x) → ∃ l : List α, l.length = n ∧ ∀ i (h : i < l.length), P i l[i]
  | 0, _ => ⟨[], rfl, fun i h => by simp at h⟩
  | n + 1, h => by
    obtain ⟨l, hl, hp⟩ := list_of n (fun i hi => h i (by omega))
    obtain ⟨x, hx⟩ := h n (by omega)
    refine ⟨l ++ [x], by simp [hl], fun i hi => ?_⟩
    by_cases h2 : i < l.length
    · rw [List.getElem_append_left h2]; exact hp i h2
    · have : i = n := by simp at hi; omega
      subst this
      subst hl
      simpa using hx

theorem cellsInt : Try.prog.cellsOf 3 = 1 := by kernel_rfl
theorem cellsGraph : Try.prog.cellsOf 24 = 3 := by kernel_rfl
theorem readGraph : Try.prog.readableRec 24 = true ∧ 24 < Try.prog.types.size := ⟨by kernel_rfl, of_decide_eq_true (by kernel_rfl)⟩
theorem readInts : Try.prog.readableRec 27 = true ∧ 27 < Try.prog.types.size := ⟨by kernel_rfl, of_decide_eq_true (by kernel_rfl)⟩
theorem readInt : Try.prog.readableRec 3 = true ∧ 3 < Try.prog.types.size := ⟨by kernel_rfl, of_decide_eq_true (by kernel_rfl)⟩

/-- A list of ints inside what came in, as the walks take it. -/
theorem ints_at {H : Type} {enc : TypeId × Value → H} {W : World} {fuel : Nat} {v : Value} {y : DataW H × List MemPlace}
    (h : DataW.trod enc Try.prog W 0 (fun _ => true) true fuel 27 [v] = some y) (hlt : ∀ x ∈ y.2, x.block < W.heap.size) :
    ∃ (p : Option Addr) (l : List Int) (c : Nat), v = .slice p l.length c ∧ Sl W (Value.int .i64) p l ∧ l.length ≤ 9223372036854775807 ∧ l.length ≤ c := by
  rcases open_ints Try.underlying27 Try.underlying3 cellsInt h with ⟨hcs, hx⟩ | ⟨a, len, cap, zs, hcs, _, hl, hm, hz, hx, hcell, _⟩
  · simp at hcs
    subst hcs
    exact ⟨none, [], 0, rfl, Sl.nil _ _ _, by simp, by simp⟩
  · simp at hcs
    subst hcs hx
    simp only [if_true] at hz
    have hlen : (zs.take len).length = len := by simp; omega
    refine ⟨some a, zs.take len, cap, by rw [hlen], ?_, by rw [hlen]; unfold maxLen at hm; omega, by rw [hlen]; exact hl⟩
    by_cases h0 : len = 0
    · subst h0; exact .inl (by simp)
    · obtain ⟨b, off, spot⟩ := a
      have hspot : spot = none := by simpa [Addr.add] using World.cell?_spot (hcell 0 (by omega))
      subst hspot
      refine .inr ⟨b, off, rfl, hlt (.cell b off) (MemPlace.mem_row.2 ⟨0, by omega, by simp⟩), fun i hi => ?_⟩
      rw [← add_plain, hcell i (by omega)]
      have : i < zs.length := by omega
      simp [List.getD_eq_getElem?_getD, this]
/-- A list of edges inside what came in, as the walks take it. -/
theorem edges_at {H : Type} {enc : TypeId × Value → H} {W : World} {fuel : Nat} {v : Value} {y : DataW H × List MemPlace}
    (h : DataW.trod enc Try.prog W 0 (fun _ => true) true fuel 22 [v] = some y) (hlt : ∀ x ∈ y.2, x.block < W.heap.size) :
    ∃ (p : Option Addr) (l : List Ed) (c : Nat), v = .slice p l.length c ∧ Sg 3 W edE p l ∧ l.length ≤ 9223372036854775807 := by
  rcases open_slice_fields Try.underlying22 Try.underlying47 (by kernel_rfl) (by kernel_rfl) h with ⟨hcs, hx⟩ | ⟨a, len, cap, m, D, Pl, hcs, _, hl, hm, hmm, hx, hf⟩
  · simp at hcs
    subst hcs
    exact ⟨none, [], 0, rfl, Sg.nil _ _ _ _, by simp⟩
  · simp at hcs
    subst hcs hx
    simp only [if_true] at hmm
    subst hmm
    obtain ⟨l, hll, hp⟩ := list_of (P := fun i (s : Ed) => W.cell? (a.add (i * 3 + 0)) = some (.int .i64 s.f) ∧ W.cell? (a.add (i * 3 + 1)) = some (.int .i64 s.l) ∧ W.cell? (a.add (i * 3 + 2)) = some (.int .i64 s.t)) len (fun i hi => by
      obtain ⟨ys, n, _, _, _, hj⟩ := hf i (by omega)
      obtain ⟨v0, y0, hc0, _, h0⟩ := hj 0 _ rfl
      obtain ⟨v1, y1, hc1, _, h1⟩ := hj 1 _ rfl
      obtain ⟨v2, y2, hc2, _, h2⟩ := hj 2 _ rfl
      obtain ⟨n0, e0, _, _⟩ := DataW.trod_int Try.underlying3 h0
      obtain ⟨n1, e1, _, _⟩ := DataW.trod_int Try.underlying3 h1
      obtain ⟨n2, e2, _, _⟩ := DataW.trod_int Try.underlying3 h2
      simp at e0 e1 e2
      subst e0 e1 e2
      exact ⟨⟨n0, n1, n2⟩, hc0, hc1, hc2⟩)
    subst hll
    refine ⟨some a, l, _, rfl, ?_, by unfold maxLen at hm; omega⟩
    by_cases h0 : l.length = 0
    · exact .inl (List.length_eq_zero_iff.1 h0)
    · obtain ⟨b, off, spot⟩ := a
      have hspot : spot = none := by simpa [Addr.add] using World.cell?_spot (hp 0 (by omega)).1
      subst hspot
      refine .inr ⟨b, off, rfl, hlt (.cell b off) (List.mem_append_left _ (MemPlace.mem_row.2 ⟨0, Nat.mul_pos (by omega) (by decide), by simp⟩)), fun i hi j hj => ?_⟩
      have hc := hp i hi
      have : j = 0 ∨ j = 1 ∨ j = 2 := by omega
      rw [Nat.add_assoc, ← add_plain]
      rcases this with rfl | rfl | rfl
      · rw [hc.1]; rfl
      · rw [hc.2.1]; rfl
      · rw [hc.2.2]; rfl
set_option maxRecDepth 100000 in
/-- A graph that came in, as the walks take it. -/
theorem graph_in {H : Type} {enc : TypeId × Value → H} {W : World} {ps : List MemPlace} {v : Value} {d : DataW H} {base : Nat} (hval : Value.okWide Try.prog W .any base 24 v)
    (h : DataW.Trod enc Try.prog W 0 (fun _ => true) true 24 v d ps) (hlt : ∀ x ∈ ps, x.block < W.heap.size) :
    ∃ (G : Gr) (p : Option Addr) (c : Nat), v = .agg #[.int .i64 G.q, .int .i64 G.n, .slice p G.es.length c] ∧ Sg 3 W edE p G.es ∧ G.es.length ≤ 9223372036854775807 := by
  obtain ⟨v0, v1, v2, y0, y1, y2, n, rfl, rfl, rfl, h0, h1, h2⟩ := open_agg3 Try.underlying24 (by kernel_rfl) cellsGraph hval h
  obtain ⟨q, e0, _, _⟩ := DataW.trod_int Try.underlying3 h0
  obtain ⟨k, e1, _, _⟩ := DataW.trod_int Try.underlying3 h1
  simp at e0 e1
  subst e0 e1
  obtain ⟨p, l, c, rfl, s, b⟩ := edges_at h2 (fun x hx => hlt x (List.mem_append_right _ (List.mem_append_right _ hx)))
  exact ⟨⟨q, k, l⟩, p, c, rfl, s, b⟩

end Go.Proofs.Ytmdjndbjfgncmaa
namespace Go.Proofs.Ytmdjndbjfgncmaa
open Go.Joins Go.ChangeShapes Go.WideShapes Go.ChangeAt Go.RowKit

theorem readIntN : Try.prog.readableRec 3 = true ∧ 3 < Try.prog.types.size := ⟨by kernel_rfl, of_decide_eq_true (by kernel_rfl)⟩
set_option maxRecDepth 100000 in
theorem parts_lifted (os : Os) (started : os.Started) (H : Type) (enc : TypeId × Value → H) :
    ReturnsInHanded {} Try.checked os 3 .any (Rows.minimalPartsSpec.pre6 enc Try.prog Try.f3 Rows.minimalPartsRow.domain false) (Rows.minimalPartsSpec.post enc Try.prog Try.f3 false true false false) := by
  refine returnsInHanded_of_change (C := Try.checked) own started (by kernel_rfl) Try.func3
    (ChangeSpec.witness6 (enc := enc) (C := Try.checked) false ⟨#[], #[.agg #[.int .i64 0, .int .i64 0, .slice none 0 0], .int .i64 0, .int .i64 0], []⟩ 8 (by kernel_rfl) (by kernel_rfl) (by kernel_rfl) (by kernel_rfl)) ?_
  intro W base args ds gs before hval0 hW hcnd _
  have hval : ∀ (j : Nat) t v, Try.f3.params[j]? = some t → args[j]? = some v → Value.okWide Try.prog W .any base t v := hval0
  have hW' := hW
  obtain ⟨p, q, hA0, hV, rfl, hfz, hnd⟩ := hW
  have hA : DataW.TrodAll enc Try.prog W 0 (fun _ => true) true Try.f3.params.toList args.toList ds p := hA0
  rw [Try.params3] at hA hval
  obtain ⟨v0, v1, v2, d0, d1, d2, p0, p1, p2, rfl, rfl, rfl, h0, h1, h2⟩ := trodAll_three hA
  obtain ⟨rfl, rfl⟩ := trodVars_none hV
  have hlt : ∀ x ∈ p0 ++ (p1 ++ p2), x.block < W.heap.size := fun x hx => hW'.lt x (List.mem_append_left _ (by simpa using hx))
  obtain ⟨G0, q0, c0, rfl, s0, l0⟩ := graph_in (hval 0 24 v0 rfl rfl) h0 (fun x hx => hlt x (List.mem_append_left _ hx))
  obtain ⟨n1, rfl, rfl, rfl, w1⟩ := open_int Try.underlying3 (hval 1 3 v1 rfl rfl) h1
  obtain ⟨n2, rfl, rfl, rfl, w2⟩ := open_int Try.underlying3 (hval 2 3 v2 rfl rfl) h2
  refine (lawParts_any G0 q0 c0 n1 n2 W s0 l0).mono fun e W' ⟨he, hB⟩ => ?_
  subst he
  refine ⟨_, rfl, law_post hW' rfl (by kernel_rfl) ?_ rfl rfl rfl hB⟩
  rw [Try.params3]
  intro t ht
  simp only [List.mem_cons, List.not_mem_nil, or_false] at ht
  rcases ht with rfl | rfl | rfl
  · exact readGraph
  · exact readIntN
  · exact readIntN

theorem minimalParts_holds : Rows.MinimalPartsSaid :=
  OpenClaim.holds_of_wide 3 Try.f3 rfl rfl rfl rfl rfl rfl rfl ⟨rfl, rfl, rfl, rfl, rfl⟩ rfl rfl rfl rfl rfl (by kernel_rfl) Try.func3 (by kernel_rfl)
    (of_decide_eq_true (by kernel_rfl)) (by unfold Func.isWrapper; rw [if_neg (of_decide_eq_false (by kernel_rfl))]; exact ⟨rfl, rfl⟩)
    (fun os started H enc _ => parts_lifted os started H enc)
#print axioms minimalParts_holds
end Go.Proofs.Ytmdjndbjfgncmaa
