/-
  MinimalClasses: whatever graph and numbers come in, the law returns true, and its arguments read as they did.
-/
import Derived.Test.YtmdjndbjfgncmaaCs13g
import Derived.Test.YtmdjndbjfgncmaaCs13h
import Derived.Test.YtmdjndbjfgncmaaRows
import Derived.ProofKit
import Derived.OpenShut
import Derived.ShutString
import Derived.SliceStrings
import Derived.Lib.SmallJoins
import Derived.Deep.Slices
import Derived.Deep.Fields
import Derived.ChangeSame
namespace Go.Proofs.Ytmdjndbjfgncmaa
open Go.RowKit Go.Sort Go.Shelf Go.Lib

def leadsA (G : Gr) : List Int → List Int → List Int
  | st, [] => st
  | st, b :: l => if (stepA G st b).2 = 0 then leadsA G (stepA G st b).1 l else []
theorem stepA_len (G : Gr) (st : List Int) (b : Int) : (stepA G st b).1.length ≤ 64 := by
  unfold stepA
  split
  · rename_i h
    have hv := chkG_ok.1 h
    split
    · split
      · exact Nat.zero_le _
      · have := uptof_len (nxP G.es st b) G.n.toNat
        have := hv.n2
        show (nextA G st b).length ≤ 64
        unfold nextA
        omega
    · exact Nat.zero_le _
  · exact Nat.zero_le _
theorem leadsA_go {G : Gr} {st ws : List Int} {k : Nat} (h : k < ws.length) (h2 : (stepA G st ws[k]).2 = 0) : leadsA G st (ws.drop k) = leadsA G (stepA G st ws[k]).1 (ws.drop (k + 1)) := by
  rw [List.drop_eq_getElem_cons h, leadsA, if_pos h2]
theorem leadsA_halt {G : Gr} {st ws : List Int} {k : Nat} (h : k < ws.length) (h2 : (stepA G st ws[k]).2 ≠ 0) : leadsA G st (ws.drop k) = [] := by
  rw [List.drop_eq_getElem_cons h, leadsA, if_neg h2]
theorem leadsA_end {G : Gr} {st ws : List Int} {k : Nat} (h : ws.length ≤ k) : leadsA G st (ws.drop k) = st := by
  rw [List.drop_eq_nil_of_le h]; rfl
/-- Numbers. -/
def RetLd (l : List Int) (w : World) (e : Ending) (w' : World) : Prop := ∃ q d, e = .returned (.slice q l.length d) ∧ Sl w' (Value.int .i64) q l ∧ RowKit.Below w.heap.size w w'

set_option maxRecDepth 100000 in
set_option maxHeartbeats 1000000 in
theorem leads13_any (G : Gr) (p : Option Addr) (c : Nat) (st ws : List Int) (q qw : Option Addr) (d dw : Nat) (w : World) (hin : Sg 3 w edE p G.es) (hst : Sl w (Value.int .i64) q st) (hws : Sl w (Value.int .i64) qw ws)
    (hl : G.es.length ≤ 10000) (hs : st.length ≤ 1000) (hw : ws.length ≤ 10000) :
    Calls Try.prog 19 #[(.agg #[.int .i64 G.q, .int .i64 G.n, .slice p G.es.length c]), .slice q st.length d, .slice qw ws.length dw] w (RetLd (leadsA G st ws) w) := by
  obtain ⟨w0, hw0⟩ : ∃ w0, w0 = w.alloc (.cells #[.int .i64 G.q, .int .i64 G.n, .slice p G.es.length c] 24) := ⟨_, rfl⟩
  have b0 : VRow w0 w.heap.size 24 [.int .i64 G.q, .int .i64 G.n, .slice p G.es.length c] := by subst hw0; exact VRow.new w _ _
  have hB0 : RowKit.Below w.heap.size w w0 := by subst hw0; exact (RowKit.Below.refl _ _).alloc (Nat.le_refl _) _
  have HST := hidI (fun W st' q' d' b (hW : RowKit.Below w.heap.size w W) (h : Sl W (Value.int .i64) q' st') (h2 : st'.length ≤ 1000) => gStep_any G p c st' q' d' b W (hin.below hW) h hl (by omega))
  have hst0 := hst.below hB0
  have HWS := hidI (fun W (hW : RowKit.Below w.heap.size w W) => hws.below hW)
  clear hin hst hws
  go_enter Try.func19, Try.ntmps19
  go_wp2
  rw [← hw0]
  clear hw0
  go_loopw [1, 13] (fun sv kv wr => ∃ (k : Nat) (st' : List Int) (q' : Option Addr) (d' : Nat), k ≤ ws.length ∧ sv = .slice q' st'.length d' ∧ kv = .int .i64 k ∧ Sl wr (Value.int .i64) q' st' ∧ st'.length ≤ 1000 ∧ Hid (leadsA G st' (ws.drop k) = leadsA G st ws) ∧ RowKit.Below w0.heap.size w0 wr) (fun _ kv _ => ws.length - (intOf kv).toNat)
  case atStart => exact ⟨0, st, q, d, by omega, rfl, rfl, hst0, hs, by rw [Hid, List.drop_zero], RowKit.Below.refl _ _⟩
  case round =>
    clear hst0
    obtain ⟨k, st', q', d', hk, rfl, rfl, hst, hs', hj, hB⟩ := hrel
    have hBw := hB0.trans (hB.mono hB0.size)
    by_cases hlt : k < ws.length
    · have hltI : (k : Int) < (ws.length : Int) := by omega
      obtain ⟨bw, ow, rfl, hbw, hcw⟩ := (HWS.out wr hBw).get k hlt
      have e0 := hcw k hlt
      have HC := hidI (HST.out wr st' q' d' ws[k] hBw hst hs')
      have HLN := hidI (stepA_len G st' ws[k])
      have HGO := hidI (fun h => @leadsA_go G st' ws k hlt h)
      have HHA := hidI (fun h => @leadsA_halt G st' ws k hlt h)
      have b1 := b0.below hB b0.lt
      have f0 := b1.at 0 rfl; have f1 := b1.at 1 rfl; have f2 := b1.at 2 rfl
      generalize ws[k] = lab at *
      generalize stepA G st' lab = x at *
      obtain ⟨r, er⟩ := x
      clear hcw hst
      go_wp2_with fail
      refine HC.out.mono ?_
      rintro e w5 ⟨p5, m5, c5, rfl, hown, hB5⟩
      obtain ⟨p5', c5', hv5, hs5⟩ := own_sl hown
      cases hv5
      change Sl w5 (Value.int .i64) p5 r at hs5
      have hB6 := hB.trans (hB5.mono hB.size)
      have hB7 := hB0.trans (hB6.mono hB0.size)
      clear hown HC f0 f1 f2 b1
      by_cases he : er = 0
      · subst he
        have HX := hidI ((HGO.out rfl).symm.trans hj.out)
        have hr := HLN.out
        change r.length ≤ 64 at hr
        have hr2 : r.length ≤ 1000 := by omega
        clear HGO HHA
        go_wp2
        go_roundw
        case rel => exact ⟨k + 1, r, p5, c5, by omega, rfl, by go_num, hs5, hr2, HX, hB6⟩
        case measure => simp [intOf]; omega
      · have HX := hidI (hj.out.symm.trans (HHA.out he))
        have heb : (er != 0) = true := by simpa using he
        clear HGO HHA he
        go_wp2
        go_ret
        rw [HX.out]
        exact ⟨none, 0, rfl, Sl.nil _ _ _, hB7⟩
    · have hltI : ¬ (k : Int) < (ws.length : Int) := by omega
      have HX := hidI (hj.out.symm.trans (leadsA_end (by omega)))
      go_wp2
      go_ret
      rw [HX.out]
      exact ⟨q', d', rfl, hst, hBw⟩

/-! ### Deterministic -/
def det13A (G : Gr) : Bool := !gr13 G && (decide ((detA G).2 = 0) && (detA G).1)
theorem det13_any (G : Gr) (p : Option Addr) (c : Nat) (w : World) (hin : Sg 3 w edE p G.es) (hl : G.es.length ≤ 9223372036854775807) :
    Calls Try.prog 16 #[(.agg #[.int .i64 G.q, .int .i64 G.n, .slice p G.es.length c])] w fun e w' => e = .returned (.bool (det13A G)) ∧ RowKit.Below w.heap.size w w' := by
  obtain ⟨w0, hw0⟩ : ∃ w0, w0 = w.alloc (.cells #[.int .i64 G.q, .int .i64 G.n, .slice p G.es.length c] 24) := ⟨_, rfl⟩
  have b0 : VRow w0 w.heap.size 24 [.int .i64 G.q, .int .i64 G.n, .slice p G.es.length c] := by subst hw0; exact VRow.new w _ _
  have hB0 : RowKit.Below w.heap.size w w0 := by subst hw0; exact (RowKit.Below.refl _ _).alloc (Nat.le_refl _) _
  have HD := hidI (gDet_any G p c w0 (hin.below hB0) hl)
  have HG := hidI (fun W => rmGreat_any G p c W hl)
  have HX : Hid (det13A G = (!gr13 G && (decide ((detA G).2 = 0) && (detA G).1))) := rfl
  generalize detA G = x at *
  generalize gr13 G = y at *
  obtain ⟨a, k⟩ := x
  change Hid (det13A G = (!y && (decide (k = 0) && a))) at HX
  clear hin
  have f0 := b0.at 0 rfl; have f1 := b0.at 1 rfl; have f2 := b0.at 2 rfl
  go_enter Try.func16, Try.ntmps16
  go_upto_region 1 with fail
  rw [← hw0]
  clear hw0
  go_wp2_with fail
  refine HD.out.mono ?_
  rintro e w1 ⟨rfl, hB1⟩
  have x1 := hB0.trans (hB1.mono hB0.size)
  have b1 := b0.below hB1 b0.lt
  clear f0 f1 f2
  have f0 := b1.at 0 rfl; have f1 := b1.at 1 rfl; have f2 := b1.at 2 rfl
  go_wp2_with fail
  refine (HG.out w1).mono ?_
  rintro e w2 ⟨rfl, hB2⟩
  have x2 := x1.trans (hB2.mono x1.size)
  clear f0 f1 f2 b1 HD HG
  cases y
  · by_cases hk : k = 0
    · subst hk
      go_wp2
      go_ret
      exact ⟨ret_bool (by rw [HX.out]; simp), x2⟩
    · have hkb : (k == 0) = false := by simpa using hk
      go_wp2
      go_ret
      exact ⟨ret_bool (by rw [HX.out]; simp [hk]), x2⟩
  · go_wp2
    go_ret
    exact ⟨ret_bool (by rw [HX.out]; rfl), x2⟩
end Go.Proofs.Ytmdjndbjfgncmaa
namespace Go.Proofs.Ytmdjndbjfgncmaa
open Go.RowKit Go.Sort Go.Shelf Go.Lib

/-! ### Not too long -/
theorem parA_len (G : Gr) : (parA G).1.length ≤ 64 := by
  by_cases h : chkD G = 0
  · rw [parA_ok h]
    obtain ⟨hv, _⟩ := chkD_iff.1 h
    have := hv.n2
    have h2 : (clA G).length = G.n.toNat := clsN_len _
    show (clA G).length ≤ 64
    omega
  · rw [parA_bad h]; exact Nat.zero_le _
theorem norm_lenN (l : List Ed) : (norm l).length ≤ l.length := by
  have h1 : ∀ (x : Ed) (a : List Ed), (insE x a).length ≤ a.length + 1 := by
    intro x a
    induction a with
    | nil => simp [insE]
    | cons y a ih =>
      unfold insE
      split
      · simp
      · split
        · simp
        · simp only [List.length_cons]; omega
  have h2 : ∀ (l a : List Ed), (l.foldl (fun a x => insE x a) a).length ≤ a.length + l.length := by
    intro l
    induction l with
    | nil => intro a; simp
    | cons x l ih =>
      intro a
      have := ih (insE x a)
      have := h1 x a
      simp only [List.foldl_cons, List.length_cons]; omega
  simpa [norm] using h2 l []
theorem merA_len (G : Gr) : (merA G).1.es.length ≤ G.es.length ∧ (merA G).2.1.length ≤ 64 := by
  by_cases h : chkD G = 0
  · rw [merA_ok h]
    obtain ⟨hv, _⟩ := chkD_iff.1 h
    have := hv.n2
    have h2 : (clA G).length = G.n.toNat := clsN_len _
    refine ⟨?_, show (clA G).length ≤ 64 by omega⟩
    show (mgA G).1.es.length ≤ _
    unfold mgA makeA
    split
    · have := norm_lenN (G.es.map (mgE (clA G)))
      simpa using this
    · exact Nat.zero_le _
  · rw [merA_bad h]; exact ⟨Nat.zero_le _, Nat.zero_le _⟩
theorem bfs_len {f g : List Ed} {kp is : Int × Int → Bool} {L : Nat} : ∀ (m i : Nat) (l : List Pw) (w : List Int), (∀ y ∈ l, y.2.length ≤ i) → bfs f g kp is L m i l = some w → w.length ≤ i + m
  | 0, i, l, w, _, h => by simp [bfs] at h
  | m + 1, i, l, w, hl, h => by
    unfold bfs at h
    cases hx : l[i]? with
    | none => rw [hx] at h; cases h
    | some x =>
      rw [hx] at h
      have hm : x ∈ l := List.mem_of_getElem? hx
      simp only at h
      split at h
      · cases h
        have := hl x hm; omega
      · have := bfs_len m (i + 1) _ w (bRow_lens (hl x hm) (fun y hy => by have := hl y hy; omega) L) h
        omega
theorem sepA_len (G : Gr) (s t : Int) : (sepA G s t).1.length ≤ 5000 := by
  unfold sepA
  split
  · rename_i h
    split
    · exact Nat.zero_le _
    · obtain ⟨hv, _⟩ := chkD_iff.1 h
      have hn : G.n.toNat ≤ 64 := by have := hv.n2; omega
      have hN := Nat.mul_le_mul (show G.n.toNat + 1 ≤ 65 by omega) (show G.n.toNat + 1 ≤ 65 by omega)
      cases ho : sepO G s t with
      | none => exact Nat.zero_le _
      | some w =>
        have := bfs_len _ 0 _ w (fun y hy => by obtain rfl := List.mem_singleton.1 hy; simp) ho
        show w.length ≤ 5000
        omega
  · exact Nat.zero_le _

set_option maxRecDepth 100000 in
set_option maxHeartbeats 8000000 in
theorem lawParts_any (G : Gr) (p : Option Addr) (c : Nat) (s t : Int) (w : World) (hin : Sg 3 w edE p G.es) (hl : G.es.length ≤ 9223372036854775807) :
    Calls Try.prog 3 #[(.agg #[.int .i64 G.q, .int .i64 G.n, .slice p G.es.length c]), .int .i64 s, .int .i64 t] w fun e w' => e = .returned (.bool true) ∧ RowKit.Below w.heap.size w w' := by
  obtain ⟨w0, hw0⟩ : ∃ w0, w0 = w.alloc (.cells #[.int .i64 G.q, .int .i64 G.n, .slice p G.es.length c] 24) := ⟨_, rfl⟩
  have b0 : VRow w0 w.heap.size 24 [.int .i64 G.q, .int .i64 G.n, .slice p G.es.length c] := by subst hw0; exact VRow.new w _ _
  have hB0 : RowKit.Below w.heap.size w w0 := by subst hw0; exact (RowKit.Below.refl _ _).alloc (Nat.le_refl _) _
  obtain ⟨v0, hv0⟩ : ∃ v0, v0 = w0.alloc (.cells #[.int .i64 G.q, .int .i64 G.n, .slice p G.es.length c] 24) := ⟨_, rfl⟩
  have r0 : VRow v0 w0.heap.size 24 [.int .i64 G.q, .int .i64 G.n, .slice p G.es.length c] := by subst hv0; exact VRow.new w0 _ _
  have hB1 : RowKit.Below w0.heap.size w0 v0 := by subst hv0; exact (RowKit.Below.refl _ _).alloc (Nat.le_refl _) _
  have x0 := hB0.trans (hB1.mono hB0.size)
  have HGR := hidI (great13_one G p c w0.heap.size 1 v0 hl r0)
  have HAW := hidI awake13_any
  have HP1 := hidI (fun W (hW : RowKit.Below w.heap.size w W) => mPartition_any G p c W (hin.below hW) hl)
  have HP2 := hidI (fun W (hW : RowKit.Below w.heap.size w W) => rmPartition_any G p c W (hin.below hW) hl)
  have HM1 := hidI (fun W (hW : RowKit.Below w.heap.size w W) => mMerge_any G p c W (hin.below hW) hl)
  have HM2 := hidI (fun W (hW : RowKit.Below w.heap.size w W) => rmMerge_any G p c W (hin.below hW) hl)
  have HS1 := hidI (fun W (hW : RowKit.Below w.heap.size w W) => mSeparate_any G p c s t W (hin.below hW) hl)
  have HS2 := hidI (fun W (hW : RowKit.Below w.heap.size w W) => rmSeparate_any G p c s t W (hin.below hW) hl)
  have l1 := hidI (parA_len G); have l2 := hidI (merA_len G); have l3 := hidI (sepA_len G s t)
  have hlG := hidI hl
  generalize parA G = xp at *
  generalize merA G = xm at *
  generalize sepA G s t = xs at *
  obtain ⟨la, ea⟩ := xp
  obtain ⟨H, lc, em⟩ := xm
  obtain ⟨lx, bx, ex⟩ := xs
  obtain ⟨b, hb⟩ : ∃ b, gr13 G = b := ⟨_, rfl⟩
  rw [hb] at HGR
  have e1 : (ea == ea) = true := by simp
  have e2 : (em == em) = true := by simp
  have e3 : (ex == ex) = true := by simp
  have e4 : (bx == bx) = true := by simp
  have g0 := b0.at 0 rfl; have g1 := b0.at 1 rfl; have g2 := b0.at 2 rfl
  clear hin hl hb r0
  go_enter Try.func3, Try.ntmps3
  go_upto_region 1 with fail
  rw [← hw0]
  clear hw0
  go_wp2_with fail
  rw [← hv0]
  clear hv0
  refine HGR.out.mono ?_
  rintro e u ⟨rfl, hB⟩
  have x1 := x0.trans (hB.mono x0.size)
  have hBb := hB1.trans (hB.mono hB1.size)
  have b1 := b0.below hBb b0.lt
  clear g0 g1 g2 b0 x0 hB hBb hB1 hB0 HGR
  cases b
  case true =>
    go_wp2_with fail
    refine (HAW.out u).mono ?_
    rintro e u2 ⟨rfl, hB⟩
    have x2 := x1.trans (hB.mono x1.size)
    go_wp2
    go_ret
    exact ⟨rfl, x2⟩
  case false =>
    have b_1 := b1
    clear b1
    have f0 := b_1.at 0 rfl; have f1 := b_1.at 1 rfl; have f2 := b_1.at 2 rfl
    have HC := hidI (HP1.out u x1)
    go_wp2_with fail
    refine HC.out.mono ?_
    rintro e ua ⟨qa, da, rfl, hs, hB⟩
    clear f0 f1 f2 HC HP1
    change Sl ua (Value.int .i64) qa la at hs
    have za_2 := hidI hs
    have x2 := x1.trans (hB.mono x1.size)
    have b_2 := b_1.below hB b_1.lt
    clear x1 b_1
    clear hs hB
    have f0 := b_2.at 0 rfl; have f1 := b_2.at 1 rfl; have f2 := b_2.at 2 rfl
    have HC := hidI (HP2.out ua x2)
    go_wp2_with fail
    refine HC.out.mono ?_
    rintro e ub ⟨qb, db, rfl, hs, hB⟩
    clear f0 f1 f2 HC HP2
    change Sl ub (Value.int .i64) qb la at hs
    have zb_3 := hidI hs
    have x3 := x2.trans (hB.mono x2.size)
    have b_3 := b_2.below hB b_2.lt
    have za_3 := hidI (za_2.out.below hB)
    clear x2 b_2 za_2
    clear hs hB
    have f0 := b_3.at 0 rfl; have f1 := b_3.at 1 rfl; have f2 := b_3.at 2 rfl
    have HC := hidI (HM1.out ub x3)
    go_wp2_with fail
    refine HC.out.mono ?_
    rintro e uc ⟨pc, cc, qc, dc, rfl, hg, _, hs0, hB⟩
    have hs := hs0.sl
    clear f0 f1 f2 HC HM1
    change Sl uc (Value.int .i64) qc lc at hs
    change Sg 3 uc edE pc H.es at hg
    obtain ⟨vc, hvc⟩ : ∃ v, v = uc.alloc (.cells #[.int .i64 H.q, .int .i64 H.n, .slice pc H.es.length cc] 24) := ⟨_, rfl⟩
    have hq : RowKit.Below uc.heap.size uc vc := by subst hvc; exact (RowKit.Below.refl _ _).alloc (Nat.le_refl _) _
    have rc_4 : VRow vc uc.heap.size 24 [.int .i64 H.q, .int .i64 H.n, .slice pc H.es.length cc] := by subst hvc; exact VRow.new uc _ _
    have hD := hB.trans (hq.mono hB.size)
    have gc_4 := hidI (hg.below hq)
    have zc_4 := hidI (hs.below hq)
    have x4 := x3.trans (hD.mono x3.size)
    have b_4 := b_3.below hD b_3.lt
    have za_4 := hidI (za_3.out.below hD)
    have zb_4 := hidI (zb_3.out.below hD)
    clear x3 b_3 za_3 zb_3
    clear hs hs0 hg hq hB hD
    have f0 := b_4.at 0 rfl; have f1 := b_4.at 1 rfl; have f2 := b_4.at 2 rfl
    have HC := hidI (HM2.out vc x4)
    rw [hvc] at f0 f1 f2
    go_wp2_with fail
    rw [← hvc]
    clear hvc
    refine HC.out.mono ?_
    rintro e ud ⟨pd, cd, qd, dd, rfl, hg, _, hs0, hB⟩
    have hs := hs0.sl
    clear f0 f1 f2 HC HM2
    change Sl ud (Value.int .i64) qd lc at hs
    change Sg 3 ud edE pd H.es at hg
    obtain ⟨vd, hvd⟩ : ∃ v, v = ud.alloc (.cells #[.int .i64 H.q, .int .i64 H.n, .slice pd H.es.length cd] 24) := ⟨_, rfl⟩
    have hq : RowKit.Below ud.heap.size ud vd := by subst hvd; exact (RowKit.Below.refl _ _).alloc (Nat.le_refl _) _
    have rd_5 : VRow vd ud.heap.size 24 [.int .i64 H.q, .int .i64 H.n, .slice pd H.es.length cd] := by subst hvd; exact VRow.new ud _ _
    have hD := hB.trans (hq.mono hB.size)
    have gd_5 := hidI (hg.below hq)
    have zd_5 := hidI (hs.below hq)
    have x5 := x4.trans (hD.mono x4.size)
    have b_5 := b_4.below hD b_4.lt
    have rc_5 := rc_4.below hD rc_4.lt
    have za_5 := hidI (za_4.out.below hD)
    have zb_5 := hidI (zb_4.out.below hD)
    have zc_5 := hidI (zc_4.out.below hD)
    have gc_5 := hidI (gc_4.out.below hD)
    clear x4 b_4 rc_4 za_4 zb_4 zc_4 gc_4
    clear hs hs0 hg hq hB hD
    have f0 := b_5.at 0 rfl; have f1 := b_5.at 1 rfl; have f2 := b_5.at 2 rfl
    have HC := hidI (HS1.out vd x5)
    rw [hvd] at f0 f1 f2
    go_wp2_with fail
    rw [← hvd]
    clear hvd
    refine HC.out.mono ?_
    rintro e ux ⟨qx, dx, rfl, hs, hB⟩
    clear f0 f1 f2 HC HS1
    change Sl ux (Value.int .i64) qx lx at hs
    have zx_6 := hidI hs
    have x6 := x5.trans (hB.mono x5.size)
    have b_6 := b_5.below hB b_5.lt
    have rc_6 := rc_5.below hB rc_5.lt
    have rd_6 := rd_5.below hB rd_5.lt
    have za_6 := hidI (za_5.out.below hB)
    have zb_6 := hidI (zb_5.out.below hB)
    have zc_6 := hidI (zc_5.out.below hB)
    have zd_6 := hidI (zd_5.out.below hB)
    have gc_6 := hidI (gc_5.out.below hB)
    have gd_6 := hidI (gd_5.out.below hB)
    clear x5 b_5 rc_5 rd_5 za_5 zb_5 zc_5 zd_5 gc_5 gd_5
    clear hs hB
    have f0 := b_6.at 0 rfl; have f1 := b_6.at 1 rfl; have f2 := b_6.at 2 rfl
    have HC := hidI (HS2.out ux x6)
    go_wp2_with fail
    refine HC.out.mono ?_
    rintro e uy ⟨qy, dy, rfl, hs, hB⟩
    clear f0 f1 f2 HC HS2
    change Sl uy (Value.int .i64) qy lx at hs
    have zy_7 := hidI hs
    have x7 := x6.trans (hB.mono x6.size)
    have b_7 := b_6.below hB b_6.lt
    have rc_7 := rc_6.below hB rc_6.lt
    have rd_7 := rd_6.below hB rd_6.lt
    have za_7 := hidI (za_6.out.below hB)
    have zb_7 := hidI (zb_6.out.below hB)
    have zc_7 := hidI (zc_6.out.below hB)
    have zd_7 := hidI (zd_6.out.below hB)
    have zx_7 := hidI (zx_6.out.below hB)
    have gc_7 := hidI (gc_6.out.below hB)
    have gd_7 := hidI (gd_6.out.below hB)
    clear x6 b_6 rc_6 rd_6 za_6 zb_6 zc_6 zd_6 zx_6 gc_6 gd_6
    clear hs hB
    have HC := hidI (equalI_n la la qa qb da db uy za_7.out zb_7.out (by have := l1.out; (try simp only at this); omega) (by have := l1.out; (try simp only at this); omega))
    rw [decide_eq_true (rfl : la = la)] at HC
    go_wp2_with fail
    refine HC.out.mono ?_
    rintro e t1 ⟨rfl, hB0⟩
    have hB := hB0.below uy.heap.size
    have x8 := x7.trans (hB.mono x7.size)
    have b_8 := b_7.below hB b_7.lt
    have rc_8 := rc_7.below hB rc_7.lt
    have rd_8 := rd_7.below hB rd_7.lt
    have za_8 := hidI (za_7.out.below hB)
    have zb_8 := hidI (zb_7.out.below hB)
    have zc_8 := hidI (zc_7.out.below hB)
    have zd_8 := hidI (zd_7.out.below hB)
    have zx_8 := hidI (zx_7.out.below hB)
    have zy_8 := hidI (zy_7.out.below hB)
    have gc_8 := hidI (gc_7.out.below hB)
    have gd_8 := hidI (gd_7.out.below hB)
    clear x7 b_7 rc_7 rd_7 za_7 zb_7 zc_7 zd_7 zx_7 zy_7 gc_7 gd_7
    clear hB hB0 HC
    have m0 := rc_8.at 0 rfl; have m1 := rc_8.at 1 rfl; have m2 := rc_8.at 2 rfl
    have n0 := rd_8.at 0 rfl; have n1 := rd_8.at 1 rfl; have n2 := rd_8.at 2 rfl
    have HC := hidI (rSame_any H H pc pd cc cd t1 gc_8.out gd_8.out (by have h := l2.out; have h2 := hlG.out; (try simp only at h); omega) (by have h := l2.out; have h2 := hlG.out; (try simp only at h); omega))
    rw [sameG_refl] at HC
    go_wp2_with fail
    refine HC.out.mono ?_
    rintro e t2 ⟨rfl, hB0⟩
    have hB := hB0
    have x9 := x8.trans (hB.mono x8.size)
    have b_9 := b_8.below hB b_8.lt
    have rc_9 := rc_8.below hB rc_8.lt
    have rd_9 := rd_8.below hB rd_8.lt
    have za_9 := hidI (za_8.out.below hB)
    have zb_9 := hidI (zb_8.out.below hB)
    have zc_9 := hidI (zc_8.out.below hB)
    have zd_9 := hidI (zd_8.out.below hB)
    have zx_9 := hidI (zx_8.out.below hB)
    have zy_9 := hidI (zy_8.out.below hB)
    have gc_9 := hidI (gc_8.out.below hB)
    have gd_9 := hidI (gd_8.out.below hB)
    clear x8 b_8 rc_8 rd_8 za_8 zb_8 zc_8 zd_8 zx_8 zy_8 gc_8 gd_8
    clear hB hB0 HC
    clear m0 m1 m2 n0 n1 n2
    have HC := hidI (equalI_n lc lc qc qd dc dd t2 zc_9.out zd_9.out (by have := l2.out; (try simp only at this); omega) (by have := l2.out; (try simp only at this); omega))
    rw [decide_eq_true (rfl : lc = lc)] at HC
    go_wp2_with fail
    refine HC.out.mono ?_
    rintro e t3 ⟨rfl, hB0⟩
    have hB := hB0.below t2.heap.size
    have x10 := x9.trans (hB.mono x9.size)
    have b_10 := b_9.below hB b_9.lt
    have rc_10 := rc_9.below hB rc_9.lt
    have rd_10 := rd_9.below hB rd_9.lt
    have za_10 := hidI (za_9.out.below hB)
    have zb_10 := hidI (zb_9.out.below hB)
    have zc_10 := hidI (zc_9.out.below hB)
    have zd_10 := hidI (zd_9.out.below hB)
    have zx_10 := hidI (zx_9.out.below hB)
    have zy_10 := hidI (zy_9.out.below hB)
    have gc_10 := hidI (gc_9.out.below hB)
    have gd_10 := hidI (gd_9.out.below hB)
    clear x9 b_9 rc_9 rd_9 za_9 zb_9 zc_9 zd_9 zx_9 zy_9 gc_9 gd_9
    clear hB hB0 HC
    have HC := hidI (equalI_n lx lx qx qy dx dy t3 zx_10.out zy_10.out (by have := l3.out; (try simp only at this); omega) (by have := l3.out; (try simp only at this); omega))
    rw [decide_eq_true (rfl : lx = lx)] at HC
    go_wp2_with fail
    refine HC.out.mono ?_
    rintro e t4 ⟨rfl, hB0⟩
    have hB := hB0.below t3.heap.size
    have x11 := x10.trans (hB.mono x10.size)
    have b_11 := b_10.below hB b_10.lt
    have rc_11 := rc_10.below hB rc_10.lt
    have rd_11 := rd_10.below hB rd_10.lt
    have za_11 := hidI (za_10.out.below hB)
    have zb_11 := hidI (zb_10.out.below hB)
    have zc_11 := hidI (zc_10.out.below hB)
    have zd_11 := hidI (zd_10.out.below hB)
    have zx_11 := hidI (zx_10.out.below hB)
    have zy_11 := hidI (zy_10.out.below hB)
    have gc_11 := hidI (gc_10.out.below hB)
    have gd_11 := hidI (gd_10.out.below hB)
    clear x10 b_10 rc_10 rd_10 za_10 zb_10 zc_10 zd_10 zx_10 zy_10 gc_10 gd_10
    clear hB hB0 HC
    have HC := hidI (HAW.out t4)
    go_wp2_with fail
    refine HC.out.mono ?_
    rintro e t5 ⟨rfl, hB0⟩
    have hB := hB0
    have x12 := x11.trans (hB.mono x11.size)
    have b_12 := b_11.below hB b_11.lt
    have rc_12 := rc_11.below hB rc_11.lt
    have rd_12 := rd_11.below hB rd_11.lt
    have za_12 := hidI (za_11.out.below hB)
    have zb_12 := hidI (zb_11.out.below hB)
    have zc_12 := hidI (zc_11.out.below hB)
    have zd_12 := hidI (zd_11.out.below hB)
    have zx_12 := hidI (zx_11.out.below hB)
    have zy_12 := hidI (zy_11.out.below hB)
    have gc_12 := hidI (gc_11.out.below hB)
    have gd_12 := hidI (gd_11.out.below hB)
    clear x11 b_11 rc_11 rd_11 za_11 zb_11 zc_11 zd_11 zx_11 zy_11 gc_11 gd_11
    clear hB hB0 HC
    go_wp2
    go_ret
    exact ⟨rfl, x12⟩
end Go.Proofs.Ytmdjndbjfgncmaa
namespace Go.Proofs.Ytmdjndbjfgncmaa
open Go.RowKit Go.Sort Go.Shelf Go.Lib

theorem det13_ok {G : Gr} (h : det13A G = true) : chkD G = 0 ∧ G.es.length ≤ 20 ∧ G.n ≤ 6 := by
  unfold det13A at h
  simp only [Bool.and_eq_true, Bool.not_eq_true', decide_eq_true_iff] at h
  obtain ⟨h1, h2, h3⟩ := h
  have hc : chkG G = 0 := by
    by_cases hc : chkG G = 0
    · exact hc
    · rw [detA_bad hc] at h2; cases h2
  rw [detA_ok hc] at h3
  have hv := chkG_ok.1 hc
  refine ⟨chkD_ok hc h3, ?_⟩
  unfold gr13 at h1
  simp only [Bool.or_eq_false_iff, Bool.and_eq_false_iff, decide_eq_false_iff_not] at h1
  have := hv.n2
  omega
theorem leadsA_run {G : Gr} (hv : Vg G) (hu : Uq G.es) : ∀ (w : List Int) (x : Int), -1 ≤ x → x < G.n → Lab G.q.toNat w → leadsA G (toS x) w = toS (run1 G.es x w)
  | [], x, _, _, _ => rfl
  | b :: w, x, h1, h2, hl => by
    have hb := hl b (by simp)
    have hq := hv.q1
    have hcs : chkS G.n none (toS x) = 0 := by
      unfold toS
      split
      · rfl
      · rw [chkS_cons, if_neg (by omega)]; rfl
    have e : stepA G (toS x) b = (toS (nxt G.es x b), 0) := by
      unfold stepA
      rw [if_pos (chkG_ok.2 hv), if_pos hcs, if_neg (by omega), next_toS hv hu]
    have hn := nxt_bd hv x b
    rw [leadsA, e]
    simp only [if_true]
    rw [leadsA_run hv hu w _ hn.1 hn.2 (fun y hy => hl y (by simp [hy])), run1_cons]

theorem sl_one (w : World) (x : Int) : Sl (w.alloc (.cells #[.int .i64 x] 3)) (Value.int .i64) (some ⟨w.heap.size, 0, none⟩) [x] :=
  Sl.of_vrow (l := [x]) (VRow.new w 3 [.int .i64 x])
theorem sl_one_drew (w : World) (x : Int) : Sl (w.alloc (.cells #[.int .i64 x] 3)).drew (Value.int .i64) (some ⟨w.heap.size, 0, none⟩) [x] := sl_one w x
theorem two_sl (w : World) (x y : Int) : RowKit.Below w.heap.size w ((w.alloc (.cells #[.int .i64 x] 3)).alloc (.cells #[.int .i64 y] 3)).drew ∧
    Sl ((w.alloc (.cells #[.int .i64 x] 3)).alloc (.cells #[.int .i64 y] 3)).drew (Value.int .i64) (some ⟨w.heap.size, 0, none⟩) [x] ∧
    Sl ((w.alloc (.cells #[.int .i64 x] 3)).alloc (.cells #[.int .i64 y] 3)).drew (Value.int .i64) (some ⟨w.heap.size + 1, 0, none⟩) [y] := by
  refine ⟨(((RowKit.Below.refl _ _).alloc (Nat.le_refl _) _).alloc (by simp) _).drew, ?_, ?_⟩
  · have h : Sl ((w.alloc (.cells #[.int .i64 x] 3)).alloc (.cells #[.int .i64 y] 3)) (Value.int .i64) (some ⟨w.heap.size, 0, none⟩) [x] := (sl_one w x).below ((RowKit.Below.refl _ _).alloc (Nat.le_refl _) _)
    exact h
  · have h := sl_one_drew (w.alloc (.cells #[.int .i64 x] 3)) y
    rw [World.size_alloc] at h
    exact h
set_option maxRecDepth 100000 in
set_option maxHeartbeats 8000000 in
theorem lawClasses_any (G : Gr) (p : Option Addr) (c : Nat) (a b : Int) (w : World) (hin : Sg 3 w edE p G.es) (hl : G.es.length ≤ 9223372036854775807) (ha : 0 ≤ a ∧ a ≤ 255) (hb : 0 ≤ b ∧ b ≤ 255) :
    Calls Try.prog 5 #[(.agg #[.int .i64 G.q, .int .i64 G.n, .slice p G.es.length c]), .int .u8 a, .int .u8 b] w fun e w' => e = .returned (.bool true) ∧ RowKit.Below w.heap.size w w' := by
  obtain ⟨w0, hw0⟩ : ∃ w0, w0 = w.alloc (.cells #[.int .i64 G.q, .int .i64 G.n, .slice p G.es.length c] 24) := ⟨_, rfl⟩
  have b0 : VRow w0 w.heap.size 24 [.int .i64 G.q, .int .i64 G.n, .slice p G.es.length c] := by subst hw0; exact VRow.new w _ _
  have hB0 : RowKit.Below w.heap.size w w0 := by subst hw0; exact (RowKit.Below.refl _ _).alloc (Nat.le_refl _) _
  have HAW := hidI awake13_any
  have HIN := hidI hin
  have HD := hidI (det13_any G p c w0 (hin.below hB0) hl)
  have f0 := b0.at 0 rfl; have f1 := b0.at 1 rfl; have f2 := b0.at 2 rfl
  obtain ⟨y, hy⟩ : ∃ y, det13A G = y := ⟨_, rfl⟩
  rw [hy] at HD
  have HY := hidI hy
  clear hin hy
  go_enter Try.func5, Try.ntmps5
  go_upto_region 1 with fail
  rw [← hw0]
  clear hw0
  go_wp2_with fail
  refine HD.out.mono ?_
  rintro e w1 ⟨rfl, hB1⟩
  have x1 := hB0.trans (hB1.mono hB0.size)
  have b1 := b0.below hB1 b0.lt
  clear f0 f1 f2 b0 HD hB1 hB0
  have f0 := b1.at 0 rfl; have f1 := b1.at 1 rfl; have f2 := b1.at 2 rfl
  cases y
  case false =>
    go_wp2_with fail
    refine (HAW.out w1).mono ?_
    rintro e u2 ⟨rfl, hB⟩
    have x2 := x1.trans (hB.mono x1.size)
    go_wp2
    go_ret
    exact ⟨rfl, x2⟩
  by_cases hn0 : G.n = 0
  · have hn0b : (G.n == 0) = true := by simpa using hn0
    go_wp2_with fail
    refine (HAW.out w1).mono ?_
    rintro e u2 ⟨rfl, hB⟩
    have x2 := x1.trans (hB.mono x1.size)
    go_wp2
    go_ret
    exact ⟨rfl, x2⟩
  have hn0b : (G.n == 0) = false := by simpa using hn0
  obtain ⟨hD, h20, h6⟩ := det13_ok HY.out
  obtain ⟨hv, hdB⟩ := chkD_iff.1 hD
  have hu := uq_det hv hdB
  have hn1 := hv.n1
  obtain ⟨S, hS⟩ : ∃ S : Nat, a % G.n = S := ⟨(a % G.n).toNat, by have := Int.emod_nonneg a hn0; omega⟩
  obtain ⟨T, hT⟩ : ∃ T : Nat, b % G.n = T := ⟨(b % G.n).toNat, by have := Int.emod_nonneg b hn0; omega⟩
  have hS6 : (S : Int) < G.n := by rw [← hS]; exact Int.emod_lt_of_pos _ (by omega)
  have hT6 : (T : Int) < G.n := by rw [← hT]; exact Int.emod_lt_of_pos _ (by omega)
  have hw1 : IntKind.i64.wrap (S : Int) = S := by rw [IntKind.wrap_i64]; omega
  have hw2 : IntKind.i64.wrap a = a := by rw [IntKind.wrap_i64]; omega
  have hw3 : a.tmod G.n = (S : Int) := by rw [Int.tmod_eq_emod_of_nonneg ha.1, hS]
  have hw4 : IntKind.i64.wrap (T : Int) = T := by rw [IntKind.wrap_i64]; omega
  have hw5 : IntKind.i64.wrap b = b := by rw [IntKind.wrap_i64]; omega
  have hw6 : b.tmod G.n = (T : Int) := by rw [Int.tmod_eq_emod_of_nonneg hb.1, hT]
  have hcl : (clA G).length = G.n.toNat := clsN_len _
  have HP := hidI (fun W (hW : RowKit.Below w.heap.size w W) => mPartition_any G p c W (HIN.out.below hW) hl)
  have HS := hidI (fun W (hW : RowKit.Below w.heap.size w W) => mSeparate_any G p c S T W (HIN.out.below hW) hl)
  have HL := hidI (fun W q qw d dw (st ws : List Int) (hW : RowKit.Below w.heap.size w W) (h1 : Sl W (Value.int .i64) q st) (h2 : Sl W (Value.int .i64) qw ws) (h3 : st.length ≤ 1000) (h4 : ws.length ≤ 10000) => leads13_any G p c st ws q qw d dw W (HIN.out.below hW) h1 h2 (by omega) h3 h4)
  rw [parA_ok hD] at HP
  rw [sepA_ok hD (by omega)] at HS
  have HSC := hidI (sep_cls hv (r := S) (s := T) (by omega) (by omega))
  have HSW := hidI (fun v => @sep_word G S T v)
  have HSL := hidI (sepA_len G S T)
  rw [sepA_ok hD (by omega)] at HSL
  have HRU := hidI (fun v => leadsA_run hv hu v)
  have HCG := hidI (fun k (h : k < (clA G).length) => show (clA G)[k] = cg (clA G) k by unfold cg; simp [List.getD, h])
  have hclN : ((clA G).length : Int) = G.n := by omega
  clear hS hT hD hv hdB hu HY hn1 hcl
  go_upto_region 3 with fail
  (refine wp_region_quiet_lit (by kernel_rfl) (by kernel_rfl) ?_; (repeat (first | go_big_quiet_step (fail) | quiet_step (fail))); refine wpQuiet_nil ?_; intro _ hwq; obtain ⟨nq, hwq2⟩ := hwq; subst hwq2)
  have x2 := below_dN x1 nq
  have b2 : VRow (w1.drewN nq) w.heap.size 24 [.int .i64 G.q, .int .i64 G.n, .slice p G.es.length c] := b1
  clear f0 f1 f2 b1 x1
  generalize w1.drewN nq = w2 at *
  have f0 := b2.at 0 rfl; have f1 := b2.at 1 rfl; have f2 := b2.at 2 rfl
  have HC := hidI (HP.out w2 x2)
  clear hw1 hw2 hw3 hw4 hw5 hw6 HP
  go_wp2_with fail
  refine HC.out.mono ?_
  rintro e w3 ⟨qc, dc, rfl, hsC, hB3⟩
  have x3 := x2.trans (hB3.mono x2.size)
  have b3 := b2.below hB3 b2.lt
  change Sl w3 (Value.int .i64) qc (clA G) at hsC
  have hsC := hidI hsC
  clear f0 f1 f2 b2 x2 hB3 HC
  have f0 := b3.at 0 rfl; have f1 := b3.at 1 rfl; have f2 := b3.at 2 rfl
  have HC := hidI (HS.out w3 x3)
  clear HS
  go_wp2_with fail
  refine HC.out.mono ?_
  rintro e w4 ⟨qw, dw, rfl, hsW, hB4⟩
  have x4 := x3.trans (hB4.mono x3.size)
  have b4 := b3.below hB4 b3.lt
  change Sl w4 (Value.int .i64) qw (fwA (sepO G S T)).1 at hsW
  have hsW := hidI hsW
  have hSl : (S : Int) < ((clA G).length : Int) := by omega
  have hTl : (T : Int) < ((clA G).length : Int) := by omega
  obtain ⟨bc, oc, rfl, hbc, hcc⟩ := (hsC.out.below hB4).get S (by omega)
  have e0 := hcc S (by omega); have e1 := hcc T (by omega)
  rw [HCG.out S (by omega)] at e0
  rw [HCG.out T (by omega)] at e1
  clear f0 f1 f2 b3 x3 hB4 HC hcc hsC HCG
  have f0 := b4.at 0 rfl; have f1 := b4.at 1 rfl; have f2 := b4.at 2 rfl
  generalize cg (clA G) S = cs at *
  generalize cg (clA G) T = ct at *
  generalize clA G = C at *
  generalize sepO G S T = o at *
  obtain ⟨fw, hfw⟩ : ∃ fw, fw = fwA o := ⟨_, rfl⟩
  rw [← hfw] at hsW HSC HSL ⊢
  obtain ⟨wl, is⟩ := fw
  cases o with
  | none =>
    cases hfw
    have hct : (cs != ct) = false := by
      have := HSC.out
      simpa using this
    change Hid (Sl w4 (Value.int .i64) qw []) at hsW
    go_upto_region 6 with fail
    (refine wp_region_quiet_lit (by kernel_rfl) (by kernel_rfl) ?_; (repeat (first | go_big_quiet_step (fail) | quiet_step (fail))); refine wpQuiet_nil ?_; intro _ hwq; obtain ⟨nq, hwq2⟩ := hwq; subst hwq2)
    go_wp2_with fail
    refine (HAW.out _).mono ?_
    rintro e w5 ⟨rfl, hB⟩
    have x5 := (below_dN x4 nq).trans (hB.mono (below_dN x4 nq).size)
    go_wp2
    go_ret
    exact ⟨rfl, x5⟩
  | some v =>
    have hf1 : v = wl := (congrArg Prod.fst hfw).symm
    have hf2 : true = is := (congrArg Prod.snd hfw).symm
    subst hf1; subst hf2
    clear hfw
    have hct : (cs != ct) = true := by
      have := HSC.out
      simpa using this
    change Hid (Sl w4 (Value.int .i64) qw v) at hsW
    go_upto_region 6 with fail
    (refine wp_region_quiet_lit (by kernel_rfl) (by kernel_rfl) ?_; (repeat (first | go_big_quiet_step (fail) | quiet_step (fail))); refine wpQuiet_nil ?_; intro _ hwq; obtain ⟨nq, hwq2⟩ := hwq; subst hwq2)
    go_upto_region 10 with fail
    have x5 := below_dN x4 nq
    have b5 : VRow (w4.drewN nq) w.heap.size 24 [.int .i64 G.q, .int .i64 G.n, .slice p G.es.length c] := b4
    have hsW5 : Hid (Sl (w4.drewN nq) (Value.int .i64) qw v) := hsW
    obtain ⟨hLab, hne⟩ := HSW.out v rfl
    have hv5 := HSL.out
    change v.length ≤ 5000 at hv5
    have hR1 := HRU.out v S (by omega) hS6 hLab
    have hR2 := HRU.out v T (by omega) hT6 hLab
    rw [show toS (S : Int) = [(S : Int)] by unfold toS; rw [if_neg (by omega)]] at hR1
    rw [show toS (T : Int) = [(T : Int)] by unfold toS; rw [if_neg (by omega)]] at hR2
    generalize run1 G.es S v = r1 at *
    generalize run1 G.es T v = r2 at *
    have HL1 : Hid (∀ W qs d, RowKit.Below w.heap.size w W → Sl W (Value.int .i64) qs [(S : Int)] → Sl W (Value.int .i64) qw v → Calls Try.prog 19 #[(.agg #[.int .i64 G.q, .int .i64 G.n, .slice p G.es.length c]), .slice qs 1 d, .slice qw v.length dw] W fun e w' => (∃ q d', e = .returned (.slice q (toS r1).length d')) ∧ RowKit.Below W.heap.size W w') := fun W qs d hW h1 h2 => by
      have h := HL.out W qs qw d dw [(S : Int)] v hW h1 h2 (by simp) (by omega)
      rw [hR1] at h
      exact h.mono (fun e w' ⟨q, d', h1, _, h3⟩ => ⟨⟨q, d', h1⟩, h3⟩)
    have HL2 : Hid (∀ W qs d, RowKit.Below w.heap.size w W → Sl W (Value.int .i64) qs [(T : Int)] → Sl W (Value.int .i64) qw v → Calls Try.prog 19 #[(.agg #[.int .i64 G.q, .int .i64 G.n, .slice p G.es.length c]), .slice qs 1 d, .slice qw v.length dw] W fun e w' => (∃ q d', e = .returned (.slice q (toS r2).length d')) ∧ RowKit.Below W.heap.size W w') := fun W qs d hW h1 h2 => by
      have h := HL.out W qs qw d dw [(T : Int)] v hW h1 h2 (by simp) (by omega)
      rw [hR2] at h
      exact h.mono (fun e w' ⟨q, d', h1, _, h3⟩ => ⟨⟨q, d', h1⟩, h3⟩)
    have hcase : ((toS r1).length = 1 ∧ (toS r2).length = 0) ∨ ((toS r1).length = 0 ∧ (toS r2).length = 1) := by
      unfold toS
      by_cases h1 : 0 ≤ r1 <;> by_cases h2 : 0 ≤ r2 <;> simp [h1, h2] at hne
      · left; rw [if_neg (by omega), if_pos (by omega)]; exact ⟨rfl, rfl⟩
      · right; rw [if_pos (by omega), if_neg (by omega)]; exact ⟨rfl, rfl⟩
    generalize (toS r1).length = n1 at *
    generalize (toS r2).length = n2 at *
    clear f0 f1 f2 b4 x4 hR1 hR2 hLab hne hsW HSW HSL HRU HL HSC e0 e1 hct hclN
    generalize w4.drewN nq = w5 at *
    have f0 := b5.at 0 rfl; have f1 := b5.at 1 rfl; have f2 := b5.at 2 rfl
    have HKS : Hid (∀ V, RowKit.Below w5.heap.size w5 V → V.cell? ⟨w.heap.size, 0, none⟩ = some (.int .i64 G.q) ∧ V.cell? ⟨w.heap.size, 1, none⟩ = some (.int .i64 G.n) ∧ V.cell? ⟨w.heap.size, 2, none⟩ = some (.slice p G.es.length c) ∧ RowKit.Below w5.heap.size w5 V) := fun V h =>
      ⟨(b5.below h b5.lt).at 0 rfl, (b5.below h b5.lt).at 1 rfl, (b5.below h b5.lt).at 2 rfl, h⟩
    have HX5 : Hid (∀ V, RowKit.Below w5.heap.size w5 V → RowKit.Below w.heap.size w V ∧ Sl V (Value.int .i64) qw v) := fun V h => ⟨x5.trans (h.mono x5.size), hsW5.out.below h⟩
    clear hsW5 b5 x5
    have HA1 : Hid (∀ W, RowKit.Below w5.heap.size w5 W → Calls Try.prog 19 #[(.agg #[.int .i64 G.q, .int .i64 G.n, .slice p G.es.length c]), .slice (some ⟨W.heap.size, 0, none⟩) 1 1, .slice qw v.length dw] (W.alloc (.cells #[.int .i64 (S : Int)] 3)).drew fun e w' => (∃ q d', e = .returned (.slice q n1 d')) ∧ RowKit.Below w5.heap.size w5 w') := fun W h => by
      have h2 : RowKit.Below w5.heap.size w5 (W.alloc (.cells #[.int .i64 (S : Int)] 3)).drew := (h.alloc h.size _).drew
      exact (HL1.out _ _ 1 (HX5.out _ h2).1 (sl_one_drew W S) (HX5.out _ h2).2).mono (fun e w' h3 => ⟨h3.1, h2.trans (h3.2.mono h2.size)⟩)
    have HA2 : Hid (∀ W, RowKit.Below w5.heap.size w5 W → Calls Try.prog 19 #[(.agg #[.int .i64 G.q, .int .i64 G.n, .slice p G.es.length c]), .slice (some ⟨W.heap.size, 0, none⟩) 1 1, .slice qw v.length dw] (W.alloc (.cells #[.int .i64 (T : Int)] 3)) fun e w' => (∃ q d', e = .returned (.slice q n2 d')) ∧ RowKit.Below w5.heap.size w5 w') := fun W h => by
      have h2 : RowKit.Below w5.heap.size w5 (W.alloc (.cells #[.int .i64 (T : Int)] 3)) := h.alloc h.size _
      exact (HL2.out _ _ 1 (HX5.out _ h2).1 (sl_one W T) (HX5.out _ h2).2).mono (fun e w' h3 => ⟨h3.1, h2.trans (h3.2.mono h2.size)⟩)
    have HB1 : Hid (Calls Try.prog 19 #[(.agg #[.int .i64 G.q, .int .i64 G.n, .slice p G.es.length c]), .slice (some ⟨w5.heap.size, 0, none⟩) 1 1, .slice qw v.length dw] ((w5.alloc (.cells #[.int .i64 (S : Int)] 3)).alloc (.cells #[.int .i64 (T : Int)] 3)).drew fun e w' => (∃ q d', e = .returned (.slice q n1 d')) ∧ RowKit.Below w5.heap.size w5 w' ∧ Hid (Sl w' (Value.int .i64) (some ⟨w5.heap.size + 1, 0, none⟩) [(T : Int)])) := by
      obtain ⟨h2, k1, k2⟩ := two_sl w5 S T
      exact (HL1.out _ _ 1 (HX5.out _ h2).1 k1 (HX5.out _ h2).2).mono (fun e w' h3 => ⟨h3.1, h2.trans (h3.2.mono h2.size), k2.below h3.2⟩)
    have HB2 : Hid (∀ W, RowKit.Below w5.heap.size w5 W → Hid (Sl W (Value.int .i64) (some ⟨w5.heap.size + 1, 0, none⟩) [(T : Int)]) → Calls Try.prog 19 #[(.agg #[.int .i64 G.q, .int .i64 G.n, .slice p G.es.length c]), .slice (some ⟨w5.heap.size + 1, 0, none⟩) 1 1, .slice qw v.length dw] W fun e w' => (∃ q d', e = .returned (.slice q n2 d')) ∧ RowKit.Below w5.heap.size w5 w') := fun W h hs =>
      (HL2.out _ _ 1 (HX5.out _ h).1 hs.out (HX5.out _ h).2).mono (fun e w' h3 => ⟨h3.1, h.trans (h3.2.mono h.size)⟩)
    have HC1 : Hid (Calls Try.prog 19 #[(.agg #[.int .i64 G.q, .int .i64 G.n, .slice p G.es.length c]), .slice (some ⟨w5.heap.size + 1, 0, none⟩) 1 1, .slice qw v.length dw] ((w5.alloc (.cells #[.int .i64 (T : Int)] 3)).alloc (.cells #[.int .i64 (S : Int)] 3)).drew fun e w' => (∃ q d', e = .returned (.slice q n1 d')) ∧ RowKit.Below w5.heap.size w5 w' ∧ Hid (Sl w' (Value.int .i64) (some ⟨w5.heap.size, 0, none⟩) [(T : Int)])) := by
      obtain ⟨h2, k1, k2⟩ := two_sl w5 T S
      exact (HL1.out _ _ 1 (HX5.out _ h2).1 k2 (HX5.out _ h2).2).mono (fun e w' h3 => ⟨h3.1, h2.trans (h3.2.mono h2.size), k1.below h3.2⟩)
    have HC2 : Hid (∀ W, RowKit.Below w5.heap.size w5 W → Hid (Sl W (Value.int .i64) (some ⟨w5.heap.size, 0, none⟩) [(T : Int)]) → Calls Try.prog 19 #[(.agg #[.int .i64 G.q, .int .i64 G.n, .slice p G.es.length c]), .slice (some ⟨w5.heap.size, 0, none⟩) 1 1, .slice qw v.length dw] W fun e w' => (∃ q d', e = .returned (.slice q n2 d')) ∧ RowKit.Below w5.heap.size w5 w') := fun W h hs =>
      (HL2.out _ _ 1 (HX5.out _ h).1 hs.out (HX5.out _ h).2).mono (fun e w' h3 => ⟨h3.1, h.trans (h3.2.mono h.size)⟩)
    have HA3 : Hid (∀ W, RowKit.Below w5.heap.size w5 W → Calls Try.prog 7 #[] W fun e w' => e = .returned (.bool true) ∧ RowKit.Below w5.heap.size w5 w') := fun W h => (HAW.out W).mono (fun e w' h3 => ⟨h3.1, h.trans (h3.2.mono h.size)⟩)
    rcases hcase with ⟨rfl, rfl⟩ | ⟨rfl, rfl⟩
    all_goals
      go_region_held3 (fun V => V.cell? ⟨w.heap.size, 0, none⟩ = some (.int .i64 G.q) ∧ V.cell? ⟨w.heap.size, 1, none⟩ = some (.int .i64 G.n) ∧ V.cell? ⟨w.heap.size, 2, none⟩ = some (.slice p G.es.length c) ∧ RowKit.Below w5.heap.size w5 V)
        (first | (go_split_ands; refine HKS.out _ ?_; first
          | assumption
          | exact RowKit.Below.refl _ _
          | exact below_dN (RowKit.Below.refl _ _) 1
          | exact RowKit.Below.alloc (by assumption) (RowKit.Below.size (by assumption)) _
          | exact RowKit.Below.drew (RowKit.Below.alloc (by assumption) (RowKit.Below.size (by assumption)) _)))
        (((first | go_at_call 19 | go_at_call 7); go_split_ands; first
          | (with_reducible refine (HA1.out w5 (RowKit.Below.refl _ _)).mono ?_; rintro e wA ⟨⟨qA, dA, rfl⟩, hBa⟩)
          | (with_reducible refine (HA2.out _ (by assumption)).mono ?_; rintro e wB ⟨⟨qB, dB, rfl⟩, hBb⟩)
          | (with_reducible refine HB1.out.mono ?_; rintro e wA ⟨⟨qA, dA, rfl⟩, hBa, hsT⟩)
          | (with_reducible refine (HB2.out _ (by assumption) (by assumption)).mono ?_; rintro e wB ⟨⟨qB, dB, rfl⟩, hBb⟩)
          | (with_reducible refine HC1.out.mono ?_; rintro e wA ⟨⟨qA, dA, rfl⟩, hBa, hsT⟩)
          | (with_reducible refine (HC2.out _ (by assumption) (by assumption)).mono ?_; rintro e wB ⟨⟨qB, dB, rfl⟩, hBb⟩)
          | (with_reducible refine (HA3.out _ (by assumption)).mono ?_; rintro e wC ⟨rfl, hBc⟩)
          | with_reducible exact HX5))
    all_goals
      go_split_ands
      go_wp2
      go_ret
      exact ⟨rfl, (HX5.out _ (by assumption)).1⟩
end Go.Proofs.Ytmdjndbjfgncmaa
namespace Go.Proofs.Ytmdjndbjfgncmaa
open Go.ChangeShapes Go.WideShapes Go.ChangeAt Go.RowKit

theorem own : ownKnob Try.prog.godebug = none := by kernel_rfl
theorem laidOut : laidOutB Try.prog = true := by kernel_rfl

theorem trodAll_below {H : Type} {enc : TypeId × Value → H} {W W' : World} (hb : Below W.heap.size W W') :
    ∀ (ts : List TypeId) (vs : List Value) (ds : List (DataW H)) (p : List MemPlace), (∀ t ∈ ts, Try.prog.readableRec t = true ∧ t < Try.prog.types.size) →
      DataW.TrodAll enc Try.prog W 0 (fun _ => true) true ts vs ds p → (∀ x ∈ p, x.block < W.heap.size) →
      DataW.TrodAll enc Try.prog W' 0 (fun b => decide (b < W.heap.size)) true ts vs ds p
  | [], vs, ds, p, _, h, _ => by
    obtain ⟨rfl, rfl, rfl⟩ := trodAll_nil h
    exact trodAll_mk0
  | t :: ts, vs, ds, p, ht, h, hlt => by
    obtain ⟨v, vs', d, ds', p', q', rfl, rfl, rfl, h0, h1⟩ := trodAll_cons h
    exact trodAll_cons_mk (Below.trod laidOut (ht t List.mem_cons_self).1 (ht t List.mem_cons_self).2 h0 hb (fun x hx => hlt x (List.mem_append_left _ hx)))
      (trodAll_below hb ts vs' ds' q' (fun t h => ht t (List.mem_cons_of_mem _ h)) h1 (fun x hx => hlt x (List.mem_append_right _ hx)))

/-- What the row asks behind the call of a law. -/
theorem law_post {H : Type} {enc : TypeId × Value → H} {f : Func} {s : ChangeSpec} {W W' : World} {args : Array Value} {ds gs : List (DataW H)} {before : List MemPlace}
    (hW : DataW.Whole enc Try.prog f.params.toList s.vars false W args.toList ds gs before) (hv : s.vars = [])
    (hr : f.resultTypes = #[4]) (ht : ∀ t ∈ f.params.toList, Try.prog.readableRec t = true ∧ t < Try.prog.types.size)
    (hfr : (s.fn H (ds ++ gs)).results = [.lit (.bool true)]) (hfa : (s.fn H (ds ++ gs)).args = ds) (hfv : (s.fn H (ds ++ gs)).vars = [])
    (hB : Below W.heap.size W W') : s.post enc Try.prog f false true false false W args (.bool true) W' := by
  have hW' := hW
  obtain ⟨p, q, hA, hV, rfl, hfz, hnd⟩ := hW
  have hlt : ∀ x ∈ p, x.block < W.heap.size := fun x hx => hW'.lt x (List.mem_append_left _ hx)
  refine ⟨ds, gs, _, [] ++ [], p, [], hW', ?_, ?_, ?_, hB.frame _, fun h => by cases h⟩
  · rw [hfr, hr]; exact trodAll_mk1 (shut_bool Try.underlying4 true)
  · rw [hfa]; exact trodAll_below hB _ _ _ _ ht hA hlt
  · rw [hfv, hv]; exact rfl
end Go.Proofs.Ytmdjndbjfgncmaa
namespace Go.Proofs.Ytmdjndbjfgncmaa
open Go.Joins Go.ChangeShapes Go.WideShapes Go.ChangeAt Go.RowKit Go.Deep
open Go.ChangeMaps (open_string shut_string)

section
variable {H : Type} {enc : TypeId × Value → H} {P : Program} {w : World} {base : Nat} {spare : Nat → Bool} {held : Bool}
theorem open_slice_fields {t e : TypeId} {fs : Array Field} {fuel : Nat} {cs : List Value} {x : DataW H × List MemPlace} (ht : P.underlying t = some (.slice e)) (he : P.underlying e = some (.struct fs))
    (hone : oneCellFields P fs = true) (hC : P.cellsOf e = fs.size) (h : DataW.trod enc P w base spare held fuel t cs = some x) :
    (cs = [.slice none 0 0] ∧ x = (.nil, [])) ∨
    ∃ (a : Addr) (len cap m : Nat) (D : Nat → DataW H) (Pl : Nat → List MemPlace), cs = [.slice (some a) len cap] ∧ base ≤ a.block ∧ len ≤ cap ∧ cap ≤ maxLen ∧ m = (if spare a.block then cap else len) ∧
      x = (.slice ((List.range len).map D) ((List.range (m - len)).map fun j => D (len + j)), MemPlace.row a (m * fs.size) ++ (List.range m).flatMap Pl) ∧
      ∀ i, i < m → ∃ (ys : List (DataW H × List MemPlace)) (n : Nat), D i = .agg (ys.map (·.1)) ∧ Pl i = ys.flatMap (·.2) ∧ ys.length = fs.size ∧
        ∀ (j : Nat) (f : Field), fs[j]? = some f → ∃ (v : Value) (y : DataW H × List MemPlace), w.cell? (a.add (i * fs.size + j)) = some v ∧ ys[j]? = some y ∧ DataW.trod enc P w base spare held n f.type [v] = some y := by
  rcases open_slice ht h with h0 | ⟨a, len, cap, m, n, D, Pl, hcs, hb, hl, hm, hmm, hx, hi⟩
  · exact .inl h0
  · refine .inr ⟨a, len, cap, m, D, Pl, hcs, hb, hl, hm, hmm, by rw [hC] at hx; exact hx, fun i him => ?_⟩
    obtain ⟨cs', hc, ht'⟩ := hi i him
    rw [hC] at hc
    obtain ⟨ys, n', hn', hy, hlen, hyl, hf⟩ := DataW.trod_struct he ht'
    obtain ⟨_, hcl, hat⟩ := World.cells?_some hc
    simp only [Prod.mk.injEq] at hy
    refine ⟨ys, n', hy.1, hy.2, hyl, fun j f hj => ?_⟩
    obtain ⟨ho, hk⟩ := hone_of hone j f hj
    have hjl : j < fs.size := (Array.getElem?_eq_some_iff.1 hj).1
    have hcell := hat j hjl
    have hv : cs'[j]? = some (cs'[j]'(by omega)) := List.getElem?_eq_getElem (by omega)
    have h1 := hf j f hj
    rw [ho, hk] at h1
    have hone' : (cs'.drop j).take 1 = [cs'[j]'(by omega)] := by
      rw [List.drop_eq_getElem_cons (by omega)]
      rfl
    rw [hone'] at h1
    have hys : ys[j]? = some (ys[j]'(by omega)) := List.getElem?_eq_getElem (by omega)
    refine ⟨_, _, ?_, hys, h1.trans hys⟩
    rw [← Go.Deep.add_add, hcell, hv]
end
/-- Elements that each exist make a list. -/
theorem list_of {α : Type} {P : Nat → α → Prop} : ∀ (n : Nat), (∀ i, i < n → ∃ x, P i x) → ∃ l : List α, l.length = n ∧ ∀ i (h : i < l.length), P i l[i]
  | 0, _ => ⟨[], rfl, fun i h => by simp at h⟩
  | n + 1, h => by
    obtain ⟨l, hl, hp⟩ := list_of n (fun i hi => h i (by omega))
    obtain ⟨x, hx⟩ := h n (by omega)
    refine ⟨l ++ [x], by simp [hl], fun i hi => ?_⟩
    by_cases h2 : i < l.length
    · rw [List.getElem_append_left h2]; exact hp i h2
    · have : i = n := by simp at hi; omega
      subst this
      subst hl
      simpa using hx

theorem cellsInt : Try.prog.cellsOf 3 = 1 := by kernel_rfl
theorem cellsGraph : Try.prog.cellsOf 24 = 3 := by kernel_rfl
theorem readGraph : Try.prog.readableRec 24 = true ∧ 24 < Try.prog.types.size := ⟨by kernel_rfl, of_decide_eq_true (by kernel_rfl)⟩
theorem readInts : Try.prog.readableRec 27 = true ∧ 27 < Try.prog.types.size := ⟨by kernel_rfl, of_decide_eq_true (by kernel_rfl)⟩
theorem readInt : Try.prog.readableRec 3 = true ∧ 3 < Try.prog.types.size := ⟨by kernel_rfl, of_decide_eq_true (by kernel_rfl)⟩

/-- A list of ints inside what came in, as the walks take it. -/
theorem ints_at {H : Type} {enc : TypeId × Value → H} {W : World} {fuel : Nat} {v : Value} {y : DataW H × List MemPlace}
    (h : DataW.trod enc Try.prog W 0 (fun _ => true) true fuel 27 [v] = some y) (hlt : ∀ x ∈ y.2, x.block < W.heap.size) :
    ∃ (p : Option Addr) (l : List Int) (c : Nat), v = .slice p l.length c ∧ Sl W (Value.int .i64) p l ∧ l.length ≤ 9223372036854775807 ∧ l.length ≤ c := by
  rcases open_ints Try.underlying27 Try.underlying3 cellsInt h with ⟨hcs, hx⟩ | ⟨a, len, cap, zs, hcs, _, hl, hm, hz, hx, hcell, _⟩
  · simp at hcs
    subst hcs
    exact ⟨none, [], 0, rfl, Sl.nil _ _ _, by simp, by simp⟩
  · simp at hcs
    subst hcs hx
    simp only [if_true] at hz
    have hlen : (zs.take len).length = len := by simp; omega
    refine ⟨some a, zs.take len, cap, by rw [hlen], ?_, by rw [hlen]; unfold maxLen at hm; omega, by rw [hlen]; exact hl⟩
    by_cases h0 : len = 0
    · subst h0; exact .inl (by simp)
    · obtain ⟨b, off, spot⟩ := a
      have hspot : spot = none := by simpa [Addr.add] using World.cell?_spot (hcell 0 (by omega))
      subst hspot
      refine .inr ⟨b, off, rfl, hlt (.cell b off) (MemPlace.mem_row.2 ⟨0, by omega, by simp⟩), fun i hi => ?_⟩
      rw [← add_plain, hcell i (by omega)]
      have : i < zs.length := by omega
      simp [List.getD_eq_getElem?_getD, this]
/-- A list of edges inside what came in, as the walks take it. -/
theorem edges_at {H : Type} {enc : TypeId × Value → H} {W : World} {fuel : Nat} {v : Value} {y : DataW H × List MemPlace}
    (h : DataW.trod enc Try.prog W 0 (fun _ => true) true fuel 22 [v] = some y) (hlt : ∀ x ∈ y.2, x.block < W.heap.size) :
    ∃ (p : Option Addr) (l : List Ed) (c : Nat), v = .slice p l.length c ∧ Sg 3 W edE p l ∧ l.length ≤ 9223372036854775807 := by
  rcases open_slice_fields Try.underlying22 Try.underlying47 (by kernel_rfl) (by kernel_rfl) h with ⟨hcs, hx⟩ | ⟨a, len, cap, m, D, Pl, hcs, _, hl, hm, hmm, hx, hf⟩
  · simp at hcs
    subst hcs
    exact ⟨none, [], 0, rfl, Sg.nil _ _ _ _, by simp⟩
  · simp at hcs
    subst hcs hx
    simp only [if_true] at hmm
    subst hmm
    obtain ⟨l, hll, hp⟩ := list_of (P := fun i (s : Ed) => W.cell? (a.add (i * 3 + 0)) = some (.int .i64 s.f) ∧ W.cell? (a.add (i * 3 + 1)) = some (.int .i64 s.l) ∧ W.cell? (a.add (i * 3 + 2)) = some (.int .i64 s.t)) len (fun i hi => by
      obtain ⟨ys, n, _, _, _, hj⟩ := hf i (by omega)
      obtain ⟨v0, y0, hc0, _, h0⟩ := hj 0 _ rfl
      obtain ⟨v1, y1, hc1, _, h1⟩ := hj 1 _ rfl
      obtain ⟨v2, y2, hc2, _, h2⟩ := hj 2 _ rfl
      obtain ⟨n0, e0, _, _⟩ := DataW.trod_int Try.underlying3 h0
      obtain ⟨n1, e1, _, _⟩ := DataW.trod_int Try.underlying3 h1
      obtain ⟨n2, e2, _, _⟩ := DataW.trod_int Try.underlying3 h2
      simp at e0 e1 e2
      subst e0 e1 e2
      exact ⟨⟨n0, n1, n2⟩, hc0, hc1, hc2⟩)
    subst hll
    refine ⟨some a, l, _, rfl, ?_, by unfold maxLen at hm; omega⟩
    by_cases h0 : l.length = 0
    · exact .inl (List.length_eq_zero_iff.1 h0)
    · obtain ⟨b, off, spot⟩ := a
      have hspot : spot = none := by simpa [Addr.add] using World.cell?_spot (hp 0 (by omega)).1
      subst hspot
      refine .inr ⟨b, off, rfl, hlt (.cell b off) (List.mem_append_left _ (MemPlace.mem_row.2 ⟨0, Nat.mul_pos (by omega) (by decide), by simp⟩)), fun i hi j hj => ?_⟩
      have hc := hp i hi
      have : j = 0 ∨ j = 1 ∨ j = 2 := by omega
      rw [Nat.add_assoc, ← add_plain]
      rcases this with rfl | rfl | rfl
      · rw [hc.1]; rfl
      · rw [hc.2.1]; rfl
      · rw [hc.2.2]; rfl
set_option maxRecDepth 100000 in
/-- A graph that came in, as the walks take it. -/
theorem graph_in {H : Type} {enc : TypeId × Value → H} {W : World} {ps : List MemPlace} {v : Value} {d : DataW H} {base : Nat} (hval : Value.okWide Try.prog W .any base 24 v)
    (h : DataW.Trod enc Try.prog W 0 (fun _ => true) true 24 v d ps) (hlt : ∀ x ∈ ps, x.block < W.heap.size) :
    ∃ (G : Gr) (p : Option Addr) (c : Nat), v = .agg #[.int .i64 G.q, .int .i64 G.n, .slice p G.es.length c] ∧ Sg 3 W edE p G.es ∧ G.es.length ≤ 9223372036854775807 := by
  obtain ⟨v0, v1, v2, y0, y1, y2, n, rfl, rfl, rfl, h0, h1, h2⟩ := open_agg3 Try.underlying24 (by kernel_rfl) cellsGraph hval h
  obtain ⟨q, e0, _, _⟩ := DataW.trod_int Try.underlying3 h0
  obtain ⟨k, e1, _, _⟩ := DataW.trod_int Try.underlying3 h1
  simp at e0 e1
  subst e0 e1
  obtain ⟨p, l, c, rfl, s, b⟩ := edges_at h2 (fun x hx => hlt x (List.mem_append_right _ (List.mem_append_right _ hx)))
  exact ⟨⟨q, k, l⟩, p, c, rfl, s, b⟩

end Go.Proofs.Ytmdjndbjfgncmaa
namespace Go.Proofs.Ytmdjndbjfgncmaa
open Go.Joins Go.ChangeShapes Go.WideShapes Go.ChangeAt Go.RowKit

theorem bounds_u8N {q : Int} (h : (Lit.int .u8 q).wf = true) : 0 ≤ q ∧ q ≤ 255 := by
  have := h
  simp [Lit.wf, IntKind.min, IntKind.max, IntKind.bits, IntKind.signed] at this
  exact this
theorem readU8N : Try.prog.readableRec 5 = true ∧ 5 < Try.prog.types.size := ⟨by kernel_rfl, of_decide_eq_true (by kernel_rfl)⟩
set_option maxRecDepth 100000 in
theorem classes_lifted (os : Os) (started : os.Started) (H : Type) (enc : TypeId × Value → H) :
    ReturnsInHanded {} Try.checked os 5 .any (Rows.minimalClassesSpec.pre6 enc Try.prog Try.f5 Rows.minimalClassesRow.domain false) (Rows.minimalClassesSpec.post enc Try.prog Try.f5 false true false false) := by
  refine returnsInHanded_of_change (C := Try.checked) own started (by kernel_rfl) Try.func5
    (ChangeSpec.witness6 (enc := enc) (C := Try.checked) false ⟨#[], #[.agg #[.int .i64 0, .int .i64 0, .slice none 0 0], .int .u8 0, .int .u8 0], []⟩ 8 (by kernel_rfl) (by kernel_rfl) (by kernel_rfl) (by kernel_rfl)) ?_
  intro W base args ds gs before hval0 hW hcnd _
  have hval : ∀ (j : Nat) t v, Try.f5.params[j]? = some t → args[j]? = some v → Value.okWide Try.prog W .any base t v := hval0
  have hW' := hW
  obtain ⟨p, q, hA0, hV, rfl, hfz, hnd⟩ := hW
  have hA : DataW.TrodAll enc Try.prog W 0 (fun _ => true) true Try.f5.params.toList args.toList ds p := hA0
  rw [Try.params5] at hA hval
  obtain ⟨v0, v1, v2, d0, d1, d2, p0, p1, p2, rfl, rfl, rfl, h0, h1, h2⟩ := trodAll_three hA
  obtain ⟨rfl, rfl⟩ := trodVars_none hV
  have hlt : ∀ x ∈ p0 ++ (p1 ++ p2), x.block < W.heap.size := fun x hx => hW'.lt x (List.mem_append_left _ (by simpa using hx))
  obtain ⟨G0, q0, c0, rfl, s0, l0⟩ := graph_in (hval 0 24 v0 rfl rfl) h0 (fun x hx => hlt x (List.mem_append_left _ hx))
  obtain ⟨n1, rfl, rfl, rfl, w1⟩ := open_int Try.underlying5 (hval 1 5 v1 rfl rfl) h1
  obtain ⟨n2, rfl, rfl, rfl, w2⟩ := open_int Try.underlying5 (hval 2 5 v2 rfl rfl) h2
  refine (lawClasses_any G0 q0 c0 n1 n2 W s0 l0 (bounds_u8N w1) (bounds_u8N w2)).mono fun e W' ⟨he, hB⟩ => ?_
  subst he
  refine ⟨_, rfl, law_post hW' rfl (by kernel_rfl) ?_ rfl rfl rfl hB⟩
  rw [Try.params5]
  intro t ht
  simp only [List.mem_cons, List.not_mem_nil, or_false] at ht
  rcases ht with rfl | rfl | rfl
  · exact readGraph
  · exact readU8N
  · exact readU8N

theorem minimalClasses_holds : Rows.MinimalClassesSaid :=
  OpenClaim.holds_of_wide 5 Try.f5 rfl rfl rfl rfl rfl rfl rfl ⟨rfl, rfl, rfl, rfl, rfl⟩ rfl rfl rfl rfl rfl (by kernel_rfl) Try.func5 (by kernel_rfl)
    (of_decide_eq_true (by kernel_rfl)) (by unfold Func.isWrapper; rw [if_neg (of_decide_eq_false (by kernel_rfl))]; exact ⟨rfl, rfl⟩)
    (fun os started H enc _ => classes_lifted os started H enc)
#print axioms minimalClasses_holds
end Go.Proofs.Ytmdjndbjfgncmaa
