/-
  Words, plain lemmas and walks, merged: Ny, Nu, Nz, Ob, Oc, Od, Law.
-/
import Derived.Test.YtmdjndbjfgncmaaMg13g
import Derived.Test.YtmdjndbjfgncmaaMg13h
import Derived.Test.YtmdjndbjfgncmaaRows
import Derived.ProofKit
import Derived.OpenShut
import Derived.ShutString
import Derived.SliceStrings
set_option linter.unusedVariables false
set_option linter.unusedSimpArgs false
namespace Go.Proofs.Ytmdjndbjfgncmaa
open Go.RowKit Go.Sort Go.Shelf Go.Lib

def leadsA (G : Gr) : List Int → List Int → List Int
  | st, [] => st
  | st, b :: l => if (stepA G st b).2 = 0 then leadsA G (stepA G st b).1 l else []
theorem stepA_len (G : Gr) (st : List Int) (b : Int) : (stepA G st b).1.length ≤ 64 := by
  unfold stepA
  split
  · rename_i h
    have hv := chkG_ok.1 h
    split
    · split
      · exact Nat.zero_le _
      · have := uptof_len (nxP G.es st b) G.n.toNat
        have := hv.n2
        show (nextA G st b).length ≤ 64
        unfold nextA
        omega
    · exact Nat.zero_le _
  · exact Nat.zero_le _
theorem leadsA_go {G : Gr} {st ws : List Int} {k : Nat} (h : k < ws.length) (h2 : (stepA G st ws[k]).2 = 0) : leadsA G st (ws.drop k) = leadsA G (stepA G st ws[k]).1 (ws.drop (k + 1)) := by
  rw [List.drop_eq_getElem_cons h, leadsA, if_pos h2]
theorem leadsA_halt {G : Gr} {st ws : List Int} {k : Nat} (h : k < ws.length) (h2 : (stepA G st ws[k]).2 ≠ 0) : leadsA G st (ws.drop k) = [] := by
  rw [List.drop_eq_getElem_cons h, leadsA, if_neg h2]
theorem leadsA_end {G : Gr} {st ws : List Int} {k : Nat} (h : ws.length ≤ k) : leadsA G st (ws.drop k) = st := by
  rw [List.drop_eq_nil_of_le h]; rfl
/-- Numbers. -/
def RetLd (l : List Int) (w : World) (e : Ending) (w' : World) : Prop := ∃ q d, e = .returned (.slice q l.length d) ∧ Sl w' (Value.int .i64) q l ∧ RowKit.Below w.heap.size w w'

set_option maxRecDepth 100000 in
set_option maxHeartbeats 1000000 in
theorem leads13_any (G : Gr) (p : Option Addr) (c : Nat) (st ws : List Int) (q qw : Option Addr) (d dw : Nat) (w : World) (hin : Sg 3 w edE p G.es) (hst : Sl w (Value.int .i64) q st) (hws : Sl w (Value.int .i64) qw ws)
    (hl : G.es.length ≤ 10000) (hs : st.length ≤ 1000) (hw : ws.length ≤ 10000) :
    Calls Try.prog 19 #[(.agg #[.int .i64 G.q, .int .i64 G.n, .slice p G.es.length c]), .slice q st.length d, .slice qw ws.length dw] w (RetLd (leadsA G st ws) w) := by
  obtain ⟨w0, hw0⟩ : ∃ w0, w0 = w.alloc (.cells #[.int .i64 G.q, .int .i64 G.n, .slice p G.es.length c] 24) := ⟨_, rfl⟩
  have b0 : VRow w0 w.heap.size 24 [.int .i64 G.q, .int .i64 G.n, .slice p G.es.length c] := by subst hw0; exact VRow.new w _ _
  have hB0 : RowKit.Below w.heap.size w w0 := by subst hw0; exact (RowKit.Below.refl _ _).alloc (Nat.le_refl _) _
  have HST := hidI (fun W st' q' d' b (hW : RowKit.Below w.heap.size w W) (h : Sl W (Value.int .i64) q' st') (h2 : st'.length ≤ 1000) => gStep_any G p c st' q' d' b W (hin.below hW) h hl (by omega))
  have hst0 := hst.below hB0
  have HWS := hidI (fun W (hW : RowKit.Below w.heap.size w W) => hws.below hW)
  clear hin hst hws
  go_enter Try.func19, Try.ntmps19
  go_wp2
  rw [← hw0]
  clear hw0
  go_loopw [1, 13] (fun sv kv wr => ∃ (k : Nat) (st' : List Int) (q' : Option Addr) (d' : Nat), k ≤ ws.length ∧ sv = .slice q' st'.length d' ∧ kv = .int .i64 k ∧ Sl wr (Value.int .i64) q' st' ∧ st'.length ≤ 1000 ∧ Hid (leadsA G st' (ws.drop k) = leadsA G st ws) ∧ RowKit.Below w0.heap.size w0 wr) (fun _ kv _ => ws.length - (intOf kv).toNat)
  case atStart => exact ⟨0, st, q, d, by omega, rfl, rfl, hst0, hs, by rw [Hid, List.drop_zero], RowKit.Below.refl _ _⟩
  case round =>
    clear hst0
    obtain ⟨k, st', q', d', hk, rfl, rfl, hst, hs', hj, hB⟩ := hrel
    have hBw := hB0.trans (hB.mono hB0.size)
    by_cases hlt : k < ws.length
    · have hltI : (k : Int) < (ws.length : Int) := by omega
      obtain ⟨bw, ow, rfl, hbw, hcw⟩ := (HWS.out wr hBw).get k hlt
      have e0 := hcw k hlt
      have HC := hidI (HST.out wr st' q' d' ws[k] hBw hst hs')
      have HLN := hidI (stepA_len G st' ws[k])
      have HGO := hidI (fun h => @leadsA_go G st' ws k hlt h)
      have HHA := hidI (fun h => @leadsA_halt G st' ws k hlt h)
      have b1 := b0.below hB b0.lt
      have f0 := b1.at 0 rfl; have f1 := b1.at 1 rfl; have f2 := b1.at 2 rfl
      generalize ws[k] = lab at *
      generalize stepA G st' lab = x at *
      obtain ⟨r, er⟩ := x
      clear hcw hst
      go_wp2_with fail
      refine HC.out.mono ?_
      rintro e w5 ⟨p5, m5, c5, rfl, hown, hB5⟩
      obtain ⟨p5', c5', hv5, hs5⟩ := own_sl hown
      cases hv5
      change Sl w5 (Value.int .i64) p5 r at hs5
      have hB6 := hB.trans (hB5.mono hB.size)
      have hB7 := hB0.trans (hB6.mono hB0.size)
      clear hown HC f0 f1 f2 b1
      by_cases he : er = 0
      · subst he
        have HX := hidI ((HGO.out rfl).symm.trans hj.out)
        have hr := HLN.out
        change r.length ≤ 64 at hr
        have hr2 : r.length ≤ 1000 := by omega
        clear HGO HHA
        go_wp2
        go_roundw
        case rel => exact ⟨k + 1, r, p5, c5, by omega, rfl, by go_num, hs5, hr2, HX, hB6⟩
        case measure => simp [intOf]; omega
      · have HX := hidI (hj.out.symm.trans (HHA.out he))
        have heb : (er != 0) = true := by simpa using he
        clear HGO HHA he
        go_wp2
        go_ret
        rw [HX.out]
        exact ⟨none, 0, rfl, Sl.nil _ _ _, hB7⟩
    · have hltI : ¬ (k : Int) < (ws.length : Int) := by omega
      have HX := hidI (hj.out.symm.trans (leadsA_end (by omega)))
      go_wp2
      go_ret
      rw [HX.out]
      exact ⟨q', d', rfl, hst, hBw⟩

/-! ### Deterministic -/
def det13A (G : Gr) : Bool := !gr13 G && (decide ((detA G).2 = 0) && (detA G).1)
theorem det13_any (G : Gr) (p : Option Addr) (c : Nat) (w : World) (hin : Sg 3 w edE p G.es) (hl : G.es.length ≤ 9223372036854775807) :
    Calls Try.prog 16 #[(.agg #[.int .i64 G.q, .int .i64 G.n, .slice p G.es.length c])] w fun e w' => e = .returned (.bool (det13A G)) ∧ RowKit.Below w.heap.size w w' := by
  obtain ⟨w0, hw0⟩ : ∃ w0, w0 = w.alloc (.cells #[.int .i64 G.q, .int .i64 G.n, .slice p G.es.length c] 24) := ⟨_, rfl⟩
  have b0 : VRow w0 w.heap.size 24 [.int .i64 G.q, .int .i64 G.n, .slice p G.es.length c] := by subst hw0; exact VRow.new w _ _
  have hB0 : RowKit.Below w.heap.size w w0 := by subst hw0; exact (RowKit.Below.refl _ _).alloc (Nat.le_refl _) _
  have HD := hidI (gDet_any G p c w0 (hin.below hB0) hl)
  have HG := hidI (fun W => rmGreat_any G p c W hl)
  have HX : Hid (det13A G = (!gr13 G && (decide ((detA G).2 = 0) && (detA G).1))) := rfl
  generalize detA G = x at *
  generalize gr13 G = y at *
  obtain ⟨a, k⟩ := x
  change Hid (det13A G = (!y && (decide (k = 0) && a))) at HX
  clear hin
  have f0 := b0.at 0 rfl; have f1 := b0.at 1 rfl; have f2 := b0.at 2 rfl
  go_enter Try.func16, Try.ntmps16
  go_upto_region 1 with fail
  rw [← hw0]
  clear hw0
  go_wp2_with fail
  refine HD.out.mono ?_
  rintro e w1 ⟨rfl, hB1⟩
  have x1 := hB0.trans (hB1.mono hB0.size)
  have b1 := b0.below hB1 b0.lt
  clear f0 f1 f2
  have f0 := b1.at 0 rfl; have f1 := b1.at 1 rfl; have f2 := b1.at 2 rfl
  go_wp2_with fail
  refine (HG.out w1).mono ?_
  rintro e w2 ⟨rfl, hB2⟩
  have x2 := x1.trans (hB2.mono x1.size)
  clear f0 f1 f2 b1 HD HG
  cases y
  · by_cases hk : k = 0
    · subst hk
      go_wp2
      go_ret
      exact ⟨ret_bool (by rw [HX.out]; simp), x2⟩
    · have hkb : (k == 0) = false := by simpa using hk
      go_wp2
      go_ret
      exact ⟨ret_bool (by rw [HX.out]; simp [hk]), x2⟩
  · go_wp2
    go_ret
    exact ⟨ret_bool (by rw [HX.out]; rfl), x2⟩
end Go.Proofs.Ytmdjndbjfgncmaa
namespace Go.Proofs.Ytmdjndbjfgncmaa
open Go.RowKit Go.Sort Go.Shelf Go.Lib

/-! ### Not too long -/
theorem parA_len (G : Gr) : (parA G).1.length ≤ 64 := by
  by_cases h : chkD G = 0
  · rw [parA_ok h]
    obtain ⟨hv, _⟩ := chkD_iff.1 h
    have := hv.n2
    have h2 : (clA G).length = G.n.toNat := clsN_len _
    show (clA G).length ≤ 64
    omega
  · rw [parA_bad h]; exact Nat.zero_le _
theorem norm_lenN (l : List Ed) : (norm l).length ≤ l.length := by
  have h1 : ∀ (x : Ed) (a : List Ed), (insE x a).length ≤ a.length + 1 := by
    intro x a
    induction a with
    | nil => simp [insE]
    | cons y a ih =>
      unfold insE
      split
      · simp
      · split
        · simp
        · simp only [List.length_cons]; omega
  have h2 : ∀ (l a : List Ed), (l.foldl (fun a x => insE x a) a).length ≤ a.length + l.length := by
    intro l
    induction l with
    | nil => intro a; simp
    | cons x l ih =>
      intro a
      have := ih (insE x a)
      have := h1 x a
      simp only [List.foldl_cons, List.length_cons]; omega
  simpa [norm] using h2 l []
theorem merA_len (G : Gr) : (merA G).1.es.length ≤ G.es.length ∧ (merA G).2.1.length ≤ 64 := by
  by_cases h : chkD G = 0
  · rw [merA_ok h]
    obtain ⟨hv, _⟩ := chkD_iff.1 h
    have := hv.n2
    have h2 : (clA G).length = G.n.toNat := clsN_len _
    refine ⟨?_, show (clA G).length ≤ 64 by omega⟩
    show (mgA G).1.es.length ≤ _
    unfold mgA makeA
    split
    · have := norm_lenN (G.es.map (mgE (clA G)))
      simpa using this
    · exact Nat.zero_le _
  · rw [merA_bad h]; exact ⟨Nat.zero_le _, Nat.zero_le _⟩
theorem bfs_len {f g : List Ed} {kp is : Int × Int → Bool} {L : Nat} : ∀ (m i : Nat) (l : List Pw) (w : List Int), (∀ y ∈ l, y.2.length ≤ i) → bfs f g kp is L m i l = some w → w.length ≤ i + m
  | 0, i, l, w, _, h => by simp [bfs] at h
  | m + 1, i, l, w, hl, h => by
    unfold bfs at h
    cases hx : l[i]? with
    | none => rw [hx] at h; cases h
    | some x =>
      rw [hx] at h
      have hm : x ∈ l := List.mem_of_getElem? hx
      simp only at h
      split at h
      · cases h
        have := hl x hm; omega
      · have := bfs_len m (i + 1) _ w (bRow_lens (hl x hm) (fun y hy => by have := hl y hy; omega) L) h
        omega
theorem sepA_len (G : Gr) (s t : Int) : (sepA G s t).1.length ≤ 5000 := by
  unfold sepA
  split
  · rename_i h
    split
    · exact Nat.zero_le _
    · obtain ⟨hv, _⟩ := chkD_iff.1 h
      have hn : G.n.toNat ≤ 64 := by have := hv.n2; omega
      have hN := Nat.mul_le_mul (show G.n.toNat + 1 ≤ 65 by omega) (show G.n.toNat + 1 ≤ 65 by omega)
      cases ho : sepO G s t with
      | none => exact Nat.zero_le _
      | some w =>
        have := bfs_len _ 0 _ w (fun y hy => by obtain rfl := List.mem_singleton.1 hy; simp) ho
        show w.length ≤ 5000
        omega
  · exact Nat.zero_le _

set_option maxRecDepth 100000 in
set_option maxHeartbeats 8000000 in
theorem lawParts_any (G : Gr) (p : Option Addr) (c : Nat) (s t : Int) (w : World) (hin : Sg 3 w edE p G.es) (hl : G.es.length ≤ 9223372036854775807) :
    Calls Try.prog 3 #[(.agg #[.int .i64 G.q, .int .i64 G.n, .slice p G.es.length c]), .int .i64 s, .int .i64 t] w fun e w' => e = .returned (.bool true) ∧ RowKit.Below w.heap.size w w' := by
  obtain ⟨w0, hw0⟩ : ∃ w0, w0 = w.alloc (.cells #[.int .i64 G.q, .int .i64 G.n, .slice p G.es.length c] 24) := ⟨_, rfl⟩
  have b0 : VRow w0 w.heap.size 24 [.int .i64 G.q, .int .i64 G.n, .slice p G.es.length c] := by subst hw0; exact VRow.new w _ _
  have hB0 : RowKit.Below w.heap.size w w0 := by subst hw0; exact (RowKit.Below.refl _ _).alloc (Nat.le_refl _) _
  obtain ⟨v0, hv0⟩ : ∃ v0, v0 = w0.alloc (.cells #[.int .i64 G.q, .int .i64 G.n, .slice p G.es.length c] 24) := ⟨_, rfl⟩
  have r0 : VRow v0 w0.heap.size 24 [.int .i64 G.q, .int .i64 G.n, .slice p G.es.length c] := by subst hv0; exact VRow.new w0 _ _
  have hB1 : RowKit.Below w0.heap.size w0 v0 := by subst hv0; exact (RowKit.Below.refl _ _).alloc (Nat.le_refl _) _
  have x0 := hB0.trans (hB1.mono hB0.size)
  have HGR := hidI (great13_one G p c w0.heap.size 1 v0 hl r0)
  have HAW := hidI awake13_any
  have HP1 := hidI (fun W (hW : RowKit.Below w.heap.size w W) => mPartition_any G p c W (hin.below hW) hl)
  have HP2 := hidI (fun W (hW : RowKit.Below w.heap.size w W) => rmPartition_any G p c W (hin.below hW) hl)
  have HM1 := hidI (fun W (hW : RowKit.Below w.heap.size w W) => mMerge_any G p c W (hin.below hW) hl)
  have HM2 := hidI (fun W (hW : RowKit.Below w.heap.size w W) => rmMerge_any G p c W (hin.below hW) hl)
  have HS1 := hidI (fun W (hW : RowKit.Below w.heap.size w W) => mSeparate_any G p c s t W (hin.below hW) hl)
  have HS2 := hidI (fun W (hW : RowKit.Below w.heap.size w W) => rmSeparate_any G p c s t W (hin.below hW) hl)
  have l1 := hidI (parA_len G); have l2 := hidI (merA_len G); have l3 := hidI (sepA_len G s t)
  have hlG := hidI hl
  generalize parA G = xp at *
  generalize merA G = xm at *
  generalize sepA G s t = xs at *
  obtain ⟨la, ea⟩ := xp
  obtain ⟨H, lc, em⟩ := xm
  obtain ⟨lx, bx, ex⟩ := xs
  obtain ⟨b, hb⟩ : ∃ b, gr13 G = b := ⟨_, rfl⟩
  rw [hb] at HGR
  have e1 : (ea == ea) = true := by simp
  have e2 : (em == em) = true := by simp
  have e3 : (ex == ex) = true := by simp
  have e4 : (bx == bx) = true := by simp
  have g0 := b0.at 0 rfl; have g1 := b0.at 1 rfl; have g2 := b0.at 2 rfl
  clear hin hl hb r0
  go_enter Try.func3, Try.ntmps3
  go_upto_region 1 with fail
  rw [← hw0]
  clear hw0
  go_wp2_with fail
  rw [← hv0]
  clear hv0
  refine HGR.out.mono ?_
  rintro e u ⟨rfl, hB⟩
  have x1 := x0.trans (hB.mono x0.size)
  have hBb := hB1.trans (hB.mono hB1.size)
  have b1 := b0.below hBb b0.lt
  clear g0 g1 g2 b0 x0 hB hBb hB1 hB0 HGR
  cases b
  case true =>
    go_wp2_with fail
    refine (HAW.out u).mono ?_
    rintro e u2 ⟨rfl, hB⟩
    have x2 := x1.trans (hB.mono x1.size)
    go_wp2
    go_ret
    exact ⟨rfl, x2⟩
  case false =>
    have b_1 := b1
    clear b1
    have f0 := b_1.at 0 rfl; have f1 := b_1.at 1 rfl; have f2 := b_1.at 2 rfl
    have HC := hidI (HP1.out u x1)
    go_wp2_with fail
    refine HC.out.mono ?_
    rintro e ua ⟨qa, da, rfl, hs, hB⟩
    clear f0 f1 f2 HC HP1
    change Sl ua (Value.int .i64) qa la at hs
    have za_2 := hidI hs
    have x2 := x1.trans (hB.mono x1.size)
    have b_2 := b_1.below hB b_1.lt
    clear x1 b_1
    clear hs hB
    have f0 := b_2.at 0 rfl; have f1 := b_2.at 1 rfl; have f2 := b_2.at 2 rfl
    have HC := hidI (HP2.out ua x2)
    go_wp2_with fail
    refine HC.out.mono ?_
    rintro e ub ⟨qb, db, rfl, hs, hB⟩
    clear f0 f1 f2 HC HP2
    change Sl ub (Value.int .i64) qb la at hs
    have zb_3 := hidI hs
    have x3 := x2.trans (hB.mono x2.size)
    have b_3 := b_2.below hB b_2.lt
    have za_3 := hidI (za_2.out.below hB)
    clear x2 b_2 za_2
    clear hs hB
    have f0 := b_3.at 0 rfl; have f1 := b_3.at 1 rfl; have f2 := b_3.at 2 rfl
    have HC := hidI (HM1.out ub x3)
    go_wp2_with fail
    refine HC.out.mono ?_
    rintro e uc ⟨pc, cc, qc, dc, rfl, hg, _, hs0, hB⟩
    have hs := hs0.sl
    clear f0 f1 f2 HC HM1
    change Sl uc (Value.int .i64) qc lc at hs
    change Sg 3 uc edE pc H.es at hg
    obtain ⟨vc, hvc⟩ : ∃ v, v = uc.alloc (.cells #[.int .i64 H.q, .int .i64 H.n, .slice pc H.es.length cc] 24) := ⟨_, rfl⟩
    have hq : RowKit.Below uc.heap.size uc vc := by subst hvc; exact (RowKit.Below.refl _ _).alloc (Nat.le_refl _) _
    have rc_4 : VRow vc uc.heap.size 24 [.int .i64 H.q, .int .i64 H.n, .slice pc H.es.length cc] := by subst hvc; exact VRow.new uc _ _
    have hD := hB.trans (hq.mono hB.size)
    have gc_4 := hidI (hg.below hq)
    have zc_4 := hidI (hs.below hq)
    have x4 := x3.trans (hD.mono x3.size)
    have b_4 := b_3.below hD b_3.lt
    have za_4 := hidI (za_3.out.below hD)
    have zb_4 := hidI (zb_3.out.below hD)
    clear x3 b_3 za_3 zb_3
    clear hs hs0 hg hq hB hD
    have f0 := b_4.at 0 rfl; have f1 := b_4.at 1 rfl; have f2 := b_4.at 2 rfl
    have HC := hidI (HM2.out vc x4)
    rw [hvc] at f0 f1 f2
    go_wp2_with fail
    rw [← hvc]
    clear hvc
    refine HC.out.mono ?_
    rintro e ud ⟨pd, cd, qd, dd, rfl, hg, _, hs0, hB⟩
    have hs := hs0.sl
    clear f0 f1 f2 HC HM2
    change Sl ud (Value.int .i64) qd lc at hs
    change Sg 3 ud edE pd H.es at hg
    obtain ⟨vd, hvd⟩ : ∃ v, v = ud.alloc (.cells #[.int .i64 H.q, .int .i64 H.n, .slice pd H.es.length cd] 24) := ⟨_, rfl⟩
    have hq : RowKit.Below ud.heap.size ud vd := by subst hvd; exact (RowKit.Below.refl _ _).alloc (Nat.le_refl _) _
    have rd_5 : VRow vd ud.heap.size 24 [.int .i64 H.q, .int .i64 H.n, .slice pd H.es.length cd] := by subst hvd; exact VRow.new ud _ _
    have hD := hB.trans (hq.mono hB.size)
    have gd_5 := hidI (hg.below hq)
    have zd_5 := hidI (hs.below hq)
    have x5 := x4.trans (hD.mono x4.size)
    have b_5 := b_4.below hD b_4.lt
    have rc_5 := rc_4.below hD rc_4.lt
    have za_5 := hidI (za_4.out.below hD)
    have zb_5 := hidI (zb_4.out.below hD)
    have zc_5 := hidI (zc_4.out.below hD)
    have gc_5 := hidI (gc_4.out.below hD)
    clear x4 b_4 rc_4 za_4 zb_4 zc_4 gc_4
    clear hs hs0 hg hq hB hD
    have f0 := b_5.at 0 rfl; have f1 := b_5.at 1 rfl; have f2 := b_5.at 2 rfl
    have HC := hidI (HS1.out vd x5)
    rw [hvd] at f0 f1 f2
    go_wp2_with fail
    rw [← hvd]
    clear hvd
    refine HC.out.mono ?_
    rintro e ux ⟨qx, dx, rfl, hs, hB⟩
    clear f0 f1 f2 HC HS1
    change Sl ux (Value.int .i64) qx lx at hs
    have zx_6 := hidI hs
    have x6 := x5.trans (hB.mono x5.size)
    have b_6 := b_5.below hB b_5.lt
    have rc_6 := rc_5.below hB rc_5.lt
    have rd_6 := rd_5.below hB rd_5.lt
    have za_6 := hidI (za_5.out.below hB)
    have zb_6 := hidI (zb_5.out.below hB)
    have zc_6 := hidI (zc_5.out.below hB)
    have zd_6 := hidI (zd_5.out.below hB)
    have gc_6 := hidI (gc_5.out.below hB)
    have gd_6 := hidI (gd_5.out.below hB)
    clear x5 b_5 rc_5 rd_5 za_5 zb_5 zc_5 zd_5 gc_5 gd_5
    clear hs hB
    have f0 := b_6.at 0 rfl; have f1 := b_6.at 1 rfl; have f2 := b_6.at 2 rfl
    have HC := hidI (HS2.out ux x6)
    go_wp2_with fail
    refine HC.out.mono ?_
    rintro e uy ⟨qy, dy, rfl, hs, hB⟩
    clear f0 f1 f2 HC HS2
    change Sl uy (Value.int .i64) qy lx at hs
    have zy_7 := hidI hs
    have x7 := x6.trans (hB.mono x6.size)
    have b_7 := b_6.below hB b_6.lt
    have rc_7 := rc_6.below hB rc_6.lt
    have rd_7 := rd_6.below hB rd_6.lt
    have za_7 := hidI (za_6.out.below hB)
    have zb_7 := hidI (zb_6.out.below hB)
    have zc_7 := hidI (zc_6.out.below hB)
    have zd_7 := hidI (zd_6.out.below hB)
    have zx_7 := hidI (zx_6.out.below hB)
    have gc_7 := hidI (gc_6.out.below hB)
    have gd_7 := hidI (gd_6.out.below hB)
    clear x6 b_6 rc_6 rd_6 za_6 zb_6 zc_6 zd_6 zx_6 gc_6 gd_6
    clear hs hB
    have HC := hidI (equalI_n la la qa qb da db uy za_7.out zb_7.out (by have := l1.out; (try simp only at this); omega) (by have := l1.out; (try simp only at this); omega))
    rw [decide_eq_true (rfl : la = la)] at HC
    go_wp2_with fail
    refine HC.out.mono ?_
    rintro e t1 ⟨rfl, hB0⟩
    have hB := hB0.below uy.heap.size
    have x8 := x7.trans (hB.mono x7.size)
    have b_8 := b_7.below hB b_7.lt
    have rc_8 := rc_7.below hB rc_7.lt
    have rd_8 := rd_7.below hB rd_7.lt
    have za_8 := hidI (za_7.out.below hB)
    have zb_8 := hidI (zb_7.out.below hB)
    have zc_8 := hidI (zc_7.out.below hB)
    have zd_8 := hidI (zd_7.out.below hB)
    have zx_8 := hidI (zx_7.out.below hB)
    have zy_8 := hidI (zy_7.out.below hB)
    have gc_8 := hidI (gc_7.out.below hB)
    have gd_8 := hidI (gd_7.out.below hB)
    clear x7 b_7 rc_7 rd_7 za_7 zb_7 zc_7 zd_7 zx_7 zy_7 gc_7 gd_7
    clear hB hB0 HC
    have m0 := rc_8.at 0 rfl; have m1 := rc_8.at 1 rfl; have m2 := rc_8.at 2 rfl
    have n0 := rd_8.at 0 rfl; have n1 := rd_8.at 1 rfl; have n2 := rd_8.at 2 rfl
    have HC := hidI (rSame_any H H pc pd cc cd t1 gc_8.out gd_8.out (by have h := l2.out; have h2 := hlG.out; (try simp only at h); omega) (by have h := l2.out; have h2 := hlG.out; (try simp only at h); omega))
    rw [sameG_refl] at HC
    go_wp2_with fail
    refine HC.out.mono ?_
    rintro e t2 ⟨rfl, hB0⟩
    have hB := hB0
    have x9 := x8.trans (hB.mono x8.size)
    have b_9 := b_8.below hB b_8.lt
    have rc_9 := rc_8.below hB rc_8.lt
    have rd_9 := rd_8.below hB rd_8.lt
    have za_9 := hidI (za_8.out.below hB)
    have zb_9 := hidI (zb_8.out.below hB)
    have zc_9 := hidI (zc_8.out.below hB)
    have zd_9 := hidI (zd_8.out.below hB)
    have zx_9 := hidI (zx_8.out.below hB)
    have zy_9 := hidI (zy_8.out.below hB)
    have gc_9 := hidI (gc_8.out.below hB)
    have gd_9 := hidI (gd_8.out.below hB)
    clear x8 b_8 rc_8 rd_8 za_8 zb_8 zc_8 zd_8 zx_8 zy_8 gc_8 gd_8
    clear hB hB0 HC
    clear m0 m1 m2 n0 n1 n2
    have HC := hidI (equalI_n lc lc qc qd dc dd t2 zc_9.out zd_9.out (by have := l2.out; (try simp only at this); omega) (by have := l2.out; (try simp only at this); omega))
    rw [decide_eq_true (rfl : lc = lc)] at HC
    go_wp2_with fail
    refine HC.out.mono ?_
    rintro e t3 ⟨rfl, hB0⟩
    have hB := hB0.below t2.heap.size
    have x10 := x9.trans (hB.mono x9.size)
    have b_10 := b_9.below hB b_9.lt
    have rc_10 := rc_9.below hB rc_9.lt
    have rd_10 := rd_9.below hB rd_9.lt
    have za_10 := hidI (za_9.out.below hB)
    have zb_10 := hidI (zb_9.out.below hB)
    have zc_10 := hidI (zc_9.out.below hB)
    have zd_10 := hidI (zd_9.out.below hB)
    have zx_10 := hidI (zx_9.out.below hB)
    have zy_10 := hidI (zy_9.out.below hB)
    have gc_10 := hidI (gc_9.out.below hB)
    have gd_10 := hidI (gd_9.out.below hB)
    clear x9 b_9 rc_9 rd_9 za_9 zb_9 zc_9 zd_9 zx_9 zy_9 gc_9 gd_9
    clear hB hB0 HC
    have HC := hidI (equalI_n lx lx qx qy dx dy t3 zx_10.out zy_10.out (by have := l3.out; (try simp only at this); omega) (by have := l3.out; (try simp only at this); omega))
    rw [decide_eq_true (rfl : lx = lx)] at HC
    go_wp2_with fail
    refine HC.out.mono ?_
    rintro e t4 ⟨rfl, hB0⟩
    have hB := hB0.below t3.heap.size
    have x11 := x10.trans (hB.mono x10.size)
    have b_11 := b_10.below hB b_10.lt
    have rc_11 := rc_10.below hB rc_10.lt
    have rd_11 := rd_10.below hB rd_10.lt
    have za_11 := hidI (za_10.out.below hB)
    have zb_11 := hidI (zb_10.out.below hB)
    have zc_11 := hidI (zc_10.out.below hB)
    have zd_11 := hidI (zd_10.out.below hB)
    have zx_11 := hidI (zx_10.out.below hB)
    have zy_11 := hidI (zy_10.out.below hB)
    have gc_11 := hidI (gc_10.out.below hB)
    have gd_11 := hidI (gd_10.out.below hB)
    clear x10 b_10 rc_10 rd_10 za_10 zb_10 zc_10 zd_10 zx_10 zy_10 gc_10 gd_10
    clear hB hB0 HC
    have HC := hidI (HAW.out t4)
    go_wp2_with fail
    refine HC.out.mono ?_
    rintro e t5 ⟨rfl, hB0⟩
    have hB := hB0
    have x12 := x11.trans (hB.mono x11.size)
    have b_12 := b_11.below hB b_11.lt
    have rc_12 := rc_11.below hB rc_11.lt
    have rd_12 := rd_11.below hB rd_11.lt
    have za_12 := hidI (za_11.out.below hB)
    have zb_12 := hidI (zb_11.out.below hB)
    have zc_12 := hidI (zc_11.out.below hB)
    have zd_12 := hidI (zd_11.out.below hB)
    have zx_12 := hidI (zx_11.out.below hB)
    have zy_12 := hidI (zy_11.out.below hB)
    have gc_12 := hidI (gc_11.out.below hB)
    have gd_12 := hidI (gd_11.out.below hB)
    clear x11 b_11 rc_11 rd_11 za_11 zb_11 zc_11 zd_11 zx_11 zy_11 gc_11 gd_11
    clear hB hB0 HC
    go_wp2
    go_ret
    exact ⟨rfl, x12⟩
end Go.Proofs.Ytmdjndbjfgncmaa
namespace Go.Proofs.Ytmdjndbjfgncmaa
open Go.RowKit Go.Sort Go.Shelf Go.Lib

theorem det13_ok {G : Gr} (h : det13A G = true) : chkD G = 0 ∧ G.es.length ≤ 20 ∧ G.n ≤ 6 := by
  unfold det13A at h
  simp only [Bool.and_eq_true, Bool.not_eq_true', decide_eq_true_iff] at h
  obtain ⟨h1, h2, h3⟩ := h
  have hc : chkG G = 0 := by
    by_cases hc : chkG G = 0
    · exact hc
    · rw [detA_bad hc] at h2; cases h2
  rw [detA_ok hc] at h3
  have hv := chkG_ok.1 hc
  refine ⟨chkD_ok hc h3, ?_⟩
  unfold gr13 at h1
  simp only [Bool.or_eq_false_iff, Bool.and_eq_false_iff, decide_eq_false_iff_not] at h1
  have := hv.n2
  omega
theorem leadsA_run {G : Gr} (hv : Vg G) (hu : Uq G.es) : ∀ (w : List Int) (x : Int), -1 ≤ x → x < G.n → Lab G.q.toNat w → leadsA G (toS x) w = toS (run1 G.es x w)
  | [], x, _, _, _ => rfl
  | b :: w, x, h1, h2, hl => by
    have hb := hl b (by simp)
    have hq := hv.q1
    have hcs : chkS G.n none (toS x) = 0 := by
      unfold toS
      split
      · rfl
      · rw [chkS_cons, if_neg (by omega)]; rfl
    have e : stepA G (toS x) b = (toS (nxt G.es x b), 0) := by
      unfold stepA
      rw [if_pos (chkG_ok.2 hv), if_pos hcs, if_neg (by omega), next_toS hv hu]
    have hn := nxt_bd hv x b
    rw [leadsA, e]
    simp only [if_true]
    rw [leadsA_run hv hu w _ hn.1 hn.2 (fun y hy => hl y (by simp [hy])), run1_cons]

theorem sl_one (w : World) (x : Int) : Sl (w.alloc (.cells #[.int .i64 x] 3)) (Value.int .i64) (some ⟨w.heap.size, 0, none⟩) [x] :=
  Sl.of_vrow (l := [x]) (VRow.new w 3 [.int .i64 x])
theorem sl_one_drew (w : World) (x : Int) : Sl (w.alloc (.cells #[.int .i64 x] 3)).drew (Value.int .i64) (some ⟨w.heap.size, 0, none⟩) [x] := sl_one w x
theorem two_sl (w : World) (x y : Int) : RowKit.Below w.heap.size w ((w.alloc (.cells #[.int .i64 x] 3)).alloc (.cells #[.int .i64 y] 3)).drew ∧
    Sl ((w.alloc (.cells #[.int .i64 x] 3)).alloc (.cells #[.int .i64 y] 3)).drew (Value.int .i64) (some ⟨w.heap.size, 0, none⟩) [x] ∧
    Sl ((w.alloc (.cells #[.int .i64 x] 3)).alloc (.cells #[.int .i64 y] 3)).drew (Value.int .i64) (some ⟨w.heap.size + 1, 0, none⟩) [y] := by
  refine ⟨(((RowKit.Below.refl _ _).alloc (Nat.le_refl _) _).alloc (by simp) _).drew, ?_, ?_⟩
  · have h : Sl ((w.alloc (.cells #[.int .i64 x] 3)).alloc (.cells #[.int .i64 y] 3)) (Value.int .i64) (some ⟨w.heap.size, 0, none⟩) [x] := (sl_one w x).below ((RowKit.Below.refl _ _).alloc (Nat.le_refl _) _)
    exact h
  · have h := sl_one_drew (w.alloc (.cells #[.int .i64 x] 3)) y
    rw [World.size_alloc] at h
    exact h
set_option maxRecDepth 100000 in
set_option maxHeartbeats 8000000 in
theorem lawClasses_any (G : Gr) (p : Option Addr) (c : Nat) (a b : Int) (w : World) (hin : Sg 3 w edE p G.es) (hl : G.es.length ≤ 9223372036854775807) (ha : 0 ≤ a ∧ a ≤ 255) (hb : 0 ≤ b ∧ b ≤ 255) :
    Calls Try.prog 5 #[(.agg #[.int .i64 G.q, .int .i64 G.n, .slice p G.es.length c]), .int .u8 a, .int .u8 b] w fun e w' => e = .returned (.bool true) ∧ RowKit.Below w.heap.size w w' := by
  obtain ⟨w0, hw0⟩ : ∃ w0, w0 = w.alloc (.cells #[.int .i64 G.q, .int .i64 G.n, .slice p G.es.length c] 24) := ⟨_, rfl⟩
  have b0 : VRow w0 w.heap.size 24 [.int .i64 G.q, .int .i64 G.n, .slice p G.es.length c] := by subst hw0; exact VRow.new w _ _
  have hB0 : RowKit.Below w.heap.size w w0 := by subst hw0; exact (RowKit.Below.refl _ _).alloc (Nat.le_refl _) _
  have HAW := hidI awake13_any
  have HIN := hidI hin
  have HD := hidI (det13_any G p c w0 (hin.below hB0) hl)
  have f0 := b0.at 0 rfl; have f1 := b0.at 1 rfl; have f2 := b0.at 2 rfl
  obtain ⟨y, hy⟩ : ∃ y, det13A G = y := ⟨_, rfl⟩
  rw [hy] at HD
  have HY := hidI hy
  clear hin hy
  go_enter Try.func5, Try.ntmps5
  go_upto_region 1 with fail
  rw [← hw0]
  clear hw0
  go_wp2_with fail
  refine HD.out.mono ?_
  rintro e w1 ⟨rfl, hB1⟩
  have x1 := hB0.trans (hB1.mono hB0.size)
  have b1 := b0.below hB1 b0.lt
  clear f0 f1 f2 b0 HD hB1 hB0
  have f0 := b1.at 0 rfl; have f1 := b1.at 1 rfl; have f2 := b1.at 2 rfl
  cases y
  case false =>
    go_wp2_with fail
    refine (HAW.out w1).mono ?_
    rintro e u2 ⟨rfl, hB⟩
    have x2 := x1.trans (hB.mono x1.size)
    go_wp2
    go_ret
    exact ⟨rfl, x2⟩
  by_cases hn0 : G.n = 0
  · have hn0b : (G.n == 0) = true := by simpa using hn0
    go_wp2_with fail
    refine (HAW.out w1).mono ?_
    rintro e u2 ⟨rfl, hB⟩
    have x2 := x1.trans (hB.mono x1.size)
    go_wp2
    go_ret
    exact ⟨rfl, x2⟩
  have hn0b : (G.n == 0) = false := by simpa using hn0
  obtain ⟨hD, h20, h6⟩ := det13_ok HY.out
  obtain ⟨hv, hdB⟩ := chkD_iff.1 hD
  have hu := uq_det hv hdB
  have hn1 := hv.n1
  obtain ⟨S, hS⟩ : ∃ S : Nat, a % G.n = S := ⟨(a % G.n).toNat, by have := Int.emod_nonneg a hn0; omega⟩
  obtain ⟨T, hT⟩ : ∃ T : Nat, b % G.n = T := ⟨(b % G.n).toNat, by have := Int.emod_nonneg b hn0; omega⟩
  have hS6 : (S : Int) < G.n := by rw [← hS]; exact Int.emod_lt_of_pos _ (by omega)
  have hT6 : (T : Int) < G.n := by rw [← hT]; exact Int.emod_lt_of_pos _ (by omega)
  have hw1 : IntKind.i64.wrap (S : Int) = S := by rw [IntKind.wrap_i64]; omega
  have hw2 : IntKind.i64.wrap a = a := by rw [IntKind.wrap_i64]; omega
  have hw3 : a.tmod G.n = (S : Int) := by rw [Int.tmod_eq_emod_of_nonneg ha.1, hS]
  have hw4 : IntKind.i64.wrap (T : Int) = T := by rw [IntKind.wrap_i64]; omega
  have hw5 : IntKind.i64.wrap b = b := by rw [IntKind.wrap_i64]; omega
  have hw6 : b.tmod G.n = (T : Int) := by rw [Int.tmod_eq_emod_of_nonneg hb.1, hT]
  have hcl : (clA G).length = G.n.toNat := clsN_len _
  have HP := hidI (fun W (hW : RowKit.Below w.heap.size w W) => mPartition_any G p c W (HIN.out.below hW) hl)
  have HS := hidI (fun W (hW : RowKit.Below w.heap.size w W) => mSeparate_any G p c S T W (HIN.out.below hW) hl)
  have HL := hidI (fun W q qw d dw (st ws : List Int) (hW : RowKit.Below w.heap.size w W) (h1 : Sl W (Value.int .i64) q st) (h2 : Sl W (Value.int .i64) qw ws) (h3 : st.length ≤ 1000) (h4 : ws.length ≤ 10000) => leads13_any G p c st ws q qw d dw W (HIN.out.below hW) h1 h2 (by omega) h3 h4)
  rw [parA_ok hD] at HP
  rw [sepA_ok hD (by omega)] at HS
  have HSC := hidI (sep_cls hv (r := S) (s := T) (by omega) (by omega))
  have HSW := hidI (fun v => @sep_word G S T v)
  have HSL := hidI (sepA_len G S T)
  rw [sepA_ok hD (by omega)] at HSL
  have HRU := hidI (fun v => leadsA_run hv hu v)
  have HCG := hidI (fun k (h : k < (clA G).length) => show (clA G)[k] = cg (clA G) k by unfold cg; simp [List.getD, h])
  have hclN : ((clA G).length : Int) = G.n := by omega
  clear hS hT hD hv hdB hu HY hn1 hcl
  go_upto_region 3 with fail
  (refine wp_region_quiet_lit (by kernel_rfl) (by kernel_rfl) ?_; (repeat (first | go_big_quiet_step (fail) | quiet_step (fail))); refine wpQuiet_nil ?_; intro _ hwq; obtain ⟨nq, hwq2⟩ := hwq; subst hwq2)
  have x2 := below_dN x1 nq
  have b2 : VRow (w1.drewN nq) w.heap.size 24 [.int .i64 G.q, .int .i64 G.n, .slice p G.es.length c] := b1
  clear f0 f1 f2 b1 x1
  generalize w1.drewN nq = w2 at *
  have f0 := b2.at 0 rfl; have f1 := b2.at 1 rfl; have f2 := b2.at 2 rfl
  have HC := hidI (HP.out w2 x2)
  clear hw1 hw2 hw3 hw4 hw5 hw6 HP
  go_wp2_with fail
  refine HC.out.mono ?_
  rintro e w3 ⟨qc, dc, rfl, hsC, hB3⟩
  have x3 := x2.trans (hB3.mono x2.size)
  have b3 := b2.below hB3 b2.lt
  change Sl w3 (Value.int .i64) qc (clA G) at hsC
  have hsC := hidI hsC
  clear f0 f1 f2 b2 x2 hB3 HC
  have f0 := b3.at 0 rfl; have f1 := b3.at 1 rfl; have f2 := b3.at 2 rfl
  have HC := hidI (HS.out w3 x3)
  clear HS
  go_wp2_with fail
  refine HC.out.mono ?_
  rintro e w4 ⟨qw, dw, rfl, hsW, hB4⟩
  have x4 := x3.trans (hB4.mono x3.size)
  have b4 := b3.below hB4 b3.lt
  change Sl w4 (Value.int .i64) qw (fwA (sepO G S T)).1 at hsW
  have hsW := hidI hsW
  have hSl : (S : Int) < ((clA G).length : Int) := by omega
  have hTl : (T : Int) < ((clA G).length : Int) := by omega
  obtain ⟨bc, oc, rfl, hbc, hcc⟩ := (hsC.out.below hB4).get S (by omega)
  have e0 := hcc S (by omega); have e1 := hcc T (by omega)
  rw [HCG.out S (by omega)] at e0
  rw [HCG.out T (by omega)] at e1
  clear f0 f1 f2 b3 x3 hB4 HC hcc hsC HCG
  have f0 := b4.at 0 rfl; have f1 := b4.at 1 rfl; have f2 := b4.at 2 rfl
  generalize cg (clA G) S = cs at *
  generalize cg (clA G) T = ct at *
  generalize clA G = C at *
  generalize sepO G S T = o at *
  obtain ⟨fw, hfw⟩ : ∃ fw, fw = fwA o := ⟨_, rfl⟩
  rw [← hfw] at hsW HSC HSL ⊢
  obtain ⟨wl, is⟩ := fw
  cases o with
  | none =>
    cases hfw
    have hct : (cs != ct) = false := by
      have := HSC.out
      simpa using this
    change Hid (Sl w4 (Value.int .i64) qw []) at hsW
    go_upto_region 6 with fail
    (refine wp_region_quiet_lit (by kernel_rfl) (by kernel_rfl) ?_; (repeat (first | go_big_quiet_step (fail) | quiet_step (fail))); refine wpQuiet_nil ?_; intro _ hwq; obtain ⟨nq, hwq2⟩ := hwq; subst hwq2)
    go_wp2_with fail
    refine (HAW.out _).mono ?_
    rintro e w5 ⟨rfl, hB⟩
    have x5 := (below_dN x4 nq).trans (hB.mono (below_dN x4 nq).size)
    go_wp2
    go_ret
    exact ⟨rfl, x5⟩
  | some v =>
    have hf1 : v = wl := (congrArg Prod.fst hfw).symm
    have hf2 : true = is := (congrArg Prod.snd hfw).symm
    subst hf1; subst hf2
    clear hfw
    have hct : (cs != ct) = true := by
      have := HSC.out
      simpa using this
    change Hid (Sl w4 (Value.int .i64) qw v) at hsW
    go_upto_region 6 with fail
    (refine wp_region_quiet_lit (by kernel_rfl) (by kernel_rfl) ?_; (repeat (first | go_big_quiet_step (fail) | quiet_step (fail))); refine wpQuiet_nil ?_; intro _ hwq; obtain ⟨nq, hwq2⟩ := hwq; subst hwq2)
    go_upto_region 10 with fail
    have x5 := below_dN x4 nq
    have b5 : VRow (w4.drewN nq) w.heap.size 24 [.int .i64 G.q, .int .i64 G.n, .slice p G.es.length c] := b4
    have hsW5 : Hid (Sl (w4.drewN nq) (Value.int .i64) qw v) := hsW
    obtain ⟨hLab, hne⟩ := HSW.out v rfl
    have hv5 := HSL.out
    change v.length ≤ 5000 at hv5
    have hR1 := HRU.out v S (by omega) hS6 hLab
    have hR2 := HRU.out v T (by omega) hT6 hLab
    rw [show toS (S : Int) = [(S : Int)] by unfold toS; rw [if_neg (by omega)]] at hR1
    rw [show toS (T : Int) = [(T : Int)] by unfold toS; rw [if_neg (by omega)]] at hR2
    generalize run1 G.es S v = r1 at *
    generalize run1 G.es T v = r2 at *
    have HL1 : Hid (∀ W qs d, RowKit.Below w.heap.size w W → Sl W (Value.int .i64) qs [(S : Int)] → Sl W (Value.int .i64) qw v → Calls Try.prog 19 #[(.agg #[.int .i64 G.q, .int .i64 G.n, .slice p G.es.length c]), .slice qs 1 d, .slice qw v.length dw] W fun e w' => (∃ q d', e = .returned (.slice q (toS r1).length d')) ∧ RowKit.Below W.heap.size W w') := fun W qs d hW h1 h2 => by
      have h := HL.out W qs qw d dw [(S : Int)] v hW h1 h2 (by simp) (by omega)
      rw [hR1] at h
      exact h.mono (fun e w' ⟨q, d', h1, _, h3⟩ => ⟨⟨q, d', h1⟩, h3⟩)
    have HL2 : Hid (∀ W qs d, RowKit.Below w.heap.size w W → Sl W (Value.int .i64) qs [(T : Int)] → Sl W (Value.int .i64) qw v → Calls Try.prog 19 #[(.agg #[.int .i64 G.q, .int .i64 G.n, .slice p G.es.length c]), .slice qs 1 d, .slice qw v.length dw] W fun e w' => (∃ q d', e = .returned (.slice q (toS r2).length d')) ∧ RowKit.Below W.heap.size W w') := fun W qs d hW h1 h2 => by
      have h := HL.out W qs qw d dw [(T : Int)] v hW h1 h2 (by simp) (by omega)
      rw [hR2] at h
      exact h.mono (fun e w' ⟨q, d', h1, _, h3⟩ => ⟨⟨q, d', h1⟩, h3⟩)
    have hcase : ((toS r1).length = 1 ∧ (toS r2).length = 0) ∨ ((toS r1).length = 0 ∧ (toS r2).length = 1) := by
      unfold toS
      by_cases h1 : 0 ≤ r1 <;> by_cases h2 : 0 ≤ r2 <;> simp [h1, h2] at hne
      · left; rw [if_neg (by omega), if_pos (by omega)]; exact ⟨rfl, rfl⟩
      · right; rw [if_pos (by omega), if_neg (by omega)]; exact ⟨rfl, rfl⟩
    generalize (toS r1).length = n1 at *
    generalize (toS r2).length = n2 at *
    clear f0 f1 f2 b4 x4 hR1 hR2 hLab hne hsW HSW HSL HRU HL HSC e0 e1 hct hclN
    generalize w4.drewN nq = w5 at *
    have f0 := b5.at 0 rfl; have f1 := b5.at 1 rfl; have f2 := b5.at 2 rfl
    have HKS : Hid (∀ V, RowKit.Below w5.heap.size w5 V → V.cell? ⟨w.heap.size, 0, none⟩ = some (.int .i64 G.q) ∧ V.cell? ⟨w.heap.size, 1, none⟩ = some (.int .i64 G.n) ∧ V.cell? ⟨w.heap.size, 2, none⟩ = some (.slice p G.es.length c) ∧ RowKit.Below w5.heap.size w5 V) := fun V h =>
      ⟨(b5.below h b5.lt).at 0 rfl, (b5.below h b5.lt).at 1 rfl, (b5.below h b5.lt).at 2 rfl, h⟩
    have HX5 : Hid (∀ V, RowKit.Below w5.heap.size w5 V → RowKit.Below w.heap.size w V ∧ Sl V (Value.int .i64) qw v) := fun V h => ⟨x5.trans (h.mono x5.size), hsW5.out.below h⟩
    clear hsW5 b5 x5
    have HA1 : Hid (∀ W, RowKit.Below w5.heap.size w5 W → Calls Try.prog 19 #[(.agg #[.int .i64 G.q, .int .i64 G.n, .slice p G.es.length c]), .slice (some ⟨W.heap.size, 0, none⟩) 1 1, .slice qw v.length dw] (W.alloc (.cells #[.int .i64 (S : Int)] 3)).drew fun e w' => (∃ q d', e = .returned (.slice q n1 d')) ∧ RowKit.Below w5.heap.size w5 w') := fun W h => by
      have h2 : RowKit.Below w5.heap.size w5 (W.alloc (.cells #[.int .i64 (S : Int)] 3)).drew := (h.alloc h.size _).drew
      exact (HL1.out _ _ 1 (HX5.out _ h2).1 (sl_one_drew W S) (HX5.out _ h2).2).mono (fun e w' h3 => ⟨h3.1, h2.trans (h3.2.mono h2.size)⟩)
    have HA2 : Hid (∀ W, RowKit.Below w5.heap.size w5 W → Calls Try.prog 19 #[(.agg #[.int .i64 G.q, .int .i64 G.n, .slice p G.es.length c]), .slice (some ⟨W.heap.size, 0, none⟩) 1 1, .slice qw v.length dw] (W.alloc (.cells #[.int .i64 (T : Int)] 3)) fun e w' => (∃ q d', e = .returned (.slice q n2 d')) ∧ RowKit.Below w5.heap.size w5 w') := fun W h => by
      have h2 : RowKit.Below w5.heap.size w5 (W.alloc (.cells #[.int .i64 (T : Int)] 3)) := h.alloc h.size _
      exact (HL2.out _ _ 1 (HX5.out _ h2).1 (sl_one W T) (HX5.out _ h2).2).mono (fun e w' h3 => ⟨h3.1, h2.trans (h3.2.mono h2.size)⟩)
    have HB1 : Hid (Calls Try.prog 19 #[(.agg #[.int .i64 G.q, .int .i64 G.n, .slice p G.es.length c]), .slice (some ⟨w5.heap.size, 0, none⟩) 1 1, .slice qw v.length dw] ((w5.alloc (.cells #[.int .i64 (S : Int)] 3)).alloc (.cells #[.int .i64 (T : Int)] 3)).drew fun e w' => (∃ q d', e = .returned (.slice q n1 d')) ∧ RowKit.Below w5.heap.size w5 w' ∧ Hid (Sl w' (Value.int .i64) (some ⟨w5.heap.size + 1, 0, none⟩) [(T : Int)])) := by
      obtain ⟨h2, k1, k2⟩ := two_sl w5 S T
      exact (HL1.out _ _ 1 (HX5.out _ h2).1 k1 (HX5.out _ h2).2).mono (fun e w' h3 => ⟨h3.1, h2.trans (h3.2.mono h2.size), k2.below h3.2⟩)
    have HB2 : Hid (∀ W, RowKit.Below w5.heap.size w5 W → Hid (Sl W (Value.int .i64) (some ⟨w5.heap.size + 1, 0, none⟩) [(T : Int)]) → Calls Try.prog 19 #[(.agg #[.int .i64 G.q, .int .i64 G.n, .slice p G.es.length c]), .slice (some ⟨w5.heap.size + 1, 0, none⟩) 1 1, .slice qw v.length dw] W fun e w' => (∃ q d', e = .returned (.slice q n2 d')) ∧ RowKit.Below w5.heap.size w5 w') := fun W h hs =>
      (HL2.out _ _ 1 (HX5.out _ h).1 hs.out (HX5.out _ h).2).mono (fun e w' h3 => ⟨h3.1, h.trans (h3.2.mono h.size)⟩)
    have HC1 : Hid (Calls Try.prog 19 #[(.agg #[.int .i64 G.q, .int .i64 G.n, .slice p G.es.length c]), .slice (some ⟨w5.heap.size + 1, 0, none⟩) 1 1, .slice qw v.length dw] ((w5.alloc (.cells #[.int .i64 (T : Int)] 3)).alloc (.cells #[.int .i64 (S : Int)] 3)).drew fun e w' => (∃ q d', e = .returned (.slice q n1 d')) ∧ RowKit.Below w5.heap.size w5 w' ∧ Hid (Sl w' (Value.int .i64) (some ⟨w5.heap.size, 0, none⟩) [(T : Int)])) := by
      obtain ⟨h2, k1, k2⟩ := two_sl w5 T S
      exact (HL1.out _ _ 1 (HX5.out _ h2).1 k2 (HX5.out _ h2).2).mono (fun e w' h3 => ⟨h3.1, h2.trans (h3.2.mono h2.size), k1.below h3.2⟩)
    have HC2 : Hid (∀ W, RowKit.Below w5.heap.size w5 W → Hid (Sl W (Value.int .i64) (some ⟨w5.heap.size, 0, none⟩) [(T : Int)]) → Calls Try.prog 19 #[(.agg #[.int .i64 G.q, .int .i64 G.n, .slice p G.es.length c]), .slice (some ⟨w5.heap.size, 0, none⟩) 1 1, .slice qw v.length dw] W fun e w' => (∃ q d', e = .returned (.slice q n2 d')) ∧ RowKit.Below w5.heap.size w5 w') := fun W h hs =>
      (HL2.out _ _ 1 (HX5.out _ h).1 hs.out (HX5.out _ h).2).mono (fun e w' h3 => ⟨h3.1, h.trans (h3.2.mono h.size)⟩)
    have HA3 : Hid (∀ W, RowKit.Below w5.heap.size w5 W → Calls Try.prog 7 #[] W fun e w' => e = .returned (.bool true) ∧ RowKit.Below w5.heap.size w5 w') := fun W h => (HAW.out W).mono (fun e w' h3 => ⟨h3.1, h.trans (h3.2.mono h.size)⟩)
    rcases hcase with ⟨rfl, rfl⟩ | ⟨rfl, rfl⟩
    all_goals
      go_region_held3 (fun V => V.cell? ⟨w.heap.size, 0, none⟩ = some (.int .i64 G.q) ∧ V.cell? ⟨w.heap.size, 1, none⟩ = some (.int .i64 G.n) ∧ V.cell? ⟨w.heap.size, 2, none⟩ = some (.slice p G.es.length c) ∧ RowKit.Below w5.heap.size w5 V)
        (first | (go_split_ands; refine HKS.out _ ?_; first
          | assumption
          | exact RowKit.Below.refl _ _
          | exact below_dN (RowKit.Below.refl _ _) 1
          | exact RowKit.Below.alloc (by assumption) (RowKit.Below.size (by assumption)) _
          | exact RowKit.Below.drew (RowKit.Below.alloc (by assumption) (RowKit.Below.size (by assumption)) _)))
        (((first | go_at_call 19 | go_at_call 7); go_split_ands; first
          | (with_reducible refine (HA1.out w5 (RowKit.Below.refl _ _)).mono ?_; rintro e wA ⟨⟨qA, dA, rfl⟩, hBa⟩)
          | (with_reducible refine (HA2.out _ (by assumption)).mono ?_; rintro e wB ⟨⟨qB, dB, rfl⟩, hBb⟩)
          | (with_reducible refine HB1.out.mono ?_; rintro e wA ⟨⟨qA, dA, rfl⟩, hBa, hsT⟩)
          | (with_reducible refine (HB2.out _ (by assumption) (by assumption)).mono ?_; rintro e wB ⟨⟨qB, dB, rfl⟩, hBb⟩)
          | (with_reducible refine HC1.out.mono ?_; rintro e wA ⟨⟨qA, dA, rfl⟩, hBa, hsT⟩)
          | (with_reducible refine (HC2.out _ (by assumption) (by assumption)).mono ?_; rintro e wB ⟨⟨qB, dB, rfl⟩, hBb⟩)
          | (with_reducible refine (HA3.out _ (by assumption)).mono ?_; rintro e wC ⟨rfl, hBc⟩)
          | with_reducible exact HX5))
    all_goals
      go_split_ands
      go_wp2
      go_ret
      exact ⟨rfl, (HX5.out _ (by assumption)).1⟩
end Go.Proofs.Ytmdjndbjfgncmaa
namespace Go.Proofs.Ytmdjndbjfgncmaa
open Go.RowKit

theorem mxC_ge : ∀ {l : List Int} {x : Int}, x ∈ l → x + 1 ≤ mxC l := by
  have key : ∀ (l : List Int) (a : Int), a ≤ l.foldl (fun n x => max n (x + 1)) a ∧ ∀ x ∈ l, x + 1 ≤ l.foldl (fun n x => max n (x + 1)) a := by
    intro l
    induction l with
    | nil => intro a; exact ⟨Int.le_refl _, fun x hx => by cases hx⟩
    | cons y l ih =>
      intro a
      obtain ⟨h1, h2⟩ := ih (max a (y + 1))
      refine ⟨by simp only [List.foldl_cons]; omega, fun x hx => ?_⟩
      simp only [List.foldl_cons]
      rcases List.mem_cons.1 hx with rfl | hx
      · omega
      · exact h2 x hx
  intro l x hx
  exact (key l 0).2 x hx
theorem mxC_le {l : List Int} {b : Int} (hb : 0 ≤ b) (h : ∀ x ∈ l, x + 1 ≤ b) : mxC l ≤ b := by
  have key : ∀ (l : List Int) (a : Int), a ≤ b → (∀ x ∈ l, x + 1 ≤ b) → l.foldl (fun n x => max n (x + 1)) a ≤ b := by
    intro l
    induction l with
    | nil => intro a h _; exact h
    | cons y l ih =>
      intro a ha h
      have := h y (by simp)
      exact ih _ (show max a (y + 1) ≤ b by omega) (fun x hx => h x (by simp [hx]))
  exact key l 0 hb h
theorem mxC_nn (l : List Int) : 0 ≤ mxC l := by
  cases l with
  | nil => exact Int.le_refl _
  | cons x l =>
    have key : ∀ (l : List Int) (a : Int), a ≤ l.foldl (fun n x => max n (x + 1)) a := by
      intro l
      induction l with
      | nil => intro a; exact Int.le_refl _
      | cons y l ih => intro a; have := ih (max a (y + 1)); simp only [List.foldl_cons]; omega
    exact key _ 0
theorem frs_num {R : Nat → Nat → Bool} : ∀ (n k : Nat), k < (frsR R n).length → ∃ s, s < n ∧ numR R s = k
  | 0, k, h => by simp [frsR] at h
  | n + 1, k, h => by
    by_cases hk : k < (frsR R n).length
    · obtain ⟨s, h1, h2⟩ := frs_num n k hk
      exact ⟨s, by omega, h2⟩
    · cases hf : fstR R n
      · rw [frsR_stay hf] at h; exact absurd h hk
      · rw [frsR_go hf, List.length_append, List.length_singleton] at h
        exact ⟨n, by omega, by rw [numR_new hf]; omega⟩
/-- The classes' numbers: from 0 on, without a gap. -/
theorem cl_num {G : Gr} {s : Nat} (hs : s < G.n.toNat) : cg (clA G) s = numR (eqA (clA G)) s := by
  have h : clA G = (List.range G.n.toNat).map (numR (eqA (clA G))) := canon (q := G.q.toNat) (n := G.n.toNat) (es := G.es) G.n.toNat
  conv => lhs; rw [h]
  exact cg_map _ hs
theorem cl_mem {G : Gr} {s : Nat} (hs : s < G.n.toNat) : cg (clA G) s ∈ clA G := by
  have hl : (clA G).length = G.n.toNat := clsN_len _
  have e : cg (clA G) s = (clA G)[s]'(by omega) := by unfold cg; simp [List.getD, hl, hs]
  rw [e]; exact List.getElem_mem _
theorem cl_lt {G : Gr} {s : Nat} (hs : s < G.n.toNat) : 0 ≤ cg (clA G) s ∧ cg (clA G) s < mxC (clA G) := by
  have h1 := cl_bd _ (cl_mem hs)
  have h2 := mxC_ge (cl_mem hs)
  omega
theorem cl_le {G : Gr} : mxC (clA G) ≤ G.n.toNat := mxC_le (by omega) (fun x hx => by have := cl_bd x hx; omega)
theorem cl_onto {G : Gr} {k : Nat} (hk : (k : Int) < mxC (clA G)) : ∃ s, s < G.n.toNat ∧ cg (clA G) s = k := by
  have h1 : mxC (clA G) ≤ ((frsR (eqA (clA G)) G.n.toNat).length : Int) := mxC_le (by omega) (fun x hx => by
    obtain ⟨s, hs, rfl⟩ := List.mem_iff_getElem.1 hx
    have hl : (clA G).length = G.n.toNat := clsN_len _
    have hs2 : s < G.n.toNat := by omega
    have e : cg (clA G) s = (clA G)[s]'hs := by unfold cg; simp [List.getD, hs]
    have h3 := numR_bd (eqA_eqv (clA G)) s G.n.toNat hs2
    rw [← cl_num hs2, e] at h3
    omega)
  obtain ⟨s, hs, h2⟩ := frs_num (R := eqA (clA G)) G.n.toNat k (by omega)
  exact ⟨s, hs, by rw [cl_num hs, h2]⟩
theorem cl_step {G : Gr} {r s a : Nat} (hr : r < G.n.toNat) (hs : s < G.n.toNat) (ha : a < G.q.toNat) (h : cg (clA G) r = cg (clA G) s) :
    (tgt G.es r a < 0 ↔ tgt G.es s a < 0) ∧ (0 ≤ tgt G.es r a → cg (clA G) (tgt G.es r a) = cg (clA G) (tgt G.es s a)) := by
  have h2 : relA G.q.toNat G.es (clA G) r s = true := by
    have := eqA_succ (q := G.q.toNat) (n := G.n.toNat) (es := G.es) G.n.toNat hr hs
    rw [cls_fix] at this
    show relA G.q.toNat G.es (clsN G.q.toNat G.n.toNat G.es G.n.toNat) r s = true
    rw [← this]
    unfold eqA
    rw [decide_eq_true_iff]; exact h
  exact (relA_iff.1 h2).2 a ha

/-! ### The merged graph -/
def mgG (G : Gr) : Gr := ⟨G.q, mxC (clA G), norm (G.es.map (mgE (clA G)))⟩
theorem mem_mg {G : Gr} {y : Ed} : y ∈ (mgG G).es ↔ ∃ x ∈ G.es, mgE (clA G) x = y := by
  show y ∈ norm _ ↔ _
  rw [mem_norm, List.mem_map]
theorem nat_of {z : Int} (h : 0 ≤ z) : ∃ n : Nat, z = n := ⟨z.toNat, by omega⟩
section
variable {G : Gr}
theorem mg_vg (hv : Vg G) : Vg (mgG G) where
  q1 := hv.q1
  q2 := hv.q2
  n1 := mxC_nn _
  n2 := by
    have := cl_le (G := G); have := hv.n2; have := hv.n1
    show mxC (clA G) ≤ 64
    omega
  len := by
    have h := norm_lenN (G.es.map (mgE (clA G)))
    rw [List.length_map] at h
    exact Nat.le_trans h hv.len
  ins := fun y hy => by
    obtain ⟨x, hx, rfl⟩ := mem_mg.1 hy
    obtain ⟨h1, h2, h3, h4, h5, h6⟩ := hv.ins x hx
    obtain ⟨f, hf⟩ := nat_of h1
    obtain ⟨t, ht⟩ := nat_of h3
    have e1 := cl_lt (G := G) (s := f) (by omega)
    have e2 := cl_lt (G := G) (s := t) (by omega)
    show 0 ≤ cg (clA G) x.f ∧ 0 ≤ x.l ∧ 0 ≤ cg (clA G) x.t ∧ cg (clA G) x.f < mxC (clA G) ∧ cg (clA G) x.t < mxC (clA G) ∧ x.l < G.q
    rw [hf, ht]
    exact ⟨e1.1, h2, e2.1, e1.2, e2.2, h6⟩
  srt := norm_srt _
theorem mg_eq (hv : Vg G) : mgA G = (mgG G, 0) := makeA_ok (chkG_ok.2 (mg_vg hv))
/-- Where an edge of the merged graph leads. -/
theorem mg_edge (hv : Vg G) (hu : Uq G.es) {x : Ed} (hx : x ∈ G.es) {s : Nat} (hs : s < G.n.toNat) (h : cg (clA G) x.f = cg (clA G) s) : 0 ≤ tgt G.es s x.l ∧ cg (clA G) x.t = cg (clA G) (tgt G.es s x.l) := by
  obtain ⟨h1, h2, h3, h4, h5, h6⟩ := hv.ins x hx
  obtain ⟨f, hf⟩ := nat_of h1
  obtain ⟨a, ha⟩ := nat_of h2
  have e := tgt_at hu hx
  rw [hf, ha] at e
  rw [hf] at h
  obtain ⟨k1, k2⟩ := cl_step (G := G) (r := f) (s := s) (a := a) (by omega) hs (by omega) h
  rw [e] at k1 k2
  rw [ha]
  refine ⟨?_, k2 h3⟩
  by_cases h0 : tgt G.es (s : Int) (a : Int) < 0
  · have := k1.2 h0; omega
  · omega
theorem mg_uq (hv : Vg G) (hu : Uq G.es) {x y : Ed} (hx : x ∈ (mgG G).es) (hy : y ∈ (mgG G).es) (hf : x.f = y.f) (hl : x.l = y.l) : x = y := by
  obtain ⟨a, ha, rfl⟩ := mem_mg.1 hx
  obtain ⟨b, hb, rfl⟩ := mem_mg.1 hy
  have hf : cg (clA G) a.f = cg (clA G) b.f := hf
  have hl : a.l = b.l := hl
  obtain ⟨h1, h2, h3, h4, h5, h6⟩ := hv.ins b hb
  obtain ⟨f, hf2⟩ := nat_of h1
  rw [hf2] at hf
  have e := mg_edge hv hu ha (s := f) (by omega) hf
  have e2 := tgt_at hu hb
  rw [hf2] at e2
  rw [hl, e2] at e
  show (⟨cg (clA G) a.f, a.l, cg (clA G) a.t⟩ : Ed) = ⟨cg (clA G) b.f, b.l, cg (clA G) b.t⟩
  rw [hf, hf2, hl, e.2]
theorem mg_det (hv : Vg G) (hu : Uq G.es) : detB (mgG G).es = true := detB_t (fun k hk ⟨h1, h2⟩ => by
  have e := mg_uq hv hu (List.getElem_mem (by omega : k < (mgG G).es.length)) (List.getElem_mem hk) h1 h2
  have h := List.pairwise_iff_getElem.1 (mg_vg hv).srt k (k + 1) (by omega) hk (by omega)
  rw [e, ltE_irrefl] at h; cases h)
theorem mg_chk (hv : Vg G) (hu : Uq G.es) : chkD (mgG G) = 0 := chkD_iff.2 ⟨mg_vg hv, mg_det hv hu⟩
theorem mg_uq' (hv : Vg G) (hu : Uq G.es) : Uq (mgG G).es := uq_det (mg_vg hv) (mg_det hv hu)
theorem mg_tgt (hv : Vg G) (hu : Uq G.es) {s : Nat} (hs : s < G.n.toNat) (a : Int) : tgt (mgG G).es (cg (clA G) s) a = if tgt G.es s a < 0 then -1 else cg (clA G) (tgt G.es s a) := by
  by_cases h0 : tgt G.es s a < 0
  · rw [if_pos h0]
    by_cases h1 : tgt (mgG G).es (cg (clA G) s) a = -1
    · exact h1
    · obtain ⟨y, hy, hf, hl, _⟩ := tgt_mem h1
      obtain ⟨x, hx, rfl⟩ := mem_mg.1 hy
      have hf : cg (clA G) x.f = cg (clA G) s := hf
      have hl : x.l = a := hl
      have := (mg_edge hv hu hx hs hf).1
      rw [hl] at this; omega
  · rw [if_neg h0]
    obtain ⟨x, hx, hf, hl, ht⟩ := tgt_mem (es := G.es) (s := s) (a := a) (by omega)
    have h := tgt_at (mg_uq' hv hu) (mem_mg.2 ⟨x, hx, rfl⟩)
    change tgt (mgG G).es (cg (clA G) x.f) x.l = cg (clA G) x.t at h
    rw [hf, hl, ht] at h
    exact h
theorem mg_run (hv : Vg G) (hu : Uq G.es) : ∀ (w : List Int) {s : Nat}, s < G.n.toNat → (run1 (mgG G).es (cg (clA G) s) w < 0 ↔ run1 G.es s w < 0)
  | [], s, hs => by
    have := (cl_lt hs).1
    show (cg (clA G) s < 0 ↔ (s : Int) < 0)
    omega
  | a :: w, s, hs => by
    have h0 := (cl_lt hs).1
    rw [run1_cons, run1_cons, nxt_pos (by omega), nxt_pos (by omega), mg_tgt hv hu hs]
    have hb := tgt_bd hv s a
    by_cases h1 : tgt G.es s a < 0
    · rw [if_pos h1]
      have e1 := run1_neg (es := (mgG G).es) w (s := -1) (by omega)
      have e2 := run1_neg (es := G.es) w h1
      exact ⟨fun _ => e2, fun _ => e1⟩
    · rw [if_neg h1]
      obtain ⟨t, ht⟩ := nat_of (show 0 ≤ tgt G.es s a by omega)
      rw [ht] at hb ⊢
      have := hv.n1
      exact mg_run hv hu w (by omega)
/-- Each state of the merged graph is a class of its own. -/
theorem mg_inj (hv : Vg G) (hu : Uq G.es) {c d : Nat} (hc : c < (mgG G).n.toNat) (hd : d < (mgG G).n.toNat) (h : cg (clA (mgG G)) c = cg (clA (mgG G)) d) : c = d := by
  have hn : (mgG G).n = mxC (clA G) := rfl
  have hb : ∀ s a, tgt (mgG G).es s a < ((mgG G).n.toNat : Int) := fun s a => by rcases tgt_lt (mg_vg hv) s a with h | h <;> omega
  have hb2 : ∀ s a, tgt G.es s a < (G.n.toNat : Int) := fun s a => by
    obtain ⟨s', hs', _⟩ := cl_onto (G := G) (k := c) (by omega)
    rcases tgt_lt hv s a with h | h <;> omega
  obtain ⟨s, hs, e1⟩ := cl_onto (G := G) (k := c) (by omega)
  obtain ⟨t, ht, e2⟩ := cl_onto (G := G) (k := d) (by omega)
  have k1 := cls_agree (q := (mgG G).q.toNat) hb hc hd h
  have k2 : cg (clA G) s = cg (clA G) t := cls_of_agree (q := G.q.toNat) hb2 G.n.toNat hs ht (fun w hw => by
    have h1 := mg_run hv hu w hs
    have h2 := mg_run hv hu w ht
    have h3 := k1 w hw
    rw [e1] at h1
    rw [e2] at h2
    exact h1.symm.trans (h3.trans h2))
  omega
theorem mg_cl (hv : Vg G) (hu : Uq G.es) : clA (mgG G) = upto (mgG G).n.toNat := by
  have hcn : clA (mgG G) = (List.range (mgG G).n.toNat).map (numR (eqA (clA (mgG G)))) := canon (q := (mgG G).q.toNat) (n := (mgG G).n.toNat) (es := (mgG G).es) (mgG G).n.toNat
  rw [hcn]
  unfold upto
  apply List.map_congr_left
  intro s hs
  have hs : s < (mgG G).n.toNat := by simpa using hs
  rw [numR_congr (R' := fun _ _ => false) hs (fun u hu2 t ht => by
    show decide (cg (clA (mgG G)) t = cg (clA (mgG G)) u) = false
    rw [decide_eq_false_iff_not]
    intro e
    have := mg_inj hv hu (by omega) hu2 e
    omega)]
  have hf : ∀ x, fstR (fun _ _ => false) x = true := fun x => fstR_iff.2 (fun _ _ => rfl)
  rw [numR_new (hf s)]
  have : frsR (fun _ _ => false) s = List.range s := List.filter_eq_self.2 (fun x _ => hf x)
  rw [this, List.length_range]
theorem mxC_upto : ∀ n : Nat, mxC (upto n) = n
  | 0 => rfl
  | n + 1 => by rw [upto_succ, mxC_snoc, mxC_upto n]; omega
theorem cg_upto {n s : Nat} (h : s < n) : cg (upto n) s = s := cg_map (fun (i : Nat) => (i : Int)) h
theorem mg_again (hv : Vg G) (hu : Uq G.es) : merA (mgG G) = (mgG G, upto (mgG G).n.toNat, 0) := by
  have hm : (mgG G).es.map (mgE (upto (mgG G).n.toNat)) = (mgG G).es := by
    conv => rhs; rw [← List.map_id (mgG G).es]
    apply List.map_congr_left
    intro x hx
    obtain ⟨h1, h2, h3, h4, h5, h6⟩ := (mg_vg hv).ins x hx
    obtain ⟨f, hf⟩ := nat_of h1
    obtain ⟨t, ht⟩ := nat_of h3
    have e1 : cg (upto (mgG G).n.toNat) x.f = x.f := by rw [hf]; exact cg_upto (by omega)
    have e2 : cg (upto (mgG G).n.toNat) x.t = x.t := by rw [ht]; exact cg_upto (by omega)
    show (⟨cg (upto (mgG G).n.toNat) x.f, x.l, cg (upto (mgG G).n.toNat) x.t⟩ : Ed) = x
    rw [e1, e2]
  have hmg : mgA (mgG G) = (mgG G, 0) := by
    unfold mgA
    rw [mg_cl hv hu, hm, mxC_upto]
    have hn := (mg_vg hv).n1
    have e : makeA (mgG G).q ((mgG G).n.toNat : Int) (mgG G).es = makeA (mgG G).q (mgG G).n (mgG G).es := by rw [Int.toNat_of_nonneg hn]
    rw [e]
    have hns := norm_of_srt (mg_vg hv).srt
    have hck : chkG ⟨(mgG G).q, (mgG G).n, norm (mgG G).es⟩ = 0 := by rw [hns]; exact chkG_ok.2 (mg_vg hv)
    rw [makeA_ok hck, hns]
  rw [merA_ok (mg_chk hv hu), hmg, mg_cl hv hu]
end
end Go.Proofs.Ytmdjndbjfgncmaa
namespace Go.Proofs.Ytmdjndbjfgncmaa
open Go.RowKit Go.Sort Go.Shelf Go.Lib

set_option maxRecDepth 100000 in
set_option maxHeartbeats 1000000 in
theorem all13_any (G : Gr) (p : Option Addr) (c N : Nat) (w : World) (hN : G.n = N) (h64 : N ≤ 64) :
    Calls Try.prog 18 #[(.agg #[.int .i64 G.q, .int .i64 G.n, .slice p G.es.length c])] w (RetLd (upto N) w) := by
  obtain ⟨w0, hw0⟩ : ∃ w0, w0 = w.alloc (.cells #[.int .i64 G.q, .int .i64 G.n, .slice p G.es.length c] 24) := ⟨_, rfl⟩
  have b0 : VRow w0 w.heap.size 24 [.int .i64 G.q, .int .i64 G.n, .slice p G.es.length c] := by subst hw0; exact VRow.new w _ _
  have hB0 : RowKit.Below w.heap.size w w0 := by subst hw0; exact (RowKit.Below.refl _ _).alloc (Nat.le_refl _) _
  have f1 := b0.at 1 rfl
  rw [hN] at f1
  clear hN
  go_enter Try.func18, Try.ntmps18
  go_upto_region 1 with fail
  rw [← hw0]
  clear hw0
  go_wp2
  go_loopw [3, 7] (fun sv kv wr => ∃ (k : Nat) (q : Option Addr) (d : Nat), k ≤ N ∧ sv = .slice q k d ∧ kv = .int .i64 k ∧ wr.ownsRow w0.heap.size 3 1 (.slice q k d) k ((upto k).map (Value.int .i64)) ∧ RowKit.Below w0.heap.size w0 wr) (fun _ kv _ => N - (intOf kv).toNat)
  case atStart => exact ⟨0, none, 0, by omega, rfl, rfl, World.ownsRow_nil _ _ _ _, RowKit.Below.refl _ _⟩
  case round =>
    obtain ⟨k, q, d, hk, rfl, rfl, hown, hB⟩ := hrel
    by_cases hlt : k < N
    · have hltI : (k : Int) < (N : Int) := by omega
      have h1 := hown.alloc (.cells #[.int .i64 (k : Int)] 3)
      have h2 := own_oneI wr (k : Int)
      have hB2 := hB.alloc hB.size (.cells #[.int .i64 (k : Int)] 3)
      have hsz := hB2.size
      go_wp2_with (at_builtin; refine wpList_app_both rfl _ _ rfl _ _ rfl rfl w0.heap.size wr.heap.size k 1 (upto k) [(k : Int)] h1 h2 (by omega) hsz ?_; intro v' w9 hown' hgrow; rw [← upto_succ] at hown'; have hB9 := hB2.grown hgrow hsz (fun j e => (h1.lt j e).1); obtain ⟨q9, d9, hv9, _⟩ := own_sl hown'; rw [upto_len] at hv9; subst hv9)
      go_roundw
      case rel => exact ⟨k + 1, q9, d9, by omega, rfl, by go_num, hown', hB9⟩
      case measure => simp [intOf]; omega
    · obtain rfl : N = k := by omega
      have hltI : ¬ (N : Int) < (N : Int) := by omega
      have hBw := hB0.trans (hB.mono hB0.size)
      have hl := upto_len N
      obtain ⟨q9, d9, hv9, hs9⟩ := own_sl hown
      rw [upto_len] at hv9
      cases hv9
      clear hl
      go_wp2
      go_ret
      exact ⟨q, d, by rw [upto_len]; rfl, hs9, hBw⟩
end Go.Proofs.Ytmdjndbjfgncmaa
namespace Go.Proofs.Ytmdjndbjfgncmaa
open Go.RowKit Go.Sort Go.Shelf Go.Lib

def lbA (q : Int) (l : List Int) : List Int := l.map (fun x => x % q)
theorem lbA_len (q : Int) (l : List Int) : (lbA q l).length = l.length := by simp [lbA]
theorem lbA_snoc (q : Int) (l : List Int) (k : Nat) (h : k < l.length) : lbA q (l.take (k + 1)) = lbA q (l.take k) ++ [l[k] % q] := by
  unfold lbA; rw [List.take_succ_eq_append_getElem h, List.map_append]; rfl

set_option maxRecDepth 100000 in
set_option maxHeartbeats 8000000 in
theorem lawMerged_any (G : Gr) (p : Option Addr) (c : Nat) (a : Int) (ws : List Int) (qw : Option Addr) (dw : Nat) (w : World) (hin : Sg 3 w edE p G.es) (hl : G.es.length ≤ 9223372036854775807) (ha : 0 ≤ a ∧ a ≤ 255)
    (hws : Sl w (Value.int .u8) qw ws) (hwl : ws.length ≤ 9223372036854775807) (hwb : ∀ x ∈ ws, 0 ≤ x ∧ x ≤ 255) :
    Calls Try.prog 4 #[(.agg #[.int .i64 G.q, .int .i64 G.n, .slice p G.es.length c]), .int .u8 a, .slice qw ws.length dw] w fun e w' => e = .returned (.bool true) ∧ RowKit.Below w.heap.size w w' := by
  obtain ⟨j0, hj0, hy0, hy1, hy2⟩ := info_parts infoJ
  obtain ⟨w0, hw0⟩ : ∃ w0, w0 = w.alloc (.cells #[.int .i64 G.q, .int .i64 G.n, .slice p G.es.length c] 24) := ⟨_, rfl⟩
  have b0 : VRow w0 w.heap.size 24 [.int .i64 G.q, .int .i64 G.n, .slice p G.es.length c] := by subst hw0; exact VRow.new w _ _
  have hB0 : RowKit.Below w.heap.size w w0 := by subst hw0; exact (RowKit.Below.refl _ _).alloc (Nat.le_refl _) _
  have HAW := hidI awake13_any
  have HIN := hidI hin
  have HWS := hidI (fun W (hW : RowKit.Below w.heap.size w W) => hws.below hW)
  have HWB := hidI hwb
  have HD := hidI (det13_any G p c w0 (hin.below hB0) hl)
  have f0 := b0.at 0 rfl; have f1 := b0.at 1 rfl; have f2 := b0.at 2 rfl
  obtain ⟨y, hy⟩ : ∃ y, det13A G = y := ⟨_, rfl⟩
  rw [hy] at HD
  have HY := hidI hy
  clear hin hy hws hwb
  go_enter Try.func4, Try.ntmps4
  go_upto_region 1 with fail
  rw [← hw0]
  clear hw0
  go_wp2_with fail
  refine HD.out.mono ?_
  rintro e w1 ⟨rfl, hB1⟩
  have x1 := hB0.trans (hB1.mono hB0.size)
  have b1 := b0.below hB1 b0.lt
  clear f0 f1 f2 b0 HD hB1 hB0
  have f0 := b1.at 0 rfl; have f1 := b1.at 1 rfl; have f2 := b1.at 2 rfl
  cases y
  case false =>
    go_wp2_with fail
    refine (HAW.out w1).mono ?_
    rintro e u2 ⟨rfl, hB⟩
    have x2 := x1.trans (hB.mono x1.size)
    go_wp2
    go_ret
    exact ⟨rfl, x2⟩
  by_cases hn0 : G.n = 0
  · have hn0b : (G.n == 0) = true := by simpa using hn0
    go_wp2_with fail
    refine (HAW.out w1).mono ?_
    rintro e u2 ⟨rfl, hB⟩
    have x2 := x1.trans (hB.mono x1.size)
    go_wp2
    go_ret
    exact ⟨rfl, x2⟩
  have hn0b : (G.n == 0) = false := by simpa using hn0
  by_cases hw10 : 10 < ws.length
  · have hw10I : (10 : Int) < (ws.length : Int) := by omega
    go_wp2_with fail
    refine (HAW.out w1).mono ?_
    rintro e u2 ⟨rfl, hB⟩
    have x2 := x1.trans (hB.mono x1.size)
    go_wp2
    go_ret
    exact ⟨rfl, x2⟩
  have hw10I : ¬ (10 : Int) < (ws.length : Int) := by omega
  obtain ⟨hD, h20, h6⟩ := det13_ok HY.out
  obtain ⟨hv, hdB⟩ := chkD_iff.1 hD
  have hu := uq_det hv hdB
  have hn1 := hv.n1
  have hq1 := hv.q1
  have hq2 := hv.q2
  obtain ⟨S, hS⟩ : ∃ S : Nat, a % G.n = S := ⟨(a % G.n).toNat, by have := Int.emod_nonneg a hn0; omega⟩
  have hS6 : (S : Int) < G.n := by rw [← hS]; exact Int.emod_lt_of_pos _ (by omega)
  have hw1 : IntKind.i64.wrap (S : Int) = S := by rw [IntKind.wrap_i64]; omega
  have hw2 : IntKind.i64.wrap a = a := by rw [IntKind.wrap_i64]; omega
  have hw3 : a.tmod G.n = (S : Int) := by rw [Int.tmod_eq_emod_of_nonneg ha.1, hS]
  have hcl : (clA G).length = G.n.toNat := clsN_len _
  have hclN : ((clA G).length : Int) = G.n := by omega
  have HM := hidI (fun W (hW : RowKit.Below w.heap.size w W) => mMerge_any G p c W (HIN.out.below hW) hl)
  rw [merA_ok hD, mg_eq hv] at HM
  have HM2 := hidI (fun p c W (hs : Sg 3 W edE p (mgG G).es) => mMerge_any (mgG G) p c W hs (by have := (mg_vg hv).len; omega))
  rw [mg_again hv hu] at HM2
  have hml := (mg_vg hv).len
  have hmn := (mg_vg hv).n1
  have hmn2 := (mg_vg hv).n2
  have HL := hidI (fun (H : Gr) p c W q qv d dv (st vs : List Int) (hW : Sg 3 W edE p H.es) (h0 : H.es.length ≤ 1024) (h1 : Sl W (Value.int .i64) q st) (h2 : Sl W (Value.int .i64) qv vs) (h3 : st.length ≤ 1000) (h4 : vs.length ≤ 10000) => leads13_any H p c st vs q qv d dv W hW h1 h2 (by omega) h3 h4)
  have HRU := hidI (fun v => leadsA_run hv hu v S (by omega) hS6)
  have hcs := cl_lt (G := G) (s := S) (by omega)
  have HRM := hidI (fun v => leadsA_run (mg_vg hv) (mg_uq' hv hu) v (cg (clA G) S) (by omega) hcs.2)
  have HRE := hidI (fun v => mg_run hv hu v (s := S) (by omega))
  have HCG := hidI (fun (h : S < (clA G).length) => show (clA G)[S] = cg (clA G) S by unfold cg; simp [List.getD, h])
  have hMn : (mgG G).n = mxC (clA G) := rfl
  rw [← hMn] at hcs
  have hMq : Hid ((mgG G).q = G.q) := rfl
  clear hS hD hv hdB hu HY hcl hMn hn1
  generalize mgG G = M at *
  generalize cg (clA G) S = cs at *
  generalize clA G = C at *
  obtain ⟨mN, hmN⟩ : ∃ mN : Nat, M.n = mN := ⟨M.n.toNat, by omega⟩
  have HMN := hidI hmN
  have hmT : M.n.toNat = mN := by omega
  rw [hmT] at HM2
  have hm64 : mN ≤ 64 := by omega
  have hcs1 := hcs.1
  have hcs2 : ¬ M.n ≤ cs := by omega
  have HA := hidI (fun p c W => all13_any M p c mN W HMN.out hm64)
  clear hmN hmT
  -- Merge of G
  have HC := hidI (HM.out w1 x1)
  clear HM
  go_wp2_with fail
  refine HC.out.mono ?_
  rintro e u3 ⟨p3, c3, q3, d3, rfl, hg3, _, hs3, hB3⟩
  change Sg 3 u3 edE p3 M.es at hg3
  have hs3 := hs3.sl
  change Sl u3 (Value.int .i64) q3 C at hs3
  obtain ⟨w3, hw3e⟩ : ∃ v, v = u3.alloc (.cells #[.int .i64 M.q, .int .i64 M.n, .slice p3 M.es.length c3] 24) := ⟨_, rfl⟩
  have hq : RowKit.Below u3.heap.size u3 w3 := by subst hw3e; exact (RowKit.Below.refl _ _).alloc (Nat.le_refl _) _
  have m3 : VRow w3 u3.heap.size 24 [.int .i64 M.q, .int .i64 M.n, .slice p3 M.es.length c3] := by subst hw3e; exact VRow.new u3 _ _
  have hD3 := hB3.trans (hq.mono hB3.size)
  have x3 := x1.trans (hD3.mono x1.size)
  have b3 := b1.below hD3 b1.lt
  have hg3 := hidI (hg3.below hq)
  have hs3 := hidI (hs3.below hq)
  obtain ⟨mb, hmb⟩ : ∃ mb, mb = u3.heap.size := ⟨_, rfl⟩
  rw [← hmb] at m3
  clear f0 f1 f2 b1 x1 hq hB3 hD3 HC
  have m0 := m3.at 0 rfl; have m1 := m3.at 1 rfl; have m2 := m3.at 2 rfl
  -- Merge of M
  have HC := hidI (HM2.out p3 c3 w3 hg3.out)
  clear HM2
  go_upto_region 4 with fail
  rw [← hw3e, ← hmb]
  clear hw3e hmb
  go_wp2_with fail
  refine HC.out.mono ?_
  rintro e u4 ⟨p4, c4, q4, d4, rfl, hg4, _, hs4, hB4⟩
  change Sg 3 u4 edE p4 M.es at hg4
  have hs4 := hs4.sl
  change Sl u4 (Value.int .i64) q4 (upto mN) at hs4
  obtain ⟨w4, hw4e⟩ : ∃ v, v = u4.alloc (.cells #[.int .i64 M.q, .int .i64 M.n, .slice p4 M.es.length c4] 24) := ⟨_, rfl⟩
  have hq : RowKit.Below u4.heap.size u4 w4 := by subst hw4e; exact (RowKit.Below.refl _ _).alloc (Nat.le_refl _) _
  have n4 : VRow w4 u4.heap.size 24 [.int .i64 M.q, .int .i64 M.n, .slice p4 M.es.length c4] := by subst hw4e; exact VRow.new u4 _ _
  have hD4 := hB4.trans (hq.mono hB4.size)
  have x4 := x3.trans (hD4.mono x3.size)
  have b4 := b3.below hD4 b3.lt
  have m4 := m3.below hD4 m3.lt
  have hg34 := hidI (hg3.out.below hD4)
  have hs34 := hidI (hs3.out.below hD4)
  have hg4 := hidI (hg4.below hq)
  have hs4 := hidI (hs4.below hq)
  obtain ⟨nb, hnb⟩ : ∃ nb, nb = u4.heap.size := ⟨_, rfl⟩
  rw [← hnb] at n4
  clear m0 m1 m2 b3 m3 x3 hq hB4 hD4 HC hg3 hs3
  go_upto_region 5 with fail
  rw [← hw4e, ← hnb]
  clear hw4e hnb
  have f1 := b4.at 1 rfl
  have m0 := m4.at 0 rfl; have m1 := m4.at 1 rfl; have m2 := m4.at 2 rfl
  have n0 := n4.at 0 rfl; have n1 := n4.at 1 rfl; have n2 := n4.at 2 rfl
  -- Same
  have HC := hidI (gSame_any M M p4 p3 c4 c3 w4 hg4.out hg34.out (by omega) (by omega))
  rw [sameG_refl] at HC
  go_wp2_with fail
  refine HC.out.mono ?_
  rintro e w5 ⟨rfl, hB5⟩
  have x5 := x4.trans (hB5.mono x4.size)
  have b5 := b4.below hB5 b4.lt
  have m5 := m4.below hB5 m4.lt
  have hg5 := hidI (hg34.out.below hB5)
  have hs5 := hidI (hs34.out.below hB5)
  have ht5 := hidI (hs4.out.below hB5)
  clear f1 m0 m1 m2 n0 n1 n2 b4 m4 n4 x4 HC hg34 hs34 hg4 hs4 hB5
  have m0 := m5.at 0 rfl; have m1 := m5.at 1 rfl; have m2 := m5.at 2 rfl
  -- all
  have HC := hidI (HA.out p3 c3 w5)
  go_wp2_with fail
  refine HC.out.mono ?_
  rintro e w6 ⟨q6, d6, rfl, ha6, hB6⟩
  have x6 := x5.trans (hB6.mono x5.size)
  have b6 := b5.below hB6 b5.lt
  have m6 := m5.below hB6 m5.lt
  have hg6 := hidI (hg5.out.below hB6)
  have hs6 := hidI (hs5.out.below hB6)
  have HC := hidI (equalI_n (upto mN) (upto mN) q4 q6 d4 d6 w6 (ht5.out.below hB6) ha6 (by rw [upto_len]; omega) (by rw [upto_len]; omega))
  rw [decide_eq_true (rfl : upto mN = upto mN)] at HC
  clear m0 m1 m2 b5 m5 x5 hg5 hs5 ht5 ha6 HA hB6
  go_wp2_with fail
  refine HC.out.mono ?_
  rintro e w7 ⟨rfl, hDr7⟩
  have hB7 := hDr7.below w6.heap.size
  have x7 := x6.trans (hB7.mono x6.size)
  have b7 := b6.below hB7 b6.lt
  have m7 := m6.below hB7 m6.lt
  have hg7 := hidI (hg6.out.below hB7)
  have hs7 := hidI (hs6.out.below hB7)
  clear b6 m6 x6 hg6 hs6 HC hDr7 hB7
  have f1 := b7.at 1 rfl
  have m1 := m7.at 1 rfl
  have hSl : (S : Int) < (C.length : Int) := by omega
  obtain ⟨bc, oc, rfl, hbc, hcc⟩ := hs7.out.get S (by omega)
  have e0 := hcc S (by omega)
  rw [HCG.out (by omega)] at e0
  clear hcc HCG hs7
  have dcs1 : decide (cs < 0) = false := decide_eq_false (by omega)
  have dcs2 : decide (M.n ≤ cs) = false := decide_eq_false (by omega)
  have hcs3 : ¬ cs < 0 := by omega
  go_upto_region 8 with fail
  (refine wp_region_quiet_lit (by kernel_rfl) (by kernel_rfl) ?_; (repeat (first | go_big_quiet_step (fail) | quiet_step (fail))); refine wpQuiet_nil ?_; intro _ hwq; obtain ⟨nq, hwq2⟩ := hwq; subst hwq2)
  have x8 := below_dN x7 nq
  have b8 : VRow (w7.drewN nq) w.heap.size 24 [.int .i64 G.q, .int .i64 G.n, .slice p G.es.length c] := b7
  have m8 : VRow (w7.drewN nq) mb 24 [.int .i64 M.q, .int .i64 M.n, .slice p3 M.es.length c3] := m7
  have hg8 : Hid (Sg 3 (w7.drewN nq) edE p3 M.es) := hg7
  have k8 : (w7.drewN nq).cell? ⟨bc, oc + S, none⟩ = some (.int .i64 cs) := e0
  have z8 : bc < (w7.drewN nq).heap.size := hbc
  clear f1 m1 b7 m7 hg7 e0 hbc x7
  generalize w7.drewN nq = w8 at *
  obtain ⟨Q, hQ⟩ : ∃ Q : Nat, G.q = Q := ⟨G.q.toNat, by omega⟩
  have hQ0 : 0 < Q := by omega
  have hQ256 : Q ≤ 256 := by omega
  have HQ := hidI hQ
  have HCS := hidI hcs1
  have HB20 := hidI h20
  have HML := hidI hml
  have f0 := b8.at 0 rfl
  rw [hQ] at f0
  clear hQ hw1 hw2 hw3 hq1 hq2 hw10I hclN hn0b hcs hcs1 hcs2 hcs3 dcs1 dcs2
  have hQb : ((Q : Int) == 0) = false := by simp; omega
  have hQn : ¬ (Q : Int) = 0 := by omega
  go_upto_region 12 with fail
  go_loopw [14, 90] (fun sv kv wr => ∃ (k : Nat) (q : Option Addr) (d : Nat), k ≤ ws.length ∧ sv = .slice q k d ∧ kv = .int .i64 k ∧ wr.ownsRow w8.heap.size 3 1 (.slice q k d) k ((lbA Q (ws.take k)).map (Value.int .i64)) ∧ RowKit.Below w8.heap.size w8 wr) (fun _ kv _ => ws.length - (intOf kv).toNat)
  case atStart => exact ⟨0, none, 0, by omega, rfl, rfl, World.ownsRow_nil _ _ _ _, RowKit.Below.refl _ _⟩
  case round =>
    obtain ⟨k, q, d, hk, rfl, rfl, hown, hB⟩ := hrel
    have hBw := x8.trans (hB.mono x8.size)
    by_cases hlt : k < ws.length
    · have hltI : (k : Int) < (ws.length : Int) := by omega
      obtain ⟨bw, ow, rfl, hbw, hcw⟩ := (HWS.out wr hBw).get k hlt
      have e1 := hcw k hlt
      have hb255 := HWB.out _ (List.getElem_mem hlt)
      have HSN := hidI (lbA_snoc Q ws k hlt)
      have hln : (lbA Q (ws.take k)).length = k := by rw [lbA_len, List.length_take]; omega
      have f9 := (b8.below hB b8.lt).at 0 rfl
      rw [HQ.out] at f9
      generalize ws[k] = x at *
      have hr0 := Int.emod_nonneg x hQn
      have hr1 := Int.emod_lt_of_pos x (show (0 : Int) < Q by omega)
      have hv1 : IntKind.i64.wrap (x % (Q : Int)) = x % (Q : Int) := by rw [IntKind.wrap_i64]; omega
      have hv2 : IntKind.i64.wrap x = x := by rw [IntKind.wrap_i64]; omega
      have hv3 : x.tmod (Q : Int) = x % (Q : Int) := Int.tmod_eq_emod_of_nonneg hb255.1
      generalize x % (Q : Int) = y at *
      have h1 := hown.alloc (.cells #[.int .i64 y] 3)
      have h2 := own_oneI wr y
      have hB2 := hB.alloc hB.size (.cells #[.int .i64 y] 3)
      have hsz := hB2.size
      clear hcw hln f0
      go_wp2_with (at_builtin; refine wpList_app_both rfl _ _ rfl _ _ rfl rfl w8.heap.size wr.heap.size k 1 (lbA Q (ws.take k)) [y] h1 h2 (by omega) hsz ?_; intro v' w9 hown' hgrow; rw [← HSN.out] at hown'; have hB9 := hB2.grown hgrow hsz (fun j e => (h1.lt j e).1); obtain ⟨q9, d9, hv9, _⟩ := own_sl hown'; rw [lbA_len, List.length_take, Nat.min_eq_left (by omega)] at hv9; subst hv9)
      go_roundw
      case rel => exact ⟨k + 1, q9, d9, by omega, rfl, by go_num, hown', hB9⟩
      case measure => simp [intOf]; omega
    · obtain rfl : ws.length = k := by omega
      have hltI : ¬ (ws.length : Int) < (ws.length : Int) := by omega
      obtain ⟨q9, d9, hv9, hsv⟩ := own_sl hown
      rw [lbA_len, List.length_take, Nat.min_self] at hv9
      cases hv9
      rw [List.take_length] at hsv
      have hsv := hidI hsv
      have hvl := lbA_len Q ws
      have hLab : Lab Q (lbA Q ws) := by
        intro x hx
        obtain ⟨y, hy, rfl⟩ := List.mem_map.1 hx
        exact ⟨Int.emod_nonneg _ hQn, Int.emod_lt_of_pos _ (by omega)⟩
      have hR1 := HRU.out (lbA Q ws) (by rw [HQ.out]; simpa using hLab)
      have hR2 := HRM.out (lbA Q ws) (by rw [hMq.out, HQ.out]; simpa using hLab)
      have hRE := HRE.out (lbA Q ws)
      generalize lbA Q ws = v at *
      rw [show toS (S : Int) = [(S : Int)] by unfold toS; rw [if_neg (by omega)]] at hR1
      rw [show toS cs = [cs] by unfold toS; rw [if_neg (by have := HCS.out; omega)]] at hR2
      generalize run1 G.es S v = r1 at *
      generalize run1 M.es cs v = r2 at *
      have HL1 : Hid (∀ W qs d', RowKit.Below wr.heap.size wr W → Sl W (Value.int .i64) qs [(S : Int)] → Calls Try.prog 19 #[(.agg #[.int .i64 G.q, .int .i64 G.n, .slice p G.es.length c]), .slice qs 1 d', .slice q ws.length d] W fun e w' => (∃ q d', e = .returned (.slice q (toS r1).length d')) ∧ RowKit.Below W.heap.size W w') := fun W qs d' hW h1 => by
        have h := HL.out G p c W qs q d' d [(S : Int)] v (HIN.out.below (hBw.trans (hW.mono hBw.size))) (by have := HB20.out; omega) h1 (hsv.out.below hW) (by simp) (by omega)
        rw [hR1, hvl] at h
        exact h.mono (fun e w' ⟨q, d', h1, _, h3⟩ => ⟨⟨q, d', h1⟩, h3⟩)
      have HL2 : Hid (∀ W qs d', RowKit.Below wr.heap.size wr W → Sl W (Value.int .i64) qs [cs] → Calls Try.prog 19 #[(.agg #[.int .i64 M.q, .int .i64 M.n, .slice p3 M.es.length c3]), .slice qs 1 d', .slice q ws.length d] W fun e w' => (∃ q d', e = .returned (.slice q (toS r2).length d')) ∧ RowKit.Below W.heap.size W w') := fun W qs d' hW h1 => by
        have h := HL.out M p3 c3 W qs q d' d [cs] v (hg8.out.below (hB.trans (hW.mono hB.size))) HML.out h1 (hsv.out.below hW) (by simp) (by omega)
        rw [hR2, hvl] at h
        exact h.mono (fun e w' ⟨q, d', h1, _, h3⟩ => ⟨⟨q, d', h1⟩, h3⟩)
      have hcase : ((toS r1).length = 1 ∧ (toS r2).length = 1) ∨ ((toS r1).length = 0 ∧ (toS r2).length = 0) := by
        unfold toS
        by_cases h1 : r1 < 0
        · right; rw [if_pos h1, if_pos (hRE.2 h1)]; exact ⟨rfl, rfl⟩
        · left; rw [if_neg h1, if_neg (fun h => h1 (hRE.1 h))]; exact ⟨rfl, rfl⟩
      generalize (toS r1).length = n1 at *
      generalize (toS r2).length = n2 at *
      have b9 := b8.below hB b8.lt
      have m9 := m8.below hB m8.lt
      have k9 := (hB.cell (p := ⟨bc, oc + S, none⟩) z8).trans k8
      have z9 : bc < wr.heap.size := Nat.lt_of_lt_of_le z8 hB.size
      have f1 := b9.at 0 rfl; have f2 := b9.at 1 rfl; have f3 := b9.at 2 rfl
      have g1 := m9.at 0 rfl; have g2 := m9.at 1 rfl; have g3 := m9.at 2 rfl
      have hSC : (S : Int) < (C.length : Int) := hSl
      have HKS : Hid (∀ V, RowKit.Below wr.heap.size wr V → V.cell? ⟨w.heap.size, 0, none⟩ = some (.int .i64 G.q) ∧ V.cell? ⟨w.heap.size, 1, none⟩ = some (.int .i64 G.n) ∧ V.cell? ⟨w.heap.size, 2, none⟩ = some (.slice p G.es.length c) ∧ V.cell? ⟨mb, 0, none⟩ = some (.int .i64 M.q) ∧ V.cell? ⟨mb, 1, none⟩ = some (.int .i64 M.n) ∧ V.cell? ⟨mb, 2, none⟩ = some (.slice p3 M.es.length c3) ∧ V.cell? ⟨bc, oc + S, none⟩ = some (.int .i64 cs) ∧ RowKit.Below wr.heap.size wr V) := fun V h =>
        ⟨(b9.below h b9.lt).at 0 rfl, (b9.below h b9.lt).at 1 rfl, (b9.below h b9.lt).at 2 rfl, (m9.below h m9.lt).at 0 rfl, (m9.below h m9.lt).at 1 rfl, (m9.below h m9.lt).at 2 rfl, (h.cell (p := ⟨bc, oc + S, none⟩) z9).trans k9, h⟩
      have HX5 : Hid (∀ V, RowKit.Below wr.heap.size wr V → RowKit.Below w.heap.size w V) := fun V h => hBw.trans (h.mono hBw.size)
      have HA1 : Hid (∀ W, RowKit.Below wr.heap.size wr W → Calls Try.prog 19 #[(.agg #[.int .i64 G.q, .int .i64 G.n, .slice p G.es.length c]), .slice (some ⟨W.heap.size, 0, none⟩) 1 1, .slice q ws.length d] (W.alloc (.cells #[.int .i64 (S : Int)] 3)).drew fun e w' => (∃ q d', e = .returned (.slice q n1 d')) ∧ RowKit.Below wr.heap.size wr w') := fun W h => by
        have h2 : RowKit.Below wr.heap.size wr (W.alloc (.cells #[.int .i64 (S : Int)] 3)).drew := (h.alloc h.size _).drew
        exact (HL1.out _ _ 1 h2 (sl_one_drew W S)).mono (fun e w' h3 => ⟨h3.1, h2.trans (h3.2.mono h2.size)⟩)
      have HA2 : Hid (∀ W, RowKit.Below wr.heap.size wr W → Calls Try.prog 19 #[(.agg #[.int .i64 M.q, .int .i64 M.n, .slice p3 M.es.length c3]), .slice (some ⟨W.heap.size, 0, none⟩) 1 1, .slice q ws.length d] (W.alloc (.cells #[.int .i64 cs] 3)) fun e w' => (∃ q d', e = .returned (.slice q n2 d')) ∧ RowKit.Below wr.heap.size wr w') := fun W h => by
        have h2 : RowKit.Below wr.heap.size wr (W.alloc (.cells #[.int .i64 cs] 3)) := h.alloc h.size _
        exact (HL2.out _ _ 1 h2 (sl_one W cs)).mono (fun e w' h3 => ⟨h3.1, h2.trans (h3.2.mono h2.size)⟩)
      have HB1 : Hid (Calls Try.prog 19 #[(.agg #[.int .i64 G.q, .int .i64 G.n, .slice p G.es.length c]), .slice (some ⟨wr.heap.size, 0, none⟩) 1 1, .slice q ws.length d] ((wr.alloc (.cells #[.int .i64 (S : Int)] 3)).alloc (.cells #[.int .i64 cs] 3)).drew fun e w' => (∃ q d', e = .returned (.slice q n1 d')) ∧ RowKit.Below wr.heap.size wr w' ∧ Hid (Sl w' (Value.int .i64) (some ⟨wr.heap.size + 1, 0, none⟩) [cs])) := by
        obtain ⟨h2, k1, k2⟩ := two_sl wr (S : Int) cs
        exact (HL1.out _ _ 1 h2 k1).mono (fun e w' h3 => ⟨h3.1, h2.trans (h3.2.mono h2.size), k2.below h3.2⟩)
      have HB2 : Hid (∀ W, RowKit.Below wr.heap.size wr W → Hid (Sl W (Value.int .i64) (some ⟨wr.heap.size + 1, 0, none⟩) [cs]) → Calls Try.prog 19 #[(.agg #[.int .i64 M.q, .int .i64 M.n, .slice p3 M.es.length c3]), .slice (some ⟨wr.heap.size + 1, 0, none⟩) 1 1, .slice q ws.length d] W fun e w' => (∃ q d', e = .returned (.slice q n2 d')) ∧ RowKit.Below wr.heap.size wr w') := fun W h hs =>
        (HL2.out _ _ 1 h hs.out).mono (fun e w' h3 => ⟨h3.1, h.trans (h3.2.mono h.size)⟩)
      have HC1 : Hid (Calls Try.prog 19 #[(.agg #[.int .i64 G.q, .int .i64 G.n, .slice p G.es.length c]), .slice (some ⟨wr.heap.size + 1, 0, none⟩) 1 1, .slice q ws.length d] ((wr.alloc (.cells #[.int .i64 cs] 3)).alloc (.cells #[.int .i64 (S : Int)] 3)).drew fun e w' => (∃ q d', e = .returned (.slice q n1 d')) ∧ RowKit.Below wr.heap.size wr w' ∧ Hid (Sl w' (Value.int .i64) (some ⟨wr.heap.size, 0, none⟩) [cs])) := by
        obtain ⟨h2, k1, k2⟩ := two_sl wr cs (S : Int)
        exact (HL1.out _ _ 1 h2 k2).mono (fun e w' h3 => ⟨h3.1, h2.trans (h3.2.mono h2.size), k1.below h3.2⟩)
      have HC2 : Hid (∀ W, RowKit.Below wr.heap.size wr W → Hid (Sl W (Value.int .i64) (some ⟨wr.heap.size, 0, none⟩) [cs]) → Calls Try.prog 19 #[(.agg #[.int .i64 M.q, .int .i64 M.n, .slice p3 M.es.length c3]), .slice (some ⟨wr.heap.size, 0, none⟩) 1 1, .slice q ws.length d] W fun e w' => (∃ q d', e = .returned (.slice q n2 d')) ∧ RowKit.Below wr.heap.size wr w') := fun W h hs =>
        (HL2.out _ _ 1 h hs.out).mono (fun e w' h3 => ⟨h3.1, h.trans (h3.2.mono h.size)⟩)
      have HA3 : Hid (∀ W, RowKit.Below wr.heap.size wr W → Calls Try.prog 7 #[] W fun e w' => e = .returned (.bool true) ∧ RowKit.Below wr.heap.size wr w') := fun W h => (HAW.out W).mono (fun e w' h3 => ⟨h3.1, h.trans (h3.2.mono h.size)⟩)
      clear b8 m8 b9 m9 k8 k9 z8 z9 f0 hR1 hR2 hRE hLab hvl hsv hown hB hBw hg8 HL HRU HRM HRE HL1 HL2 x8
      go_upto_region 16 with fail
      rcases hcase with ⟨rfl, rfl⟩ | ⟨rfl, rfl⟩
      all_goals
        go_region_held3 (fun V => V.cell? ⟨w.heap.size, 0, none⟩ = some (.int .i64 G.q) ∧ V.cell? ⟨w.heap.size, 1, none⟩ = some (.int .i64 G.n) ∧ V.cell? ⟨w.heap.size, 2, none⟩ = some (.slice p G.es.length c) ∧ V.cell? ⟨mb, 0, none⟩ = some (.int .i64 M.q) ∧ V.cell? ⟨mb, 1, none⟩ = some (.int .i64 M.n) ∧ V.cell? ⟨mb, 2, none⟩ = some (.slice p3 M.es.length c3) ∧ V.cell? ⟨bc, oc + S, none⟩ = some (.int .i64 cs) ∧ RowKit.Below wr.heap.size wr V)
          (first | (go_split_ands; refine HKS.out _ ?_; first
            | assumption
            | exact RowKit.Below.refl _ _
            | exact below_dN (RowKit.Below.refl _ _) 1
            | exact RowKit.Below.alloc (by assumption) (RowKit.Below.size (by assumption)) _
            | exact RowKit.Below.drew (RowKit.Below.alloc (by assumption) (RowKit.Below.size (by assumption)) _)))
          (((first | go_at_call 19 | go_at_call 7); go_split_ands; first
            | (with_reducible refine (HA1.out wr (RowKit.Below.refl _ _)).mono ?_; rintro e wA ⟨⟨qA, dA, rfl⟩, hBa⟩)
            | (with_reducible refine (HA2.out _ (by assumption)).mono ?_; rintro e wB ⟨⟨qB, dB, rfl⟩, hBb⟩)
            | (with_reducible refine HB1.out.mono ?_; rintro e wA ⟨⟨qA, dA, rfl⟩, hBa, hsT⟩)
            | (with_reducible refine (HB2.out _ (by assumption) (by assumption)).mono ?_; rintro e wB ⟨⟨qB, dB, rfl⟩, hBb⟩)
            | (with_reducible refine HC1.out.mono ?_; rintro e wA ⟨⟨qA, dA, rfl⟩, hBa, hsT⟩)
            | (with_reducible refine (HC2.out _ (by assumption) (by assumption)).mono ?_; rintro e wB ⟨⟨qB, dB, rfl⟩, hBb⟩)
            | (with_reducible refine (HA3.out _ (by assumption)).mono ?_; rintro e wC ⟨rfl, hBc⟩)
            | with_reducible exact HX5))
      all_goals
        go_split_ands
        go_wp2
        go_ret
        exact ⟨rfl, HX5.out _ (by assumption)⟩
end Go.Proofs.Ytmdjndbjfgncmaa
namespace Go.Proofs.Ytmdjndbjfgncmaa
open Go.ChangeShapes Go.WideShapes Go.ChangeAt Go.RowKit

theorem own : ownKnob Try.prog.godebug = none := by kernel_rfl
theorem laidOut : laidOutB Try.prog = true := by kernel_rfl

theorem trodAll_below {H : Type} {enc : TypeId × Value → H} {W W' : World} (hb : Below W.heap.size W W') :
    ∀ (ts : List TypeId) (vs : List Value) (ds : List (DataW H)) (p : List MemPlace), (∀ t ∈ ts, Try.prog.readableRec t = true ∧ t < Try.prog.types.size) →
      DataW.TrodAll enc Try.prog W 0 (fun _ => true) true ts vs ds p → (∀ x ∈ p, x.block < W.heap.size) →
      DataW.TrodAll enc Try.prog W' 0 (fun b => decide (b < W.heap.size)) true ts vs ds p
  | [], vs, ds, p, _, h, _ => by
    obtain ⟨rfl, rfl, rfl⟩ := trodAll_nil h
    exact trodAll_mk0
  | t :: ts, vs, ds, p, ht, h, hlt => by
    obtain ⟨v, vs', d, ds', p', q', rfl, rfl, rfl, h0, h1⟩ := trodAll_cons h
    exact trodAll_cons_mk (Below.trod laidOut (ht t List.mem_cons_self).1 (ht t List.mem_cons_self).2 h0 hb (fun x hx => hlt x (List.mem_append_left _ hx)))
      (trodAll_below hb ts vs' ds' q' (fun t h => ht t (List.mem_cons_of_mem _ h)) h1 (fun x hx => hlt x (List.mem_append_right _ hx)))

/-- What the row asks behind the call of a law. -/
theorem law_post {H : Type} {enc : TypeId × Value → H} {f : Func} {s : ChangeSpec} {W W' : World} {args : Array Value} {ds gs : List (DataW H)} {before : List MemPlace}
    (hW : DataW.Whole enc Try.prog f.params.toList s.vars false W args.toList ds gs before) (hv : s.vars = [])
    (hr : f.resultTypes = #[4]) (ht : ∀ t ∈ f.params.toList, Try.prog.readableRec t = true ∧ t < Try.prog.types.size)
    (hfr : (s.fn H (ds ++ gs)).results = [.lit (.bool true)]) (hfa : (s.fn H (ds ++ gs)).args = ds) (hfv : (s.fn H (ds ++ gs)).vars = [])
    (hB : Below W.heap.size W W') : s.post enc Try.prog f false true false false W args (.bool true) W' := by
  have hW' := hW
  obtain ⟨p, q, hA, hV, rfl, hfz, hnd⟩ := hW
  have hlt : ∀ x ∈ p, x.block < W.heap.size := fun x hx => hW'.lt x (List.mem_append_left _ hx)
  refine ⟨ds, gs, _, [] ++ [], p, [], hW', ?_, ?_, ?_, hB.frame _, fun h => by cases h⟩
  · rw [hfr, hr]; exact trodAll_mk1 (shut_bool Try.underlying4 true)
  · rw [hfa]; exact trodAll_below hB _ _ _ _ ht hA hlt
  · rw [hfv, hv]; exact rfl
end Go.Proofs.Ytmdjndbjfgncmaa
