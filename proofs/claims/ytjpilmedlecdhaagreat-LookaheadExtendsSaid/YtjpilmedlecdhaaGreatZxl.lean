/-
  Words, plain lemmas and walks, merged: Xi, Ya, Yb, Vb.
-/
import Derived.Test.YtjpilmedlecdhaaGreatZxk
import Derived.Laws.EntriesVeiled
import Derived.Test.YtjpilmedlecdhaaGreatZxd
import Derived.Deep.AppendLies
import Derived.Deep.RegionHeld3
import Derived.Test.YtjpilmedlecdhaaGreatZxh
import Derived.Test.YtjpilmedlecdhaaGreatZxi
import Derived.Test.YtjpilmedlecdhaaGreatZxe
import Derived.Test.YtjpilmedlecdhaaGreatZxj
import Derived.Test.YtjpilmedlecdhaaGreatZxg
set_option linter.unusedVariables false
set_option linter.unusedSimpArgs false
namespace Go.Proofs.YtjpilmedlecdhaaGreat
open Go.RowKit Go.Sort Go.Shelf Go.Lib

/-- A table and an error. -/
def RetExt (x : Tb × Int) (w : World) (e : Ending) (w' : World) : Prop := ∃ p1 p2 c1 c2, e = .returned (.tuple #[.agg #[.int .i64 x.1.q, .int .i64 x.1.n, .slice p1 x.1.base.length c1, .slice p2 x.1.swaps.length c2], .int .i64 x.2]) ∧ TbIn w' x.1 p1 p2 c1 c2 ∧ RowKit.Below w.heap.size w w'
theorem RetExt.zero {x : Tb × Int} {k : Int} {w w' : World} (h : x = (zT, k) ∧ RowKit.Below w.heap.size w w') : RetExt x w (.returned (.tuple #[.agg #[.int .i64 0, .int .i64 0, .slice none 0 0, .slice none 0 0], .int .i64 k])) w' := by
  obtain ⟨rfl, hB⟩ := h
  exact ⟨none, none, 0, 0, rfl, ⟨.inl rfl, .inl rfl, Nat.le_refl _, by show 0 ≤ _; omega, by show 0 ≤ _; omega, fun j h => absurd h (Nat.not_lt_zero _), fun j h => absurd h (Nat.not_lt_zero _)⟩, hB⟩
theorem set4 {w0 W : World} {b : Nat} {v0 v1 v2 v3 : Value} (h : RowKit.Below w0.heap.size w0 W) (hb : w0.heap.size ≤ b) : RowKit.Below w0.heap.size w0 ((((W.setCell ⟨b, 0, none⟩ v0).setCell ⟨b, 1, none⟩ v1).setCell ⟨b, 2, none⟩ v2).setCell ⟨b, 3, none⟩ v3) :=
  (((h.setCell hb _).setCell hb _).setCell hb _).setCell hb _

/-- The table under way: its box, its rows of the call's own. -/
structure OutE (w4 W : World) (bo : Nat) (out : Tb) (o1 o2 : Option Addr) (d1 d2 : Nat) : Prop where
  row : VRow W bo 25 [.int .i64 out.q, .int .i64 out.n, .slice o1 out.base.length d1, .slice o2 out.swaps.length d2]
  ob : W.ownsRow w4.heap.size 9 1 (.slice o1 out.base.length d1) out.base.length (out.base.map Value.string)
  os : W.ownsRow w4.heap.size 53 3 (.slice o2 out.swaps.length d2) out.swaps.length (catS out.swaps)
  bel : RowKit.Below bo w4 W
def OutY (w4 W : World) (bo : Nat) (out : Tb) : Prop := ∃ o1 o2 d1 d2, OutE w4 W bo out o1 o2 d1 d2
theorem OutE.base {w4 W : World} {bo : Nat} {out : Tb} {o1 o2 : Option Addr} {d1 d2 : Nat} (h : OutE w4 W bo out o1 o2 d1 d2) : Sl W Value.string o1 out.base := by
  obtain ⟨p, c, e, hs⟩ := own_sl h.ob
  cases e; exact hs
theorem OutE.tb {w4 W : World} {bo : Nat} {out : Tb} {o1 o2 : Option Addr} {d1 d2 : Nat} (h : OutE w4 W bo out o1 o2 d1 d2) (h1 : out.base.length ≤ 1000) (h2 : out.swaps.length ≤ 1000) (z1 : ∀ j (h : j < out.base.length), out.base[j].size ≤ maxLen) (z2 : ∀ j (h : j < out.swaps.length), out.swaps[j].wd.size ≤ maxLen) : TbIn W out o1 o2 d1 d2 :=
  ⟨h.base, RetWith.sg h.os, own_cap h.ob _ _ _ rfl, by omega, by omega, z1, z2⟩
theorem OutE.below {w4 W W' : World} {bo : Nat} {out : Tb} {o1 o2 : Option Addr} {d1 d2 : Nat} (h : OutE w4 W bo out o1 o2 d1 d2) (hB : RowKit.Below W.heap.size W W') (hbo : bo < w4.heap.size) : OutE w4 W' bo out o1 o2 d1 d2 :=
  ⟨h.row.below hB h.row.lt, h.ob.below hB, h.os.below hB, h.bel.trans (hB.mono (Nat.le_trans (Nat.le_of_lt hbo) h.bel.size))⟩
/-- The table under way, as numbers. -/
structure OutP (all : List ByteArray) (T : Tb) (G : Gr) (l : List (Nat × Nat)) (k : Nat) (out : Tb) : Prop where
  fold : extP all T G (l.take k) = some out
  q : out.q = T.q
  n : out.n = T.n
  base : out.base = T.base
  srt : SrtW out.swaps
  len : out.swaps.length ≤ 64 + k
  z2 : ∀ j (h : j < out.swaps.length), out.swaps[j].wd.size ≤ maxLen
theorem OutP.start {all : List ByteArray} {T : Tb} {G : Gr} {l : List (Nat × Nat)} (hf : fmd T = true) (z2 : ∀ j (h : j < T.swaps.length), T.swaps[j].wd.size ≤ maxLen) : OutP all T G l 0 T :=
  ⟨rfl, rfl, rfl, rfl, srt_of_fmd hf, by have := pre_all (fmd_split hf).1; omega, z2⟩
theorem OutP.same {all : List ByteArray} {T out : Tb} {G : Gr} {l : List (Nat × Nat)} {k : Nat} (h : OutP all T G l k out) (hk : k < l.length) (hs : isSw T.swaps l[k].1 l[k].2 = true) : OutP all T G l (k + 1) out :=
  ⟨by rw [extP_step hk h.fold, if_pos hs], h.q, h.n, h.base, h.srt, by have := h.len; omega, h.z2⟩
theorem OutP.fail {all : List ByteArray} {T out : Tb} {G : Gr} {l : List (Nat × Nat)} {k : Nat} (h : OutP all T G l k out) (hk : k < l.length) (hs : isSw T.swaps l[k].1 l[k].2 = false) (hf : all.find? (okE T G T.swaps out l[k].1 l[k].2) = none) : extP all T G l = none := by
  refine extP_stop (k := k + 1) ?_
  rw [extP_step hk h.fold, hs, exS_find, hf]; rfl
theorem OutP.next {all : List ByteArray} {T out : Tb} {G : Gr} {l : List (Nat × Nat)} {k : Nat} {v : ByteArray} (h : OutP all T G l k out) (hk : k < l.length) (hs : isSw T.swaps l[k].1 l[k].2 = false) (hf : all.find? (okE T G T.swaps out l[k].1 l[k].2) = some v) (hv : v.size ≤ maxLen) (ho : okE T G T.swaps out l[k].1 l[k].2 v = true) :
    OutP all T G l (k + 1) (wthT out ⟨l[k].1, l[k].2, v⟩) :=
  ⟨by rw [extP_step hk h.fold, hs, exS_find, hf]; rfl, h.q, h.n, h.base, srt_of_fmd (okE_fmd ho), by have := h.len; show (insW out.swaps _).length ≤ _; rw [insW_len]; omega, insW_wd h.z2 hv⟩
theorem OutP.all {all : List ByteArray} {T out : Tb} {G : Gr} {l : List (Nat × Nat)} (h : OutP all T G l l.length out) : extP all T G l = some out := by
  have := h.fold; rw [List.take_length] at this; exact this
def RetOwnS2 (l : List Sw) (w : World) (e : Ending) (w' : World) : Prop := ∃ p n c, e = .returned (.slice p n c) ∧ Hid (n = l.length) ∧ Hid (w'.ownsRow w.heap.size 53 3 (.slice p n c) n (catS l)) ∧ RowKit.Below w.heap.size w w'
theorem cloneSw_sl (l : List Sw) (p : Option Addr) (c : Nat) (w : World) (hin : Sg 3 w swE p l) (hl : l.length ≤ 1000) :
    Calls Tryz.prog 23 #[.slice p l.length c] w (RetOwnS2 l w) := by
  refine (cloneSw_any l p c w hin hl).mono ?_
  rintro e w' ⟨v, rfl, ho, hB⟩
  obtain ⟨p', c', rfl, _, _, hn⟩ := own_sgS ho
  exact ⟨p', l.length, c', rfl, rfl, ho, hB⟩

set_option maxRecDepth 100000 in
set_option maxHeartbeats 4000000 in
theorem lkExtend_any (T : Tb) (p1 p2 : Option Addr) (c1 c2 : Nat) (G : Gr) (pg : Option Addr) (cg : Nat) (w : World) (hin : TbIn w T p1 p2 c1 c2) (hG : Sg 3 w edE pg G.es) (hGl : G.es.length ≤ 9223372036854775807) :
    Calls Tryz.prog 7 #[(.agg #[.int .i64 T.q, .int .i64 T.n, .slice p1 T.base.length c1, .slice p2 T.swaps.length c2]), (.agg #[.int .i64 G.q, .int .i64 G.n, .slice pg G.es.length cg])] w (RetExt (extA T G) w) := by
  obtain ⟨w0, hw0⟩ : ∃ w0, w0 = ((w.alloc (.cells #[.int .i64 T.q, .int .i64 T.n, .slice p1 T.base.length c1, .slice p2 T.swaps.length c2] 25)).alloc (.cells #[.int .i64 G.q, .int .i64 G.n, .slice pg G.es.length cg] 28)).alloc (.cells #[.int .i64 0, .int .i64 0, .slice none 0 0, .slice none 0 0] 25) := ⟨_, rfl⟩
  have b0 : VRow w0 w.heap.size 25 [.int .i64 T.q, .int .i64 T.n, .slice p1 T.base.length c1, .slice p2 T.swaps.length c2] := by subst hw0; exact ((VRow.new w _ _).alloc _).alloc _
  have d0 : VRow w0 (w.heap.size + 1) 28 [.int .i64 G.q, .int .i64 G.n, .slice pg G.es.length cg] := by subst hw0; exact (VRow.new1 w _ _ _).alloc _
  have r0 : VRow w0 (w.heap.size + 1 + 1) 25 [.int .i64 0, .int .i64 0, .slice none 0 0, .slice none 0 0] := by subst hw0; exact VRow.new2 w _ _ _ _
  have hB0 : RowKit.Below w.heap.size w w0 := by subst hw0; exact (((RowKit.Below.refl _ _).alloc (Nat.le_refl _) _).alloc (by simp) _).alloc (by simp; omega) _
  have HC := hidI (lkCheck0_any T p1 p2 c1 c2 G pg cg w0 (hin.below hB0) (hG.below hB0) hGl)
  have HFZ := hidI (@fit_zero T G)
  have HIN := hidI (hin.below hB0); have HG := hidI (hG.below hB0)
  have HX0 := hidI (@extA_fit T G); have HX1 := hidI (@extA_all T G); have HX2 := hidI (fun all => @extA_none T G all); have HX3 := hidI (fun all x => @extA_some T x G all)
  have a0 := b0.at 0 rfl; have a1 := b0.at 1 rfl; have a2 := b0.at 2 rfl; have a3 := b0.at 3 rfl
  have e0 := d0.at 0 rfl; have e1 := d0.at 1 rfl; have e2 := d0.at 2 rfl
  have HB0 := hidI hB0
  clear hin hG
  generalize extA T G = XA at *
  generalize fitA T G = k at *
  go_enter Tryz.func7, Tryz.ntmps7
  go_upto_region 1 with fail
  rw [← hw0]
  clear hw0
  go_wp2_with fail
  refine HC.out.mono ?_
  rintro e w1 ⟨rfl, hB1⟩
  have x1 := HB0.out.trans (hB1.mono HB0.out.size)
  have t1 := b0.below hB1 b0.lt
  have g1 := d0.below hB1 d0.lt
  have r1 := r0.below hB1 r0.lt
  have HIN1 := hidI (HIN.out.below hB1); have HG1 := hidI (HG.out.below hB1)
  clear a0 a1 a2 a3 e0 e1 e2 b0 d0 r0 hB1 HC hB0 HIN HG HB0
  by_cases hk : k = 0
  · obtain ⟨h1, h2, h3⟩ := HFZ.out hk
    have HF := hidI h1; have HV := hidI h2; have HGQ := hidI h3
    have hN := pre_all (fmd_split h1).1
    have hq1 : 2 ≤ T.q := hN.1
    have hq2 : T.q ≤ 16 := hN.2.1
    have hn1 : 1 ≤ T.n := hN.2.2.1
    have hn2 : T.n ≤ 8 := hN.2.2.2.1
    have hN16 : T.base.length ≤ 16 := hN.2.2.2.2.2.1
    have hS64 : T.swaps.length ≤ 64 := hN.2.2.2.2.2.2
    have HY1 := hidI (HX1.out hk); have HY2 := hidI (fun all => HX2.out all hk); have HY3 := hidI (fun all x => HX3.out all x hk)
    have HALL : Hid (∀ W : World, Calls Tryz.prog 15 #[.int .i64 T.q, .int .i64 (2 * T.n)] W (RetAll (allF T.q.toNat (2 * T.n.toNat)) W)) := fun W => by
      have e1 : ((T.q.toNat : Nat) : Int) = T.q := Int.toNat_of_nonneg (by omega)
      have e2 : ((2 * T.n.toNat : Nat) : Int) = 2 * T.n := by omega
      have h := wAll_any T.q.toNat (2 * T.n.toNat) W (by omega) (by omega) (by omega)
      rw [e1, e2] at h; exact h
    have HOKA := hidI (fun l => allF_ok T.q.toNat (by omega) (2 * T.n.toNat) l)
    subst hk
    clear h1 h2 h3 hN HFZ HX0 HX1 HX2 HX3
    generalize allF T.q.toNat (2 * T.n.toNat) = AL at *
    have a0 := t1.at 0 rfl; have a1 := t1.at 1 rfl
    go_wp2_with fail
    refine (HALL.out w1).mono ?_
    cases AL with
    | none =>
      rintro e w2 ⟨hB2, rfl⟩
      have HR := hidI (HY1.out (by first | trivial | rfl))
      have x2 := x1.trans (hB2.mono x1.size)
      have r2 := r1.below hB2 r1.lt
      clear HALL HY1 HY2 HY3 a0 a1 t1 g1 r1 x1 hB2 HOKA
      have y0 := r2.at 0 rfl; have y1 := r2.at 1 rfl; have y2 := r2.at 2 rfl; have y3 := r2.at 3 rfl
      have f0 := r2.frozen 0; have f1 := r2.frozen 1; have f2 := r2.frozen 2; have f3 := r2.frozen 3
      go_wp2_with fail
      (have r6 := VRow.set (i := 3) (.slice none 0 0) (VRow.set (i := 2) (.slice none 0 0) (VRow.set (i := 1) (.int .i64 0) (VRow.set (i := 0) (.int .i64 0) r2))); have y0 := r6.at 0 rfl; have y1 := r6.at 1 rfl; have y2 := r6.at 2 rfl; have y3 := r6.at 3 rfl; exact bodyPost_ret (v := .tuple #[.agg #[.int .i64 0, .int .i64 0, .slice none 0 0, .slice none 0 0], .int .i64 4]) (by simp [results, Tryz.results7, go_sem, y0, y1, y2, y3]) rfl (RetExt.zero ⟨HR.out, set4 x2 (by omega)⟩))
    | some all =>
      rintro e w2 ⟨hB2, pa, ca, rfl, hAL⟩
      have x2 := x1.trans (hB2.mono x1.size)
      have r2 := r1.below hB2 r1.lt
      have t2 := t1.below hB2 t1.lt
      have g2 := g1.below hB2 g1.lt
      have HIN2 := hidI (HIN1.out.below hB2); have HG2 := hidI (HG1.out.below hB2)
      have HOK := hidI (HOKA.out all (by first | trivial | rfl))
      have HZ2 := hidI (HY2.out all (by first | trivial | rfl)); have HZ3 := hidI (fun x => HY3.out all x (by first | trivial | rfl))
      have HAL := hidI hAL
      clear HALL HY1 HY2 HY3 HOKA a0 a1 t1 g1 r1 x1 hB2 hAL HIN1 HG1
      have HBD := hidI (lkbad_any T p1 p2 c1 c2 G pg cg w2 HIN2.out HG2.out HF.out HV.out HGQ.out)
      have a0 := t2.at 0 rfl; have a1 := t2.at 1 rfl; have a2 := t2.at 2 rfl; have a3 := t2.at 3 rfl
      have e0 := g2.at 0 rfl; have e1 := g2.at 1 rfl; have e2 := g2.at 2 rfl
      go_wp2_with fail
      refine HBD.out.mono ?_
      rintro e w3 ⟨pL, cL, X, rfl, hLL, hB3⟩
      have x3 := x2.trans (hB3.mono x2.size)
      have r3 := r2.below hB3 r2.lt
      have t3 := t2.below hB3 t2.lt
      have g3 := g2.below hB3 g2.lt
      have HIN3 := hidI (HIN2.out.below hB3); have HG3 := hidI (HG2.out.below hB3); have HAL3 := hidI (HAL.out.below hB3)
      clear HBD a0 a1 a2 a3 e0 e1 e2 r2 t2 g2 HIN2 HG2 HAL hB3 x2
      have a0 := t3.at 0 rfl; have a1 := t3.at 1 rfl; have a2 := t3.at 2 rfl; have a3 := t3.at 3 rfl
      have zt := t3.lt
      go_upto_region 10 with fail
      have hbl := badN_len T G T.base.length
      have hbl2 : T.base.length * T.base.length ≤ 16 * 16 := Nat.mul_le_mul hN16 hN16
      have hLl : (badL T G).length ≤ 256 := by show (badN T G T.base.length).length ≤ 256; omega
      obtain ⟨w4, hw4⟩ : ∃ w4, w4 = ((w3.alloc (.cells #[.slice pL (badL T G).length cL] 47)).alloc (.cells #[.func (.func 17) #[] #[.pointer (some ⟨w3.heap.size, 0, none⟩), .pointer (some ⟨w.heap.size, 0, none⟩)]] 55)).alloc (.cells #[.int .i64 T.q, .int .i64 T.n, .slice p1 T.base.length c1, .slice p2 T.swaps.length c2] 25) := ⟨_, rfl⟩
      have s4 : VRow w4 w3.heap.size 47 [.slice pL (badL T G).length cL] := by subst hw4; exact ((VRow.new w3 _ _).alloc _).alloc _
      have i4 : VRow w4 (w3.heap.size + 1) 55 [.func (.func 17) #[] #[.pointer (some ⟨w3.heap.size, 0, none⟩), .pointer (some ⟨w.heap.size, 0, none⟩)]] := by subst hw4; exact (VRow.new1 w3 _ _ _).alloc _
      have o4 : VRow w4 (w3.heap.size + 1 + 1) 25 [.int .i64 T.q, .int .i64 T.n, .slice p1 T.base.length c1, .slice p2 T.swaps.length c2] := by subst hw4; exact VRow.new2 w3 _ _ _ _
      have hB4 : RowKit.Below w3.heap.size w3 w4 := by subst hw4; exact (((RowKit.Below.refl _ _).alloc (Nat.le_refl _) _).alloc (by simp) _).alloc (by simp; omega) _
      have hsz4 : w4.heap.size = w3.heap.size + 1 + 1 + 1 := by subst hw4; simp
      rw [← hw4]
      clear hw4
      have x4 := x3.trans (hB4.mono x3.size)
      have r4 := r3.below hB4 r3.lt
      have t4 := t3.below hB4 t3.lt
      have g4 := g3.below hB4 g3.lt
      have HIN4 := hidI (HIN3.out.below hB4); have HG4 := hidI (HG3.out.below hB4); have HAL4 := hidI (HAL3.out.below hB4)
      have HLL4 := hidI (hLL.below hB4)
      have zt4 : w.heap.size < w3.heap.size := zt
      have zr4 : w.heap.size + 1 + 1 < w3.heap.size := r3.lt
      have hsz4 := hidI hsz4
      have HLL3 := hidI hLL
      have HB34 := hidI hB4
      clear a0 a1 a2 a3 r3 t3 g3 hLL x3 hB4 zt hbl hbl2
      have a2 := t4.at 2 rfl; have a3 := t4.at 3 rfl
      have HCS := hidI (fun W (hW : RowKit.Below w4.heap.size w4 W) => cloneStr_any T.base p1 c1 W (HIN4.out.base.below hW) (by omega))
      have HCW := hidI (fun W (hW : RowKit.Below w4.heap.size w4 W) => cloneSw_sl T.swaps p2 c2 W (HIN4.out.swaps.below hW) (by omega))
      go_cut [40] (fun _ W => OutY w4 W (w3.heap.size + 1 + 1) T)
      case first =>
        go_region_with (first
          | (go_at_call 22; refine (HCS.out _ ?_).mono ?_; (first | exact below_dN (RowKit.Below.refl _ _) 1 | exact hXb); rintro e wa ⟨pa1, na1, ca1, rfl, hNa, hOa, hBa⟩; have ta : VRow wa w.heap.size 25 [.int .i64 T.q, .int .i64 T.n, .slice p1 T.base.length c1, .slice p2 T.swaps.length c2] := (by first | exact (t4.dr ⟨1, rfl⟩).below hBa t4.lt | exact tb.below hBa tb.lt); have oa : VRow wa (w3.heap.size + 1 + 1) 25 [.int .i64 T.q, .int .i64 T.n, .slice p1 T.base.length c1, .slice p2 T.swaps.length c2] := (by first | exact (o4.dr ⟨1, rfl⟩).below hBa o4.lt | exact ob.below hBa ob.lt); have hXa : RowKit.Below w4.heap.size w4 wa := (by first | exact (below_dN (RowKit.Below.refl w4.heap.size w4) 1).trans hBa | exact hXb.trans (hBa.mono hXb.size)); have ta2 := ta.at 2 rfl; have ta3 := ta.at 3 rfl; have oa0 := oa.at 0 rfl; have oa1 := oa.at 1 rfl; have oa2 := oa.at 2 rfl; have oa3 := oa.at 3 rfl; have of2 := oa.frozen 2; have of3 := oa.frozen 3)
          | (go_at_call 23; refine (HCW.out _ ?_).mono ?_; (first | exact below_dN (RowKit.Below.refl _ _) 1 | exact hXa); rintro e wb ⟨pb1, nb1, cb1, rfl, hNb, hOb, hBb⟩; have tb : VRow wb w.heap.size 25 [.int .i64 T.q, .int .i64 T.n, .slice p1 T.base.length c1, .slice p2 T.swaps.length c2] := (by first | exact (t4.dr ⟨1, rfl⟩).below hBb t4.lt | exact ta.below hBb ta.lt); have ob : VRow wb (w3.heap.size + 1 + 1) 25 [.int .i64 T.q, .int .i64 T.n, .slice p1 T.base.length c1, .slice p2 T.swaps.length c2] := (by first | exact (o4.dr ⟨1, rfl⟩).below hBb o4.lt | exact oa.below hBb oa.lt); have hXb : RowKit.Below w4.heap.size w4 wb := (by first | exact (below_dN (RowKit.Below.refl w4.heap.size w4) 1).trans hBb | exact hXa.trans (hBb.mono hXa.size)); have tb2 := tb.at 2 rfl; have tb3 := tb.at 3 rfl; have ob0 := ob.at 0 rfl; have ob1 := ob.at 1 rfl; have ob2 := ob.at 2 rfl; have ob3 := ob.at 3 rfl; have obf2 := ob.frozen 2; have obf3 := ob.frozen 3)
          | fail)
        all_goals
          have hna := hNa.out
          have hnb := hNb.out
          subst hna hnb
          have hbo : w3.heap.size + 1 + 1 < w4.heap.size := by have := hsz4.out; omega
          have k1 := ownsRow_setCell_below (a := ⟨w3.heap.size + 1 + 1, 3, none⟩) (ownsRow_setCell_below (a := ⟨w3.heap.size + 1 + 1, 2, none⟩) (hOa.out.below hBb) hbo (.slice pa1 T.base.length ca1)) hbo (.slice pb1 T.swaps.length cb1)
          have k2 := ownsRow_setCell_below (a := ⟨w3.heap.size + 1 + 1, 3, none⟩) (ownsRow_setCell_below (a := ⟨w3.heap.size + 1 + 1, 2, none⟩) (own_base hOb.out hXa.size) hbo (.slice pa1 T.base.length ca1)) hbo (.slice pb1 T.swaps.length cb1)
          have hrow := VRow.set (i := 3) (.slice pb1 T.swaps.length cb1) (VRow.set (i := 2) (.slice pa1 T.base.length ca1) ob)
          have hbl : RowKit.Below (w3.heap.size + 1 + 1) w4 ((wb.setCell ⟨w3.heap.size + 1 + 1, 2, none⟩ (.slice pa1 T.base.length ca1)).setCell ⟨w3.heap.size + 1 + 1, 3, none⟩ (.slice pb1 T.swaps.length cb1)) := ((hXb.mono (Nat.le_of_lt hbo)).setCell (Nat.le_refl _) _).setCell (Nat.le_refl _) _
          go_wp2_with fail
          go_meet
          exact ⟨pa1, pb1, ca1, cb1, hrow, k1, k2, hbl⟩
      case rest =>
        have hOX := hcut
        have hbo : w3.heap.size + 1 + 1 < w4.heap.size := by have := hsz4.out; omega
        have hbel : RowKit.Below (w3.heap.size + 1 + 1) w4 wc := by obtain ⟨_, _, _, _, h⟩ := hOX; exact h.bel
        have sc := (s4.below hbel (by omega)).at 0 rfl
        have HP0 := hidI (OutP.start (all := all) (G := G) (l := bdN T G T.base.length) HF.out HIN3.out.z2)
        have HLM := hidI (badN_map T G T.base.length)
        have HLL : Hid ((badL T G).length = (bdN T G T.base.length).length) := by show (badN T G T.base.length).length = _; rw [HLM.out, List.length_map]
        have S4 := hidI s4; have I4 := hidI i4; have T4 := hidI t4; have G4 := hidI g4; have R4 := hidI r4; have X4 := hidI x4
        have HOX := hidI hOX
        clear a2 a3 HCS HCW hbel hOX hcut s4 i4 t4 g4 r4 x4 o4 HIN4 HG4 HAL4 HLL4
        go_wp2_with fail
        clear sc
        go_loopw [49] (fun iv W => ∃ (k : Nat) (out : Tb), k ≤ (badL T G).length ∧ iv = .int .i64 k ∧ Hid (OutP all T G (bdN T G T.base.length) k out) ∧ Hid (OutY w4 W (w3.heap.size + 1 + 1) out)) (fun iv _ => (badL T G).length - (intOf iv).toNat)
        case atStart => exact ⟨0, T, by omega, rfl, HP0, HOX⟩
        case round =>
          clear HP0 HOX
          obtain ⟨k, out, hk, rfl, HP, HO⟩ := hrel
          by_cases hlt : k < (badL T G).length
          · have hltI : (k : Int) < ((badL T G).length : Int) := by omega
            obtain ⟨o1, o2, d1, d2, hE⟩ := HO.out
            have hkl : k < (bdN T G T.base.length).length := by rw [← HLL.out]; exact hlt
            obtain ⟨i, j, hij⟩ : ∃ i j, (bdN T G T.base.length)[k] = (i, j) := ⟨_, _, rfl⟩
            have hpr := bdN_mem.1 (List.getElem_mem hkl)
            rw [hij] at hpr
            have hiN : i < T.base.length := hpr.1
            have hLk : (badL T G)[k] = [(i : Int), (j : Int)] := by
              have e := List.getElem_of_eq (show badL T G = (bdN T G T.base.length).map prL from HLM.out) hlt
              rw [e, List.getElem_map, hij]; rfl
            have hB3r : RowKit.Below w3.heap.size w3 wr := HB34.out.trans (hE.bel.mono (by omega))
            obtain ⟨bL, oL, q, d, rfl, hbL, eL, sT⟩ := (HLL3.out.below hB3r).get k hlt
            rw [hLk] at eL sT
            simp only [List.length_cons, List.length_nil, Nat.zero_add] at eL
            have HLLr := hidI (HLL3.out.below hB3r)
            have hsame := hidI (fun h => HP.out.same hkl (by rw [hij]; exact h))
            have hfail := hidI (fun h1 h2 => HP.out.fail hkl (by rw [hij]; exact h1) (by rw [hij]; exact h2))
            have hnext := hidI (fun v h1 h2 h3 h4 => HP.out.next (v := v) hkl (by rw [hij]; exact h1) (by rw [hij]; exact h2) h3 (by rw [hij]; exact h4))
            rw [hij] at hnext
            have hPs := HP.out.srt; have hPl := HP.out.len; have hPz := hidI HP.out.z2; have hPb := hidI HP.out.base
            clear hij hLk hpr hkl
            go_upto_region 14 with fail
            obtain ⟨w5, hw5⟩ : ∃ w5, w5 = wr.alloc (.cells #[.slice q 2 d] 40) := ⟨_, rfl⟩
            have hB5 : RowKit.Below wr.heap.size wr w5 := by subst hw5; exact (RowKit.Below.refl _ _).alloc (Nat.le_refl _) _
            have p5 : VRow w5 wr.heap.size 40 [.slice q 2 d] := by subst hw5; exact VRow.new wr _ _
            rw [← hw5]
            clear hw5
            have hbe := hE.bel
            have hE5 := hE.below hB5 hbo
            have hbl5 := hE5.bel
            have hB35 := HB34.out.trans (hbl5.mono (by omega))
            have hPB := hPb.out
            have HEX := hidI (show ExtE w5 T out G i j X w.heap.size (w.heap.size + 1) (w3.heap.size + 1) w3.heap.size wr.heap.size (w3.heap.size + 1 + 1) p1 p2 o1 o2 pg (some ⟨bL, oL, none⟩) q c1 c2 d1 d2 cg cL d from
              ⟨T4.out.below hbl5 (by omega), G4.out.below hbl5 (by omega), I4.out.below hbl5 (by omega), S4.out.below hbl5 (by omega), p5, hE5.row, HIN3.out.below hB35,
                hE5.tb (by rw [hPB]; omega) (by omega) (by rw [hPB]; exact HIN3.out.z1) hPz.out, HG3.out.below hB35, HLL3.out.below hB35, sT.1.below hB5⟩)
            have HC2 := hidI (containsSw2 T.swaps wr.heap.size (swIs i j) p2 c2 w5 (HIN3.out.swaps.below hB35) (by omega) (fun k hk W hW => lkExt2_any T.swaps[k] i j q d wr.heap.size W (sT.1.below (hB5.trans (hW.mono hB5.size))) ((p5.below hW p5.lt).at 0 rfl) (p5.below hW p5.lt).lt _ rfl))
            have tc := HEX.out.tb
            have a3 := tc.at 3 rfl
            obtain ⟨r, hr⟩ : ∃ r, isSw T.swaps i j = r := ⟨_, rfl⟩
            have HC3 := hidI (HC2.out r hr)
            have HR := hidI hr
            have HE5 := hidI hE5
            clear hr HC2 hE hE5 hbl5 tc hPB hbe
            go_wp2_with fail
            refine HC3.out.mono ?_
            rintro e w6 ⟨rfl, hB6⟩
            have HEX6 := hidI (HEX.out.below hB6)
            have HE6 := hidI (HE5.out.below hB6 hbo)
            clear HC3 a3
            cases r
            · have HFL := hidI (hfail.out HR.out); have HNX := hidI (fun v => hnext.out v HR.out)
              have hq0 : ((T.q.toNat : Nat) : Int) = T.q := Int.toNat_of_nonneg (by omega)
              have HWZ := hidI (fun (v : ByteArray) (hv : v ∈ all) => show v.size ≤ 16 ∧ Chg.okw T.q v.data.toList = true from ⟨by rw [(HOK.out.2 v hv).1]; omega, by have := (HOK.out.2 v hv).2; rw [hq0] at this; exact this⟩)
              have hal := HOK.out.1
              have hB36 := HB34.out.trans (HE6.out.bel.mono (show w3.heap.size ≤ w3.heap.size + 1 + 1 by omega))
              have HI := hidI (indexStr3 all w.heap.size (w.heap.size + 1) (w3.heap.size + 1) wr.heap.size (w3.heap.size + 1 + 1) (okE T G T.swaps out i j) pa ca w6 (HAL3.out.below hB36) (by omega) (fun k hk W hW => lkExt3_any (HEX6.out.below hW) HF.out HV.out HGQ.out hiN all[k] (HWZ.out _ (List.getElem_mem hk)).1 (HWZ.out _ (List.getElem_mem hk)).2 hPs (by omega)))
              have HAL6 := hidI (HAL3.out.below hB36)
              clear hq0 hsame hfail hnext hB36
              rcases find_idxP (okE T G T.swaps out i j) all with ⟨h1, h2⟩ | ⟨kk, hkk, h1, h2, h3⟩
              · rw [h1] at HI
                have HX := hidI (HZ2.out (HFL.out h2))
                clear h1 h2 HFL HNX
                go_wp2_with fail
                refine HI.out.mono ?_
                rintro e w7 ⟨rfl, hB7⟩
                have hE7 := HE6.out.below hB7 hbo
                have hrr := R4.out.below hE7.bel (by omega)
                have hX9 : RowKit.Below w.heap.size w w7 := X4.out.trans (hE7.bel.mono (by omega))
                have y0 := hrr.at 0 rfl; have y1 := hrr.at 1 rfl; have y2 := hrr.at 2 rfl; have y3 := hrr.at 3 rfl
                have f0 := hrr.frozen 0; have f1 := hrr.frozen 1; have f2 := hrr.frozen 2; have f3 := hrr.frozen 3
                clear hE7
                go_wp2_with fail
                (have r6 := VRow.set (i := 3) (.slice none 0 0) (VRow.set (i := 2) (.slice none 0 0) (VRow.set (i := 1) (.int .i64 0) (VRow.set (i := 0) (.int .i64 0) hrr))); have y0 := r6.at 0 rfl; have y1 := r6.at 1 rfl; have y2 := r6.at 2 rfl; have y3 := r6.at 3 rfl; exact bodyPost_ret (v := .tuple #[.agg #[.int .i64 0, .int .i64 0, .slice none 0 0, .slice none 0 0], .int .i64 6]) (by simp [results, Tryz.results7, go_sem, y0, y1, y2, y3]) rfl (RetExt.zero ⟨HX.out, set4 hX9 (by omega)⟩))
              · rw [h1] at HI
                have hvm := HWZ.out _ (List.getElem_mem hkk)
                have HNX2 := hidI (HNX.out _ h2 (by unfold maxLen; omega) h3)
                clear h1 h2 h3 HFL HNX
                go_wp2_with fail
                refine HI.out.mono ?_
                rintro e w7 ⟨rfl, hB7⟩
                have HE7 := hidI (HE6.out.below hB7 hbo)
                have hX7 := HEX6.out.below hB7
                obtain ⟨bq, oq, rfl, hbq, hcq⟩ := hX7.qin.get 0 (by simp)
                have q0 := hcq 0 (by simp); have q1 := hcq 1 (by simp)
                simp only [List.getElem_cons_zero, List.getElem_cons_succ, Nat.add_zero] at q0 q1
                obtain ⟨ba, oa, rfl, hba, hca⟩ := (HAL6.out.below hB7).get kk hkk
                have v0 := hca kk hkk
                have m0 := hX7.pb.at 0 rfl
                have n0 := hX7.ob.at 0 rfl; have n1 := hX7.ob.at 1 rfl; have n2 := hX7.ob.at 2 rfl; have n3 := hX7.ob.at 3 rfl
                have hkI : (kk : Int) < (all.length : Int) := by omega
                have HOS := hidI hX7.oin.swaps
                generalize all[kk] = v at *
                clear hX7 hcq hca HI HEX HEX6 HE5 HE6 hbq hba
                go_upto_region 18 with fail
                refine region_tail 12 (by kernel_rfl) (by kernel_rfl) fun W hD => ?_
                have d0 := (hD.cell _).trans n0; have d1' := (hD.cell _).trans n1; have d2' := (hD.cell _).trans n2; have d3 := (hD.cell _).trans n3
                have d4 := (hD.cell _).trans m0; have d5 := (hD.cell _).trans q0; have d6 := (hD.cell _).trans q1; have d7 := (hD.cell _).trans v0
                have HE8 := hidI (HE7.out.below (hD.below _) hbo)
                have HWI := hidI (lkWith_any out ⟨i, j, v⟩ o1 o2 d1 d2 W (HOS.out.below (hD.below _)) (by omega) hPs)
                clear n0 n1 n2 n3 m0 q0 q1 v0 HE7
                simp only [List.take_succ_cons, List.take_zero, List.drop_succ_cons, List.drop_zero]
                iterate 12 still_step
                refine wpStill_nil ?_
                clear d0 d1' d2' d3 d4 d5 d6 d7
                go_wp2_with fail
                refine HWI.out.mono ?_
                rintro e w9 ⟨pn, cn, rfl, hNs, hB9⟩
                have hE9 := HE8.out.below hB9 hbo
                have y0 := hE9.row.at 0 rfl; have y1 := hE9.row.at 1 rfl; have y2 := hE9.row.at 2 rfl; have y3 := hE9.row.at 3 rfl
                have f0 := hE9.row.frozen 0; have f1 := hE9.row.frozen 1; have f2 := hE9.row.frozen 2; have f3 := hE9.row.frozen 3
                have hWs : w4.heap.size ≤ W.heap.size := HE8.out.bel.size
                have k1 := hidI (ownsRow_setCell_below (a := ⟨w3.heap.size + 1 + 1, 3, none⟩) (ownsRow_setCell_below (a := ⟨w3.heap.size + 1 + 1, 2, none⟩) (ownsRow_setCell_below (a := ⟨w3.heap.size + 1 + 1, 1, none⟩) (ownsRow_setCell_below (a := ⟨w3.heap.size + 1 + 1, 0, none⟩) hE9.ob hbo (.int .i64 out.q)) hbo (.int .i64 out.n)) hbo (.slice o1 out.base.length d1)) hbo (.slice pn (out.swaps.length + 1) cn))
                have k2 := hidI (ownsRow_setCell_below (a := ⟨w3.heap.size + 1 + 1, 3, none⟩) (ownsRow_setCell_below (a := ⟨w3.heap.size + 1 + 1, 2, none⟩) (ownsRow_setCell_below (a := ⟨w3.heap.size + 1 + 1, 1, none⟩) (ownsRow_setCell_below (a := ⟨w3.heap.size + 1 + 1, 0, none⟩) (own_base hNs hWs) hbo (.int .i64 out.q)) hbo (.int .i64 out.n)) hbo (.slice o1 out.base.length d1)) hbo (.slice pn (out.swaps.length + 1) cn))
                have r6 := hidI (VRow.set (i := 3) (.slice pn (out.swaps.length + 1) cn) (VRow.set (i := 2) (.slice o1 out.base.length d1) (VRow.set (i := 1) (.int .i64 out.n) (VRow.set (i := 0) (.int .i64 out.q) hE9.row))))
                have hbl9 : Hid (RowKit.Below (w3.heap.size + 1 + 1) w4 ((((w9.setCell ⟨w3.heap.size + 1 + 1, 0, none⟩ (.int .i64 out.q)).setCell ⟨w3.heap.size + 1 + 1, 1, none⟩ (.int .i64 out.n)).setCell ⟨w3.heap.size + 1 + 1, 2, none⟩ (.slice o1 out.base.length d1)).setCell ⟨w3.heap.size + 1 + 1, 3, none⟩ (.slice pn (out.swaps.length + 1) cn))) := (((hE9.bel.setCell (Nat.le_refl _) _).setCell (Nat.le_refl _) _).setCell (Nat.le_refl _) _).setCell (Nat.le_refl _) _
                clear hE9 hNs HE8 HWI hWs
                go_wp2_with fail
                have hO2 := hidI (show OutY w4 _ (w3.heap.size + 1 + 1) (wthT out ⟨i, j, v⟩) from ⟨o1, pn, d1, cn, ⟨by have := r6.out; have e := insW_len out.swaps ⟨i, j, v⟩; simpa [wthT, e] using this, k1.out, by have := k2.out; have e := insW_len out.swaps ⟨i, j, v⟩; simpa [wthT, e] using this, hbl9.out⟩⟩)
                clear y0 y1 y2 y3 f0 f1 f2 f3 k1 k2 r6 hbl9
                go_roundw
                case rel => exact ⟨k + 1, wthT out ⟨i, j, v⟩, by omega, by go_num, HNX2, hO2⟩
                case measure => simp [intOf]; omega
            · have hP2 := hidI (hsame.out HR.out)
              have hO2 := hidI (show OutY w4 w6 (w3.heap.size + 1 + 1) out from ⟨o1, o2, d1, d2, HE6.out⟩)
              go_wp2_with fail
              go_roundw
              case rel => exact ⟨k + 1, out, by omega, by go_num, hP2, hO2⟩
              case measure => simp [intOf]; omega
          · obtain rfl : k = (badL T G).length := by omega
            have hltI : ¬ ((badL T G).length : Int) < ((badL T G).length : Int) := by omega
            have HPP := HP.out
            rw [HLL.out] at HPP
            have HX := hidI (HZ3.out out HPP.all)
            have hPb := HPP.base; have hPz := HPP.z2; have hPl := HPP.len
            obtain ⟨o1, o2, d1, d2, hE⟩ := HO.out
            have hbl := hidI hE.bel
            have hrr := R4.out.below hE.bel (by omega)
            have b0 := hE.row.at 0 rfl; have b1 := hE.row.at 1 rfl; have b2 := hE.row.at 2 rfl; have b3 := hE.row.at 3 rfl
            have y0 := hrr.at 0 rfl; have y1 := hrr.at 1 rfl; have y2 := hrr.at 2 rfl; have y3 := hrr.at 3 rfl
            have f0 := hrr.frozen 0; have f1 := hrr.frozen 1; have f2 := hrr.frozen 2; have f3 := hrr.frozen 3
            have hb := hidI hE.ob; have hs := hidI hE.os
            have hPP := hidI (show out.base.length ≤ 1000 ∧ out.swaps.length ≤ 1000 ∧ (∀ j (h : j < out.base.length), out.base[j].size ≤ maxLen) from ⟨by rw [hPb]; omega, by have := HLL.out; omega, by rw [hPb]; exact HIN3.out.z1⟩)
            have hPz := hidI hPz
            have hX9 : RowKit.Below w.heap.size w wr := X4.out.trans (hbl.out.mono (by omega))
            have hzw : w.heap.size + 1 + 1 < w4.heap.size := by omega
            clear HPP hPb hPl hE HP HO
            go_wp2_with fail
            have r6 := VRow.set (i := 3) (.slice o2 out.swaps.length d2) (VRow.set (i := 2) (.slice o1 out.base.length d1) (VRow.set (i := 1) (.int .i64 out.n) (VRow.set (i := 0) (.int .i64 out.q) hrr)))
            have n0 := r6.at 0 rfl; have n1 := r6.at 1 rfl; have n2 := r6.at 2 rfl; have n3 := r6.at 3 rfl
            have k1 := ownsRow_setCell_below (a := ⟨w.heap.size + 1 + 1, 3, none⟩) (ownsRow_setCell_below (a := ⟨w.heap.size + 1 + 1, 2, none⟩) (ownsRow_setCell_below (a := ⟨w.heap.size + 1 + 1, 1, none⟩) (ownsRow_setCell_below (a := ⟨w.heap.size + 1 + 1, 0, none⟩) hb.out hzw (.int .i64 out.q)) hzw (.int .i64 out.n)) hzw (.slice o1 out.base.length d1)) hzw (.slice o2 out.swaps.length d2)
            have k2 := ownsRow_setCell_below (a := ⟨w.heap.size + 1 + 1, 3, none⟩) (ownsRow_setCell_below (a := ⟨w.heap.size + 1 + 1, 2, none⟩) (ownsRow_setCell_below (a := ⟨w.heap.size + 1 + 1, 1, none⟩) (ownsRow_setCell_below (a := ⟨w.heap.size + 1 + 1, 0, none⟩) hs.out hzw (.int .i64 out.q)) hzw (.int .i64 out.n)) hzw (.slice o1 out.base.length d1)) hzw (.slice o2 out.swaps.length d2)
            obtain ⟨p7, c7, e7, hs7⟩ := own_sl k1
            cases e7
            refine bodyPost_ret (v := .tuple #[.agg #[.int .i64 out.q, .int .i64 out.n, .slice o1 out.base.length d1, .slice o2 out.swaps.length d2], .int .i64 0]) (by simp [results, Tryz.results7, go_sem, n0, n1, n2, n3]) rfl ?_
            rw [HX.out]
            exact ⟨o1, o2, d1, d2, rfl, ⟨hs7, RetWith.sg k2, own_cap k1 _ _ _ rfl, by show out.base.length ≤ _; have := hPP.out.1; omega, by show out.swaps.length ≤ _; have := hPP.out.2.1; omega, hPP.out.2.2, hPz.out⟩, set4 hX9 (by omega)⟩
  · have HR := hidI (HX0.out hk)
    have hkn : (k != 0) = true := by simpa using hk
    clear hk HFZ HX0 HX1 HX2 HX3 t1 g1
    have y0 := r1.at 0 rfl; have y1 := r1.at 1 rfl; have y2 := r1.at 2 rfl; have y3 := r1.at 3 rfl
    have f0 := r1.frozen 0; have f1 := r1.frozen 1; have f2 := r1.frozen 2; have f3 := r1.frozen 3
    go_wp2_with fail
    (have r6 := VRow.set (i := 3) (.slice none 0 0) (VRow.set (i := 2) (.slice none 0 0) (VRow.set (i := 1) (.int .i64 0) (VRow.set (i := 0) (.int .i64 0) r1))); have y0 := r6.at 0 rfl; have y1 := r6.at 1 rfl; have y2 := r6.at 2 rfl; have y3 := r6.at 3 rfl; exact bodyPost_ret (v := .tuple #[.agg #[.int .i64 0, .int .i64 0, .slice none 0 0, .slice none 0 0], .int .i64 k]) (by simp [results, Tryz.results7, go_sem, y0, y1, y2, y3]) rfl (RetExt.zero ⟨HR.out, set4 x1 (by omega)⟩))
end Go.Proofs.YtjpilmedlecdhaaGreat
namespace Go.Proofs.YtjpilmedlecdhaaGreat
open Go.RowKit Go.Sort Go.Shelf Go.Lib

set_option maxRecDepth 100000 in
set_option maxHeartbeats 2000000 in
theorem rAll07_any (q n : Nat) (w : World) (h2 : 1 ≤ q) (h16 : q ≤ 16) (hn : n ≤ 65536) :
    Calls Tryz.prog 32 #[.int .i64 q, .int .i64 n] w (RetAll (allF q n) w) := by
  obtain ⟨i0, hi0, hz0, hz1, hzb⟩ := info_parts infoStrA
  have HOV := hidI (fun (m : Nat) (l : List ByteArray) => @allF_over q m l)
  have HNX := hidI (fun (m : Nat) (l : List ByteArray) => @allF_next q m l)
  have HOK := hidI (allF_ok q h16)
  go_enter Tryz.func32, Tryz.ntmps32
  go_wp2_with fail
  go_loopw [6, 7] (fun v6 iv W => ∃ (k : Nat) (L : List ByteArray) (p : Option Addr) (c : Nat), k ≤ n ∧ iv = .int .i64 k ∧ v6 = .slice p L.length c ∧ Hid (allF q k = some L) ∧ Sl W Value.string p L ∧ RowKit.Below w.heap.size w W) (fun _ iv _ => n - (intOf iv).toNat)
  case atStart =>
    refine ⟨0, [⟨#[]⟩], _, _, by omega, rfl, rfl, rfl, ?_, (RowKit.Below.refl _ _).alloc (Nat.le_refl _) _⟩
    exact Sl.of_vrow (t := 9) (VRow.new w _ _)
  case round =>
    obtain ⟨k, L, p, c, hk, rfl, rfl, hL, hs, hB⟩ := hrel
    obtain ⟨W, rfl⟩ : ∃ W : World, W = wr := ⟨_, rfl⟩
    have hL16 := (HOK.out k L hL.out).1
    have HSZ := hidI (HOK.out k L hL.out).2
    by_cases hlt : k < n
    · have hltI : (k : Int) < (n : Int) := by omega
      obtain ⟨M, hM⟩ : ∃ M, M = L.length * q := ⟨_, rfl⟩
      have hwr : IntKind.i64.wrap ((L.length : Int) * (q : Int)) = (M : Int) := by
        rw [hM, Int.natCast_mul]
        refine IntWalk.i64_in _ ?_
        have : L.length * q ≤ 4096 * 16 := Nat.mul_le_mul hL16 h16
        have h2 : ((L.length * q : Nat) : Int) ≤ 4096 * 16 := by omega
        rw [Int.natCast_mul] at h2
        have h3 : (0 : Int) ≤ ((L.length * q : Nat) : Int) := by omega
        rw [Int.natCast_mul] at h3
        omega
      by_cases hov : 4096 < M
      · have hovI : (4096 : Int) < (M : Int) := by omega
        have HR := hidI (HOV.out k L hL.out (by omega) n hlt)
        clear hM
        go_wp2
        go_ret2
        exact RetAll.over HR.out hB
      · have hovI : ¬ (4096 : Int) < (M : Int) := by omega
        have HR := hidI (HNX.out k L hL.out (by omega))
        have hM4 : M ≤ 4096 := by omega
        have HM := hidI hM
        have HS := hidI hs
        have HB := hidI hB
        have hown3 : (W.alloc (.cells #[] 9)).ownsRow W.heap.size 9 1 (.slice (some ⟨W.heap.size, 0, none⟩) 0 0) 0 [] := ⟨rfl, .inr ⟨W.heap.size, _, _, rfl, Nat.le_refl _, heap_alloc_new W _, Nat.le_refl _, by simp, rfl, rfl⟩⟩
        have hB3 : RowKit.Below W.heap.size W (W.alloc (.cells #[] 9)) := (RowKit.Below.refl _ _).alloc (Nat.le_refl _) _
        clear hM hov hs hB
        go_wp2_with fail
        clear hovI hwr
        go_loopw [8, 9] (fun v7 iv X => ∃ (i m : Nat), i ≤ L.length ∧ iv = .int .i64 i ∧ X.ownsRow W.heap.size 9 1 v7 m ((extW q (L.take i)).map Value.string) ∧ RowKit.Below W.heap.size W X) (fun _ iv _ => L.length - (intOf iv).toNat)
        case atStart => exact ⟨0, 0, by omega, rfl, hown3, hB3⟩
        case round =>
          clear hown3 hB3
          obtain ⟨i, m, hi, rfl, hown, hB⟩ := hrel
          by_cases hlt2 : i < L.length
          · have hltJ : (i : Int) < (L.length : Int) := by omega
            have hsz := (HSZ.out _ (List.getElem_mem hlt2)).1
            have HES := hidI (extW_succ (q := q) hlt2)
            obtain ⟨b1, o1, rfl, hb1, hc1⟩ := (HS.out.below hB).get i hlt2
            have e1 := hc1 i hlt2
            have hbB : b1 < W.heap.size := by
              obtain ⟨b', o', hp', hb', _⟩ := HS.out.get i hlt2
              cases hp'; exact hb'
            clear hc1 hb1
            generalize L[i] = x at *
            have HM1 := hidI hown.1
            obtain ⟨X, rfl⟩ : ∃ X : World, X = wr := ⟨_, rfl⟩
            have HE1 := hidI (show W.cell? ⟨b1, o1 + i, none⟩ = some (.string x) from (hB.cell (p := ⟨b1, o1 + i, none⟩) hbB).symm.trans e1)
            go_wp2_with fail
            clear e1
            go_loopw [8, 10] (fun v7 iv Z => ∃ (j m : Nat), j ≤ q ∧ iv = .int .i64 j ∧ Z.ownsRow W.heap.size 9 1 v7 m ((extW q (L.take i) ++ rowW x j).map Value.string) ∧ RowKit.Below W.heap.size W Z) (fun _ iv _ => q - (intOf iv).toNat)
            case atStart => exact ⟨0, m, by omega, rfl, by rw [show rowW x 0 = [] from rfl, List.append_nil]; exact hown, hB⟩
            case round =>
              clear hown hB
              obtain ⟨j, m2, hj, rfl, hown, hB⟩ := hrel
              by_cases hlt3 : j < q
              · have hltK : (j : Int) < (q : Int) := by omega
                have hls := letb1_size j (by omega)
                have HRS := hidI (rowW_succ x j)
                have hrl := rowW_len x j
                have hel := extW_len q (L.take i)
                have hlw := hown.lt
                have hz2 := hB.size
                have hM := HM.out
                have hile : (L.take i).length * q + q ≤ M := by
                  have h1 : (L.take i).length = i := by rw [List.length_take]; omega
                  have h2 : (i + 1) * q ≤ L.length * q := Nat.mul_le_mul (by omega) (Nat.le_refl _)
                  rw [h1, hM]; rw [Nat.succ_mul] at h2; omega
                have hm2 : m2 ≤ 4096 := by
                  have := hown.1
                  rw [List.length_map, List.length_append, hel, hrl] at this
                  omega
                have e1 := (hB.cell (p := ⟨b1, o1 + i, none⟩) hbB).trans HE1.out
                clear hM hrl hel hile
                have hmx : x.size + (letb1 j).size ≤ maxLen := by unfold maxLen; omega
                go_upto_region 20 with fail
                obtain ⟨q7, c7, rfl⟩ := own_form hown
                have KS := hidI (fun (V : World) (hV : RowKit.Below W.heap.size W V) => show V.cell? ⟨b1, o1 + i, none⟩ = some (.string x) ∧ RowKit.Below W.heap.size W V from ⟨(hV.cell (p := ⟨b1, o1 + i, none⟩) hbB).trans HE1.out, hV⟩)
                have z1 : IntKind.i64.wrap ((j : Int) + 1) = (j : Int) + 1 := by rw [IntKind.wrap_i64]; omega
                have z2 : (0 : Int) ≤ (j : Int) + 1 := by omega
                have z3 : (j : Int) + 1 ≤ 16 := by omega
                have z4 : (j : Int) ≤ (j : Int) + 1 := by omega
                have z5 : ((j : Int) + 1).toNat = j + 1 := by omega
                have hmy : ¬ (9223372036854775807 < k + (min (j + 1) 16 - j)) := by omega
                have hiI : (i : Int) < (L.length : Int) := by omega
                go_region_held3 (fun V => V.cell? ⟨b1, o1 + i, none⟩ = some (.string x) ∧ RowKit.Below W.heap.size W V)
                  (first | (go_split_ands; exact KS.out _ (by first | assumption | exact below_drewN hB 1 | exact RowKit.Below.grown (by assumption) hgrow (RowKit.Below.size (by assumption)) (fun j e => (hlw j e).1) | exact RowKit.Below.alloc (by assumption) (RowKit.Below.size (by assumption)) _)) | fail)
                  (first
                    | ((refine step_append_lies _ (by rfl) _ _ _ (by rfl) W.heap.size 9 i0 _ 1 16 Tryz.underlying22 hi0 hz0 hz1 hzb rfl (by omega) (.slice q7 m2 c7) m2 _ (by rfl) ((hown.dr ⟨1, rfl⟩).alloc (.cells #[.string (x ++ letb1 j)] 9))
                              ⟨wr.heap.size, 0, none⟩ 1 1 [.string (x ++ letb1 j)] (by rfl) (by rfl) (World.news_of_block (cs := #[.string (x ++ letb1 j)]) (t := 9) (fr := (0, 0)) (heap_alloc_new wr.drew _)) (by simp [Value.oneCell'])
                              (by omega) (by simp [maxLen]; omega) (by omega) (by simp; omega) (wr.heap.size + 1) (by simp) ?_); intro gg cap w5 hown' hgrow hat hlt5)
                    | fail)
                have hB4 : RowKit.Below W.heap.size W w5 := by
                  have hBd : RowKit.Below W.heap.size W (wr.drew.alloc (.cells #[.string (x ++ letb1 j)] 9)) := (below_drewN hB 1).alloc hz2 _
                  exact hBd.grown hgrow (by simp; omega) (fun j e => (hlw j e).1)
                go_wp2_with fail
                go_roundw
                case rel => exact ⟨j + 1, m2 + 1, by omega, by go_num, by rw [HRS.out, ← List.append_assoc, List.map_append]; exact hown', hB4⟩
                case measure => simp [intOf]; omega
              · obtain rfl : j = q := by omega
                have hltK : ¬ (j : Int) < (j : Int) := by omega
                go_wp2
                go_roundw
                case rel => exact ⟨i + 1, m2, by omega, by go_num, by rw [HES.out]; exact hown, hB⟩
                case measure => simp [intOf]; omega
          · obtain rfl : i = L.length := by omega
            have hltJ : ¬ (L.length : Int) < (L.length : Int) := by omega
            rw [List.take_length] at hown
            obtain ⟨p7, c7, rfl, hs7⟩ := own_sl hown
            have HO := hidI (HB.out.trans (hB.mono HB.out.size))
            have hs7 := hidI hs7
            clear hown hB
            generalize extW q L = L7 at *
            go_wp2
            go_roundw
            case rel => exact ⟨k + 1, L7, p7, c7, by omega, by go_num, rfl, HR.out, hs7.out, HO.out⟩
            case measure => simp [intOf]; omega
    · obtain rfl : k = n := by omega
      have hltI : ¬ (k : Int) < (k : Int) := by omega
      have HR := hidI hL.out
      go_wp2
      go_ret2
      exact RetAll.words HR.out hs hB
end Go.Proofs.YtjpilmedlecdhaaGreat
namespace Go.Proofs.YtjpilmedlecdhaaGreat
open Go.RowKit Go.Sort Go.Shelf Go.Lib

/-- What stands of the new list. -/
def RwI (l : List Sw) (s : Sw) (k : Nat) (b : Bool) (acc : List Sw) : Prop :=
  (b = true ∧ (∃ y ∈ l.take k, lexB s y = true) ∧ acc = rwS s (l.take k)) ∨ (b = false ∧ (∀ y ∈ l.take k, lexB s y = false) ∧ acc = l.take k)
theorem RwI.start (l : List Sw) (s : Sw) : RwI l s 0 false [] := .inr ⟨rfl, by simp, by simp⟩
theorem RwI.mid {l : List Sw} {s : Sw} {k : Nat} {acc : List Sw} (h : RwI l s k false acc) (hk : k < l.length) (hs : lexB s l[k] = true) : RwI l s (k + 1) true (acc ++ [s] ++ [l[k]]) := by
  rcases h with ⟨h, _⟩ | ⟨_, h1, h2⟩
  · cases h
  · refine .inl ⟨rfl, ⟨l[k], by rw [List.take_succ_eq_append_getElem hk]; exact List.mem_append_right _ (List.mem_singleton.mpr rfl), hs⟩, ?_⟩
    rw [List.take_succ_eq_append_getElem hk, rwS_first h1 hs, h2]; simp
theorem RwI.on {l : List Sw} {s : Sw} {k : Nat} {acc : List Sw} (h : RwI l s k false acc) (hk : k < l.length) (hs : lexB s l[k] = false) : RwI l s (k + 1) false (acc ++ [l[k]]) := by
  rcases h with ⟨h, _⟩ | ⟨_, h1, h2⟩
  · cases h
  · refine .inr ⟨rfl, fun y hy => ?_, ?_⟩
    · rw [List.take_succ_eq_append_getElem hk, List.mem_append, List.mem_singleton] at hy
      rcases hy with hy | rfl
      · exact h1 y hy
      · exact hs
    · rw [List.take_succ_eq_append_getElem hk, h2]
theorem RwI.off {l : List Sw} {s : Sw} {k : Nat} {acc : List Sw} (h : RwI l s k true acc) (hk : k < l.length) : RwI l s (k + 1) true (acc ++ [l[k]]) := by
  rcases h with ⟨_, ⟨y, hy, h1⟩, h2⟩ | ⟨h, _⟩
  · refine .inl ⟨rfl, ⟨y, by rw [List.take_succ_eq_append_getElem hk]; exact List.mem_append_left _ hy, h1⟩, ?_⟩
    rw [List.take_succ_eq_append_getElem hk, rwS_more ⟨y, hy, h1⟩, h2]
  · cases h
theorem RwI.yes {l : List Sw} {s : Sw} {acc : List Sw} (h : RwI l s l.length true acc) : acc = rwS s l := by
  rcases h with ⟨_, _, h2⟩ | ⟨h, _⟩
  · rw [List.take_length] at h2; exact h2
  · cases h
theorem RwI.no {l : List Sw} {s : Sw} {acc : List Sw} (h : RwI l s l.length false acc) : acc ++ [s] = rwS s l := by
  rcases h with ⟨h, _⟩ | ⟨_, h1, h2⟩
  · cases h
  · rw [List.take_length] at h1 h2; rw [rwS_none h1, h2]
theorem rwS_len (s : Sw) : ∀ l : List Sw, (rwS s l).length = l.length + 1
  | [] => rfl
  | y :: r => by
    unfold rwS; split
    · rfl
    · rw [List.length_cons, rwS_len s r, List.length_cons]
theorem RwI.len {l : List Sw} {s : Sw} {k : Nat} {b : Bool} {acc : List Sw} (h : RwI l s k b acc) : acc.length ≤ l.length + 1 := by
  rcases h with ⟨_, _, h2⟩ | ⟨_, _, h2⟩
  · rw [h2, rwS_len, List.length_take]; omega
  · rw [h2, List.length_take]; omega
theorem catS_snoc (l : List Sw) (s : Sw) : catS (l ++ [s]) = catS l ++ swE s := by rw [catS_app]; simp [catS]
theorem one_sw (w : World) (s : Sw) : ∀ (j : Nat) (u : Value), (swE s)[j]? = some u → (w.alloc (.cells #[.int .i64 s.i, .int .i64 s.j, .string s.wd] 53)).cell? ((⟨w.heap.size, 0, none⟩ : Addr).add j) = some u := by
  intro j u hu
  rw [Addr.add_lit, Nat.zero_add]
  exact ((VRow.new w 53 [.int .i64 s.i, .int .i64 s.j, .string s.wd]).cell j).trans hu
theorem lexB_val (a b : Sw) : lexB a b = (decide (a.i < b.i) || ((a.i == b.i) && decide (a.j < b.j))) := by
  unfold lexB
  rw [Bool.eq_iff_iff]; simp

/-- A table with a further swap, in the reference's way. -/
def RetRW (T : Tb) (s : Sw) (p1 : Option Addr) (c1 : Nat) (w : World) (e : Ending) (w' : World) : Prop :=
  ∃ p2 c2, e = .returned (.agg #[.int .i64 T.q, .int .i64 T.n, .slice p1 T.base.length c1, .slice p2 (T.swaps.length + 1) c2]) ∧ w'.ownsRow w.heap.size 53 3 (.slice p2 (T.swaps.length + 1) c2) (T.swaps.length + 1) (catS (rwS s T.swaps)) ∧ RowKit.Below w.heap.size w w'

set_option maxRecDepth 100000 in
set_option maxHeartbeats 4000000 in
theorem rlkWith_any (T : Tb) (s : Sw) (p1 p2 : Option Addr) (c1 c2 : Nat) (w : World) (hin : Sg 3 w swE p2 T.swaps) (hl : T.swaps.length ≤ 1000) :
    Calls Tryz.prog 35 #[(.agg #[.int .i64 T.q, .int .i64 T.n, .slice p1 T.base.length c1, .slice p2 T.swaps.length c2]), (.agg #[.int .i64 s.i, .int .i64 s.j, .string s.wd])] w (RetRW T s p1 c1 w) := by
  obtain ⟨i0, hi0, hz0, hz1, hz2⟩ := info_parts infoSw
  obtain ⟨w0, hw0⟩ : ∃ w0, w0 = ((w.alloc (.cells #[.int .i64 T.q, .int .i64 T.n, .slice p1 T.base.length c1, .slice p2 T.swaps.length c2] 25)).alloc (.cells #[.int .i64 s.i, .int .i64 s.j, .string s.wd] 53)).alloc (.cells #[.int .i64 0, .int .i64 0, .slice none 0 0, .slice none 0 0] 25) := ⟨_, rfl⟩
  have b0 : VRow w0 w.heap.size 25 [.int .i64 T.q, .int .i64 T.n, .slice p1 T.base.length c1, .slice p2 T.swaps.length c2] := by subst hw0; exact ((VRow.new w _ _).alloc _).alloc _
  have b1 : VRow w0 (w.heap.size + 1) 53 [.int .i64 s.i, .int .i64 s.j, .string s.wd] := by subst hw0; exact (VRow.new1 w _ _ _).alloc _
  have b2 : VRow w0 (w.heap.size + 1 + 1) 25 [.int .i64 0, .int .i64 0, .slice none 0 0, .slice none 0 0] := by subst hw0; exact VRow.new2 w _ _ _ _
  have hB0 : RowKit.Below w.heap.size w w0 := by subst hw0; exact (((RowKit.Below.refl _ _).alloc (Nat.le_refl _) _).alloc (by simp) _).alloc (by simp; omega) _
  have hown0 : (w0.alloc (.cells #[] 53)).ownsRow w0.heap.size 53 3 (.slice (some ⟨w0.heap.size, 0, none⟩) 0 0) 0 (catS []) := ⟨rfl, .inr ⟨w0.heap.size, _, _, rfl, Nat.le_refl _, heap_alloc_new w0 _, Nat.le_refl _, by simp, rfl, rfl⟩⟩
  have hBn : RowKit.Below w0.heap.size w0 (w0.alloc (.cells #[] 53)) := (RowKit.Below.refl _ _).alloc (Nat.le_refl _) _
  have HIN := hidI (hin.below hB0)
  have HB0 := hidI b0; have HB1 := hidI b1; have HB2 := hidI b2; have HX0 := hidI hB0
  have HST := hidI (RwI.start T.swaps s)
  clear hin b0 b1 b2 hB0
  go_enter Tryz.func35, Tryz.ntmps35
  go_upto_region 1 with fail
  rw [← hw0]
  clear hw0
  go_wp2_with fail
  go_loopw [5, 6, 7] (fun v5 v6 iv W => ∃ (k : Nat) (b : Bool) (acc : List Sw) (m : Nat), k ≤ T.swaps.length ∧ iv = .int .i64 k ∧ v6 = .bool b ∧ Hid (RwI T.swaps s k b acc) ∧ Hid (m = acc.length) ∧ W.ownsRow w0.heap.size 53 3 v5 m (catS acc) ∧ RowKit.Below w0.heap.size w0 W) (fun _ _ iv _ => T.swaps.length - (intOf iv).toNat)
  case atStart => exact ⟨0, false, [], 0, by omega, rfl, rfl, HST, rfl, hown0, hBn⟩
  case round =>
    clear hown0 hBn HST
    obtain ⟨k, b, acc, m, hk, rfl, rfl, hR, hm, hown, hB⟩ := hrel
    have hml : m ≤ 1001 := by have := hR.out.len; rw [hm.out]; omega
    obtain ⟨q5, c5, rfl⟩ := own_form hown
    have tb := HB0.out.below hB HB0.out.lt
    have t3 := tb.at 3 rfl
    by_cases hlt : k < T.swaps.length
    · have hltI : (k : Int) < (T.swaps.length : Int) := by omega
      obtain ⟨b1, oo1, rfl, hb1, e0, e1, e2⟩ := (HIN.out.below hB).get3 k hlt rfl
      have HMID := hidI (fun (h : b = false) (hs : lexB s T.swaps[k] = true) => (show RwI T.swaps s k false acc by rw [← h]; exact hR.out).mid hlt hs)
      have HON := hidI (fun (h : b = false) (hs : lexB s T.swaps[k] = false) => (show RwI T.swaps s k false acc by rw [← h]; exact hR.out).on hlt hs)
      have HOFF := hidI (fun (h : b = true) => (show RwI T.swaps s k true acc by rw [← h]; exact hR.out).off hlt)
      have HLV := hidI (lexB_val s T.swaps[k])
      generalize T.swaps[k] = y at *
      go_upto_region 7 with fail
      obtain ⟨V, hV⟩ : ∃ V, V = wr.alloc (.cells #[.int .i64 y.i, .int .i64 y.j, .string y.wd] 53) := ⟨_, rfl⟩
      have HNV := hidI (show VRow V wr.heap.size 53 (swE y) by subst hV; exact VRow.new wr _ _)
      have HB := hidI (show RowKit.Below w0.heap.size w0 V by subst hV; exact hB.alloc hB.size _)
      have HOV := hidI (show V.ownsRow w0.heap.size 53 3 (.slice q5 m c5) m (catS acc) by subst hV; exact hown.alloc _)
      have HLV2 := hidI (show V.heap.size = wr.heap.size + 1 by subst hV; simp)
      have HYF := hidI (show ∀ b, (Value.slice q5 m c5).ownBlock = some b → b < wr.heap.size from fun b e => (hown.lt b e).2)
      rw [← hV]
      clear hV
      have ts := HB1.out.below HB.out HB1.out.lt
      have s0 := ts.at 0 rfl; have s1 := ts.at 1 rfl; have s2 := ts.at 2 rfl
      have n0 := HNV.out.at 0 rfl; have n1 := HNV.out.at 1 rfl; have n2 := HNV.out.at 2 rfl
      clear e0 e1 e2 hb1 hown hB t3 tb ts
      have hcase : b = true ∨ (b = false ∧ Hid (lexB s y = true) ∧ s.i < y.i) ∨ (b = false ∧ Hid (lexB s y = true) ∧ ¬ s.i < y.i ∧ s.i = y.i ∧ s.j < y.j) ∨ (b = false ∧ Hid (lexB s y = false) ∧ ¬ s.i < y.i ∧ s.i ≠ y.i) ∨ (b = false ∧ Hid (lexB s y = false) ∧ ¬ s.i < y.i ∧ s.i = y.i ∧ ¬ s.j < y.j) := by
        have h := HLV.out
        cases b
        · by_cases h1 : s.i < y.i
          · exact .inr (.inl ⟨rfl, by rw [Hid, h]; simp [h1], h1⟩)
          · by_cases h2 : s.i = y.i
            · by_cases h3 : s.j < y.j
              · exact .inr (.inr (.inl ⟨rfl, by rw [Hid, h]; simp [h2, h3], h1, h2, h3⟩))
              · exact .inr (.inr (.inr (.inr ⟨rfl, by rw [Hid, h]; simp [h2, h3], h1, h2, h3⟩)))
            · exact .inr (.inr (.inr (.inl ⟨rfl, by rw [Hid, h]; simp [h1, h2], h1, h2⟩)))
        · exact .inl rfl
      clear HLV
      rcases hcase with rfl | ⟨rfl, hx, q1⟩ | ⟨rfl, hx, q1, q2, q3⟩ | ⟨rfl, hx, q1, q2⟩ | ⟨rfl, hx, q1, q2, q3⟩
      · go_wp2_with (at_builtin; refine wpList_append_own _ rfl _ _ 23 rfl w0.heap.size 53 i0 _ 3 32 Tryz.underlying23 hi0 hz0 hz1 hz2 rfl (by decide) _ _ _ rfl (HOV.out.alloc (.cells #[.int .i64 y.i, .int .i64 y.j, .string y.wd] 53)) ⟨V.heap.size, 0, none⟩ 1 1 (swE y) rfl rfl (one_sw V y) (swE_one _) (by simp [maxLen]; omega) (by omega) (by have := HB.out.size; simp only [World.size_alloc]; omega) ?_; intro v' w5 hown' hgrow _; have hB5 := (HB.out.alloc HB.out.size (.cells #[.int .i64 y.i, .int .i64 y.j, .string y.wd] 53)).grown hgrow (by have := HB.out.size; simp only [World.size_alloc]; omega) (fun j e => (HOV.out.lt j e).1))
        go_roundw
        case rel => exact ⟨k + 1, true, acc ++ [y], m + 1, by omega, by go_num, rfl, hidI (HOFF.out rfl), hidI (by rw [hm.out]; simp), by rw [catS_snoc]; exact hown', hB5⟩
        case measure => simp [intOf]; omega
      · go_upto_region 10 with (at_builtin; refine wpList_append_own _ rfl _ _ 23 rfl w0.heap.size 53 i0 _ 3 32 Tryz.underlying23 hi0 hz0 hz1 hz2 rfl (by decide) _ _ _ rfl (HOV.out.alloc (.cells #[.int .i64 s.i, .int .i64 s.j, .string s.wd] 53)) ⟨V.heap.size, 0, none⟩ 1 1 (swE s) rfl rfl (one_sw V s) (swE_one _) (by simp [maxLen]; omega) (by omega) (by have := HB.out.size; simp only [World.size_alloc]; omega) ?_; intro v' w4 hown' hgrow _; obtain ⟨q4, c4, rfl⟩ := own_form hown'; have r4 := (HNV.out.alloc (.cells #[.int .i64 s.i, .int .i64 s.j, .string s.wd] 53)).grown hgrow (fun e => by have := HYF.out _ e.symm; omega); have HB4 := hidI ((HB.out.alloc HB.out.size (.cells #[.int .i64 s.i, .int .i64 s.j, .string s.wd] 53)).grown hgrow (by have := HB.out.size; simp only [World.size_alloc]; omega) (fun j e => (HOV.out.lt j e).1)); have HO4 := hidI (show w4.ownsRow w0.heap.size 53 3 (.slice q4 (m + 1) c4) (m + 1) (catS (acc ++ [s])) by rw [catS_snoc]; exact hown'); clear hown' hgrow n0 n1 n2 s0 s1 s2; have n0 := r4.at 0 rfl; have n1 := r4.at 1 rfl; have n2 := r4.at 2 rfl; clear r4)
        go_wp2_with (at_builtin; refine wpList_append_own _ rfl _ _ 23 rfl w0.heap.size 53 i0 _ 3 32 Tryz.underlying23 hi0 hz0 hz1 hz2 rfl (by decide) _ _ _ rfl (HO4.out.alloc (.cells #[.int .i64 y.i, .int .i64 y.j, .string y.wd] 53)) ⟨w4.heap.size, 0, none⟩ 1 1 (swE y) rfl rfl (one_sw w4 y) (swE_one _) (by simp [maxLen]; omega) (by omega) (by have := HB4.out.size; simp only [World.size_alloc]; omega) ?_; intro v' w5 hown' hgrow _; have hB5 := (HB4.out.alloc HB4.out.size (.cells #[.int .i64 y.i, .int .i64 y.j, .string y.wd] 53)).grown hgrow (by have := HB4.out.size; simp only [World.size_alloc]; omega) (fun j e => (HO4.out.lt j e).1))
        go_roundw
        case rel => exact ⟨k + 1, true, acc ++ [s] ++ [y], m + 1 + 1, by omega, by go_num, rfl, hidI (HMID.out rfl hx.out), hidI (by rw [hm.out]; simp), by rw [catS_snoc]; exact hown', hB5⟩
        case measure => simp [intOf]; omega
      · obtain ⟨yi, yj, yw⟩ := y
        simp only at q2
        subst q2
        dsimp only [swE] at n0 n1 n2 q1 q3 HNV ⊢
        go_upto_region 10 with (at_builtin; refine wpList_append_own _ rfl _ _ 23 rfl w0.heap.size 53 i0 _ 3 32 Tryz.underlying23 hi0 hz0 hz1 hz2 rfl (by decide) _ _ _ rfl (HOV.out.alloc (.cells #[.int .i64 s.i, .int .i64 s.j, .string s.wd] 53)) ⟨V.heap.size, 0, none⟩ 1 1 (swE s) rfl rfl (one_sw V s) (swE_one _) (by simp [maxLen]; omega) (by omega) (by have := HB.out.size; simp only [World.size_alloc]; omega) ?_; intro v' w4 hown' hgrow _; obtain ⟨q4, c4, rfl⟩ := own_form hown'; have r4 := (HNV.out.alloc (.cells #[.int .i64 s.i, .int .i64 s.j, .string s.wd] 53)).grown hgrow (fun e => by have := HYF.out _ e.symm; omega); have HB4 := hidI ((HB.out.alloc HB.out.size (.cells #[.int .i64 s.i, .int .i64 s.j, .string s.wd] 53)).grown hgrow (by have := HB.out.size; simp only [World.size_alloc]; omega) (fun j e => (HOV.out.lt j e).1)); have HO4 := hidI (show w4.ownsRow w0.heap.size 53 3 (.slice q4 (m + 1) c4) (m + 1) (catS (acc ++ [s])) by rw [catS_snoc]; exact hown'); clear hown' hgrow n0 n1 n2 s0 s1 s2; have n0 := r4.at 0 rfl; have n1 := r4.at 1 rfl; have n2 := r4.at 2 rfl; clear r4)
        go_wp2_with (at_builtin; refine wpList_append_own _ rfl _ _ 23 rfl w0.heap.size 53 i0 _ 3 32 Tryz.underlying23 hi0 hz0 hz1 hz2 rfl (by decide) _ _ _ rfl (HO4.out.alloc (.cells #[.int .i64 s.i, .int .i64 yj, .string yw] 53)) ⟨w4.heap.size, 0, none⟩ 1 1 (swE ⟨s.i, yj, yw⟩) rfl rfl (one_sw w4 ⟨s.i, yj, yw⟩) (swE_one _) (by simp [maxLen]; omega) (by omega) (by have := HB4.out.size; simp only [World.size_alloc]; omega) ?_; intro v' w5 hown' hgrow _; have hB5 := (HB4.out.alloc HB4.out.size (.cells #[.int .i64 s.i, .int .i64 yj, .string yw] 53)).grown hgrow (by have := HB4.out.size; simp only [World.size_alloc]; omega) (fun j e => (HO4.out.lt j e).1))
        go_roundw
        case rel => exact ⟨k + 1, true, acc ++ [s] ++ [⟨s.i, yj, yw⟩], m + 1 + 1, by omega, by go_num, rfl, hidI (HMID.out rfl hx.out), hidI (by rw [hm.out]; simp), by rw [catS_snoc]; exact hown', hB5⟩
        case measure => simp [intOf]; omega
      · go_wp2_with (at_builtin; refine wpList_append_own _ rfl _ _ 23 rfl w0.heap.size 53 i0 _ 3 32 Tryz.underlying23 hi0 hz0 hz1 hz2 rfl (by decide) _ _ _ rfl (HOV.out.alloc (.cells #[.int .i64 y.i, .int .i64 y.j, .string y.wd] 53)) ⟨V.heap.size, 0, none⟩ 1 1 (swE y) rfl rfl (one_sw V y) (swE_one _) (by simp [maxLen]; omega) (by omega) (by have := HB.out.size; simp only [World.size_alloc]; omega) ?_; intro v' w5 hown' hgrow _; have hB5 := (HB.out.alloc HB.out.size (.cells #[.int .i64 y.i, .int .i64 y.j, .string y.wd] 53)).grown hgrow (by have := HB.out.size; simp only [World.size_alloc]; omega) (fun j e => (HOV.out.lt j e).1))
        go_roundw
        case rel => exact ⟨k + 1, false, acc ++ [y], m + 1, by omega, by go_num, rfl, hidI (HON.out rfl hx.out), hidI (by rw [hm.out]; simp), by rw [catS_snoc]; exact hown', hB5⟩
        case measure => simp [intOf]; omega
      · obtain ⟨yi, yj, yw⟩ := y
        simp only at q2
        subst q2
        dsimp only [swE] at n0 n1 n2 q1 q3 HNV ⊢
        go_wp2_with (at_builtin; refine wpList_append_own _ rfl _ _ 23 rfl w0.heap.size 53 i0 _ 3 32 Tryz.underlying23 hi0 hz0 hz1 hz2 rfl (by decide) _ _ _ rfl (HOV.out.alloc (.cells #[.int .i64 s.i, .int .i64 yj, .string yw] 53)) ⟨V.heap.size, 0, none⟩ 1 1 (swE ⟨s.i, yj, yw⟩) rfl rfl (one_sw V ⟨s.i, yj, yw⟩) (swE_one _) (by simp [maxLen]; omega) (by omega) (by have := HB.out.size; simp only [World.size_alloc]; omega) ?_; intro v' w5 hown' hgrow _; have hB5 := (HB.out.alloc HB.out.size (.cells #[.int .i64 s.i, .int .i64 yj, .string yw] 53)).grown hgrow (by have := HB.out.size; simp only [World.size_alloc]; omega) (fun j e => (HOV.out.lt j e).1))
        go_roundw
        case rel => exact ⟨k + 1, false, acc ++ [⟨s.i, yj, yw⟩], m + 1, by omega, by go_num, rfl, hidI (HON.out rfl hx.out), hidI (by rw [hm.out]; simp), by rw [catS_snoc]; exact hown', hB5⟩
        case measure => simp [intOf]; omega
    · obtain rfl : k = T.swaps.length := by omega
      have hltI : ¬ (T.swaps.length : Int) < (T.swaps.length : Int) := by omega
      have HB := hidI hB
      have ts := HB1.out.below hB HB1.out.lt
      have s0 := ts.at 0 rfl; have s1 := ts.at 1 rfl; have s2 := ts.at 2 rfl
      cases b with
      | true =>
        have hacc := hR.out.yes
        subst hacc
        obtain rfl : m = T.swaps.length + 1 := by rw [hm.out, rwS_len]
        have HOW := hidI hown
        clear hown hB hR hm hml s0 s1 s2
        go_upto_region 13 with fail
        have va := HB0.out.below HB.out HB0.out.lt
        have a0 := va.at 0 rfl; have a1 := va.at 1 rfl; have a2 := va.at 2 rfl
        have vc := HB2.out.below HB.out HB2.out.lt
        have k0 := vc.at 0 rfl; have k1 := vc.at 1 rfl; have k2 := vc.at 2 rfl; have k3 := vc.at 3 rfl
        have y0 := vc.frozen 0; have y1 := vc.frozen 1; have y2 := vc.frozen 2; have y3 := vc.frozen 3
        have g2 := HB2.out.lt
        go_wp2_with fail
        have r6 := VRow.set (i := 3) (.slice q5 (T.swaps.length + 1) c5) (VRow.set (i := 2) (.slice p1 T.base.length c1) (VRow.set (i := 1) (.int .i64 T.n) (VRow.set (i := 0) (.int .i64 T.q) vc)))
        have n0 := r6.at 0 rfl; have n1 := r6.at 1 rfl; have n2 := r6.at 2 rfl; have n3 := r6.at 3 rfl
        have o6 := ownsRow_setCell_below (a := ⟨w.heap.size + 1 + 1, 3, none⟩) (ownsRow_setCell_below (a := ⟨w.heap.size + 1 + 1, 2, none⟩) (ownsRow_setCell_below (a := ⟨w.heap.size + 1 + 1, 1, none⟩) (ownsRow_setCell_below (a := ⟨w.heap.size + 1 + 1, 0, none⟩) HOW.out (by simp; omega) (.int .i64 T.q)) (by simp; omega) (.int .i64 T.n)) (by simp; omega) (.slice p1 T.base.length c1)) (by simp; omega) (.slice q5 (T.swaps.length + 1) c5)
        have x6 : RowKit.Below w.heap.size w ((((wr.setCell ⟨w.heap.size + 1 + 1, 0, none⟩ (.int .i64 T.q)).setCell ⟨w.heap.size + 1 + 1, 1, none⟩ (.int .i64 T.n)).setCell ⟨w.heap.size + 1 + 1, 2, none⟩ (.slice p1 T.base.length c1)).setCell ⟨w.heap.size + 1 + 1, 3, none⟩ (.slice q5 (T.swaps.length + 1) c5)) := ((((HX0.out.trans (HB.out.mono HX0.out.size)).setCell (by show w.heap.size ≤ w.heap.size + 1 + 1; omega) _).setCell (by show w.heap.size ≤ w.heap.size + 1 + 1; omega) _).setCell (by show w.heap.size ≤ w.heap.size + 1 + 1; omega) _).setCell (by show w.heap.size ≤ w.heap.size + 1 + 1; omega) _
        refine bodyPost_ret (v := .agg #[.int .i64 T.q, .int .i64 T.n, .slice p1 T.base.length c1, .slice q5 (T.swaps.length + 1) c5]) (by simp [results, Tryz.results35, go_sem, n0, n1, n2, n3]) rfl ?_
        exact ⟨q5, c5, rfl, own_base o6 HX0.out.size, x6⟩
      | false =>
        have hacc := hR.out.no
        obtain rfl : m = T.swaps.length := by
          have h := congrArg List.length hacc
          rw [rwS_len, List.length_append, List.length_singleton] at h
          have := hm.out
          omega
        clear hB hR hm hml
        go_upto_region 13 with (at_builtin; refine wpList_append_own _ rfl _ _ 23 rfl w0.heap.size 53 i0 _ 3 32 Tryz.underlying23 hi0 hz0 hz1 hz2 rfl (by decide) _ _ _ rfl (hown.alloc (.cells #[.int .i64 s.i, .int .i64 s.j, .string s.wd] 53)) ⟨wr.heap.size, 0, none⟩ 1 1 (swE s) rfl rfl (one_sw wr s) (swE_one _) (by simp [maxLen]; omega) (by omega) (by have := HB.out.size; simp only [World.size_alloc]; omega) ?_; intro v' w4 hown' hgrow _; obtain ⟨q4, c4, rfl⟩ := own_form hown'; have HB4 := hidI ((HB.out.alloc HB.out.size (.cells #[.int .i64 s.i, .int .i64 s.j, .string s.wd] 53)).grown hgrow (by have := HB.out.size; simp only [World.size_alloc]; omega) (fun j e => (hown.lt j e).1)); have HOW := hidI (show w4.ownsRow w0.heap.size 53 3 (.slice q4 (T.swaps.length + 1) c4) (T.swaps.length + 1) (catS (rwS s T.swaps)) by rw [← hacc, catS_snoc]; exact hown'); clear hown' hgrow s0 s1 s2)
        have va := HB0.out.below HB4.out HB0.out.lt
        have a0 := va.at 0 rfl; have a1 := va.at 1 rfl; have a2 := va.at 2 rfl
        have vc := HB2.out.below HB4.out HB2.out.lt
        have k0 := vc.at 0 rfl; have k1 := vc.at 1 rfl; have k2 := vc.at 2 rfl; have k3 := vc.at 3 rfl
        have y0 := vc.frozen 0; have y1 := vc.frozen 1; have y2 := vc.frozen 2; have y3 := vc.frozen 3
        have g2 := HB2.out.lt
        go_wp2_with fail
        have r6 := VRow.set (i := 3) (.slice q4 (T.swaps.length + 1) c4) (VRow.set (i := 2) (.slice p1 T.base.length c1) (VRow.set (i := 1) (.int .i64 T.n) (VRow.set (i := 0) (.int .i64 T.q) vc)))
        have n0 := r6.at 0 rfl; have n1 := r6.at 1 rfl; have n2 := r6.at 2 rfl; have n3 := r6.at 3 rfl
        have o6 := ownsRow_setCell_below (a := ⟨w.heap.size + 1 + 1, 3, none⟩) (ownsRow_setCell_below (a := ⟨w.heap.size + 1 + 1, 2, none⟩) (ownsRow_setCell_below (a := ⟨w.heap.size + 1 + 1, 1, none⟩) (ownsRow_setCell_below (a := ⟨w.heap.size + 1 + 1, 0, none⟩) HOW.out (by simp; omega) (.int .i64 T.q)) (by simp; omega) (.int .i64 T.n)) (by simp; omega) (.slice p1 T.base.length c1)) (by simp; omega) (.slice q4 (T.swaps.length + 1) c4)
        have x6 : RowKit.Below w.heap.size w ((((w4.setCell ⟨w.heap.size + 1 + 1, 0, none⟩ (.int .i64 T.q)).setCell ⟨w.heap.size + 1 + 1, 1, none⟩ (.int .i64 T.n)).setCell ⟨w.heap.size + 1 + 1, 2, none⟩ (.slice p1 T.base.length c1)).setCell ⟨w.heap.size + 1 + 1, 3, none⟩ (.slice q4 (T.swaps.length + 1) c4)) := ((((HX0.out.trans (HB4.out.mono HX0.out.size)).setCell (by show w.heap.size ≤ w.heap.size + 1 + 1; omega) _).setCell (by show w.heap.size ≤ w.heap.size + 1 + 1; omega) _).setCell (by show w.heap.size ≤ w.heap.size + 1 + 1; omega) _).setCell (by show w.heap.size ≤ w.heap.size + 1 + 1; omega) _
        refine bodyPost_ret (v := .agg #[.int .i64 T.q, .int .i64 T.n, .slice p1 T.base.length c1, .slice q4 (T.swaps.length + 1) c4]) (by simp [results, Tryz.results35, go_sem, n0, n1, n2, n3]) rfl ?_
        exact ⟨q4, c4, rfl, own_base o6 HX0.out.size, x6⟩
end Go.Proofs.YtjpilmedlecdhaaGreat
namespace Go.Proofs.YtjpilmedlecdhaaGreat
open Go.RowKit Go.Sort Go.Shelf Go.Lib

theorem r11has_q (l : List Int) (p : Option Addr) (c : Nat) (n : Int) (w : World) (hp : Sl w (Value.int .i64) p l) (hl : l.length ≤ 9223372036854775807) :
    Calls Tryz.prog 103 #[.slice p l.length c, .int .i64 n] w fun e w' => e = .returned (.bool (decide (n ∈ l))) ∧ w' = w := by
  go_enter Tryz.func103, Tryz.ntmps103
  go_wp2
  go_loop [5] (fun i => ∃ k : Nat, k ≤ l.length ∧ i = .int .i64 k ∧ Hid (∀ j (hj : j < l.length), j < k → l[j] ≠ n)) (fun i => l.length - (intOf i).toNat)
  case atStart => exact ⟨0, by omega, rfl, fun j _ h => absurd h (by omega)⟩
  case round =>
    obtain ⟨k, hk, rfl, hj⟩ := hrel
    by_cases hlt : k < l.length
    · obtain ⟨b1, o1, rfl, hb1, hc1⟩ := hp.get k hlt
      have e1 := hc1 k hlt
      clear hc1
      by_cases he : l[k] = n
      · have HX : Hid (decide (n ∈ l) = true) := decide_eq_true (he ▸ List.getElem_mem hlt)
        have d1 : (l[k] == n) = true := by simpa using he
        generalize l[k] = x at *
        clear he
        go_wp2
        go_ret
        exact ⟨ret_bool HX.out.symm, rfl⟩
      · have d1 : (l[k] == n) = false := by simpa using he
        have HJ : Hid (∀ j (hj : j < l.length), j < k + 1 → l[j] ≠ n) := fun j h1 h2 => by
          rcases Nat.lt_succ_iff_lt_or_eq.1 h2 with h3 | h3
          · exact hj.out j h1 h3
          · subst h3; exact he
        generalize l[k] = x at *
        clear he hj
        go_wp2
        go_round
        case rel => exact ⟨k + 1, by omega, by go_num, HJ⟩
        case measure => simp [intOf]; omega
    · have HX : Hid (decide (n ∈ l) = false) := decide_eq_false (fun hm => by
        obtain ⟨j, hj', rfl⟩ := List.getElem_of_mem hm
        exact hj.out j hj' (by omega) rfl)
      go_wp2
      go_ret
      exact ⟨ret_bool HX.out.symm, rfl⟩

set_option maxRecDepth 100000 in
set_option maxHeartbeats 4000000 in
theorem r11Step_any (G : Gr) (p : Option Addr) (c : Nat) (st : List Int) (q : Option Addr) (d : Nat) (b : Int) (w : World) (hin : Sg 3 w edE p G.es) (hst : Sl w (Value.int .i64) q st) (hl : G.es.length ≤ 10000) (hs : st.length ≤ 100000) (hn0 : 0 ≤ G.n) (hn1 : G.n ≤ 100000) :
    Calls Tryz.prog 98 #[(.agg #[.int .i64 G.q, .int .i64 G.n, .slice p G.es.length c]), .slice q st.length d, .int .i64 b] w (LsT (nextA G st b) w) := by
  have HIN := hidI hin; have HST := hidI hst
  clear hin hst
  obtain ⟨i0, hi0, hz0, hz1, hz3⟩ := info_parts infoIn
  obtain ⟨w1, hw1⟩ : ∃ w1, w1 = (w.alloc (.cells #[.int .i64 G.q, .int .i64 G.n, .slice p G.es.length c] 28)).alloc (.cells #[] 3) := ⟨_, rfl⟩
  have c0 : VRow w1 w.heap.size 28 [.int .i64 G.q, .int .i64 G.n, .slice p G.es.length c] := by subst hw1; exact (VRow.new w _ _).alloc _
  have x1 : RowKit.Below w.heap.size w w1 := by subst hw1; exact ((RowKit.Below.refl _ _).alloc (Nat.le_refl _) _).alloc (by simp) _
  have o1 : w1.ownsRow (w.heap.size + 1) 3 1 (.slice (some ⟨w.heap.size + 1, 0, none⟩) 0 0) 0 [] := by
    subst hw1
    have := own_new (w.alloc (.cells #[.int .i64 G.q, .int .i64 G.n, .slice p G.es.length c] 28)) (w.heap.size + 1) [] 3 (by simp) (by simp [maxLen])
    rw [World.size_alloc] at this; exact this
  have hsz := x1.size
  have hsz1 : w.heap.size + 1 < w1.heap.size := by subst hw1; simp
  go_enter Tryz.func98, Tryz.ntmps98
  go_upto_region 2 with fail
  rw [← hw1]
  clear hw1
  go_wp2_with fail
  go_loopw [7, 8] (fun ov iv wr => ∃ k : Nat, k ≤ G.n.toNat ∧ iv = .int .i64 k ∧ wr.ownsRow (w.heap.size + 1) 3 1 ov ((upto k).filter (nxP G.es st b)).length (((upto k).filter (nxP G.es st b)).map (Value.int .i64)) ∧ RowKit.Below (w.heap.size + 1) w1 wr ∧ w1.heap.size ≤ wr.heap.size) (fun _ iv _ => G.n.toNat - (intOf iv).toNat)
  case atStart => exact ⟨0, by omega, rfl, o1, RowKit.Below.refl _ _, Nat.le_refl _⟩
  case round =>
    obtain ⟨k, hk, rfl, hown, hB, hszr⟩ := hrel
    have xr := x1.trans (hB.mono (by omega))
    have cr := c0.below hB (by omega)
    have f1 := cr.at 1 rfl; have f2 := cr.at 2 rfl
    by_cases hlt : k < G.n.toNat
    · have hlt' : (k : Int) < G.n := by omega
      have HN := hidI (uptof_succ (nxP G.es st b) k)
      have hML := uptof_len (nxP G.es st b) k
      generalize (upto k).filter (nxP G.es st b) = M at *
      go_wp2_with fail
      go_loop [9, 10] (fun fv jv => ∃ j : Nat, j ≤ G.es.length ∧ jv = .int .i64 j ∧ fv = .bool ((G.es.take j).any (nxE st b k))) (fun _ jv => G.es.length - (intOf jv).toNat)
      case atStart => exact ⟨0, by omega, rfl, by simp⟩
      case round =>
        obtain ⟨j, hj, rfl, rfl⟩ := hrel
        by_cases hjl : j < G.es.length
        · obtain ⟨b3, o3, rfl, hb3, e0, e1, e2⟩ := (HIN.out.below xr).get3 j hjl rfl
          have HA := hidI (any_snoc (nxE st b k) G.es j hjl)
          generalize (G.es.take j).any (nxE st b k) = fd at *
          generalize hx : G.es[j] = x at *
          have HS1 := HST.out.below xr
          by_cases h1 : x.t = (k : Int)
          · have d1 : (x.t == (k : Int)) = true := by simpa using h1
            by_cases h2 : x.l = b
            · have d2 : (x.l == b) = true := by simpa using h2
              have HV : Hid ((G.es.take (j + 1)).any (nxE st b k) = (fd || decide (x.f ∈ st))) := by rw [Hid, HA.out]; simp [nxE, h1, h2]
              have HC := hidI (r11has_q st q d x.f wr HS1 (by omega))
              clear h1 h2 HA HS1
              generalize decide (x.f ∈ st) = r at *
              cases r
              · go_wp2_with (go_at_call 103; refine HC.out.mono ?_; rintro e w' ⟨rfl, rfl⟩)
                go_round
                case rel => exact ⟨j + 1, by omega, by go_num, by rw [HV.out]; simp⟩
                case measure => simp [intOf]; omega
              · go_wp2_with (go_at_call 103; refine HC.out.mono ?_; rintro e w' ⟨rfl, rfl⟩)
                go_round
                case rel => exact ⟨j + 1, by omega, by go_num, by rw [HV.out]; simp⟩
                case measure => simp [intOf]; omega
            · have d2 : (x.l == b) = false := by simpa using h2
              have HV : Hid ((G.es.take (j + 1)).any (nxE st b k) = fd) := by rw [Hid, HA.out]; simp [nxE, h2]
              clear h1 h2
              go_wp2_with fail
              go_round
              case rel => exact ⟨j + 1, by omega, by go_num, by rw [HV.out]⟩
              case measure => simp [intOf]; omega
          · have d1 : (x.t == (k : Int)) = false := by simpa using h1
            have HV : Hid ((G.es.take (j + 1)).any (nxE st b k) = fd) := by rw [Hid, HA.out]; simp [nxE, h1]
            clear h1
            go_wp2_with fail
            go_round
            case rel => exact ⟨j + 1, by omega, by go_num, by rw [HV.out]⟩
            case measure => simp [intOf]; omega
        · obtain rfl : j = G.es.length := by omega
          rw [List.take_length]
          have HV : Hid (G.es.any (nxE st b k) = nxP G.es st b k) := rfl
          generalize G.es.any (nxE st b k) = fd at *
          cases fd
          · have HN : Hid (List.filter (nxP G.es st b) (upto (k + 1)) = M) := by rw [Hid, HN.out, ← HV.out]; simp
            go_wp2_with fail
            go_roundw
            case rel => exact ⟨k + 1, by omega, by go_num, by rw [HN.out]; exact hown, hB, hszr⟩
            case measure => simp [intOf]; omega
          · have HN : Hid (List.filter (nxP G.es st b) (upto (k + 1)) = M ++ [(k : Int)]) := by rw [Hid, HN.out, ← HV.out]; simp
            have hnew := cell_one_at wr (.int .i64 (k : Int)) 3 wr.heap.size rfl
            go_wp2_with (at_builtin; refine wpList_append_own _ rfl _ _ 40 rfl (w.heap.size + 1) 3 i0 (.int .i64 0) 1 8 Tryz.underlying40 hi0 hz0 hz1 hz3 rfl (by decide) _ _ _ rfl (hown.alloc _) ⟨wr.heap.size, 0, none⟩ 1 1 [.int .i64 (k : Int)] rfl rfl hnew (by simp [Value.oneCell']) (by simp [maxLen]; omega) (by omega) (by rw [World.size_alloc]; omega) ?_; intro v' w2 hown' hgrow _)
            have hg2 := hgrow.size
            go_roundw
            case rel => exact ⟨k + 1, by omega, by go_num, by rw [HN.out, List.length_append, List.map_append]; exact hown', (hB.alloc (by omega) _).grown hgrow (by simp; omega) (fun j e => (hown.lt j e).1), by rw [World.size_alloc] at hg2; omega⟩
            case measure => simp [intOf]; omega
    · obtain rfl : k = G.n.toNat := by omega
      have hlt' : ¬ ((G.n.toNat : Int) < G.n) := by omega
      go_wp2
      go_ret
      obtain ⟨p', c', rfl, hs'⟩ := own_slT hown
      exact ⟨_, _, rfl, hs', xr⟩

set_option maxRecDepth 100000 in
set_option maxHeartbeats 4000000 in
theorem r11ends_any (G : Gr) (p : Option Addr) (c : Nat) (st : List Int) (q : Option Addr) (d : Nat) (s : ByteArray) (w : World) (hin : Sg 3 w edE p G.es) (hst : SlT w q st) (hl : G.es.length ≤ 10000) (hs : st.length ≤ 100000) (hn0 : 0 ≤ G.n) (hn1 : G.n ≤ 100000) (hss : s.size ≤ 1000000) :
    Calls Tryz.prog 81 #[(.agg #[.int .i64 G.q, .int .i64 G.n, .slice p G.es.length c]), .slice q st.length d, .string s] w (LsT (endA G st (ltr s)) w) := by
  obtain ⟨w1, hw1⟩ : ∃ w1, w1 = w.alloc (.cells #[.int .i64 G.q, .int .i64 G.n, .slice p G.es.length c] 28) := ⟨_, rfl⟩
  have c0 : VRow w1 w.heap.size 28 [.int .i64 G.q, .int .i64 G.n, .slice p G.es.length c] := by subst hw1; exact VRow.new w _ _
  have x1 : RowKit.Below w.heap.size w w1 := by subst hw1; exact (RowKit.Below.refl _ _).alloc (Nat.le_refl _) _
  have HIN := hidI hin; have HST := hidI (hst.below x1); have C0 := hidI c0; have X1 := hidI x1
  have HLE : ∀ k, Hid ((endA G st ((ltr s).take k)).length ≤ 100000) := fun k => by
    cases h : (ltr s).take k with
    | nil => exact hs
    | cons a r =>
      have : endA G st (a :: r) = endA G (nextA G st a) r := rfl
      unfold Hid
      rw [this]
      have h2 : ∀ (l : List Int) (S : List Int), S.length ≤ 100000 → (endA G S l).length ≤ 100000 := by
        intro l
        induction l with
        | nil => intro S h; exact h
        | cons b l ih =>
          intro S h
          have e : endA G S (b :: l) = endA G (nextA G S b) l := rfl
          rw [e]
          exact ih _ (Nat.le_trans (uptof_len _ _) (by omega))
      exact h2 r _ (Nat.le_trans (uptof_len _ _) (by omega))
  clear hin hst x1 c0 hs
  go_enter Tryz.func81, Tryz.ntmps81
  go_upto_region 1 with fail
  rw [← hw1]
  clear hw1
  go_wp2_with fail
  go_loopw [1, 7] (fun sv iv W => ∃ (k : Nat) (q' : Option Addr) (d' : Nat), k ≤ s.size ∧ iv = .int .i64 k ∧ sv = .slice q' (endA G st ((ltr s).take k)).length d' ∧ SlT W q' (endA G st ((ltr s).take k)) ∧ RowKit.Below w1.heap.size w1 W) (fun _ iv _ => s.size - (intOf iv).toNat)
  case atStart => exact ⟨0, q, d, by omega, rfl, rfl, HST.out, RowKit.Below.refl _ _⟩
  case round =>
    obtain ⟨k, q', d', hk, rfl, rfl, hsl, hB⟩ := hrel
    have xr := X1.out.trans (hB.mono X1.out.size)
    have cr := C0.out.below hB C0.out.lt
    have hle := (HLE k).out
    by_cases hlt : k < s.size
    · have HN : Hid (endA G st ((ltr s).take (k + 1)) = nextA G (endA G st ((ltr s).take k)) (Chg.dig (s[k].toNat : Int))) := by rw [Hid, ltr_take s k hlt, endA_snoc]
      have hltI : (k : Int) < (s.size : Int) := by omega
      have f0 := cr.at 0 rfl; have f1 := cr.at 1 rfl; have f2 := cr.at 2 rfl
      have HC := hidI (fun W (hW : RowKit.Below wr.heap.size wr W) => r11Step_any G p c (endA G st ((ltr s).take k)) q' d' (Chg.dig (s[k].toNat : Int)) W (HIN.out.below (xr.trans (hW.mono xr.size))) (hsl.1.below hW) hl (by omega) hn0 hn1)
      generalize endA G st ((ltr s).take k) = L at *
      have cr2 := cr.lt
      clear cr
      go_wp2_with fail
      have hz : w.heap.size < wr.heap.size := cr2
      go_region_held3 (fun w' => w'.cell? ⟨w.heap.size, 0, none⟩ = some (.int .i64 G.q) ∧ w'.cell? ⟨w.heap.size, 1, none⟩ = some (.int .i64 G.n) ∧ w'.cell? ⟨w.heap.size, 2, none⟩ = some (.slice p G.es.length c) ∧ RowKit.Below wr.heap.size wr w')
        (first | (go_split_ands; refine ⟨?_, ?_, ?_, ?_⟩ <;> first | assumption | exact below_drewN (RowKit.Below.refl _ _) 1 | exact (hBa.cell (Nat.lt_of_lt_of_le hz (RowKit.Below.size (by assumption)))).trans (by assumption) | exact RowKit.Below.trans (by assumption) (hBa.mono (RowKit.Below.size (by assumption))) | (go_keep; done)))
        (first
          | (go_at_call 83; refine (Chg.digit_any _ _).mono ?_; rintro e w' ⟨rfl, rfl⟩)
          | (go_at_call 98; go_split_ands; (with_reducible refine (HC.out _ (by assumption)).mono ?_); rintro e wA ⟨qa, da, rfl, hsa, hBa⟩))
      go_wp2_with fail
      have hBx : RowKit.Below wr.heap.size wr wA := RowKit.Below.trans (by assumption) (hBa.mono (RowKit.Below.size (by assumption)))
      go_roundw
      case rel => exact ⟨k + 1, qa, da, by omega, by go_num, by rw [HN.out], by rw [HN.out]; exact hsa, hB.trans (hBx.mono hB.size)⟩
      case measure => simp [intOf]; omega
    · obtain rfl : k = s.size := by omega
      have hltI : ¬ (s.size : Int) < (s.size : Int) := by omega
      have HE : Hid (endA G st (ltr s) = endA G st ((ltr s).take s.size)) := by rw [Hid, ltr_all]
      generalize endA G st ((ltr s).take s.size) = L at *
      go_wp2
      go_ret
      exact ⟨q', d', by rw [HE.out]; rfl, by rw [HE.out]; exact hsl, xr⟩

set_option maxRecDepth 100000 in
set_option maxHeartbeats 4000000 in
theorem r11All_any (G : Gr) (p : Option Addr) (c : Nat) (w : World) (hn0 : 0 ≤ G.n) (hn1 : G.n ≤ 100000) :
    Calls Tryz.prog 82 #[(.agg #[.int .i64 G.q, .int .i64 G.n, .slice p G.es.length c])] w (LsT (upto G.n.toNat) w) := by
  obtain ⟨i0, hi0, hz0, hz1, hz3⟩ := info_parts infoIn
  obtain ⟨w1, hw1⟩ : ∃ w1, w1 = (w.alloc (.cells #[.int .i64 G.q, .int .i64 G.n, .slice p G.es.length c] 28)).alloc (.cells #[] 3) := ⟨_, rfl⟩
  have c0 : VRow w1 w.heap.size 28 [.int .i64 G.q, .int .i64 G.n, .slice p G.es.length c] := by subst hw1; exact (VRow.new w _ _).alloc _
  have x1 : RowKit.Below w.heap.size w w1 := by subst hw1; exact ((RowKit.Below.refl _ _).alloc (Nat.le_refl _) _).alloc (by simp) _
  have o1 : w1.ownsRow (w.heap.size + 1) 3 1 (.slice (some ⟨w.heap.size + 1, 0, none⟩) 0 0) 0 [] := by
    subst hw1
    have := own_new (w.alloc (.cells #[.int .i64 G.q, .int .i64 G.n, .slice p G.es.length c] 28)) (w.heap.size + 1) [] 3 (by simp) (by simp [maxLen])
    rw [World.size_alloc] at this; exact this
  have hsz := x1.size
  have hsz1 : w.heap.size + 1 < w1.heap.size := by subst hw1; simp
  obtain ⟨n, hn⟩ : ∃ n : Nat, G.n = n := ⟨G.n.toNat, by omega⟩
  have HN0 : Hid (upto G.n.toNat = upto n) := by rw [Hid, hn]; rfl
  have HNN := hidI hn
  rw [hn] at c0
  have hn100 : n ≤ 100000 := by omega
  clear hn
  go_enter Tryz.func82, Tryz.ntmps82
  go_upto_region 2 with fail
  rw [← hw1]
  clear hw1
  go_wp2_with fail
  go_loopw [3, 4] (fun ov iv wr => ∃ k : Nat, k ≤ n ∧ iv = .int .i64 k ∧ wr.ownsRow (w.heap.size + 1) 3 1 ov k ((upto k).map (Value.int .i64)) ∧ RowKit.Below (w.heap.size + 1) w1 wr ∧ w1.heap.size ≤ wr.heap.size) (fun _ iv _ => n - (intOf iv).toNat)
  case atStart => exact ⟨0, by omega, rfl, o1, RowKit.Below.refl _ _, Nat.le_refl _⟩
  case round =>
    obtain ⟨k, hk, rfl, hown, hB, hszr⟩ := hrel
    have xr := x1.trans (hB.mono (by omega))
    have cr := c0.below hB (by omega)
    have f1 := cr.at 1 rfl
    by_cases hlt : k < n
    · have hlt' : (k : Int) < (n : Int) := by omega
      have hnew := cell_one_at wr (.int .i64 (k : Int)) 3 wr.heap.size rfl
      have HU : Hid ((upto k).map (Value.int .i64) ++ [.int .i64 (k : Int)] = (upto (k + 1)).map (Value.int .i64)) := by rw [Hid, upto_succ, List.map_append]; rfl
      go_wp2_with (at_builtin; refine wpList_append_own _ rfl _ _ 40 rfl (w.heap.size + 1) 3 i0 (.int .i64 0) 1 8 Tryz.underlying40 hi0 hz0 hz1 hz3 rfl (by decide) _ _ _ rfl (hown.alloc _) ⟨wr.heap.size, 0, none⟩ 1 1 [.int .i64 (k : Int)] rfl rfl hnew (by simp [Value.oneCell']) (by simp [maxLen]; omega) (by omega) (by rw [World.size_alloc]; omega) ?_; intro v' w2 hown' hgrow _)
      have hg2 := hgrow.size
      go_roundw
      case rel => exact ⟨k + 1, by omega, by go_num, by rw [← HU.out]; exact hown', (hB.alloc (by omega) _).grown hgrow (by simp; omega) (fun j e => (hown.lt j e).1), by rw [World.size_alloc] at hg2; omega⟩
      case measure => simp [intOf]; omega
    · obtain rfl : k = n := by omega
      have hlt' : ¬ ((k : Int) < (k : Int)) := by omega
      go_wp2
      go_ret
      obtain ⟨p', c', rfl, hs'⟩ := own_slT hown
      exact ⟨p', c', by rw [HN0.out]; rfl, by rw [HN0.out]; exact hs', xr⟩

/-- Why a word cannot be read in a graph. -/
theorem r11check_ok (G : Gr) (p : Option Addr) (c : Nat) (w : World) (hin : Sg 3 w edE p G.es) (hl : G.es.length ≤ 9223372036854775807) (hv : Vg G) (hq : G.q ≤ 16) :
    Calls Tryz.prog 97 #[(.agg #[.int .i64 G.q, .int .i64 G.n, .slice p G.es.length c])] w fun e w' => e = .returned (.int .i64 0) ∧ RowKit.Below w.heap.size w w' := by
  obtain ⟨w1, hw1⟩ : ∃ w1, w1 = w.alloc (.cells #[.int .i64 G.q, .int .i64 G.n, .slice p G.es.length c] 28) := ⟨_, rfl⟩
  have c0 : VRow w1 w.heap.size 28 [.int .i64 G.q, .int .i64 G.n, .slice p G.es.length c] := by subst hw1; exact VRow.new w _ _
  have x1 : RowKit.Below w.heap.size w w1 := by subst hw1; exact (RowKit.Below.refl _ _).alloc (Nat.le_refl _) _
  have HC := hidI (rCheck_r G p c w1 0 (chkG_ok.2 hv) (hin.below x1) (by omega))
  have f0 := c0.at 0 rfl; have f1 := c0.at 1 rfl; have f2 := c0.at 2 rfl
  have hd : decide ((16 : Int) < G.q) = false := decide_eq_false (by omega)
  clear hin hv hq
  go_enter Tryz.func97, Tryz.ntmps97
  go_upto_region 1 with fail
  rw [← hw1]
  clear hw1
  go_wp2_with fail
  refine HC.out.mono ?_
  rintro e w2 ⟨rfl, hB2⟩
  have c2 := c0.below hB2 c0.lt
  clear f0 f1 f2
  have f0 := c2.at 0 rfl
  go_wp2
  go_ret
  exact ⟨rfl, x1.trans (hB2.mono x1.size)⟩
theorem r11checkWord_ok (G : Gr) (p : Option Addr) (c : Nat) (s : ByteArray) (w : World) (hin : Sg 3 w edE p G.es) (hl : G.es.length ≤ 9223372036854775807) (hv : Vg G) (hq : G.q ≤ 16) (hs : s.size ≤ maxLen) (hc : Chg.wchk G.q s.data.toList = 0) :
    Calls Tryz.prog 80 #[(.agg #[.int .i64 G.q, .int .i64 G.n, .slice p G.es.length c]), .string s] w fun e w' => e = .returned (.int .i64 0) ∧ RowKit.Below w.heap.size w w' := by
  obtain ⟨w1, hw1⟩ : ∃ w1, w1 = w.alloc (.cells #[.int .i64 G.q, .int .i64 G.n, .slice p G.es.length c] 28) := ⟨_, rfl⟩
  have c0 : VRow w1 w.heap.size 28 [.int .i64 G.q, .int .i64 G.n, .slice p G.es.length c] := by subst hw1; exact VRow.new w _ _
  have x1 : RowKit.Below w.heap.size w w1 := by subst hw1; exact (RowKit.Below.refl _ _).alloc (Nat.le_refl _) _
  have HC := hidI (r11check_ok G p c w1 (hin.below x1) hl hv hq)
  have HW := hidI (fun W => (Chg.check07_any G.q s W hs))
  rw [hc] at HW
  have f0 := c0.at 0 rfl; have f1 := c0.at 1 rfl; have f2 := c0.at 2 rfl
  clear hin hv hq hc
  go_enter Tryz.func80, Tryz.ntmps80
  go_upto_region 1 with fail
  rw [← hw1]
  clear hw1
  go_wp2_with fail
  refine HC.out.mono ?_
  rintro e w2 ⟨rfl, hB2⟩
  have c2 := c0.below hB2 c0.lt
  clear f0 f1 f2
  have f0 := c2.at 0 rfl
  go_wp2_with fail
  refine (HW.out _).mono ?_
  rintro e w3 ⟨rfl, rfl⟩
  go_wp2
  go_ret
  exact ⟨rfl, x1.trans (hB2.mono x1.size)⟩

set_option maxRecDepth 100000 in
set_option maxHeartbeats 2000000 in
theorem r11Accepts_any (G : Gr) (p : Option Addr) (c : Nat) (s : ByteArray) (w : World) (hin : Sg 3 w edE p G.es) (hv : Vg G) (hq : G.q ≤ 16) (hc : Chg.wchk G.q s.data.toList = 0) (hss : s.size ≤ 65536) :
    Calls Tryz.prog 57 #[(.agg #[.int .i64 G.q, .int .i64 G.n, .slice p G.es.length c]), .string s] w fun e w' => e = .returned (.tuple #[.bool (accA G s), .int .i64 0]) ∧ RowKit.Below w.heap.size w w' := by
  obtain ⟨w1, hw1⟩ : ∃ w1, w1 = w.alloc (.cells #[.int .i64 G.q, .int .i64 G.n, .slice p G.es.length c] 28) := ⟨_, rfl⟩
  have c0 : VRow w1 w.heap.size 28 [.int .i64 G.q, .int .i64 G.n, .slice p G.es.length c] := by subst hw1; exact VRow.new w _ _
  have x1 : RowKit.Below w.heap.size w w1 := by subst hw1; exact (RowKit.Below.refl _ _).alloc (Nat.le_refl _) _
  have hl := hv.len; have hn0 := hv.n1; have hn1 := hv.n2
  have HC := hidI (r11checkWord_ok G p c s w1 (hin.below x1) (by omega) hv hq (by unfold maxLen; omega) hc)
  have HA := hidI (fun W => r11All_any G p c W hn0 (by omega))
  have HE := hidI (fun (q' : Option Addr) (d' : Nat) (W : World) (hW : RowKit.Below w.heap.size w W) (hs : SlT W q' (upto G.n.toNat)) => r11ends_any G p c (upto G.n.toNat) q' d' s W (hin.below hW) hs (by omega) (by rw [upto_len]; omega) hn0 (by omega) (by omega))
  have HX : Hid (accA G s = decide (0 < (endA G (upto G.n.toNat) (ltr s)).length)) := rfl
  have f0 := c0.at 0 rfl; have f1 := c0.at 1 rfl; have f2 := c0.at 2 rfl
  clear hin hv hq hc hl hn0 hn1
  generalize accA G s = r at *
  generalize endA G (upto G.n.toNat) (ltr s) = E at *
  generalize upto G.n.toNat = U at *
  go_enter Tryz.func57, Tryz.ntmps57
  go_upto_region 1 with fail
  rw [← hw1]
  clear hw1
  go_wp2_with fail
  refine HC.out.mono ?_
  rintro e w2 ⟨rfl, hB2⟩
  have c2 := c0.below hB2 c0.lt
  have x2 := x1.trans (hB2.mono x1.size)
  clear f0 f1 f2 x1 c0 HC hB2
  have f0 := c2.at 0 rfl; have f1 := c2.at 1 rfl; have f2 := c2.at 2 rfl
  have hz := c2.lt
  clear c2
  go_wp2_with fail
  go_region_held3 (fun w' => w'.cell? ⟨w.heap.size, 0, none⟩ = some (.int .i64 G.q) ∧ w'.cell? ⟨w.heap.size, 1, none⟩ = some (.int .i64 G.n) ∧ w'.cell? ⟨w.heap.size, 2, none⟩ = some (.slice p G.es.length c) ∧ RowKit.Below w2.heap.size w2 w')
    (first | (go_split_ands; refine ⟨?_, ?_, ?_, ?_⟩ <;> first | assumption | exact below_drewN (RowKit.Below.refl _ _) 1 | exact (hBa.cell (Nat.lt_of_lt_of_le hz (RowKit.Below.size (by assumption)))).trans (by assumption) | exact (hBb.cell (Nat.lt_of_lt_of_le hz (RowKit.Below.size (by assumption)))).trans (by assumption) | exact RowKit.Below.trans (by assumption) (hBa.mono (RowKit.Below.size (by assumption))) | exact RowKit.Below.trans (by assumption) (hBb.mono (RowKit.Below.size (by assumption))) | (go_keep; done)))
    (first
      | (go_at_call 82; go_split_ands; (with_reducible refine (HA.out _).mono ?_); rintro e wA ⟨qa, da, rfl, hsa, hBa⟩)
      | (go_at_call 81; go_split_ands; (with_reducible refine (HE.out qa da _ (x2.trans (RowKit.Below.mono (by assumption) x2.size)) (hsa.keep ?_)).mono ?_); (exact fun _ _ _ h => h); rintro e wB ⟨qb, db, rfl, hsb, hBb⟩))
  have hBx : RowKit.Below w2.heap.size w2 wB := RowKit.Below.trans (by assumption) (hBb.mono (RowKit.Below.size (by assumption)))
  go_wp2
  go_ret2
  exact ⟨by rw [HX.out]; rfl, x2.trans (hBx.mono x2.size)⟩
#print axioms r11Accepts_any

/-! ### The label of one letter -/
theorem letv_dig (c : Int) (k : Nat) (h : Chg.dig c = (k : Int)) : Chg.letv k = c := by
  unfold Chg.dig at h; unfold Chg.letv
  split at h
  · rw [if_pos (by omega)]; omega
  · split at h
    · rw [if_neg (by omega)]; omega
    · omega

end Go.Proofs.YtjpilmedlecdhaaGreat
