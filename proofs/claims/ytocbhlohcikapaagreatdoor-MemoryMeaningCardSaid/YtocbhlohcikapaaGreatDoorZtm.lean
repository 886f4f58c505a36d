/-
  Words, plain lemmas and walks, merged: Di, Cj, Dr, Ds, Du, Dx, Dy, Dz, Ab.
-/
import Derived.Test.YtocbhlohcikapaaGreatDoorZtl
import Derived.Test.YtocbhlohcikapaaGreatDoorZth
import Derived.Test.YtocbhlohcikapaaGreatDoorZtd
import Derived.Test.YtocbhlohcikapaaGreatDoorTie
import Derived.Test.YtocbhlohcikapaaGreatDoorCards
import Derived.LaidMore
import Derived.SevenTiedAt
import Derived.Carry
import Derived.Test.YtocbhlohcikapaaGreatDoorZti
import Derived.Test.YtocbhlohcikapaaGreatDoorZtb
set_option linter.unusedVariables false
set_option linter.unusedSimpArgs false
namespace Go.Proofs.YtocbhlohcikapaaGreatDoor
open Go.RowKit Go.Sort Go.Shelf Go.Lib
def folA (G : Gr) (l : List Int) : List Int × Int := if chkG G ≠ 0 then ([], 1) else if 65536 < l.length then ([], 4) else if l.any (fun c => decide (c < 0) || decide (G.q ≤ c)) = true then ([], 2) else (flA G l, 0)
theorem fol_bad {G : Gr} {l : List Int} (h : chkG G ≠ 0) : folA G l = ([], 1) := if_pos h
theorem fol_long {G : Gr} {l : List Int} (h : chkG G = 0) (hl : 65536 < l.length) : folA G l = ([], 4) := by unfold folA; rw [if_neg (by simpa using h), if_pos hl]
theorem fol_out {G : Gr} {l : List Int} (h : chkG G = 0) (hl : ¬ 65536 < l.length) (ho : l.any (fun c => decide (c < 0) || decide (G.q ≤ c)) = true) : folA G l = ([], 2) := by unfold folA; rw [if_neg (by simpa using h), if_neg hl, if_pos ho]
theorem fol_ok {G : Gr} {l : List Int} (h : chkG G = 0) (hl : ¬ 65536 < l.length) (ho : LabI G.q l) : folA G l = (flA G l, 0) := by
  unfold folA
  rw [if_neg (by simpa using h), if_neg hl, if_neg]
  intro hc
  obtain ⟨c, hm, hc⟩ := List.any_eq_true.1 hc
  have := ho c hm
  simp only [Bool.or_eq_true, decide_eq_true_eq] at hc
  omega
theorem fol_hit {G : Gr} {l : List Int} {k : Nat} (h : chkG G = 0) (hl : ¬ 65536 < l.length) (hk : k < l.length) (ho : l[k] < 0 ∨ G.q ≤ l[k]) : folA G l = ([], 2) :=
  fol_out h hl (List.any_eq_true.2 ⟨l[k], List.getElem_mem hk, by simpa using ho⟩)
theorem flA_take {G : Gr} {l : List Int} {k : Nat} (hk : k < l.length) : flA G (l.take (k + 1)) = nextA G (flA G (l.take k)) l[k] := by
  rw [List.take_succ_eq_append_getElem hk, flA_snoc]
theorem flA_st {G : Gr} (hv : Vg G) (l : List Int) : St G.n (flA G l) := ⟨flA_srt l, fun _ h => flA_in hv h⟩
theorem stepA_st {G : Gr} (hv : Vg G) {st : List Int} (hs : St G.n st) {b : Int} (h0 : 0 ≤ b) (h1 : b < G.q) : stepA G st b = (nextA G st b, 0) := by
  unfold stepA; rw [if_pos (chkG_ok.2 hv), if_pos hs.chk, if_neg (by omega)]
theorem flA_len {G : Gr} (hv : Vg G) (l : List Int) : (flA G l).length ≤ 64 := by
  rcases List.eq_nil_or_concat l with rfl | ⟨l', b, rfl⟩
  · show (upto G.n.toNat).length ≤ 64; rw [upto_len]; have := hv.n2; omega
  · rw [List.concat_eq_append, flA_snoc]
    have := uptof_len (nxP G.es (flA G l') b) G.n.toNat
    have := hv.n2
    show ((upto G.n.toNat).filter (nxP G.es (flA G l') b)).length ≤ 64
    omega
def RetSi (r : List Int) (k : Int) (w : World) (e : Ending) (w' : World) : Prop := ∃ p c, e = .returned (.tuple #[.slice p r.length c, .int .i64 k]) ∧ Sl w' (Value.int .i64) p r ∧ RowKit.Below w.heap.size w w'
set_option maxRecDepth 100000 in
set_option maxHeartbeats 4000000 in
theorem mmFollow_any (G : Gr) (p : Option Addr) (c : Nat) (l : List Int) (q : Option Addr) (d : Nat) (w : World) (hin : Sg 3 w edE p G.es) (hl : G.es.length ≤ 9223372036854775807) (hs : Sl w (Value.int .i64) q l) (hll : l.length ≤ 9223372036854775807) :
    Calls Tryz.prog 38 #[(.agg #[.int .i64 G.q, .int .i64 G.n, .slice p G.es.length c]), .slice q l.length d] w (RetSi (folA G l).1 (folA G l).2 w) := by
  obtain ⟨i0, hi0, hz0, hz1, hz3⟩ := info_parts infoIn
  obtain ⟨w0, hw0⟩ : ∃ w0, w0 = w.alloc (.cells #[.int .i64 G.q, .int .i64 G.n, .slice p G.es.length c] 24) := ⟨_, rfl⟩
  have b0 : VRow w0 w.heap.size 24 [.int .i64 G.q, .int .i64 G.n, .slice p G.es.length c] := by subst hw0; exact VRow.new w _ _
  have hB0 : RowKit.Below w.heap.size w w0 := by subst hw0; exact (RowKit.Below.refl _ _).alloc (Nat.le_refl _) _
  obtain ⟨r, hr⟩ : ∃ r, chkG G = r := ⟨_, rfl⟩
  have HCK := hidI (gCheck_r G p c w0 r hr (hin.below hB0) hl)
  have f0 := b0.at 0 rfl; have f1 := b0.at 1 rfl; have f2 := b0.at 2 rfl
  by_cases hr0 : r = 0
  · subst hr0
    have HV := hidI (chkG_ok.1 hr)
    have HLONG := hidI (fun h => @fol_long G l hr h)
    have HHIT := hidI (fun k (a : ¬ 65536 < l.length) b c => @fol_hit G l k hr a b c)
    have HOK := hidI (fun a b => @fol_ok G l hr a b)
    have HIN := hidI (hin.below hB0)
    have HS := hidI (hs.below hB0)
    have HT0 : Hid (flA G (l.take 0) = upto G.n.toNat) := rfl
    generalize hR : folA G l = R at *
    clear hin hr hs hR
    go_enter Tryz.func38, Tryz.ntmps38
    go_upto_region 1 with fail
    rw [← hw0]
    clear hw0
    go_wp2_with fail
    refine HCK.out.mono ?_
    rintro e w1 ⟨rfl, hB1⟩
    have x1 := hB0.trans (hB1.mono hB0.size)
    have c0 := b0.below hB1 b0.lt
    clear f0 f1 f2 HCK
    by_cases hlong : 65536 < l.length
    · have hb : (65536 : Int) < (l.length : Int) := by omega
      have HX := hidI (HLONG.out hlong)
      clear HLONG HHIT HOK hlong
      go_wp2
      go_ret2
      rw [HX.out]
      exact ⟨none, 0, rfl, Sl.nil _ _ _, x1⟩
    · have hb : ¬ (65536 : Int) < (l.length : Int) := by omega
      have HN := hidI hlong
      clear HLONG
      go_wp2_with fail
      go_loopw [20] (fun iv wr => ∃ k : Nat, k ≤ l.length ∧ iv = .int .i64 k ∧ RowKit.Below w0.heap.size w0 wr ∧ Hid (∀ j (h : j < l.length), j < k → 0 ≤ l[j] ∧ l[j] < G.q)) (fun iv _ => l.length - (intOf iv).toNat)
      case atStart => exact ⟨0, Nat.zero_le _, rfl, hB1, fun j _ h => by omega⟩
      case round =>
        clear hB1 x1 c0
        obtain ⟨k, hk, rfl, hB1, hall⟩ := hrel
        have x1 := hB0.trans (hB1.mono hB0.size)
        have c0 := b0.below hB1 b0.lt
        have f0 := c0.at 0 rfl; have f1 := c0.at 1 rfl; have f2 := c0.at 2 rfl
        clear c0
        by_cases hlt : k < l.length
        · have hltI : (k : Int) < (l.length : Int) := by omega
          obtain ⟨b3, o3, e3, hb3, hcl⟩ := (HS.out.below hB1).get k hlt
          have he := hcl k hlt
          clear hcl
          cases e3
          have HK := hidI (HHIT.out k HN.out hlt)
          have HALL : Hid (0 ≤ l[k] → l[k] < G.q → ∀ j (h : j < l.length), j < k + 1 → 0 ≤ l[j] ∧ l[j] < G.q) := fun a b j h hj => by
            by_cases e : j = k
            · subst e; exact ⟨a, b⟩
            · exact hall.out j h (by omega)
          generalize l[k] = x at *
          clear hall
          by_cases hx0 : x < 0
          · have HX := hidI (HK.out (.inl hx0))
            clear HK HALL
            go_wp2
            go_ret2
            rw [HX.out]
            exact ⟨none, 0, rfl, Sl.nil _ _ _, x1⟩
          · by_cases hx1 : G.q ≤ x
            · have HX := hidI (HK.out (.inr hx1))
              clear HK HALL
              go_wp2
              go_ret2
              rw [HX.out]
              exact ⟨none, 0, rfl, Sl.nil _ _ _, x1⟩
            · have HX := hidI (HALL.out (by omega) (by omega))
              clear HK HALL
              go_wp2
              go_roundw
              case rel => exact ⟨k + 1, by omega, by go_num, hB1, HX.out⟩
              case measure => simp [intOf]; omega
        · obtain rfl : k = l.length := by omega
          have hltI : ¬ (l.length : Int) < (l.length : Int) := by omega
          have HLAB : Hid (LabI G.q l) := fun c hc => by
            obtain ⟨j, hj, rfl⟩ := List.mem_iff_getElem.1 hc
            exact hall.out j hj hj
          have HRES := hidI (HOK.out HN.out HLAB.out)
          clear HHIT HOK hall hk hlong HN
          obtain ⟨N, hN⟩ : ∃ N : Nat, G.n = N := ⟨G.n.toNat, by have := HV.out.n1; omega⟩
          have hN64 : N ≤ 64 := by have := HV.out.n2; omega
          rw [hN] at f1
          have HNN := hidI hN
          clear hN
          have HT1 : Hid (flA G (l.take 0) = upto N) := by rw [Hid, HT0.out, HNN.out]; rfl
          go_wp2_with (at_make; refine wpList_make_full _ rfl _ _ 30 rfl wr.heap.size 3 i0 (.int .i64 0) 1 Tryz.underlying30 hi0 hz0 hz1 .i64 .i64 _ _ N rfl rfl (by omega) (by omega) (by rw [hz3]; omega) (by unfold maxLen; omega) (Nat.le_refl _) ?_; intro w2 hown hgrow)
          have hv : VRow w2 wr.heap.size 3 ((upto 0 ++ List.replicate (N - 0) 0).map (Value.int .i64)) := Chg.made_row hown
          obtain ⟨bs, hbs⟩ : ∃ bs, bs = wr.heap.size := ⟨_, rfl⟩
          have hB2 : RowKit.Below w0.heap.size w0 w2 := hB1.grown hgrow hB1.size (by simp)
          have hwb : w0.heap.size ≤ bs := by rw [hbs]; exact hB1.size
          rw [← hbs] at hv
          clear hown hgrow f0 f1 f2 x1 hB1
          rw [← hbs]
          clear hbs
          obtain ⟨wo, rfl⟩ : ∃ wo : World, wo = wr := ⟨_, rfl⟩
          go_loopw [38] (fun iv wx => ∃ k : Nat, k ≤ N ∧ iv = .int .i64 k ∧ VRow wx bs 3 ((upto k ++ List.replicate (N - k) 0).map (Value.int .i64)) ∧ RowKit.Below w0.heap.size w0 wx) (fun iv _ => N - (intOf iv).toNat)
          case atStart => exact ⟨0, by omega, rfl, hv, hB2⟩
          case round =>
            clear hv hB2
            obtain ⟨k, hk, rfl, hv, hB⟩ := hrel
            by_cases hlt : k < N
            · have hltN : (k : Int) < (N : Int) := by omega
              have hc := hv.at k (up_row N k hlt)
              have hf := hv.frozen k
              have HSU := hidI (up_set N k hlt)
              go_wp2
              go_roundw
              case rel => exact ⟨k + 1, by omega, by go_num, by rw [← HSU.out]; exact VRow.set (i := k) _ hv, hB.setCell (p := ⟨bs, k, none⟩) hwb _⟩
              case measure => simp [intOf]; omega
            · obtain rfl : k = N := by omega
              have hkk : ¬ (k : Int) < (k : Int) := by omega
              rw [Nat.sub_self, List.replicate_zero, List.append_nil] at hv
              have HSL0 := hidI (Sl.of_vrow hv)
              clear hv hlt hk
              go_wp2_with fail
              obtain ⟨wp, rfl⟩ : ∃ wp : World, wp = wr := ⟨_, rfl⟩
              go_loopw [8, 48] (fun sv iv wx => ∃ (j : Nat) (qk : Option Addr) (dk : Nat), j ≤ l.length ∧ sv = .slice qk (flA G (l.take j)).length dk ∧ iv = .int .i64 j ∧ Sl wx (Value.int .i64) qk (flA G (l.take j)) ∧ RowKit.Below w0.heap.size w0 wx) (fun _ iv _ => l.length - (intOf iv).toNat)
              case atStart => exact ⟨0, some ⟨bs, 0, none⟩, k, Nat.zero_le _, by rw [HT1.out, upto_len], rfl, by rw [HT1.out]; exact HSL0.out, hB⟩
              case round =>
                clear HSL0 hB
                obtain ⟨j, qk, dk, hj, rfl, rfl, hsl, hB⟩ := hrel
                have xr := hB0.trans (hB.mono hB0.size)
                by_cases hlt : j < l.length
                · have hltI : (j : Int) < (l.length : Int) := by omega
                  obtain ⟨b3, o3, e3, hb3, hcl⟩ := (HS.out.below hB).get j hlt
                  have he := hcl j hlt
                  clear hcl
                  have hlab := HLAB.out l[j] (List.getElem_mem hlt)
                  have HN := hidI (@flA_take G l j hlt)
                  have HST := hidI (flA_st HV.out (l.take j))
                  have hlen := flA_len HV.out (l.take j)
                  have hll2 := HV.out.len
                  have HG := hidI (gStep_any G p c (flA G (l.take j)) qk dk l[j] wr (HIN.out.below hB) hsl (by omega) (by omega))
                  rw [stepA_st HV.out HST.out hlab.1 hlab.2] at HG
                  generalize l[j] = x at *
                  generalize flA G (l.take j) = L at *
                  have r0 := b0.below hB b0.lt
                  have g0 := r0.at 0 rfl; have g1 := r0.at 1 rfl; have g2 := r0.at 2 rfl
                  clear r0 HST hsl hlab hlen hll2
                  cases e3
                  go_wp2_with fail
                  refine HG.out.mono ?_
                  rintro e w3 ⟨p3, m3, c3, rfl, hown, hB3⟩
                  obtain ⟨q3, d3, he3, hs3⟩ := own_sl hown
                  cases he3
                  clear g0 g1 g2 HG he hown
                  go_wp2
                  go_roundw
                  case rel => exact ⟨j + 1, p3, c3, by omega, by rw [HN.out], by go_num, by rw [HN.out]; exact hs3, hB.trans (hB3.mono hB.size)⟩
                  case measure => simp [intOf]; omega
                · obtain rfl : j = l.length := by omega
                  have hltI : ¬ (l.length : Int) < (l.length : Int) := by omega
                  have HE : Hid (R = (flA G (l.take l.length), 0)) := by rw [Hid, HRES.out, List.take_length]
                  generalize flA G (l.take l.length) = L at *
                  go_wp2
                  go_ret2
                  rw [HE.out]
                  exact ⟨qk, dk, rfl, hsl, xr⟩
  · have HX : Hid (folA G l = ([], 1)) := fol_bad (by rw [hr]; exact hr0)
    have hrb : (r != 0) = true := by simpa using hr0
    clear hr hr0 hin hs
    go_enter Tryz.func38, Tryz.ntmps38
    go_upto_region 1 with fail
    rw [← hw0]
    clear hw0
    go_wp2_with fail
    refine HCK.out.mono ?_
    rintro e w1 ⟨rfl, hB1⟩
    have x1 := hB0.trans (hB1.mono hB0.size)
    go_wp2
    go_ret2
    rw [HX.out]
    exact ⟨none, 0, rfl, Sl.nil _ _ _, x1⟩
end Go.Proofs.YtocbhlohcikapaaGreatDoor
namespace Go.Proofs.YtocbhlohcikapaaGreatDoor
open Go.RowKit Go.Sort Go.Shelf Go.Lib
theorem endA_stop {G : Gr} {st l : List Int} {k : Nat} (h : endA G st (l.take k) = []) : endA G st l = [] := by
  have e : endA G st l = endA G (endA G st (l.take k)) (l.drop k) := by
    unfold endA
    rw [← List.foldl_append, List.take_append_drop]
  rw [e, h, endA_nil]
set_option maxRecDepth 100000 in
set_option maxHeartbeats 2000000 in
theorem lEnds_any (G : Gr) (p : Option Addr) (c : Nat) (st : List Int) (q : Option Addr) (d : Nat) (s : ByteArray) (w : World) (hin : Sg 3 w edE p G.es) (hst : Sl w (Value.int .i64) q st) (hv : Vg G) (hS : St G.n st) (hw : Chg.okw G.q s.data.toList = true) (hs : s.size ≤ 65536) :
    Calls Tryz.prog 105 #[(.agg #[.int .i64 G.q, .int .i64 G.n, .slice p G.es.length c]), .slice q st.length d, .string s] w (LsOut (endA G st (ltr s)) w) := by
  have HIN := hidI hin; have HV := hidI hv; have HS := hidI hS; have HW := hidI hw
  have HST := hidI hst
  clear hin hst hv hS hw
  obtain ⟨w0, hw0⟩ : ∃ w0, w0 = w.alloc (.cells #[.int .i64 G.q, .int .i64 G.n, .slice p G.es.length c] 24) := ⟨_, rfl⟩
  have b0 : VRow w0 w.heap.size 24 [.int .i64 G.q, .int .i64 G.n, .slice p G.es.length c] := by subst hw0; exact VRow.new w _ _
  have hB0 : RowKit.Below w.heap.size w w0 := by subst hw0; exact (RowKit.Below.refl _ _).alloc (Nat.le_refl _) _
  have hE0 : endA G st ((ltr s).take 0) = st := rfl
  go_enter Tryz.func105, Tryz.ntmps105
  go_wp2
  rw [← hw0]
  clear hw0
  go_loopw [1, 7] (fun sv iv wr => ∃ (k : Nat) (qk : Option Addr) (dk : Nat), k ≤ s.size ∧ sv = .slice qk (endA G st ((ltr s).take k)).length dk ∧ iv = .int .i64 k ∧ Sl wr (Value.int .i64) qk (endA G st ((ltr s).take k)) ∧ RowKit.Below w0.heap.size w0 wr) (fun _ iv _ => s.size - (intOf iv).toNat)
  case atStart => exact ⟨0, q, d, by omega, by rw [hE0], rfl, by rw [hE0]; exact HST.out.below hB0, RowKit.Below.refl _ _⟩
  case round =>
    obtain ⟨k, qk, dk, hk, rfl, rfl, hsl, hB⟩ := hrel
    have HSK := hidI (endA_st G st HS.out ((ltr s).take k))
    have HSTOP := hidI (@endA_stop G st (ltr s) k)
    have xr := hB0.trans (hB.mono hB0.size)
    by_cases hlt : k < s.size
    · have HN : Hid (endA G st ((ltr s).take (k + 1)) = nextA G (endA G st ((ltr s).take k)) (Chg.dig (s[k].toNat : Int))) := by rw [Hid, ltr_take s k hlt, endA_snoc]
      generalize endA G st ((ltr s).take k) = L at *
      have hltN : (k : Int) < (s.size : Int) := by omega
      by_cases hL : 0 < L.length
      · have hLi : (0 : Int) < (L.length : Int) := by omega
        have hd := okw_at HW.out k hlt
        have r0 := b0.below hB b0.lt
        go_upto_region 4 with fail
        refine region_tail 5 (by kernel_rfl) (by kernel_rfl) fun W hD => ?_
        have g0 := (r0.dr hD).at 0 rfl; have g1 := (r0.dr hD).at 1 rfl; have g2 := (r0.dr hD).at 2 rfl
        have hBW := hB.trans (hD.below _)
        have xw := xr.trans (hD.below _)
        have hslW := hsl.dr hD
        clear r0
        simp only [List.take_succ_cons, List.take_zero, List.drop_succ_cons, List.drop_zero]
        iterate 5 still_step
        refine wpStill_nil ?_
        go_wp2_with fail
        refine (lStep_any G p c L qk dk s[k] W (HIN.out.below xw) hslW HV.out HSK.out hd.1 hd.2).mono ?_
        rintro e w2 ⟨p', m', c', rfl, hown, hB2⟩
        obtain ⟨q2, d2, he, hs2⟩ := own_sl hown
        cases he
        go_wp2
        go_roundw
        case rel => exact ⟨k + 1, p', c', by omega, by rw [HN.out], by go_num, by rw [HN.out]; exact hs2, hBW.trans (hB2.mono hBW.size)⟩
        case measure => simp [intOf]; omega
      · have hLi : ¬ (0 : Int) < (L.length : Int) := by omega
        have HE : Hid (endA G st (ltr s) = L) := by
          have h0 : L = [] := List.eq_nil_of_length_eq_zero (by omega)
          rw [Hid, h0]; exact HSTOP.out h0
        clear hL
        go_wp2
        go_ret
        exact ⟨qk, dk, by rw [HE.out]; rfl, by rw [HE.out]; exact hsl, xr⟩
    · obtain rfl : k = s.size := by omega
      have hkk : ¬ ((s.size : Int)) < (s.size : Int) := by omega
      have HE : Hid (endA G st (ltr s) = endA G st ((ltr s).take s.size)) := by rw [Hid, ltr_all]
      generalize endA G st ((ltr s).take s.size) = L at *
      go_wp2
      go_ret
      exact ⟨qk, dk, by rw [HE.out]; rfl, by rw [HE.out]; exact hsl, xr⟩
set_option maxRecDepth 100000 in
set_option maxHeartbeats 1000000 in
theorem lAccepts_any (G : Gr) (p : Option Addr) (c : Nat) (s : ByteArray) (w : World) (hin : Sg 3 w edE p G.es) (hv : Vg G) (hq : G.q ≤ 16) (hs : s.size ≤ maxLen) (hc : Chg.wchk G.q s.data.toList = 0) (hl : s.size ≤ 65536) :
    Calls Tryz.prog 44 #[(.agg #[.int .i64 G.q, .int .i64 G.n, .slice p G.es.length c]), .string s] w fun e w' => e = .returned (.tuple #[.bool (accA G s), .int .i64 0]) ∧ RowKit.Below w.heap.size w w' := by
  have HIN := hidI hin; have HV := hidI hv; have HC := hidI hc
  clear hin hv hc
  obtain ⟨w0, hw0⟩ : ∃ w0, w0 = w.alloc (.cells #[.int .i64 G.q, .int .i64 G.n, .slice p G.es.length c] 24) := ⟨_, rfl⟩
  have b0 : VRow w0 w.heap.size 24 [.int .i64 G.q, .int .i64 G.n, .slice p G.es.length c] := by subst hw0; exact VRow.new w _ _
  have hB0 : RowKit.Below w.heap.size w w0 := by subst hw0; exact (RowKit.Below.refl _ _).alloc (Nat.le_refl _) _
  go_enter Tryz.func44, Tryz.ntmps44
  go_wp2_with fail
  rw [← hw0]
  clear hw0
  refine (lSpells_any G p c s w0 (HIN.out.below hB0) HV.out hq hs).mono ?_
  rw [HC.out]
  rintro e w1 ⟨rfl, hB1⟩
  have x1 := hB0.trans (hB1.mono hB0.size)
  have b1 := b0.below hB1 b0.lt
  go_upto_region 4 with fail
  have g0 := b1.at 0 rfl; have g1 := b1.at 1 rfl; have g2 := b1.at 2 rfl
  have zb : w.heap.size < w1.heap.size := b1.lt
  have HIX : Hid (∀ W, RowKit.Below w1.heap.size w1 W → Sg 3 W edE p G.es) := fun W h => HIN.out.below (x1.trans (h.mono x1.size))
  have HA : Hid (accA G s = decide (0 < (endA G (upto G.n.toNat) (ltr s)).length)) := rfl
  have HUP := hidI (St.upto HV.out.n1)
  have HOK := hidI (wchk_okw HC.out)
  clear b0 hB0 hB1 b1
  generalize hL : endA G (upto G.n.toNat) (ltr s) = L at *
  have HL := hidI hL
  clear hL
  go_cut [4, 5] (fun s4 s5 wx => s4 = .bool (decide (0 < L.length)) ∧ s5 = .int .i64 0 ∧ RowKit.Below w1.heap.size w1 wx)
  case first =>
    go_region_held3 (fun w' => w'.cell? ⟨w.heap.size, 0, none⟩ = some (.int .i64 G.q) ∧ w'.cell? ⟨w.heap.size, 1, none⟩ = some (.int .i64 G.n) ∧ w'.cell? ⟨w.heap.size, 2, none⟩ = some (.slice p G.es.length c) ∧ RowKit.Below w1.heap.size w1 w')
      (first | (go_split_ands; refine ⟨?_, ?_, ?_, ?_⟩ <;> first | assumption | (go_keep; done) | exact below_drewN (RowKit.Below.refl _ _) 1 | exact (hBa.cell (Nat.lt_of_lt_of_le zb (RowKit.Below.size (by assumption)))).trans (by assumption) | exact (hBb.cell (Nat.lt_of_lt_of_le zb (RowKit.Below.size (by assumption)))).trans (by assumption) | exact RowKit.Below.trans (by assumption) (hBa.mono (RowKit.Below.size (by assumption))) | exact RowKit.Below.trans (by assumption) (hBb.mono (RowKit.Below.size (by assumption)))))
      (first
        | (go_at_call 106; go_split_ands; refine (lStates_any G p c _ HV.out).mono ?_; rintro e wA ⟨q, d, rfl, hsl, hBa⟩)
        | (go_at_call 105; go_split_ands; refine (lEnds_any G p c (upto G.n.toNat) q d s _ (HIX.out _ (by assumption)) hsl HV.out HUP.out HOK.out hl).mono ?_; rw [HL.out]; rintro e wB ⟨q3, d3, rfl, _, hBb⟩))
    all_goals
      go_wp2_with fail
      go_meet
      exact ⟨rfl, rfl, RowKit.Below.trans (by assumption) (hBb.mono (RowKit.Below.size (by assumption)))⟩
  case rest =>
    obtain ⟨rfl, rfl, hB2⟩ := hcut
    go_wp2
    go_ret2
    refine ⟨?_, x1.trans (hB2.mono x1.size)⟩
    rw [HA.out]; rfl
end Go.Proofs.YtocbhlohcikapaaGreatDoor
namespace Go.Proofs.YtocbhlohcikapaaGreatDoor
open Go.RowKit Go.Sort Go.Shelf Go.Lib
def wdM (x : ByteArray) (a : Nat) : ByteArray := x ++ (⟨#[48, 49, 50, 51, 52, 53, 54, 55, 56, 57, 97, 98, 99, 100, 101, 102]⟩ : ByteArray).extract a (a + 1)
theorem ltM : ∀ a : Nat, a < 16 → ((⟨#[48, 49, 50, 51, 52, 53, 54, 55, 56, 57, 97, 98, 99, 100, 101, 102]⟩ : ByteArray).extract a (a + 1)).data.toList.map (fun c => Chg.dig c.toNat) = [(a : Int)] := by decide +kernel
theorem szM : ∀ a : Nat, a < 16 → ((⟨#[48, 49, 50, 51, 52, 53, 54, 55, 56, 57, 97, 98, 99, 100, 101, 102]⟩ : ByteArray).extract a (a + 1)).size = 1 := by decide +kernel
theorem wdM_ltr (x : ByteArray) {a : Nat} (h : a < 16) : ltr (wdM x a) = ltr x ++ [(a : Int)] := by
  unfold ltr wdM
  rw [ByteArray.data_append, Array.toList_append, List.map_append]
  exact congrArg _ (ltM a h)
theorem wdM_size (x : ByteArray) {a : Nat} (h : a < 16) : (wdM x a).size = x.size + 1 := by
  unfold wdM
  rw [ByteArray.size_append, szM a h]
theorem wchk_ltr {q : Int} {s : ByteArray} (h1 : 1 ≤ q) (h2 : q ≤ 16) (hs : s.size ≤ 65536) (hl : LabI q (ltr s)) : Chg.wchk q s.data.toList = 0 := by
  unfold Chg.wchk
  rw [if_neg (by omega), if_neg (by have : s.data.toList.length = s.size := by simp
                                    omega), if_pos]
  unfold Chg.okw
  rw [List.all_eq_true]
  intro c hc
  have := hl (Chg.dig c.toNat) (List.mem_map.2 ⟨c, hc, rfl⟩)
  unfold Chg.okc
  simp only [Bool.and_eq_true, decide_eq_true_eq]
  exact this
theorem Sl.grownM {α : Type} {w w' : World} {enc : α → Value} {p : Option Addr} {l : List α} {r : Option Nat} (h : Sl w enc p l) (hg : w.grownBy w' r) (hne : ∀ b o, p = some ⟨b, o, none⟩ → r ≠ some b) : Sl w' enc p l := by
  rcases h with h | ⟨b, off, rfl, hb, hc⟩
  · exact .inl h
  · exact .inr ⟨b, off, rfl, Nat.lt_of_lt_of_le hb hg.size, fun i hi => (World.cell?_of_block (w := w) (a := ⟨b, off + i, none⟩) (hg.block b hb (fun e => hne b off rfl e.symm))).trans (hc i hi)⟩
def labM (q : Int) (xs : List Int) : List Int := xs.map fun x => x % q
theorem labM_len (q : Int) (xs : List Int) : (labM q xs).length = xs.length := by simp [labM]
theorem labM_take (q : Int) (xs : List Int) {k : Nat} (hk : k < xs.length) : (labM q xs).take (k + 1) = (labM q xs).take k ++ [xs[k] % q] := by
  rw [List.take_succ_eq_append_getElem (by rw [labM_len]; exact hk)]
  simp [labM]
theorem labM_in {q : Int} (h : 1 ≤ q) (xs : List Int) : LabI q (labM q xs) := fun c hc => by
  obtain ⟨x, _, rfl⟩ := List.mem_map.1 hc
  exact ⟨Int.emod_nonneg _ (by omega), Int.emod_lt_of_pos _ (by omega)⟩
structure SetM (W : World) (B : Nat) (lv : Value) (L : List Int) (qs : Option Addr) (S : List Int) : Prop where
  own : W.ownsRow B 3 1 lv L.length (L.map (Value.int .i64))
  set : Sl W (Value.int .i64) qs S
  ne : S = [] ∨ ∃ b o, qs = some ⟨b, o, none⟩ ∧ b < W.heap.size ∧ lv.ownBlock ≠ some b
theorem SetM.app {W W2 W' : World} {B g cap : Nat} {lv : Value} {L S : List Int} {qs : Option Addr} {x : Int} (h : SetM W B lv L qs S) (hB : RowKit.Below W.heap.size W W2) (hg : W2.grownBy W' lv.ownBlock)
    (ho : W'.ownsRow B 3 1 (.slice (some ⟨g, 0, none⟩) (L.length + 1) cap) (L.length + 1) (L.map (Value.int .i64) ++ [.int .i64 x])) (hor : lv.ownBlock = some g ∨ g = W2.heap.size) : SetM W' B (.slice (some ⟨g, 0, none⟩) (L.length + 1) cap) (L ++ [x]) qs S := by
  refine ⟨by rw [List.length_append, List.map_append]; exact ho, ?_, ?_⟩
  · rcases h.ne with hS | ⟨b, o, rfl, hb, hne⟩
    · exact .inl hS
    · exact (h.set.below hB).grownM hg (fun b' o' e => by cases e; exact hne)
  · rcases h.ne with hS | ⟨b, o, rfl, hb, hne⟩
    · exact .inl hS
    · refine .inr ⟨b, o, rfl, Nat.lt_of_lt_of_le hb (Nat.le_trans hB.size hg.size), fun e => ?_⟩
      have e : g = b := by simpa [Value.ownBlock] using e
      subst e
      rcases hor with h1 | h1
      · exact hne h1
      · have := hB.size; omega
theorem SetM.step {W W' : World} {B : Nat} {lv : Value} {L S T : List Int} {qs qt : Option Addr} (h : SetM W B lv L qs S) (hB : RowKit.Below W.heap.size W W') (hs : Sl W' (Value.int .i64) qt T) (hn : T = [] ∨ ∃ b o, qt = some ⟨b, o, none⟩ ∧ W.heap.size ≤ b) : SetM W' B lv L qt T := by
  refine ⟨h.own.below hB, hs, ?_⟩
  rcases hn with hT | ⟨b, o, rfl, hb⟩
  · exact .inl hT
  · rcases hs with hT | ⟨b', o', e, hb', _⟩
    · exact .inl hT
    · cases e
      exact .inr ⟨b, o, rfl, hb', fun e => by have := (h.own.lt b e).2; omega⟩
theorem own_far {W : World} {B m c : Nat} {p : Option Addr} {T : List Int} (h : W.ownsRow B 3 1 (.slice p m c) T.length (T.map (Value.int .i64))) : T = [] ∨ ∃ b o, p = some ⟨b, o, none⟩ ∧ B ≤ b := by
  rcases h.2 with ⟨_, e⟩ | ⟨g, cap, cur, e, hg, _⟩
  · exact .inl (List.eq_nil_of_length_eq_zero e)
  · cases e; exact .inr ⟨g, 0, rfl, hg⟩
set_option maxRecDepth 100000 in
set_option maxHeartbeats 4000000 in
theorem lawFollow_any (G : Gr) (p : Option Addr) (c : Nat) (xs : List Int) (q : Option Addr) (d : Nat) (hx : ∀ x ∈ xs, 0 ≤ x ∧ x ≤ 255) (w : World) (hin : Sg 3 w edE p G.es) (hl : G.es.length ≤ 9223372036854775807) (hs : Sl w (Value.int .u8) q xs) (hxl : xs.length ≤ 9223372036854775807) :
    Calls Tryz.prog 9 #[(.agg #[.int .i64 G.q, .int .i64 G.n, .slice p G.es.length c]), .slice q xs.length d] w fun e w' => e = .returned (.bool true) ∧ RowKit.Below w.heap.size w w' := by
  obtain ⟨i0, hi0, hz0, hz1, hz3⟩ := info_parts infoIn
  obtain ⟨w0, hw0⟩ : ∃ w0, w0 = w.alloc (.cells #[.int .i64 G.q, .int .i64 G.n, .slice p G.es.length c] 24) := ⟨_, rfl⟩
  have b0 : VRow w0 w.heap.size 24 [.int .i64 G.q, .int .i64 G.n, .slice p G.es.length c] := by subst hw0; exact VRow.new w _ _
  have hB0 : RowKit.Below w.heap.size w w0 := by subst hw0; exact (RowKit.Below.refl _ _).alloc (Nat.le_refl _) _
  have HAW := hidI awake15_any
  have HFI := hidI (fine15_any G p c w0 (hin.below hB0) hl)
  have g0 := b0.at 0 rfl; have g1 := b0.at 1 rfl; have g2 := b0.at 2 rfl
  by_cases hf : finB G = true ∧ xs.length ≤ 12
  · obtain ⟨hf, hx12⟩ := hf
    obtain ⟨hc, _, _, hq4⟩ := fin_iff.1 hf
    have HV := hidI (chkG_ok.1 hc)
    have HIN := hidI (hin.below hB0)
    have HS := hidI (hs.below hB0)
    have HX := hidI hx
    have hq1 := HV.out.q1
    have hnn := HV.out.n1; have hn64 := HV.out.n2; have hel := HV.out.len
    obtain ⟨N, hN⟩ : ∃ N : Nat, G.n = N := ⟨G.n.toNat, by omega⟩
    have HT0 : Hid (flA G ((labM G.q xs).take 0) = upto N) := by show upto G.n.toNat = _; rw [hN]; rfl
    have hLb : (12 : Int) < (xs.length : Int) ↔ False := ⟨fun h => by omega, fun h => h.elim⟩
    have hL12 : ¬ (12 : Int) < (xs.length : Int) := by omega
    have HFO := hidI (fun W (hW : RowKit.Below w0.heap.size w0 W) q' d' (h : Sl W (Value.int .i64) q' (labM G.q xs)) => mmFollow_any G p c (labM G.q xs) q' d' W ((hin.below hB0).below hW) hl h (by rw [labM_len]; exact hxl))
    rw [fol_ok hc (by rw [labM_len]; omega) (labM_in hq1 xs)] at HFO
    have HAC := hidI (fun W (hW : RowKit.Below w0.heap.size w0 W) s (hs : ltr s = labM G.q xs) (hz : s.size ≤ 12) => lAccepts_any G p c s W ((hin.below hB0).below hW) (chkG_ok.1 hc) (by omega) (by unfold maxLen; omega) (wchk_ltr hq1 (by omega) (by omega) (by rw [hs]; exact labM_in hq1 xs)) (by omega))
    have HAE : Hid (∀ s, ltr s = labM G.q xs → accA G s = decide (0 < (flA G (labM G.q xs)).length)) := fun s h => by unfold accA; rw [h]; rfl
    rw [hf] at HFI
    have HNN := hidI hN
    clear hf hc hin hs hx hLb hnn hn64 hN
    go_enter Tryz.func9, Tryz.ntmps9
    go_upto_region 1 with fail
    rw [← hw0]
    clear hw0
    go_wp2_with fail
    refine HFI.out.mono ?_
    rintro e w1 ⟨rfl, hB1⟩
    (clear g0 g1 g2; have c0 := b0.below hB1 b0.lt; have g0 := c0.at 0 rfl; have g1 := c0.at 1 rfl; have g2 := c0.at 2 rfl; clear c0)
    rw [HNN.out] at g1
    have hz1' := hB1.size
    clear HFI
    go_wp2_with fail
    go_loopw [6, 29] (fun ov iv wr => ∃ k : Nat, k ≤ N ∧ iv = .int .i64 k ∧ wr.ownsRow w1.heap.size 3 1 ov k ((upto k).map (Value.int .i64)) ∧ RowKit.Below w1.heap.size w1 wr) (fun _ iv _ => N - (intOf iv).toNat)
    case atStart => exact ⟨0, by omega, rfl, World.ownsRow_nil _ _ _ _, RowKit.Below.refl _ _⟩
    case round =>
      clear g0 g1 g2
      obtain ⟨k, hk, rfl, hown, hB⟩ := hrel
      by_cases hlt : k < N
      · have hltI : (k : Int) < (N : Int) := by omega
        have hn64 : N ≤ 64 := by have := HV.out.n2; have := HNN.out; omega
        have hnew := cell_one_at wr (.int .i64 (k : Int)) 3 wr.heap.size rfl
        have HUS := hidI (upto_succ k)
        generalize upto k = M at *
        go_wp2_with (at_builtin; refine wpList_append_own _ rfl _ _ 30 rfl w1.heap.size 3 i0 (.int .i64 0) 1 8 Tryz.underlying30 hi0 hz0 hz1 hz3 rfl (by decide) _ _ _ rfl (hown.alloc _) ⟨wr.heap.size, 0, none⟩ 1 1 [.int .i64 (k : Int)] rfl rfl hnew (by simp [Value.oneCell']) (by simp [maxLen]; omega) (by omega) (by rw [World.size_alloc]; have := hB.size; omega) ?_; intro v' w2 hown' hgrow _)
        go_roundw
        case rel => exact ⟨k + 1, by omega, by go_num, by rw [HUS.out, List.map_append]; exact hown', (hB.alloc hB.size _).grown hgrow (Nat.le_trans hB.size (by simp)) (fun j e => (hown.lt j e).1)⟩
        case measure => simp [intOf]; omega
      · obtain rfl : k = N := by omega
        have hltI : ¬ (k : Int) < (k : Int) := by omega
        clear hlt hk
        obtain ⟨ps, cs, rfl, hsl⟩ := own_sl hown
        have hB1r := hB1.trans (hB.mono hB1.size)
        have hm0 : SetM wr wr.heap.size (.slice none 0 0) ((labM G.q xs).take 0) ps (flA G ((labM G.q xs).take 0)) := ⟨World.ownsRow_nil _ _ _ _, by rw [HT0.out]; exact hsl, by
          rw [HT0.out]
          rcases hsl with h | ⟨b', o', h1, h2, _⟩
          · exact .inl h
          · exact .inr ⟨b', o', h1, h2, by simp [Value.ownBlock]⟩⟩
        obtain ⟨wo, rfl⟩ : ∃ wo : World, wo = wr := ⟨_, rfl⟩
        have hw0o : Hid (w0.heap.size ≤ wo.heap.size) := hB1r.size
        clear hsl hown hB
        have hlen0 : Hid ((upto k).length = (flA G ((labM G.q xs).take 0)).length) := by rw [Hid, HT0.out]
        go_wp2_with fail
        go_loopw [5, 6, 7, 39] (fun lv sv uv iv wx => ∃ (j : Nat) (qs : Option Addr) (ds : Nat) (s : ByteArray), j ≤ xs.length ∧ sv = .slice qs (flA G ((labM G.q xs).take j)).length ds ∧ uv = .string s ∧ iv = .int .i64 j ∧ SetM wx wo.heap.size lv ((labM G.q xs).take j) qs (flA G ((labM G.q xs).take j)) ∧ Hid (ltr s = (labM G.q xs).take j) ∧ Hid (s.size = j) ∧ RowKit.Below w0.heap.size w0 wx ∧ wo.heap.size ≤ wx.heap.size) (fun _ _ _ iv _ => xs.length - (intOf iv).toNat)
        case atStart => exact ⟨0, ps, cs, ⟨#[]⟩, Nat.zero_le _, by rw [hlen0.out], rfl, rfl, hm0, rfl, rfl, hB1r, Nat.le_refl _⟩
        case round =>
          clear hm0 hB1r hlen0
          obtain ⟨j, qs, ds, s, hj, rfl, rfl, rfl, hm, hls, hss, hB, hge⟩ := hrel
          obtain ⟨pl, ml, cl, rfl⟩ := own_shI hm.own
          have xr := hB0.trans (hB.mono hB0.size)
          have c0 := b0.below hB b0.lt
          have g0 := c0.at 0 rfl; have g1 := c0.at 1 rfl; have g2 := c0.at 2 rfl
          by_cases hlt : j < xs.length
          · have hltI : (j : Int) < (xs.length : Int) := by omega
            obtain ⟨b3, o3, e3, hb3, hcl⟩ := (HS.out.below hB).get j hlt
            have he := hcl j hlt
            have hxj := HX.out xs[j] (List.getElem_mem hlt)
            have HLT := hidI (labM_take G.q xs hlt)
            have HFT : Hid (flA G ((labM G.q xs).take (j + 1)) = nextA G (flA G ((labM G.q xs).take j)) (xs[j] % G.q)) := by rw [Hid, HLT.out, flA_snoc]
            have hlen : ((labM G.q xs).take j).length = j := by rw [List.length_take, labM_len]; omega
            obtain ⟨a, ha⟩ : ∃ a : Nat, xs[j] % G.q = (a : Int) := ⟨(xs[j] % G.q).toNat, by have := Int.emod_nonneg xs[j] (show G.q ≠ 0 by omega); omega⟩
            have haq : (a : Int) < G.q := by rw [← ha]; exact Int.emod_lt_of_pos _ (by omega)
            have ht1 : xs[j].tmod G.q = (a : Int) := by rw [Int.tmod_eq_emod_of_nonneg hxj.1]; exact ha
            have hw1 : IntKind.i64.wrap xs[j] = xs[j] := IntWalk.i64_in _ (by omega)
            have hw2 : IntKind.i64.wrap (a : Int) = (a : Int) := IntWalk.i64_in _ (by omega)
            have hq0 : (G.q == 0) = false := beq_eq_false_iff_ne.2 (by omega)
            rw [ha] at HLT HFT
            have HST := hidI (flA_st HV.out ((labM G.q xs).take j))
            have hSl := flA_len HV.out ((labM G.q xs).take j)
            have HSTP := hidI (stepA_st HV.out HST.out (show (0 : Int) ≤ (a : Int) by omega) haq)
            have ha16 : a < 16 := by omega
            generalize xs[j] = x at *
            generalize (labM G.q xs).take j = L at *
            generalize flA G L = S at *
            have HSZ := hidI (wdM_size s ha16)
            have HLR := hidI (wdM_ltr s ha16)
            have HWD : Hid (wdM s a = s ++ ({ data := #[48, 49, 50, 51, 52, 53, 54, 55, 56, 57, 97, 98, 99, 100, 101, 102] } : ByteArray).extract a (a + 1)) := rfl
            have hs12 : s.size ≤ 12 := by have := hss.out; omega
            have hI1 : (a : Int) ≤ (a : Int) + 1 := by omega
            have hI2 : (a : Int) + 1 ≤ 16 := by omega
            have hI3 : ((a : Int) + 1).toNat = a + 1 := by omega
            have hI4 : IntKind.i64.wrap ((a : Int) + 1) = (a : Int) + 1 := IntWalk.i64_in _ (by omega)
            have HM := hidI hm
            have hownA := hm.own.alloc (.cells #[.int .i64 (a : Int)] 3)
            have hnew := cell_one_at wr (.int .i64 (a : Int)) 3 wr.heap.size rfl
            have hj12 : j < 12 := by omega
            cases e3
            clear hcl hm hxj HST
            go_wp2_with (at_builtin; refine wpList_append_lies _ rfl _ _ 30 rfl wo.heap.size 3 i0 (.int .i64 0) 1 8 Tryz.underlying30 hi0 hz0 hz1 hz3 rfl (by decide) _ _ _ rfl hownA ⟨wr.heap.size, 0, none⟩ 1 1 [.int .i64 (a : Int)] rfl rfl hnew (by simp [Value.oneCell']) (by decide) (by unfold maxLen; omega) (by omega) (by rw [World.size_alloc]; omega) (wr.heap.size + 1) (by simp) ?_; intro g cap w2 hown' hgrow hor hg; have hB2 : RowKit.Below w0.heap.size w0 w2 := (hB.alloc hB.size _).grown hgrow (Nat.le_trans hB.size (by simp)) (fun j e => Nat.le_trans hw0o.out (HM.out.own.lt j e).1); have c2 := b0.below hB2 b0.lt; have r0 := c2.at 0 rfl; have r1 := c2.at 1 rfl; have r2 := c2.at 2 rfl)
            have hM2 : SetM w2 wo.heap.size (.slice (some ⟨g, 0, none⟩) (L.length + 1) cap) (L ++ [(a : Int)]) qs S := HM.out.app ((RowKit.Below.refl _ _).alloc (Nat.le_refl _) _) hgrow hown' (by rcases hor with h | h; exact .inl h; exact .inr (by rw [h]; simp))
            rw [hlen] at hM2
            have HG := hidI (gStep_any G p c S qs ds (a : Int) w2 (HIN.out.below hB2) hM2.set (by omega) (by omega))
            rw [HSTP.out] at HG
            refine HG.out.mono ?_
            rintro e w3 ⟨p3, m3, c3, rfl, hown3, hB3⟩
            have hfar := own_far (by obtain ⟨_, _, e3, _⟩ := own_sl hown3; cases e3; exact hown3)
            obtain ⟨q3, d3, he3, hs3⟩ := own_sl hown3
            cases he3
            have hB03 := hB2.trans (hB3.mono hB2.size)
            have hM3 := hM2.step hB3 hs3 hfar
            rw [← HWD.out]
            clear r0 r1 r2 c2 hown3 hM2 HG hnew hownA g0 g1 g2 c0 he hown'
            have hge3 : wo.heap.size ≤ w3.heap.size := Nat.le_trans hge (Nat.le_trans (by simp) (Nat.le_trans hgrow.size hB3.size))
            go_wp2_with fail
            go_roundw
            case rel => exact ⟨j + 1, p3, c3, wdM s a, by omega, by rw [HFT.out], rfl, by go_num, by rw [HFT.out, HLT.out]; exact hM3, by rw [Hid, HLR.out, hls.out, HLT.out], by rw [Hid, HSZ.out, hss.out], hB03, hge3⟩
            case measure => simp [intOf]; omega
          · obtain rfl : j = xs.length := by omega
            have hltI : ¬ (xs.length : Int) < (xs.length : Int) := by omega
            have hT : (labM G.q xs).take xs.length = labM G.q xs := by rw [← labM_len G.q xs, List.take_length]
            rw [hT] at hm hls ⊢
            obtain ⟨p5, c5, e5, hs5⟩ := own_sl hm.own
            cases e5
            have hset := hm.set
            have HA := hidI (HFO.out wr hB _ cl hs5)
            have HC := hidI (fun W (hW : RowKit.Below w0.heap.size w0 W) => HAC.out W hW s hls.out (by have := hss.out; omega))
            rw [HAE.out s hls.out] at HC
            have hfl := flA_len HV.out (labM G.q xs)
            clear hm hs5 hT HFO HAC HAE HT0
            generalize flA G (labM G.q xs) = S at *
            generalize labM G.q xs = L at *
            go_wp2_with fail
            refine HA.out.mono ?_
            rintro e w5 ⟨q5, d5, rfl, hs5, hB5⟩
            have hB05 := hB.trans (hB5.mono hB.size)
            have hset := hset.below hB5
            (clear g0 g1 g2; have c0 := b0.below hB05 b0.lt; have g0 := c0.at 0 rfl; have g1 := c0.at 1 rfl; have g2 := c0.at 2 rfl; clear c0)
            go_wp2_with fail
            refine (HC.out w5 hB05).mono ?_
            rintro e w6 ⟨rfl, hB6⟩
            have hB06 := hB05.trans (hB6.mono hB05.size)
            have hset := hset.below hB6
            have hs6 := hs5.below hB6
            have HEQ := hidI (equalI_n S S q5 qs d5 ds w6 hs6 hset (by omega) (by omega))
            rw [decide_eq_true (rfl : S = S)] at HEQ
            clear g0 g1 g2 HA HC hs5
            go_wp2_with fail
            refine HEQ.out.mono ?_
            rintro e w7 ⟨rfl, hD7⟩
            have x7 := hB0.trans ((hB06.trans (hD7.below _)).mono hB0.size)
            have hbb : (decide (0 < S.length) == decide ((0 : Int) < (S.length : Int))) = true := by simp
            go_wp2_with fail
            refine (HAW.out w7).mono ?_
            rintro e w8 ⟨rfl, hB8⟩
            go_wp2
            go_ret
            exact ⟨rfl, x7.trans (hB8.mono x7.size)⟩
  · have hf' : finB G = false ∨ (finB G = true ∧ 12 < xs.length) := by
      cases h : finB G
      · exact .inl rfl
      · exact .inr ⟨rfl, Nat.lt_of_not_le fun e => hf ⟨h, e⟩⟩
    clear hf hin hs hx
    go_enter Tryz.func9, Tryz.ntmps9
    go_upto_region 1 with fail
    rw [← hw0]
    clear hw0
    rcases hf' with hf | ⟨hf, hlong⟩
    · rw [hf] at HFI
      clear hf
      go_wp2_with fail
      refine HFI.out.mono ?_
      rintro e w1 ⟨rfl, hB1⟩
      have x1 := hB0.trans (hB1.mono hB0.size)
      go_wp2_with fail
      refine (HAW.out w1).mono ?_
      rintro e w2 ⟨rfl, hB2⟩
      go_wp2
      go_ret
      exact ⟨rfl, x1.trans (hB2.mono x1.size)⟩
    · rw [hf] at HFI
      have hlI : (12 : Int) < (xs.length : Int) := by omega
      clear hf hlong
      go_wp2_with fail
      refine HFI.out.mono ?_
      rintro e w1 ⟨rfl, hB1⟩
      have x1 := hB0.trans (hB1.mono hB0.size)
      go_wp2_with fail
      refine (HAW.out w1).mono ?_
      rintro e w2 ⟨rfl, hB2⟩
      go_wp2
      go_ret
      exact ⟨rfl, x1.trans (hB2.mono x1.size)⟩
end Go.Proofs.YtocbhlohcikapaaGreatDoor
namespace Go.Proofs.YtocbhlohcikapaaGreatDoor
open Go.Joins Go.ChangeShapes Go.WideShapes Go.ChangeAt Go.RowKit Go.Deep
set_option maxRecDepth 100000 in
theorem memoryFollow_door (os : Os) (args : Array Value) : laidMetH Tryz.prog Rows.memoryFollowRow.laid ((World.doorLaid Tryz.prog 24 os).forCall (fun _ _ => 0) ⟨#[], args, []⟩).memory :=
  laidMetH_of_parts3 (fuel := 8) (laidMet_of_run' 8 (by kernel_rfl) (by kernel_rfl)) (by kernel_rfl) (by kernel_rfl)
set_option maxRecDepth 100000 in
theorem memoryFollow_lifted (os : Os) (started : os.Started) (H : Type) (enc : TypeId × Value → H) :
    ReturnsInHanded {} Tryz.checked os 9 .any (fun w args => (Rows.memoryFollowSpec.pre enc Tryz.prog Tryz.f9 [] false w args ∧ laidMetH Tryz.prog Rows.memoryFollowRow.laid w) ∧ sizedMet enc Tryz.prog Tryz.f9 (OpenSpec.ofChange Rows.memoryFollowSpec) false w args)
      (Rows.memoryFollowSpec.post enc Tryz.prog Tryz.f9 false true false false) := by
  refine returnsInHanded_of_change_and (C := Tryz.checked) (X := fun w _ => laidMetH Tryz.prog Rows.memoryFollowRow.laid w) (fun _ _ _ hh h => h.of_heap hh) own started (by kernel_rfl) Tryz.func9
    (ChangeSpec.witness_shaped (enc := enc) (C := Tryz.checked) (os := os) (X := fun w _ => laidMetH Tryz.prog Rows.memoryFollowRow.laid w) false (World.doorLaid Tryz.prog 24 os) #[.agg #[.int .i64 0, .int .i64 0, .slice none 0 0], .slice none 0 0] 8 rfl (World.shaped_of_RefB (by kernel_rfl) (by kernel_rfl)) (by kernel_rfl) (by kernel_rfl) (by kernel_rfl) (memoryFollow_door os _)) ?_
  intro W base args ds gs before hval0 hW _ _ _ _
  have hval : ∀ (j : Nat) t v, Tryz.f9.params[j]? = some t → args[j]? = some v → Value.okWide Tryz.prog W .any base t v := hval0
  have hW' := hW
  obtain ⟨p, q, hA0, hV, rfl, hfz, hnd⟩ := hW
  have hA : DataW.TrodAll enc Tryz.prog W 0 (fun _ => true) true Tryz.f9.params.toList args.toList ds p := hA0
  rw [Tryz.params9] at hA hval
  obtain ⟨v0, v1, d0, d1, p0, p1, rfl, rfl, rfl, h0, h1⟩ := trodAll_two hA
  obtain ⟨rfl, rfl⟩ := trodVars_none hV
  have hlt : ∀ x ∈ p0 ++ p1, x.block < W.heap.size := fun x hx => hW'.lt x (List.mem_append_left _ (by simpa using hx))
  obtain ⟨G0, q0, c0, rfl, s0, l0⟩ := graph_in (hval 0 24 v0 rfl rfl) h0 (fun x hx => hlt x (by simp only [List.mem_append]; simp [hx]))
  obtain ⟨a1, len1, cap1, rfl⟩ := okWide_slice Tryz.underlying56 (hval 1 56 v1 rfl rfl)
  obtain ⟨fuel1, hf1⟩ := h1
  simp only [Value.cells] at hf1
  obtain ⟨q1, l1, c1, he1, hl1, hll1, hlc1⟩ := u8s_atM hf1 (fun x hx => hlt x (by simp only [List.mem_append]; simp [hx]))
  rw [he1] at hval hW' ⊢
  refine (lawFollow_any G0 q0 c0 l1 q1 c1 hlc1 W s0 l0 hl1 hll1).mono fun e W' ⟨he, hB⟩ => ?_
  subst he
  refine ⟨_, rfl, law_post hW' rfl (by kernel_rfl) ?_ rfl rfl rfl hB⟩
  rw [Tryz.params9]
  intro t ht
  simp only [List.mem_cons, List.not_mem_nil, or_false] at ht
  rcases ht with rfl | rfl
  · exact readGraph
  · exact readU8sM
theorem memoryFollow_holds : Rows.MemoryFollowSaid :=
  OpenClaim.holds_of_wide 9 Tryz.f9 rfl rfl rfl rfl rfl rfl rfl ⟨rfl, rfl, rfl, rfl, rfl⟩ rfl rfl rfl rfl rfl (by kernel_rfl) Tryz.func9 (by kernel_rfl)
    (of_decide_eq_true (by kernel_rfl)) (by unfold Func.isWrapper; rw [if_neg (of_decide_eq_false (by kernel_rfl))]; exact ⟨rfl, rfl⟩)
    (fun os started H enc _ => memoryFollow_lifted os started H enc)
theorem memoryFollow_card : Rows.MemoryFollowCardSaid :=
  Claim7.holds_tied_plain_at .later [] [.data, .data, .data] true _ false
    memoryFollow_holds (fun _ h => by cases h) (by kernel_rfl) (fun _ h => by cases h) memoryFollow_row_tie rfl ⟨rfl, rfl⟩ (by kernel_rfl) rfl
    (fun f fn hf hfn => by
      obtain rfl : f = 9 := Option.some.inj ((show Tryz.prog.funcNamed "groove/groovelaw15.MemoryFollow" = some 9 by kernel_rfl).symm.trans hf) |>.symm
      obtain rfl : fn = Tryz.f9 := (Option.some.inj (Tryz.func9.symm.trans hfn)).symm
      exact ⟨by kernel_rfl, fun j t ht => by
        rw [Tryz.params9] at ht
        rcases j with _ | _ | j
        · obtain rfl : t = 24 := by simpa using ht.symm
          exact (show Tryz.prog.wantsStandIn 24 = false by kernel_rfl)
        · obtain rfl : t = 56 := by simpa using ht.symm
          exact (show Tryz.prog.wantsStandIn 56 = false by kernel_rfl)
        · simp at ht⟩)
    (by kernel_rfl)
#print axioms memoryFollow_card
end Go.Proofs.YtocbhlohcikapaaGreatDoor
namespace Go.Proofs.YtocbhlohcikapaaGreatDoor
open Go.RowKit Go.Sort Go.Shelf Go.Lib
def expL (l : List Int) (Q : Nat) : List (List Int) := (List.range Q).map fun (c : Nat) => l ++ [(c : Int)]
theorem expL_succ (l : List Int) (Q : Nat) : expL l (Q + 1) = expL l Q ++ [l ++ [(Q : Int)]] := by simp [expL, List.range_succ]
def lisA (Q : Nat) : Nat → List (List Int)
  | 0 => [[]]
  | n + 1 => (lisA Q n).flatMap fun l => expL l Q
theorem expL_len (l : List Int) (Q : Nat) : (expL l Q).length = Q := by simp [expL]
theorem flat_len (Q : Nat) : ∀ (L : List (List Int)), (L.flatMap fun l => expL l Q).length = L.length * Q
  | [] => by simp
  | l :: L => by rw [List.flatMap_cons, List.length_append, expL_len, flat_len Q L, List.length_cons, Nat.succ_mul]; omega
theorem lisA_len (Q : Nat) : ∀ n, (lisA Q n).length = Q ^ n
  | 0 => rfl
  | n + 1 => by rw [lisA, flat_len, lisA_len Q n, Nat.pow_succ]
theorem mem_lisA {q : Int} {Q : Nat} (hQ : q = Q) : ∀ (n : Nat) {l : List Int}, l ∈ lisA Q n ↔ l.length = n ∧ LabI q l
  | 0, l => by
    show l ∈ [[]] ↔ _
    rw [List.mem_singleton]
    constructor
    · rintro rfl; exact ⟨rfl, fun c hc => by cases hc⟩
    · rintro ⟨h, _⟩; exact List.eq_nil_of_length_eq_zero h
  | n + 1, l => by
    rw [lisA, List.mem_flatMap]
    constructor
    · rintro ⟨m, hm, h⟩
      obtain ⟨h1, h2⟩ := (mem_lisA hQ n).1 hm
      obtain ⟨c, hc, rfl⟩ := List.mem_map.1 h
      have hc := List.mem_range.1 hc
      refine ⟨by simp [h1], fun d hd => ?_⟩
      rcases List.mem_append.1 hd with hd | hd
      · exact h2 d hd
      · obtain rfl := List.mem_singleton.1 hd; omega
    · rintro ⟨h1, h2⟩
      rcases List.eq_nil_or_concat l with rfl | ⟨m, b, rfl⟩
      · simp at h1
      · rw [List.concat_eq_append] at *
        have hb := h2 b (by simp)
        refine ⟨m, (mem_lisA hQ n).2 ⟨by simpa using h1, fun d hd => h2 d (by simp [hd])⟩, List.mem_map.2 ⟨b.toNat, List.mem_range.2 (by omega), ?_⟩⟩
        rw [Int.toNat_of_nonneg hb.1]
theorem lisA_in {Q n : Nat} {l : List Int} (h : l ∈ lisA Q n) : l.length = n := ((mem_lisA (q := (Q : Int)) rfl n).1 h).1
theorem flat_takeM {Q : Nat} {L : List (List Int)} {k : Nat} (h : k < L.length) : (L.take (k + 1)).flatMap (fun l => expL l Q) = (L.take k).flatMap (fun l => expL l Q) ++ expL L[k] Q := by
  rw [List.take_succ_eq_append_getElem h, List.flatMap_append]; simp
theorem infoLL : (Tryz.prog.info? 30).map (fun i => (i.zero, i.size, i.bytes)) = some (some (.slice none 0 0), 1, 24) := by kernel_rfl
theorem cloneI_any (l : List Int) (p : Option Addr) (c : Nat) (W : World) (hs : Sl W (Value.int .i64) p l) (hl : l.length ≤ 5000) :
    Calls Tryz.prog 91 #[.slice p l.length c] W fun e w' => ∃ p' c', e = .returned (.slice p' l.length c') ∧ w'.ownsRow W.heap.size 3 1 (.slice p' l.length c') l.length (l.map (Value.int .i64)) ∧ RowKit.Below W.heap.size W w' := by
  rcases Nat.eq_zero_or_pos l.length with h0 | h0
  · obtain rfl := List.eq_nil_of_length_eq_zero h0
    cases p with
    | none =>
      refine (Tryz.slices_Clone_int_nil 0 c W).mono ?_
      rintro e w' ⟨rfl, rfl⟩
      exact ⟨none, 0, rfl, World.ownsRow_nil _ _ _ _, RowKit.Below.refl _ _⟩
    | some a =>
      refine (Tryz.slices_Clone_int_zero a c W).mono ?_
      rintro e w' ⟨v', rfl, ho, _, hB⟩
      obtain ⟨p', c', rfl⟩ := own_shape1 ho
      exact ⟨p', c', rfl, ho, hB⟩
  · obtain ⟨b, off, rfl, hb, hcell⟩ := hs.get 0 h0
    refine (Tryz.slices_Clone_int b off l.length c l W (Nat.le_refl _) (by omega) (fun j hj => by rw [hcell j hj]; simp [List.getD_eq_getElem?_getD, hj])).mono ?_
    rintro e w' ⟨v', rfl, ho, _, hB⟩
    rw [List.take_length] at ho
    obtain ⟨p', c', rfl⟩ := own_shape1 ho
    exact ⟨p', c', rfl, ho, hB⟩
structure OutL (B : Nat) (xs : List LEc) (L : List (List Int)) (v : Value) (W : World) : Prop where
  own : W.ownsRow B 30 1 v xs.length (xs.map lcV)
  eq : xs.map (·.1) = L
  sl : ∀ x ∈ xs, SlJ W x.2.1 x.1
theorem OutL.below {B : Nat} {xs : List LEc} {L : List (List Int)} {v : Value} {W W' : World} (h : OutL B xs L v W) (hB : RowKit.Below W.heap.size W W') : OutL B xs L v W' :=
  ⟨h.own.below hB, h.eq, fun x hx => (KCs.below hB).slj (h.sl x hx)⟩
theorem OutL.ll {B : Nat} {xs : List LEc} {L : List (List Int)} {v : Value} {W : World} (h : OutL B xs L v W) : ∃ q d, v = .slice q L.length d ∧ LLj W q L := by
  obtain ⟨q, d, e, hs⟩ := own_sl h.own
  exact ⟨q, d, by rw [e, ← h.eq, List.length_map], xs, h.eq, hs, h.sl⟩
theorem OutL.len {B : Nat} {xs : List LEc} {L : List (List Int)} {v : Value} {W : World} (h : OutL B xs L v W) : xs.length = L.length := by rw [← h.eq, List.length_map]
theorem SlJ.grownL {X Y : World} {B e n : Nat} {v : Value} {xs : List Value} {p : Option Addr} {l : List Int} (h : SlJ X p l) (hg : X.grownBy Y v.ownBlock) (ho : X.ownsRow B e 1 v n xs) (hne : 3 ≠ e) : SlJ Y p l :=
  slj_ty (fun i _ _ hc => (hg.block i (Array.getElem?_eq_some_iff.1 hc).1 (own_not ho hc hne)).trans hc) h
theorem OutL.app {B : Nat} {xs : List LEc} {L : List (List Int)} {v v' : Value} {W W2 W' : World} {q : Option Addr} {l : List Int} {d : Nat} (h : OutL B xs L v W) (hB : RowKit.Below W.heap.size W W2) (hs : SlJ W2 q l) (hg : W2.grownBy W' v.ownBlock)
    (ho : W'.ownsRow B 30 1 v' (xs.length + 1) (xs.map lcV ++ [.slice q l.length d])) : OutL B (xs ++ [(l, q, d)]) (L ++ [l]) v' W' := by
  refine ⟨by rw [List.length_append, List.map_append]; exact ho, by rw [List.map_append, h.eq]; rfl, fun x hx => ?_⟩
  have h2 := h.below hB
  rcases List.mem_append.1 hx with hx | hx
  · exact (h2.sl x hx).grownL hg h2.own (by decide)
  · obtain rfl := List.mem_singleton.1 hx
    exact hs.grownL hg h2.own (by decide)
def RetLs (L : List (List Int)) (w : World) (e : Ending) (w' : World) : Prop := ∃ q d, e = .returned (.slice q L.length d) ∧ LLj w' q L ∧ RowKit.Below w.heap.size w w'
set_option maxRecDepth 100000 in
set_option maxHeartbeats 4000000 in
theorem lists15_any (G : Gr) (p : Option Addr) (c n Q : Nat) (hQ : G.q = Q) (hQ1 : 1 ≤ Q) (hQ4 : Q ≤ 4) (hn : n ≤ 24) (hm : Q ^ n ≤ 300) (w : World) :
    Calls Tryz.prog 36 #[(.agg #[.int .i64 G.q, .int .i64 G.n, .slice p G.es.length c]), .int .i64 (n : Int)] w (RetLs (lisA Q n) w) := by
  obtain ⟨i0, hi0, hz0, hz1, hz3⟩ := info_parts infoIn
  obtain ⟨i1, hi1, hy0, hy1, hy3⟩ := info_parts infoLL
  obtain ⟨w0, hw0⟩ : ∃ w0, w0 = w.alloc (.cells #[.int .i64 G.q, .int .i64 G.n, .slice p G.es.length c] 24) := ⟨_, rfl⟩
  have b0 : VRow w0 w.heap.size 24 [.int .i64 G.q, .int .i64 G.n, .slice p G.es.length c] := by subst hw0; exact VRow.new w _ _
  have hB0 : RowKit.Below w.heap.size w w0 := by subst hw0; exact (RowKit.Below.refl _ _).alloc (Nat.le_refl _) _
  have g0 := b0.at 0 rfl
  rw [hQ] at g0
  have HQQ := hidI hQ
  have HLEN : Hid (∀ k, k ≤ n → (lisA Q k).length ≤ 300) := fun k hk => by
    rw [lisA_len]; exact Nat.le_trans (Nat.pow_le_pow_right hQ1 hk) hm
  have HSUC : Hid (∀ k, lisA Q (k + 1) = (lisA Q k).flatMap fun l => expL l Q) := fun k => rfl
  have HIN := hidI (fun k l (h : l ∈ lisA Q k) => lisA_in h)
  clear hm hQ
  have hl1 : LLj (w0.alloc (.cells #[.slice none 0 0] 30)) (some ⟨w0.heap.size, 0, none⟩) (lisA Q 0) := by
    have hr : VRow (w0.alloc (.cells #[.slice none 0 0] 30)) w0.heap.size 30 (([([], none, 0)] : List LEc).map lcV) := VRow.new w0 _ _
    exact ⟨[([], none, 0)], rfl, Sl.of_vrow hr, fun x hx => by obtain rfl := List.mem_singleton.1 hx; exact ⟨Sl.nil _ _ _, fun b o z e => by cases e⟩⟩
  have hB1 : RowKit.Below w0.heap.size w0 (w0.alloc (.cells #[.slice none 0 0] 30)) := (RowKit.Below.refl _ _).alloc (Nat.le_refl _) _
  go_enter Tryz.func36, Tryz.ntmps36
  go_upto_region 1 with fail
  rw [← hw0]
  clear hw0
  go_wp2_with fail
  go_loopw [5, 12] (fun ov iv wr => ∃ (i : Nat) (q : Option Addr) (d : Nat), i ≤ n ∧ ov = .slice q (lisA Q i).length d ∧ iv = .int .i64 i ∧ LLj wr q (lisA Q i) ∧ RowKit.Below w0.heap.size w0 wr) (fun _ iv _ => n - (intOf iv).toNat)
  case atStart => exact ⟨0, some ⟨w0.heap.size, 0, none⟩, 1, Nat.zero_le _, rfl, rfl, hl1, hB1⟩
  case round =>
    clear hl1 hB1 g0
    obtain ⟨i, q, d, hi, rfl, rfl, hll, hB⟩ := hrel
    by_cases hlt : i < n
    · have hltI : (i : Int) < (n : Int) := by omega
      have HS := hidI (HSUC.out i)
      have hL := HLEN.out i (by omega)
      have hL1 := HLEN.out (i + 1) (by omega)
      rw [HS.out, flat_len] at hL1
      have HI : Hid (∀ k (h : k < (lisA Q i).length), ((lisA Q i)[k]).length = i) := fun k h => HIN.out i _ (List.getElem_mem h)
      have HT0 : Hid (((lisA Q i).take 0).flatMap (fun l => expL l Q) = []) := rfl
      have HTL : Hid (((lisA Q i).take (lisA Q i).length).flatMap (fun l => expL l Q) = lisA Q (i + 1)) := by rw [Hid, List.take_length, HS.out]
      have HTK := hidI (fun k (h : k < (lisA Q i).length) => @flat_takeM Q (lisA Q i) k h)
      have HTB : Hid (∀ k, k ≤ (lisA Q i).length → (((lisA Q i).take k).flatMap (fun l => expL l Q)).length + Q ≤ 304) := fun k hk => by
        rw [flat_len, List.length_take, Nat.min_eq_left hk]
        have := Nat.mul_le_mul_right Q hk
        omega
      generalize hLN : lisA Q (i + 1) = LN at *
      have HLN := hidI hLN
      clear hLN
      generalize lisA Q i = L at *
      clear hL1
      obtain ⟨wl, rfl⟩ : ∃ wl : World, wl = wr := ⟨_, rfl⟩
      have HLL := hidI hll
      have hBl := hB
      clear hll hB
      go_wp2_with fail
      go_loopw [6, 16] (fun ov kv wx => ∃ (k : Nat) (xs : List LEc), k ≤ L.length ∧ kv = .int .i64 k ∧ OutL wl.heap.size xs ((L.take k).flatMap (fun l => expL l Q)) ov wx ∧ RowKit.Below wl.heap.size wl wx) (fun _ kv _ => L.length - (intOf kv).toNat)
      case atStart => exact ⟨0, [], Nat.zero_le _, rfl, ⟨World.ownsRow_nil _ _ _ _, HT0.out.symm, fun x hx => by cases hx⟩, RowKit.Below.refl _ _⟩
      case round =>
        obtain ⟨k, xs, hk, rfl, hO, hB⟩ := hrel
        have hBw := hBl.trans (hB.mono hBl.size)
        by_cases hlt2 : k < L.length
        · have hltI2 : (k : Int) < (L.length : Int) := by omega
          obtain ⟨b1, o1, q1, d1, e1, hb1, hc1, hsl⟩ := (HLL.out.below hB).get k hlt2
          have HLI := hidI (HI.out k hlt2)
          have HTS := hidI (HTK.out k hlt2)
          have hTB := HTB.out k hk
          have HX0 : Hid ((L.take k).flatMap (fun l => expL l Q) = (L.take k).flatMap (fun l => expL l Q) ++ expL L[k] 0) := by rw [Hid]; simp [expL]
          have HXS := hidI (fun c => expL_succ L[k] c)
          have HXL := hidI (fun c => expL_len L[k] c)
          generalize L[k] = l at *
          generalize (L.take k).flatMap (fun l => expL l Q) = F at *
          have hxs := hO.len
          cases e1
          have c0 := b0.below hBw b0.lt
          have g0 := c0.at 0 rfl
          rw [HQQ.out] at g0
          have HSL := hidI hsl
          obtain ⟨wo, rfl⟩ : ∃ wo : World, wo = wr := ⟨_, rfl⟩
          clear hsl c0
          go_wp2_with fail
          go_loopw [6, 22] (fun ov cv wx => ∃ (a : Nat) (ys : List LEc), a ≤ Q ∧ cv = .int .i64 a ∧ OutL wl.heap.size ys (F ++ expL l a) ov wx ∧ RowKit.Below wl.heap.size wl wx ∧ SlJ wx q1 l) (fun _ cv _ => Q - (intOf cv).toNat)
          case atStart => exact ⟨0, xs, Nat.zero_le _, rfl, by rw [← HX0.out]; exact hO, hB, HSL.out⟩
          case round =>
            clear hO hB g0 HX0 hxs
            obtain ⟨a, ys, ha, rfl, hO, hB, hsl⟩ := hrel
            by_cases hlt3 : a < Q
            · have hltI3 : (a : Int) < (Q : Int) := by omega
              have hysb : ys.length ≤ 304 := by have h1 := hO.len; have h2 := HXL.out a; rw [List.length_append, h2] at h1; omega
              have HA := hidI (HXS.out a)
              have hli24 : l.length ≤ 24 := by have := HLI.out; omega
              have HCL := hidI (cloneI_any l q1 d1 wr hsl.1 (by omega))
              obtain ⟨po, co, rfl⟩ := own_shape1 hO.own
              have HO := hidI hO; have HSJ := hidI hsl
              have hBwr := hB.size
              clear hO hsl
              go_wp2_with fail
              refine HCL.out.mono ?_
              rintro e w2 ⟨p2, c2, rfl, hown2, hB2⟩
              have hnew2 := cell_one_at w2 (.int .i64 (a : Int)) 3 w2.heap.size rfl
              clear HCL
              go_wp2_with (first
                | (at_builtin; refine wpList_append_own _ rfl _ _ 30 rfl wr.heap.size 3 i0 (.int .i64 0) 1 8 Tryz.underlying30 hi0 hz0 hz1 hz3 rfl (by decide) _ _ _ rfl (hown2.alloc _) ⟨w2.heap.size, 0, none⟩ 1 1 [.int .i64 (a : Int)] rfl rfl hnew2 (by simp [Value.oneCell']) (by simp [maxLen]; omega) (by omega) (by rw [World.size_alloc]; have := hB2.size; omega) ?_; intro v3 w3 hown3 hgrow3 _; obtain ⟨p3, c3, rfl⟩ := own_shape1 hown3; have hB13 : RowKit.Below wr.heap.size wr w3 := (hB2.alloc hB2.size _).grown hgrow3 (Nat.le_trans hB2.size (by simp)) (fun j e => (hown2.lt j e).1); have hnew3 := cell_one_at w3 (.slice p3 (l.length + 1) c3) 30 w3.heap.size rfl; have hownO := (HO.out.own.below hB13).alloc (.cells #[.slice p3 (l.length + 1) c3] 30))
                | (at_builtin; refine wpList_append_own _ rfl _ _ 47 rfl wl.heap.size 30 i1 (.slice none 0 0) 1 24 Tryz.underlying47 hi1 hy0 hy1 hy3 rfl (by decide) _ _ _ rfl hownO ⟨w3.heap.size, 0, none⟩ 1 1 [.slice p3 (l.length + 1) c3] rfl rfl hnew3 (by simp [Value.oneCell']) (by simp [maxLen]; omega) (by omega) (by rw [World.size_alloc]; have := hB13.size; omega) ?_; intro v4 w4 hown4 hgrow4 _))
              have hs3 : SlJ w3 p3 (l ++ [(a : Int)]) := by
                have ho : w3.ownsRow wr.heap.size 3 1 (.slice p3 (l.length + 1) c3) (l ++ [(a : Int)]).length ((l ++ [(a : Int)]).map (Value.int .i64)) := by rw [List.length_append, List.map_append]; exact hown3
                obtain ⟨q', d', e', h'⟩ := own_sl ho
                have ep : p3 = q' := by injection e'
                subst ep
                exact ⟨h', fun b o z hb => Lib.ownsRow_kind ho b (by rw [hb]; simp [Value.ownBlock])⟩
              have hBA : RowKit.Below w3.heap.size w3 (w3.alloc (.cells #[.slice p3 (l.length + 1) c3] 30)) := (RowKit.Below.refl _ _).alloc (Nat.le_refl _) _
              have hB14 := hB13.trans (hBA.mono hB13.size)
              have hO4 := HO.out.app (d := c3) hB14 ((KCs.below hBA).slj hs3) hgrow4 (by rw [List.length_append]; exact hown4)
              have hsj4 := ((KCs.below hB14).slj HSJ.out).grownL hgrow4 hownO (by decide)
              have hBf : RowKit.Below wl.heap.size wl w4 := (hB.trans (hB14.mono hB.size)).grown hgrow4 (Nat.le_trans hB.size hB14.size) (fun j e => (HO.out.own.lt j e).1)
              have HX := hidI hO4
              clear hO4 hs3 hown4 hownO hnew3 hnew2 hown2 hown3
              go_wp2_with fail
              go_roundw
              case rel => exact ⟨a + 1, ys ++ [(l ++ [(a : Int)], p3, c3)], by omega, by go_num, by rw [HA.out, ← List.append_assoc]; exact HX.out, hBf, hsj4⟩
              case measure => simp [intOf]; omega
            · obtain rfl : a = Q := by omega
              have hltI3 : ¬ (a : Int) < (a : Int) := by omega
              go_wp2_with fail
              go_roundw
              case rel => exact ⟨k + 1, ys, by omega, by go_num, by rw [HTS.out]; exact hO, hB⟩
              case measure => simp [intOf]; omega
        · obtain rfl : k = L.length := by omega
          have hltI2 : ¬ (L.length : Int) < (L.length : Int) := by omega
          rw [HTL.out] at hO
          obtain ⟨qn, dn, rfl, hln⟩ := hO.ll
          go_wp2_with fail
          go_roundw
          case rel => exact ⟨i + 1, qn, dn, by omega, by rw [HLN.out], by go_num, by rw [HLN.out]; exact hln, hBw⟩
          case measure => simp [intOf]; omega
    · obtain rfl : i = n := by omega
      have hltI : ¬ (i : Int) < (i : Int) := by omega
      go_wp2_with fail
      go_ret
      exact ⟨q, d, rfl, hll, hB0.trans (hB.mono hB0.size)⟩
end Go.Proofs.YtocbhlohcikapaaGreatDoor
namespace Go.Proofs.YtocbhlohcikapaaGreatDoor
open Go.RowKit Go.Sort Go.Shelf Go.Lib
def manB (Q n : Nat) : Bool := decide (300 < Q ^ n) || (decide (24 < n) && decide (n ≤ 4096))
theorem man_no {Q n : Nat} (h : manB Q n = false) : Q ^ n ≤ 300 ∧ (n ≤ 24 ∨ 4096 < n) := by
  unfold manB at h
  simp only [Bool.or_eq_false_iff, Bool.and_eq_false_iff, decide_eq_false_iff_not] at h
  omega
def mn2M (x y : Int) : Int := if y < x then y else x
theorem run_mn2M (x y : Int) (w : World) : (Builtin.min_ #[3, 3] 3 #[.int .i64 x, .int .i64 y]).run Tryz.prog w = .ok (.int .i64 (mn2M x y)) w := by kernel_rfl
set_option maxRecDepth 100000 in
set_option maxHeartbeats 1000000 in
theorem r11Many_any (G : Gr) (p : Option Addr) (c n Q : Nat) (hQ : G.q = Q) (hQ1 : 1 ≤ Q) (hQ4 : Q ≤ 4) (hn : n ≤ 4096) (w : World) :
    Calls Tryz.prog 33 #[(.agg #[.int .i64 G.q, .int .i64 G.n, .slice p G.es.length c]), .int .i64 (n : Int), .int .i64 300] w fun e w' => e = .returned (.bool (manB Q n)) ∧ RowKit.Below w.heap.size w w' := by
  obtain ⟨w0, hw0⟩ : ∃ w0, w0 = w.alloc (.cells #[.int .i64 G.q, .int .i64 G.n, .slice p G.es.length c] 24) := ⟨_, rfl⟩
  have b0 : VRow w0 w.heap.size 24 [.int .i64 G.q, .int .i64 G.n, .slice p G.es.length c] := by subst hw0; exact VRow.new w _ _
  have hB0 : RowKit.Below w.heap.size w w0 := by subst hw0; exact (RowKit.Below.refl _ _).alloc (Nat.le_refl _) _
  have HM : Hid (manB Q n = (decide (300 < Q ^ n) || (decide (24 < n) && decide (n ≤ 4096)))) := rfl
  have HMON : Hid (∀ k, k ≤ n → Q ^ k ≤ Q ^ n) := fun k hk => Nat.pow_le_pow_right hQ1 hk
  have g0 := b0.at 0 rfl
  rw [hQ] at g0
  have hmn : ∀ W : World, (Builtin.min_ #[3, 3] 3 #[.int .i64 (Q : Int), .int .i64 256]).run Tryz.prog W = .ok (.int .i64 (Q : Int)) W := fun W => by rw [run_mn2M]; unfold mn2M; rw [if_neg (by omega)]
  have hmx : ∀ W : World, (Builtin.max_ #[3, 3] 3 #[.int .i64 1, .int .i64 (Q : Int)]).run Tryz.prog W = .ok (.int .i64 (Q : Int)) W := fun W => by
    have e : mx2 1 (Q : Int) = (Q : Int) := by unfold mx2; split <;> omega
    rw [run_mx2, e]
  generalize manB Q n = R at *
  clear hQ b0
  go_enter Tryz.func33, Tryz.ntmps33
  go_upto_region 1 with fail
  rw [← hw0]
  clear hw0
  go_wp2_with fail
  go_loopw [7, 8] (fun tv iv wr => ∃ (k t : Nat), k ≤ n ∧ tv = .int .i64 (t : Int) ∧ iv = .int .i64 k ∧ wr = w0 ∧ t ≤ 300 ∧ Hid (Q ^ k = t)) (fun _ iv _ => n - (intOf iv).toNat)
  case atStart => exact ⟨0, 1, Nat.zero_le _, rfl, rfl, rfl, by omega, rfl⟩
  case round =>
    obtain ⟨k, t, hk, rfl, rfl, rfl, ht, HT⟩ := hrel
    by_cases hlt : k < n
    · have hltI : (k : Int) < (n : Int) := by omega
      have hk4 : (k : Int) < 4096 := by omega
      have hmul : (t : Int) * (Q : Int) ≤ 1200 ∧ 0 ≤ (t : Int) * (Q : Int) := by
        have := Nat.mul_le_mul ht hQ4
        have e : ((t * Q : Nat) : Int) = (t : Int) * (Q : Int) := by simp
        omega
      have hw1 : IntKind.i64.wrap ((t : Int) * (Q : Int)) = (t : Int) * (Q : Int) := IntWalk.i64_in _ (by omega)
      have HP : Hid (Q ^ (k + 1) = t * Q) := by rw [Hid, Nat.pow_succ, HT.out]
      have HC : Hid ((t : Int) * (Q : Int) = ((t * Q : Nat) : Int)) := by simp [Hid]
      have HLE := hidI (HMON.out (k + 1) (by omega))
      by_cases hbig : 300 < (t : Int) * (Q : Int)
      · have HX : Hid (R = true) := by
          rw [Hid, HM.out]
          have h1 := HC.out; have h2 := HLE.out; rw [HP.out] at h2
          simp only [Bool.or_eq_true, decide_eq_true_eq]
          left; omega
        go_wp2
        go_ret
        exact ⟨ret_bool HX.out.symm, hB0⟩
      · go_wp2
        go_roundw
        case rel => exact ⟨k + 1, t * Q, by omega, by rw [HC.out], by go_num, trivial, by have := HC.out; omega, HP.out⟩
        case measure => simp [intOf]; omega
    · obtain rfl : k = n := by omega
      have hltI : ¬ (k : Int) < (k : Int) := by omega
      have HX : Hid (R = (decide ((24 : Int) < (k : Int)) && decide ((k : Int) ≤ 4096))) := by
        rw [Hid, HM.out, HT.out, decide_eq_false (by omega), Bool.false_or, Bool.eq_iff_iff]
        simp only [Bool.and_eq_true, decide_eq_true_eq]; omega
      go_wp2
      all_goals go_ret
      all_goals exact ⟨ret_bool (by rw [HX.out, Bool.eq_iff_iff]; simp; omega), hB0⟩
set_option maxRecDepth 100000 in
set_option maxHeartbeats 1000000 in
theorem meaning11_any (G : Gr) (p : Option Addr) (c B : Nat) (l : List Int) (q : Option Addr) (d : Nat) (hc : chkG G = 0) (hL : LabI G.q l) (hl : l.length ≤ 24) (w : World) (hb : VRow w B 24 [.int .i64 G.q, .int .i64 G.n, .slice p G.es.length c]) (hin : Sg 3 w edE p G.es) (hs : Sl w (Value.int .i64) q l) :
    Calls Tryz.prog 37 #[.slice q l.length d, .pointer (some ⟨B, 0, none⟩)] w fun e w' => e = .returned (.bool (decide (1 < (flA G l).length))) ∧ RowKit.Below w.heap.size w w' := by
  have hv := chkG_ok.1 hc
  have HF := hidI (mmFollow_any G p c l q d w hin (by have := hv.len; omega) hs (by omega))
  rw [fol_ok hc (by omega) hL] at HF
  have g0 := hb.at 0 rfl; have g1 := hb.at 1 rfl; have g2 := hb.at 2 rfl
  generalize flA G l = S at *
  clear hc hL hv hin hs
  go_enter Tryz.func37, Tryz.ntmps37
  go_wp2_with fail
  refine HF.out.mono ?_
  rintro e w1 ⟨p1, c1, rfl, _, hB1⟩
  clear g0 g1 g2
  go_wp2
  go_ret
  exact ⟨ret_bool (by rw [Bool.eq_iff_iff]; simp; omega), hB1⟩
def idxM (P : List Int → Bool) (L : List (List Int)) : Int := match L.findIdx? P with
  | some i => (i : Int)
  | none => -1
theorem idxM_hit (P : List Int → Bool) (L : List (List Int)) (k : Nat) (hk : k < L.length) (hm : ∀ m (h : m < L.length), m < k → P L[m] = false) (h : P L[k] = true) : idxM P L = (k : Int) := by
  have : L.findIdx? P = some k := List.findIdx?_eq_some_iff_getElem.2 ⟨hk, h, fun j hj => by rw [hm j (by omega) hj]; simp⟩
  unfold idxM; rw [this]
theorem idxM_miss (P : List Int → Bool) (L : List (List Int)) (hm : ∀ m (h : m < L.length), P L[m] = false) : idxM P L = -1 := by
  have : L.findIdx? P = none := List.findIdx?_eq_none_iff.2 (fun x hx => by
    obtain ⟨m, h, rfl⟩ := List.mem_iff_getElem.1 hx
    exact hm m h)
  unfold idxM; rw [this]
theorem idxM_any (P : List Int → Bool) (L : List (List Int)) : decide (0 ≤ idxM P L) = L.any P := by
  unfold idxM
  cases h : L.findIdx? P with
  | none =>
    have h2 := List.findIdx?_eq_none_iff.1 h
    have : L.any P = false := List.any_eq_false.2 (fun x hx => by rw [h2 x hx]; simp)
    rw [this]; rfl
  | some i =>
    obtain ⟨h1, h2, _⟩ := List.findIdx?_eq_some_iff_getElem.1 h
    have : L.any P = true := List.any_eq_true.2 ⟨_, List.getElem_mem h1, h2⟩
    rw [this]; simp
set_option maxRecDepth 100000 in
set_option maxHeartbeats 1000000 in
theorem indexMM_any (L : List (List Int)) (B : Nat) (P : List Int → Bool) (p : Option Addr) (c : Nat) (w : World) (hp : LLj w p L) (hl : L.length ≤ 1000)
    (hF : ∀ k (hk : k < L.length) (W : World), RowKit.Below w.heap.size w W → ∀ q d, Sl W (Value.int .i64) q L[k] → Calls Tryz.prog 37 #[.slice q L[k].length d, .pointer (some ⟨B, 0, none⟩)] W fun e w' => e = .returned (.bool (P L[k])) ∧ RowKit.Below W.heap.size W w') :
    Calls Tryz.prog 90 #[.slice p L.length c, .func (.func 37) #[] #[.pointer (some ⟨B, 0, none⟩)]] w fun e w' => e = .returned (.int .i64 (idxM P L)) ∧ RowKit.Below w.heap.size w w' := by
  have HF := hidI hF
  clear hF
  go_enter Tryz.func90, Tryz.ntmps90
  go_wp2
  go_loopw [8] (fun iv wr => ∃ k : Nat, k ≤ L.length ∧ iv = .int .i64 k ∧ Hid (∀ m (hm : m < L.length), m < k → P L[m] = false) ∧ RowKit.Below w.heap.size w wr) (fun iv _ => L.length - (intOf iv).toNat)
  case atStart => exact ⟨0, by omega, rfl, fun _ _ h => by omega, RowKit.Below.refl _ _⟩
  case round =>
    obtain ⟨k, hk, rfl, hm, hB⟩ := hrel
    by_cases hlt : k < L.length
    · obtain ⟨b1, o1, q1, d1, e1, hb1, e0, s1⟩ := (hp.below hB).get k hlt
      have HFK := hidI (HF.out k hlt wr hB q1 d1 s1.1)
      have HM : Hid (P L[k] = false → ∀ m (hm : m < L.length), m < k + 1 → P L[m] = false) := fun he m h1 h2 => by
        rcases Nat.lt_succ_iff_lt_or_eq.1 h2 with h3 | h3
        · exact hm.out m h1 h3
        · subst h3; exact he
      have HX := hidI (idxM_hit P L k hlt hm.out)
      generalize P L[k] = r at *
      generalize L[k] = x at *
      cases e1
      clear s1
      go_wp2_with fail
      refine HFK.out.mono ?_
      rintro e w1 ⟨rfl, hB1⟩
      have hB2 := hB.trans (hB1.mono hB.size)
      cases r
      · have HM2 := hidI (HM.out rfl)
        clear HX HM
        go_wp2
        go_roundw
        case rel => exact ⟨k + 1, by omega, by go_num, HM2, hB2⟩
        case measure => simp [intOf]; omega
      · have HX2 := hidI (HX.out rfl)
        clear HM HX
        go_wp2
        go_ret
        exact ⟨ret_int HX2.out.symm, hB2⟩
    · have HM := hidI (idxM_miss P L (fun m h => hm.out m h (by omega)))
      go_wp2
      go_ret
      exact ⟨ret_int HM.out.symm, hB⟩
set_option maxHeartbeats 1000000 in
theorem containsMM_any (L : List (List Int)) (B : Nat) (P : List Int → Bool) (p : Option Addr) (c : Nat) (w : World) (hp : LLj w p L) (hl : L.length ≤ 1000)
    (hF : ∀ k (hk : k < L.length) (W : World), RowKit.Below w.heap.size w W → ∀ q d, Sl W (Value.int .i64) q L[k] → Calls Tryz.prog 37 #[.slice q L[k].length d, .pointer (some ⟨B, 0, none⟩)] W fun e w' => e = .returned (.bool (P L[k])) ∧ RowKit.Below W.heap.size W w') :
    Calls Tryz.prog 35 #[.slice p L.length c, .func (.func 37) #[] #[.pointer (some ⟨B, 0, none⟩)]] w fun e w' => e = .returned (.bool (L.any P)) ∧ RowKit.Below w.heap.size w w' := by
  have hA := hidI (idxM_any P L)
  have HI := hidI (indexMM_any L B P p c w hp hl hF)
  clear hF
  generalize idxM P L = ix at *
  go_enter Tryz.func35, Tryz.ntmps35
  go_wp2_with fail
  refine HI.out.mono ?_
  rintro e w1 ⟨rfl, hB1⟩
  go_wp2
  go_ret
  exact ⟨ret_bool hA.out, hB1⟩
def opnB (G : Gr) (k : Nat) : Bool := (lisA G.q.toNat k).any fun l => decide (1 < (flA G l).length)
set_option maxRecDepth 100000 in
set_option maxHeartbeats 1000000 in
theorem meaning1_any (G : Gr) (p : Option Addr) (c B k : Nat) (hc : chkG G = 0) (hq : G.q ≤ 4) (hk : k ≤ 24) (hm : G.q.toNat ^ k ≤ 300) (w : World) (hb : VRow w B 24 [.int .i64 G.q, .int .i64 G.n, .slice p G.es.length c]) (hin : Sg 3 w edE p G.es) :
    Calls Tryz.prog 34 #[.int .i64 (k : Int), .pointer (some ⟨B, 0, none⟩)] w fun e w' => e = .returned (.bool (opnB G k)) ∧ RowKit.Below w.heap.size w w' := by
  have hv := chkG_ok.1 hc
  have hq1 := hv.q1
  have hqq : G.q = (G.q.toNat : Int) := by omega
  have HLS := hidI (lists15_any G p c k G.q.toNat hqq (by omega) (by omega) hk hm w)
  have HCT := hidI (fun W (hW : RowKit.Below w.heap.size w W) q d (hl : LLj W q (lisA G.q.toNat k)) => containsMM_any (lisA G.q.toNat k) B (fun l => decide (1 < (flA G l).length)) q d W hl (by rw [lisA_len]; omega)
    (fun j hj V hV q' d' hs => by
      have hin' := (mem_lisA hqq k).1 (List.getElem_mem hj)
      have hVw := hW.trans (hV.mono hW.size)
      exact meaning11_any G p c B _ q' d' hc hin'.2 (by omega) V (hb.below hVw hb.lt) (hin.below hVw) hs))
  have HO : Hid ((lisA G.q.toNat k).any (fun l => decide (1 < (flA G l).length)) = opnB G k) := rfl
  have g0 := hb.at 0 rfl; have g1 := hb.at 1 rfl; have g2 := hb.at 2 rfl
  generalize opnB G k = R at *
  rw [HO.out] at HCT
  generalize lisA G.q.toNat k = L at *
  clear hc hq hv hq1 hqq hin hm
  go_enter Tryz.func34, Tryz.ntmps34
  go_wp2_with fail
  refine HLS.out.mono ?_
  rintro e w1 ⟨q, d, rfl, hl1, hB1⟩
  clear g0 g1 g2
  go_wp2_with fail
  refine (HCT.out w1 hB1 q d hl1).mono ?_
  rintro e w2 ⟨rfl, hB2⟩
  go_wp2
  go_ret
  exact ⟨rfl, hB1.trans (hB2.mono hB1.size)⟩
end Go.Proofs.YtocbhlohcikapaaGreatDoor
namespace Go.Proofs.YtocbhlohcikapaaGreatDoor
open Go.RowKit Go.Sort Go.Shelf Go.Lib
theorem opn_dif {G : Gr} (hc : chkG G = 0) (k : Nat) : opnB G k = difB G.n.toNat (itF (aftF G.n.toNat G.es) k (allF2 G.n.toNat)) := by
  have hv := chkG_ok.1 hc
  rw [Bool.eq_iff_iff, dif_open hv (by have := hv.n1; omega)]
  unfold opnB
  rw [List.any_eq_true]
  constructor
  · rintro ⟨l, hl, h⟩
    obtain ⟨h1, h2⟩ := (mem_lisA (q := G.q) (by have := hv.q1; omega) k).1 hl
    exact ⟨l, h1, h2, by simpa using h⟩
  · rintro ⟨l, h1, h2, h3⟩
    exact ⟨l, (mem_lisA (q := G.q) (by have := hv.q1; omega) k).2 ⟨h1, h2⟩, by simpa using h3⟩
theorem mean_plain {G : Gr} (hc : chkG G = 0) : (∃ k : Nat, k ≤ 4096 ∧ memA G = ((k : Int), true, 0) ∧ opnB G k = false ∧ (0 < k → opnB G (k - 1) = true)) ∨ (memA G = (0, false, 0) ∧ ∀ k, opnB G k = true) := by
  have hv := chkG_ok.1 hc
  have h64 : G.n.toNat * G.n.toNat ≤ 64 * 64 := Nat.mul_le_mul (by have := hv.n2; omega) (by have := hv.n2; omega)
  rcases mem_ok hc rfl with ⟨k, h1, h2, h3, h4⟩ | ⟨h1, h2⟩
  · exact .inl ⟨k, by omega, h2, by rw [opn_dif hc]; exact h3, fun h => by rw [opn_dif hc]; exact h4 _ (by omega)⟩
  · exact .inr ⟨h1, fun k => by rw [opn_dif hc]; exact h2 k⟩
set_option maxRecDepth 100000 in
set_option maxHeartbeats 4000000 in
theorem lawMeaning_any (G : Gr) (p : Option Addr) (c : Nat) (x : Int) (hx0 : 0 ≤ x) (hx1 : x ≤ 255) (w : World) (hin : Sg 3 w edE p G.es) (hl : G.es.length ≤ 9223372036854775807) :
    Calls Tryz.prog 6 #[(.agg #[.int .i64 G.q, .int .i64 G.n, .slice p G.es.length c]), .int .u8 x] w fun e w' => e = .returned (.bool true) ∧ RowKit.Below w.heap.size w w' := by
  obtain ⟨w0, hw0⟩ : ∃ w0, w0 = w.alloc (.cells #[.int .i64 G.q, .int .i64 G.n, .slice p G.es.length c] 24) := ⟨_, rfl⟩
  have b0 : VRow w0 w.heap.size 24 [.int .i64 G.q, .int .i64 G.n, .slice p G.es.length c] := by subst hw0; exact VRow.new w _ _
  have hB0 : RowKit.Below w.heap.size w w0 := by subst hw0; exact (RowKit.Below.refl _ _).alloc (Nat.le_refl _) _
  have HAW := hidI awake15_any
  have HFI := hidI (fine15_any G p c w0 (hin.below hB0) hl)
  have g0 := b0.at 0 rfl; have g1 := b0.at 1 rfl; have g2 := b0.at 2 rfl
  have hmf : ∀ (fn : Fn) (first cap : Array Value) (w : World), (Instr.makeFunc fn first cap).run Tryz.prog w = .ok (.func fn first cap) w := fun _ _ _ _ => rfl
  by_cases hf : finB G = true
  · obtain ⟨hc, _, _, hq4⟩ := fin_iff.1 hf
    have hv := chkG_ok.1 hc
    have hq1 := hv.q1
    have HM := hidI (fun W (hW : RowKit.Below w0.heap.size w0 W) => mmMemory_any G p c W ((hin.below hB0).below hW) hl)
    have HMA := hidI (fun k (hk : k ≤ 4096) W => r11Many_any G p c k G.q.toNat (by omega) (by omega) (by omega) hk W)
    have HOP := hidI (fun k (hk : k ≤ 24) (hm : G.q.toNat ^ k ≤ 300) W (hW : RowKit.Below w0.heap.size w0 W) => meaning1_any G p c w.heap.size k hc hq4 hk hm W (b0.below hW b0.lt) ((hin.below hB0).below hW))
    have HQ1 : Hid (1 ≤ G.q.toNat) := by show 1 ≤ G.q.toNat; omega
    have hP := mean_plain hc
    rw [hf] at HFI
    clear hf hc hv hin
    go_enter Tryz.func6, Tryz.ntmps6
    go_upto_region 1 with fail
    rw [← hw0]
    clear hw0
    go_wp2_with fail
    refine HFI.out.mono ?_
    rintro e w1 ⟨rfl, hB1⟩
    have x1 := hB1
    (clear g0 g1 g2; have c0 := b0.below x1 b0.lt; have g0 := c0.at 0 rfl; have g1 := c0.at 1 rfl; have g2 := c0.at 2 rfl; clear c0)
    rcases hP with ⟨k, hk, hM, hO, hO1⟩ | ⟨hM, hO⟩
    · rw [hM] at HM
      have HO := hidI hO; have HO1 := hidI hO1
      clear hM hO hO1 HFI
      have hk0 : (0 : Int) ≤ (k : Int) := by omega
      go_wp2_with fail
      refine (HM.out w1 x1).mono ?_
      rintro e w2 ⟨rfl, hB2⟩
      have x2 := x1.trans (hB2.mono x1.size)
      (clear g0 g1 g2; have c0 := b0.below x2 b0.lt; have g0 := c0.at 0 rfl; have g1 := c0.at 1 rfl; have g2 := c0.at 2 rfl; clear c0)
      go_wp2_with fail
      have HMK := hidI (HMA.out k hk w2)
      have HNO := hidI (@man_no G.q.toNat k)
      generalize manB G.q.toNat k = mb at *
      refine HMK.out.mono ?_
      rintro e w3 ⟨rfl, hB3⟩
      have x3 := x2.trans (hB3.mono x2.size)
      clear HM HMA HMK hB1 hB2 hB3 x1
      cases mb
      · obtain ⟨hp, hk24⟩ := HNO.out rfl
        have HP := hidI hp
        have hk24' : k ≤ 24 := by omega
        have HC1 := hidI (HOP.out k hk24' HP.out w3 x3)
        rw [HO.out] at HC1
        have HC2 := hidI (fun W (hW : RowKit.Below w0.heap.size w0 W) => HOP.out (k - 1) (by omega) (Nat.le_trans (Nat.pow_le_pow_right HQ1.out (Nat.sub_le k 1)) HP.out) W hW)
        clear HNO hp hk24 HOP x2
        go_wp2_with fail
        refine HC1.out.mono ?_
        rintro e w4 ⟨rfl, hB4⟩
        have x4 := x3.trans (hB4.mono x3.size)
        (clear g0 g1 g2; have c0 := b0.below x4 b0.lt; have g0 := c0.at 0 rfl; have g1 := c0.at 1 rfl; have g2 := c0.at 2 rfl; clear c0)
        by_cases h0 : k = 0
        · subst h0
          clear HC2
          go_wp2_with fail
          refine (HAW.out w4).mono ?_
          rintro e w5 ⟨rfl, hB5⟩
          have x5 := hB0.trans ((x4.trans (hB5.mono x4.size)).mono hB0.size)
          go_wp2
          go_ret
          exact ⟨rfl, x5⟩
        · have hb : ((k : Int) == 0) = false := beq_eq_false_iff_ne.2 (by omega)
          have hw1 : IntKind.i64.wrap ((k : Int) - 1) = ((k - 1 : Nat) : Int) := by rw [show (k : Int) - 1 = ((k - 1 : Nat) : Int) by omega]; exact IntWalk.i64_in _ (by omega)
          have HC3 := hidI (HC2.out w4 x4)
          rw [HO1.out (by omega)] at HC3
          clear h0 HC2
          generalize ((k - 1 : Nat) : Int) = km at *
          go_wp2_with fail
          refine HC3.out.mono ?_
          rintro e w5 ⟨rfl, hB5⟩
          have x5 := x4.trans (hB5.mono x4.size)
          clear g0 g1 g2 HC3
          go_wp2_with fail
          refine (HAW.out w5).mono ?_
          rintro e w6 ⟨rfl, hB6⟩
          have x6 := hB0.trans ((x5.trans (hB6.mono x5.size)).mono hB0.size)
          go_wp2
          go_ret
          exact ⟨rfl, x6⟩
      · clear g0 g1 g2 HOP
        go_wp2_with fail
        refine (HAW.out w3).mono ?_
        rintro e w4 ⟨rfl, hB4⟩
        have x4 := hB0.trans ((x3.trans (hB4.mono x3.size)).mono hB0.size)
        go_wp2
        go_ret
        exact ⟨rfl, x4⟩
    · rw [hM] at HM
      have HO := hidI hO
      clear hM hO HFI
      obtain ⟨k, hk⟩ : ∃ k : Nat, x % 6 + 1 = (k : Int) := ⟨(x % 6 + 1).toNat, by omega⟩
      have hk6 : k ≤ 6 := by omega
      have e1 : x.tmod 6 = x % 6 := Int.tmod_eq_emod_of_nonneg hx0
      have e2 : IntKind.i64.wrap x = x := IntWalk.i64_in _ (by omega)
      have e3 : IntKind.i64.wrap (x % 6) = x % 6 := IntWalk.i64_in _ (by omega)
      have e4 : IntKind.i64.wrap (x % 6 + 1) = (k : Int) := by rw [hk]; exact IntWalk.i64_in _ (by omega)
      go_wp2_with fail
      refine (HM.out w1 x1).mono ?_
      rintro e w2 ⟨rfl, hB2⟩
      have x2 := x1.trans (hB2.mono x1.size)
      (clear g0 g1 g2; have c0 := b0.below x2 b0.lt; have g0 := c0.at 0 rfl; have g1 := c0.at 1 rfl; have g2 := c0.at 2 rfl; clear c0)
      clear hk
      go_wp2_with fail
      have HMK := hidI (HMA.out k (by omega) w2)
      have HNO := hidI (@man_no G.q.toNat k)
      generalize manB G.q.toNat k = mb at *
      refine HMK.out.mono ?_
      rintro e w3 ⟨rfl, hB3⟩
      have x3 := x2.trans (hB3.mono x2.size)
      clear HM HMA HMK hB1 hB2 hB3 x1
      cases mb
      · obtain ⟨hp, hk24⟩ := HNO.out rfl
        have HC1 := hidI (HOP.out k (by omega) hp w3 x3)
        rw [HO.out k] at HC1
        clear HNO hp hk24 HOP x2
        go_wp2_with fail
        refine HC1.out.mono ?_
        rintro e w4 ⟨rfl, hB4⟩
        have x4 := x3.trans (hB4.mono x3.size)
        clear g0 g1 g2
        go_wp2_with fail
        refine (HAW.out w4).mono ?_
        rintro e w5 ⟨rfl, hB5⟩
        have x5 := hB0.trans ((x4.trans (hB5.mono x4.size)).mono hB0.size)
        go_wp2
        go_ret
        exact ⟨rfl, x5⟩
      · clear g0 g1 g2 HOP
        go_wp2_with fail
        refine (HAW.out w3).mono ?_
        rintro e w4 ⟨rfl, hB4⟩
        have x4 := hB0.trans ((x3.trans (hB4.mono x3.size)).mono hB0.size)
        go_wp2
        go_ret
        exact ⟨rfl, x4⟩
  · have hf' : finB G = false := by simpa using hf
    rw [hf'] at HFI
    clear hf hf' hin
    go_enter Tryz.func6, Tryz.ntmps6
    go_upto_region 1 with fail
    rw [← hw0]
    clear hw0
    go_wp2_with fail
    refine HFI.out.mono ?_
    rintro e w1 ⟨rfl, hB1⟩
    have x1 := hB0.trans (hB1.mono hB0.size)
    go_wp2_with fail
    refine (HAW.out w1).mono ?_
    rintro e w2 ⟨rfl, hB2⟩
    go_wp2
    go_ret
    exact ⟨rfl, x1.trans (hB2.mono x1.size)⟩
end Go.Proofs.YtocbhlohcikapaaGreatDoor
namespace Go.Proofs.YtocbhlohcikapaaGreatDoor
open Go.Joins Go.ChangeShapes Go.WideShapes Go.ChangeAt Go.RowKit Go.Deep
set_option maxRecDepth 100000 in
theorem memoryMeaning_door (os : Os) (args : Array Value) : laidMetH Tryz.prog Rows.memoryMeaningRow.laid ((World.doorLaid Tryz.prog 24 os).forCall (fun _ _ => 0) ⟨#[], args, []⟩).memory :=
  laidMetH_of_parts3 (fuel := 8) (laidMet_of_run' 8 (by kernel_rfl) (by kernel_rfl)) (by kernel_rfl) (by kernel_rfl)
set_option maxRecDepth 100000 in
theorem memoryMeaning_lifted (os : Os) (started : os.Started) (H : Type) (enc : TypeId × Value → H) :
    ReturnsInHanded {} Tryz.checked os 6 .any (fun w args => (Rows.memoryMeaningSpec.pre enc Tryz.prog Tryz.f6 [] false w args ∧ laidMetH Tryz.prog Rows.memoryMeaningRow.laid w) ∧ sizedMet enc Tryz.prog Tryz.f6 (OpenSpec.ofChange Rows.memoryMeaningSpec) false w args)
      (Rows.memoryMeaningSpec.post enc Tryz.prog Tryz.f6 false true false false) := by
  refine returnsInHanded_of_change_and (C := Tryz.checked) (X := fun w _ => laidMetH Tryz.prog Rows.memoryMeaningRow.laid w) (fun _ _ _ hh h => h.of_heap hh) own started (by kernel_rfl) Tryz.func6
    (ChangeSpec.witness_shaped (enc := enc) (C := Tryz.checked) (os := os) (X := fun w _ => laidMetH Tryz.prog Rows.memoryMeaningRow.laid w) false (World.doorLaid Tryz.prog 24 os) #[.agg #[.int .i64 0, .int .i64 0, .slice none 0 0], .int .u8 0] 8 rfl (World.shaped_of_RefB (by kernel_rfl) (by kernel_rfl)) (by kernel_rfl) (by kernel_rfl) (by kernel_rfl) (memoryMeaning_door os _)) ?_
  intro W base args ds gs before hval0 hW _ _ _ _
  have hval : ∀ (j : Nat) t v, Tryz.f6.params[j]? = some t → args[j]? = some v → Value.okWide Tryz.prog W .any base t v := hval0
  have hW' := hW
  obtain ⟨p, q, hA0, hV, rfl, hfz, hnd⟩ := hW
  have hA : DataW.TrodAll enc Tryz.prog W 0 (fun _ => true) true Tryz.f6.params.toList args.toList ds p := hA0
  rw [Tryz.params6] at hA hval
  obtain ⟨v0, v1, d0, d1, p0, p1, rfl, rfl, rfl, h0, h1⟩ := trodAll_two hA
  obtain ⟨rfl, rfl⟩ := trodVars_none hV
  have hlt : ∀ x ∈ p0 ++ p1, x.block < W.heap.size := fun x hx => hW'.lt x (List.mem_append_left _ (by simpa using hx))
  obtain ⟨G0, q0, c0, rfl, s0, l0⟩ := graph_in (hval 0 24 v0 rfl rfl) h0 (fun x hx => hlt x (by simp only [List.mem_append]; simp [hx]))
  obtain ⟨n1, rfl, rfl, rfl, wf1⟩ := open_int Tryz.underlying5 (hval 1 5 v1 rfl rfl) h1
  refine (lawMeaning_any G0 q0 c0 n1 (bounds_u8M wf1).1 (bounds_u8M wf1).2 W s0 l0).mono fun e W' ⟨he, hB⟩ => ?_
  subst he
  refine ⟨_, rfl, law_post hW' rfl (by kernel_rfl) ?_ rfl rfl rfl hB⟩
  rw [Tryz.params6]
  intro t ht
  simp only [List.mem_cons, List.not_mem_nil, or_false] at ht
  rcases ht with rfl | rfl
  · exact readGraph
  · exact readU8M
theorem memoryMeaning_holds : Rows.MemoryMeaningSaid :=
  OpenClaim.holds_of_wide 6 Tryz.f6 rfl rfl rfl rfl rfl rfl rfl ⟨rfl, rfl, rfl, rfl, rfl⟩ rfl rfl rfl rfl rfl (by kernel_rfl) Tryz.func6 (by kernel_rfl)
    (of_decide_eq_true (by kernel_rfl)) (by unfold Func.isWrapper; rw [if_neg (of_decide_eq_false (by kernel_rfl))]; exact ⟨rfl, rfl⟩)
    (fun os started H enc _ => memoryMeaning_lifted os started H enc)
theorem memoryMeaning_card : Rows.MemoryMeaningCardSaid :=
  Claim7.holds_tied_plain_at .later [] [.data, .data, .data] true _ false
    memoryMeaning_holds (fun _ h => by cases h) (by kernel_rfl) (fun _ h => by cases h) memoryMeaning_row_tie rfl ⟨rfl, rfl⟩ (by kernel_rfl) rfl
    (fun f fn hf hfn => by
      obtain rfl : f = 6 := Option.some.inj ((show Tryz.prog.funcNamed "groove/groovelaw15.MemoryMeaning" = some 6 by kernel_rfl).symm.trans hf) |>.symm
      obtain rfl : fn = Tryz.f6 := (Option.some.inj (Tryz.func6.symm.trans hfn)).symm
      exact ⟨by kernel_rfl, fun j t ht => by
        rw [Tryz.params6] at ht
        rcases j with _ | _ | j
        · obtain rfl : t = 24 := by simpa using ht.symm
          exact (show Tryz.prog.wantsStandIn 24 = false by kernel_rfl)
        · obtain rfl : t = 5 := by simpa using ht.symm
          exact (show Tryz.prog.wantsStandIn 5 = false by kernel_rfl)
        · simp at ht⟩)
    (by kernel_rfl)
#print axioms memoryMeaning_card
end Go.Proofs.YtocbhlohcikapaaGreatDoor
