/-
  Words, plain lemmas and walks, merged: Io, Ip, Iq, Ir, Is, It, Iu, Iv.
-/
import Derived.Test.YtocbhlohcikapaaGreatDoorZun
import Derived.Test.YtocbhlohcikapaaGreatDoorZui
import Derived.Test.YtocbhlohcikapaaGreatDoorZuj
import Derived.Test.YtocbhlohcikapaaGreatDoorZub
import Derived.Test.YtocbhlohcikapaaGreatDoorZua
set_option linter.unusedVariables false
set_option linter.unusedSimpArgs false
namespace Go.Proofs.YtocbhlohcikapaaGreatDoor
section
open Go.RowKit Go.Shelf
theorem KpC.grown {X Y : World} {B e n : Nat} {v : Value} {xs : List Value} (hg : X.grownBy Y v.ownBlock) (ho : X.ownsRow B e 1 v n xs) (h1 : 24 ≠ e) (h2 : 90 ≠ e) (h3 : 4 ≠ e) : KpC X Y := fun i cur t fz ht hc =>
 (hg.block i (Array.getElem?_eq_some_iff.1 hc).1 (own_not ho hc (by rcases ht with rfl | rfl | rfl <;> assumption))).trans hc
theorem SlJ.grown {X Y : World} {B e n : Nat} {v : Value} {xs : List Value} {p : Option Addr} {l : List Int} (h : SlJ X p l) (hg : X.grownBy Y v.ownBlock) (ho : X.ownsRow B e 1 v n xs) (hne : 3 ≠ e) : SlJ Y p l :=
 slj_ty (fun i _ _ hc => (hg.block i (Array.getElem?_eq_some_iff.1 hc).1 (own_not ho hc hne)).trans hc) h
structure OutC (G : Gr) (B s : Nat) (xs : List LEc) (v : Value) (W : World) : Prop where
 own : W.ownsRow B 30 1 v xs.length (xs.map lcV)
 eq : xs.map (·.1) = cmpsK G s
 sl : ∀ x ∈ xs, SlJ W x.2.1 x.1
theorem OutC.below {G : Gr} {B s : Nat} {xs : List LEc} {v : Value} {W W' : World} (h : OutC G B s xs v W) (hB : RowKit.Below W.heap.size W W') : OutC G B s xs v W' :=
 ⟨h.own.below hB, h.eq, fun x hx => (KCs.below hB).slj (h.sl x hx)⟩
theorem OutC.len {G : Gr} {B s : Nat} {xs : List LEc} {v : Value} {W : World} (h : OutC G B s xs v W) : xs.length ≤ s := by
 have h1 := congrArg List.length h.eq
 rw [List.length_map] at h1
 have := cmpsK_len G s; omega
theorem OutC.ll {G : Gr} {B s : Nat} {xs : List LEc} {v : Value} {W : World} (h : OutC G B s xs v W) : ∃ q d, v = .slice q (cmpsK G s).length d ∧ LLj W q (cmpsK G s) := by
 obtain ⟨q, d, e, hs⟩ := own_sl h.own
 exact ⟨q, d, by rw [e, ← h.eq, List.length_map], xs, h.eq, hs, h.sl⟩
set_option maxRecDepth 100000 in
set_option maxHeartbeats 4000000 in
theorem r10Of_any (G : Gr) (p : Option Addr) (c : Nat) (w : World) (hin : Sg 3 w edE p G.es) (hl : G.es.length ≤ 9223372036854775807) :
  Calls Tryz.prog 127 #[(.agg #[.int .i64 G.q, .int .i64 G.n, .slice p G.es.length c])] w (RetLL (ofA G).1 (ofA G).2 w) := by
 obtain ⟨i0, hi0, hz0, hz1, hz3⟩ := info_parts infoIg
 have infoFr : (Tryz.prog.info? 90).map (fun i => (i.zero, i.size, i.bytes)) = some (some (.slice none 0 0), 1, 24) := by kernel_rfl
 obtain ⟨i1, hi1, hy0, hy1, hy3⟩ := info_parts infoFr
 clear infoFr
 obtain ⟨i2, hi2, hx0, hx1, hx3⟩ := info_parts infoSg
 obtain ⟨w0, hw0⟩ : ∃ w0, w0 = w.alloc (.cells #[.int .i64 G.q, .int .i64 G.n, .slice p G.es.length c] 24) := ⟨_, rfl⟩
 have b0 : VRow w0 w.heap.size 24 [.int .i64 G.q, .int .i64 G.n, .slice p G.es.length c] := by subst hw0; exact VRow.new w _ _
 have hB0 : RowKit.Below w.heap.size w w0 := by subst hw0; exact (RowKit.Below.refl _ _).alloc (Nat.le_refl _) _
 have HB0 := hidI hB0
 have HIN := hidI (hin.below hB0)
 have HCK := hidI (rCheck_any G p c w0 HIN.out hl)
 have f0 := b0.at 0 rfl; have f1 := b0.at 1 rfl; have f2 := b0.at 2 rfl
 by_cases hc : chkG G = 0
 case neg =>
  have HK : Hid (ofA G = ([], 1)) := by unfold Hid ofA; rw [if_neg hc]
  rw [HK.out]
  have hcb : (chkG G != 0) = true := by simpa using hc
  generalize chkG G = r at *
  clear hc hin HK
  go_enter Tryz.func127, Tryz.ntmps127
  go_upto_region 1 with fail
  rw [← hw0]
  clear hw0
  go_wp2_with fail
  refine HCK.out.mono ?_
  rintro e w1 ⟨rfl, hB1⟩
  clear f0 f1 f2
  go_wp2
  refine bodyPost_ret (v := .tuple #[.slice (some ⟨w1.heap.size, 0, none⟩) 0 0, .int .i64 1]) (by simp [results, Tryz.results127, go_sem]) rfl ?_
  exact ⟨some ⟨w1.heap.size, 0, none⟩, 0, rfl, ⟨[], rfl, .inl rfl, fun x hx => by cases hx⟩, (HB0.out.trans (hB1.mono HB0.out.size)).alloc (by have := hB1.size; have := HB0.out.size; omega) _⟩
 case pos =>
  have hv := chkG_ok.1 hc
  have HK : Hid (ofA G = (compsA G, 0)) := by unfold Hid ofA; rw [if_pos hc]
  rw [HK.out]
  rw [hc] at HCK
  obtain ⟨N, hN⟩ : ∃ N : Nat, G.n = N := ⟨G.n.toNat, by have := hv.n1; omega⟩
  have hN64 : N ≤ 64 := by have := hv.n2; omega
  have hNT : G.n.toNat = N := by omega
  have HN := hidI hN; have HV := hidI hv
  have HCN : Hid (cmpsK G N = compsA G) := by unfold Hid cmpsK compsA; rw [hNT]
  have HNT := hidI hNT
  clear hc hv hin HK hNT hN
  go_enter Tryz.func127, Tryz.ntmps127
  go_upto_region 1 with fail
  rw [← hw0]
  clear hw0
  go_wp2_with fail
  refine HCK.out.mono ?_
  rintro e w1 ⟨rfl, hB1⟩
  clear f0 f1 f2 HCK
  go_wp2_with fail
  obtain ⟨w2, hw2⟩ : ∃ w2, w2 = w1.alloc (.cells #[] 90) := ⟨_, rfl⟩
  obtain ⟨z, hz⟩ : ∃ z, z = w0.heap.size := ⟨_, rfl⟩
  have hzw : z ≤ w1.heap.size := by rw [hz]; exact hB1.size
  have hF0 : FrM G N w2 z 0 (.slice (some ⟨w1.heap.size, 0, none⟩) 0 0) [] := ⟨by subst hw2; exact own_new w1 z [] 90 hzw (by simp [maxLen]), rfl, fun i h => by simp at h⟩
  have hB2 : RowKit.Below z w0 w2 := by subst hw2; rw [hz]; exact hB1.alloc hB1.size _
  have hbz : w.heap.size < z := by rw [hz]; exact b0.lt
  have HRC := hidI (fun (s : Nat) V (hs : s < N) (hB : RowKit.Below z w0 V) => r10reached_any G p c s V (HIN.out.below (by rw [← hz]; exact hB)) HV.out (by have := HN.out; omega))
  rw [HNT.out] at HRC
  have HB0z : Hid (∀ V, RowKit.Below z w0 V → RowKit.Below w.heap.size w V) := fun V hV => HB0.out.trans (hV.mono (by omega))
  have hzw0 : z ≤ w0.heap.size := by omega
  rw [← hw2]
  clear hw2 hz hB1 hzw
  go_loopw [4, 5] (fun fv iv wr => ∃ (k : Nat) (bs : List Nat), k ≤ N ∧ iv = .int .i64 k ∧ FrM G N wr z k fv bs ∧ RowKit.Below z w0 wr) (fun _ iv _ => N - (intOf iv).toNat)
  case atStart => exact ⟨0, [], by omega, rfl, hF0, hB2⟩
  case round =>
   clear hF0 hB2
   obtain ⟨k, bs, hk, rfl, hF, hB⟩ := hrel
   have hg := b0.below hB hbz
   have f0 := hg.at 0 rfl; have f1 := hg.at 1 rfl; have f2 := hg.at 2 rfl
   rw [HN.out] at f1
   have hzr : z ≤ wr.heap.size := by have := hB.size; omega
   by_cases hlt : k < N
   ·have hltI : (k : Int) < (N : Int) := by omega
    have HR := hidI (HRC.out k wr hlt hB)
    rw [HN.out, rch_same HV.out (by have := HN.out; omega)] at HR
    clear hg
    go_wp2_with fail
    refine HR.out.mono ?_
    rintro e w2 ⟨b, rfl, hbw, hr, hB2⟩
    have x2 := hB.trans (hB2.mono hzr)
    have hF2 := hF.below hB2
    have hnew := cell_one_at w2 (.slice (some ⟨b, 0, none⟩) N N) 90 w2.heap.size rfl
    have hz2 : z ≤ w2.heap.size := by have := x2.size; omega
    clear f0 f1 f2 hF HR
    go_wp2_with (at_builtin; refine wpList_append_own _ rfl _ _ 94 rfl z 90 i1 (.slice none 0 0) 1 24 Tryz.underlying94 hi1 hy0 hy1 hy3 rfl (by decide) _ _ _ rfl (hF2.own.alloc _) ⟨w2.heap.size, 0, none⟩ 1 1 [.slice (some ⟨b, 0, none⟩) N N] rfl rfl hnew (by simp [Value.oneCell']) (by simp [maxLen]; omega) (by omega) (by simp; omega) ?_; intro v' w9 hown' hgrow _)
    have hF9 : FrM G N w9 z (k + 1) v' (bs ++ [b]) := by
     have hty : ∀ {B : Nat} {l : List Value}, VRow w2 B 4 l → VRow w9 B 4 l := fun h =>
      VRow.grown (h.alloc (.cells #[.slice (some ⟨b, 0, none⟩) N N] 90)) hgrow (own_not (hF2.own.alloc (.cells #[.slice (some ⟨b, 0, none⟩) N N] 90)) (h.alloc (.cells #[.slice (some ⟨b, 0, none⟩) N N] 90)) (by decide))
     refine ⟨by rw [List.map_append]; exact hown', by simp [hF2.len], fun i hi => ?_⟩
     by_cases hik : i < bs.length
     ·rw [List.getElem_append_left hik]; exact hty (hF2.rows i hik)
     ·have : i = k := by have := hF2.len; simp at hi; omega
      subst this
      have hl := hF2.len
      subst hl
      simpa using hty hr
    have hB9 : RowKit.Below z w0 w9 := (x2.alloc hz2 _).grown hgrow (by simp; omega) (fun j e => (hF2.own.lt j e).1)
    go_wp2
    go_roundw
    case rel => exact ⟨k + 1, _, by omega, by go_num, hF9, hB9⟩
    case measure => simp [intOf]; omega
   ·obtain rfl : k = N := by omega
    have hltI : ¬ (k : Int) < (k : Int) := by omega
    rename World => wq
    have hO0 : OutC G z 0 [] (.slice (some ⟨wq.heap.size, 0, none⟩) 0 0) (wq.alloc (.cells #[] 30)) := ⟨own_new wq z [] 30 hzr (by simp [maxLen]), rfl, fun x hx => by cases hx⟩
    have hBa := hB.alloc hzr (.cells #[] 30)
    have hFa : FrM G k (wq.alloc (.cells #[] 30)) z k u4 bs := hF.below ((RowKit.Below.refl _ _).alloc (Nat.le_refl _) _)
    have hblt := hF.len
    clear hF hB hg hzr
    go_wp2_with fail
    clear f0 f1 f2
    go_loopw [6, 7] (fun ov iv wr => ∃ (s : Nat) (xs : List LEc), s ≤ k ∧ iv = .int .i64 s ∧ OutC G z s xs ov wr ∧ FrM G k wr z k u4 bs ∧ RowKit.Below z w0 wr) (fun _ iv _ => k - (intOf iv).toNat)
    case atStart => exact ⟨0, [], by omega, rfl, hO0, hFa, hBa⟩
    case round =>
     clear hO0 hFa hBa
     obtain ⟨s, xs, hs, rfl, hO, hF, hB⟩ := hrel
     have hg := b0.below hB hbz
     have f1 := hg.at 1 rfl
     rw [HN.out] at f1
     have hzr : z ≤ wr.heap.size := by have := hB.size; omega
     by_cases hlts : s < k
     ·have hltI2 : (s : Int) < (k : Int) := by omega
      rename World => wo
      have HF := hidI hF; have HO := hidI hO
      obtain ⟨g, cap, rfl⟩ : ∃ g cap, u4 = .slice (some ⟨g, 0, none⟩) k cap := (own_forms hF.own).resolve_left (fun h => by omega)
      have hl0 := own_new wo wo.heap.size [] 3 (Nat.le_refl _) (by simp [maxLen])
      have hBl : RowKit.Below wo.heap.size wo (wo.alloc (.cells #[] 3)) := (RowKit.Below.refl _ _).alloc (Nat.le_refl _) _
      obtain ⟨wl, hwl⟩ : ∃ wl, wl = wo.alloc (.cells #[] 3) := ⟨_, rfl⟩
      rw [show (#[] : Array Value) = ([] : List Value).toArray from rfl] at hwl
      rw [← hwl] at hl0
      have hBl : RowKit.Below wo.heap.size wo wl := by rw [hwl]; exact (RowKit.Below.refl _ _).alloc (Nat.le_refl _) _
      clear hF hO hg
      go_upto_region 13 with fail
      rw [← hwl]
      clear hwl
      have hgl := hB.trans (hBl.mono hzr)
      have hg := b0.below hgl hbz
      go_wp2_with fail
      clear f1 hg
      go_loopw [8, 9, 10] (fun lv fv iv wx => ∃ t : Nat, t ≤ k ∧ iv = .int .i64 t ∧ fv = .bool ((cmpK G s t).all (fun x => decide ((s : Int) ≤ x))) ∧ wx.ownsRow wo.heap.size 3 1 lv (cmpK G s t).length ((cmpK G s t).map (Value.int .i64)) ∧ RowKit.Below wo.heap.size wo wx) (fun _ _ iv _ => k - (intOf iv).toNat)
      case atStart => exact ⟨0, by omega, rfl, rfl, hl0, hBl⟩
      case round =>
       clear hl0 hBl hgl
       obtain ⟨t, ht, rfl, rfl, hl, hBx⟩ := hrel
       have hgx := b0.below (hB.trans (hBx.mono hzr)) hbz
       have f1 := hgx.at 1 rfl
       rw [HN.out] at f1
       have hFx := HF.out.below hBx
       by_cases hltt : t < k
       ·have hltI3 : (t : Int) < (k : Int) := by omega
        have hsl : s < bs.length := by omega
        have htl : t < bs.length := by omega
        have hnt := HNT.out
        have hrl1 := rchA_len G HV.out (s := s) (by have := HN.out; omega)
        have hrl2 := rchA_len G HV.out (s := t) (by have := HN.out; omega)
        have c1 : wr.cell? ⟨g, s, none⟩ = some (.slice (some ⟨bs[s], 0, none⟩) k k) := (hFx.own.cellAt s (by omega)).trans (by simp [hsl])
        have c2 : wr.cell? ⟨g, t, none⟩ = some (.slice (some ⟨bs[t], 0, none⟩) k k) := (hFx.own.cellAt t (by omega)).trans (by simp [htl])
        have c3 : wr.cell? ⟨bs[s], t, none⟩ = some (.bool (fwB G s t)) := (hFx.rows s hsl).at t (by rw [List.getElem?_map, List.getElem?_eq_getElem (by omega), Option.map_some, fr_get])
        have c4 : wr.cell? ⟨bs[t], s, none⟩ = some (.bool (fwB G t s)) := (hFx.rows t htl).at s (by rw [List.getElem?_map, List.getElem?_eq_getElem (by omega), Option.map_some, fr_get])
        have HCK := hidI (cmpK_succ G s t)
        have hcl := cmpK_len G s t
        have hzx := hBx.size
        generalize bs[s] = b1 at *
        generalize bs[t] = b2 at *
        generalize fwB G s t = x at *
        generalize fwB G t s = y at *
        clear hFx hrl1 hrl2 hsl htl hnt
        by_cases hxy : (x && y) = true
        ·obtain ⟨rfl, rfl⟩ : x = true ∧ y = true := by cases x <;> cases y <;> simp_all
         have HC2 : Hid (cmpK G s (t + 1) = cmpK G s t ++ [(t : Int)]) := HCK.out
         have hlen1 : (cmpK G s (t + 1)).length = (cmpK G s t).length + 1 := by rw [HC2.out]; simp
         have HALL : Hid ((cmpK G s (t + 1)).all (fun x => decide ((s : Int) ≤ x)) = ((cmpK G s t).all (fun x => decide ((s : Int) ≤ x)) && decide ((s : Int) ≤ t))) := by rw [Hid, HC2.out, List.all_append]; simp
         clear HCK
         have hnew := cell_one_at wr (.int .i64 (t : Int)) 3 wr.heap.size rfl
         clear hxy
         obtain ⟨fb, hfb⟩ : ∃ fb, (cmpK G s t).all (fun x => decide ((s : Int) ≤ x)) = fb := ⟨_, rfl⟩
         rw [hfb] at HALL ⊢
         clear hfb
         cases fb
         ·go_wp2_with (at_builtin; refine wpList_append_own _ rfl _ _ 30 rfl wo.heap.size 3 i0 (.int .i64 0) 1 8 Tryz.underlying30 hi0 hz0 hz1 hz3 rfl (by decide) _ _ _ rfl (hl.alloc _) ⟨wr.heap.size, 0, none⟩ 1 1 [.int .i64 (t : Int)] rfl rfl hnew (by simp [Value.oneCell']) (by simp [maxLen]; omega) (by omega) (by simp; omega) ?_; intro v' w9 hown' hgrow _)
          have hB9 : RowKit.Below wo.heap.size wo w9 := (hBx.alloc hzx _).grown hgrow (by simp; omega) (fun j e => (hl.lt j e).1)
          go_roundw
          case rel => exact ⟨t + 1, by omega, by go_num, by rw [HALL.out]; rfl, by rw [hlen1, HC2.out, List.map_append]; exact hown', hB9⟩
          case measure => simp [intOf]; omega
         ·go_wp2_with (at_builtin; refine wpList_append_own _ rfl _ _ 30 rfl wo.heap.size 3 i0 (.int .i64 0) 1 8 Tryz.underlying30 hi0 hz0 hz1 hz3 rfl (by decide) _ _ _ rfl (hl.alloc _) ⟨wr.heap.size, 0, none⟩ 1 1 [.int .i64 (t : Int)] rfl rfl hnew (by simp [Value.oneCell']) (by simp [maxLen]; omega) (by omega) (by simp; omega) ?_; intro v' w9 hown' hgrow _)
          have hB9 : RowKit.Below wo.heap.size wo w9 := (hBx.alloc hzx _).grown hgrow (by simp; omega) (fun j e => (hl.lt j e).1)
          go_roundw
          case rel => exact ⟨t + 1, by omega, by go_num, by rw [HALL.out]; simp, by rw [hlen1, HC2.out, List.map_append]; exact hown', hB9⟩
          case measure => simp [intOf]; omega
        ·have HC2 : Hid (cmpK G s (t + 1) = cmpK G s t) := by unfold Hid; rw [HCK.out, if_neg hxy, List.append_nil]
         clear HCK
         have hlen1 : (cmpK G s (t + 1)).length = (cmpK G s t).length := by rw [HC2.out]
         cases x
         ·go_wp2
          go_roundw
          case rel => exact ⟨t + 1, by omega, by go_num, by rw [HC2.out], by rw [HC2.out]; exact hl, hBx⟩
          case measure => simp [intOf]; omega
         ·obtain rfl : y = false := by cases y <;> simp_all
          go_wp2
          go_roundw
          case rel => exact ⟨t + 1, by omega, by go_num, by rw [HC2.out], by rw [HC2.out]; exact hl, hBx⟩
          case measure => simp [intOf]; omega
       ·obtain rfl : t = k := by omega
        have hltI3 : ¬ (t : Int) < (t : Int) := by omega
        have hnt := HNT.out
        have hcm : cmpK G s t = cmpA G s := by unfold cmpK cmpA; rw [hnt]
        rw [hcm] at hl ⊢
        have hsn : (s : Int) < G.n := by have := HN.out; omega
        have hself := cmp_self HV.out hsn
        have hpos := List.length_pos_of_mem hself
        have hll := cmpA_len G s
        obtain ⟨g2, cap2, rfl⟩ : ∃ g cap, u8 = .slice (some ⟨g, 0, none⟩) (cmpA G s).length cap := (own_forms hl).resolve_left (fun h => by omega)
        rw [← led_all HV.out hsn]
        have HCS := hidI (cmpsK_succ G s)
        have hsl : SlJ wr (some ⟨g2, 0, none⟩) (cmpA G s) := by
         obtain ⟨q, d, hq, hs'⟩ := own_sl hl
         cases hq
         exact ⟨hs', fun b o z hb => Lib.ownsRow_kind hl b (by cases hb; rfl)⟩
        have hOx := HO.out.below hBx
        have hBz := hB.trans (hBx.mono hzr)
        have hzx : z ≤ wr.heap.size := by have := hBx.size; omega
        clear hcm hself hl hpos hsn hnt
        cases hld : ledA G s
        ·have hO2 : OutC G z (s + 1) xs u6 wr := ⟨hOx.own, by rw [hOx.eq, HCS.out, hld]; simp, hOx.sl⟩
         clear hld hOx HO HF
         go_wp2
         go_roundw
         case rel => exact ⟨s + 1, xs, by omega, by go_num, hO2, hFx, hBz⟩
         case measure => simp [intOf]; omega
        ·have hnew := cell_one_at wr (.slice (some ⟨g2, 0, none⟩) (cmpA G s).length cap2) 30 wr.heap.size rfl
         have hxl := hOx.len
         have HLD : Hid (ledA G s = true) := hld
         clear hld HO HF
         go_wp2_with (at_builtin; refine wpList_append_own _ rfl _ _ 47 rfl z 30 i2 (.slice none 0 0) 1 24 Tryz.underlying47 hi2 hx0 hx1 hx3 rfl (by decide) _ _ _ rfl (hOx.own.alloc _) ⟨wr.heap.size, 0, none⟩ 1 1 [.slice (some ⟨g2, 0, none⟩) (cmpA G s).length cap2] rfl rfl hnew (by simp [Value.oneCell']) (by simp [maxLen]; omega) (by omega) (by simp; omega) ?_; intro v' w9 hown' hgrow _)
         have hOa := hOx.own.alloc (.cells #[.slice (some ⟨g2, 0, none⟩) (cmpA G s).length cap2] 30)
         have hAl : RowKit.Below wr.heap.size wr (wr.alloc (.cells #[.slice (some ⟨g2, 0, none⟩) (cmpA G s).length cap2] 30)) := (RowKit.Below.refl _ _).alloc (Nat.le_refl _) _
         have hO9 : OutC G z (s + 1) (xs ++ [(cmpA G s, (some ⟨g2, 0, none⟩, cap2))]) v' w9 := by
          refine ⟨by rw [List.length_append, List.map_append]; exact hown', by rw [List.map_append, hOx.eq, HCS.out, HLD.out]; rfl, fun x hx => ?_⟩
          have hkeep : ∀ {q : Option Addr} {l : List Int}, SlJ wr q l → SlJ w9 q l := fun h => ((KCs.below hAl).slj h).grown hgrow hOa (by decide)
          rcases List.mem_append.1 hx with h | h
          ·exact hkeep (hOx.sl x h)
          ·obtain rfl := List.mem_singleton.1 h
           exact hkeep hsl
         have hF9 : FrM G t w9 z t (.slice (some ⟨g, 0, none⟩) t cap) bs := (hFx.below hAl).kp (KpC.grown hgrow hOa (by decide) (by decide) (by decide))
         have hB9 : RowKit.Below z w0 w9 := (hBz.alloc hzx _).grown hgrow (by simp; omega) (fun j e => (hOx.own.lt j e).1)
         go_roundw
         case rel => exact ⟨s + 1, _, by omega, by go_num, hO9, hF9, hB9⟩
         case measure => simp [intOf]; omega
     ·obtain rfl : s = k := by omega
      have hltI2 : ¬ (s : Int) < (s : Int) := by omega
      obtain ⟨q, d, rfl, hll⟩ := hO.ll
      have hBr := HB0z.out _ hB
      rw [HCN.out] at hll
      have HLL := hidI hll
      rw [HCN.out]
      clear hO hF hB hll
      go_wp2
      refine bodyPost_ret (v := .tuple #[.slice q (compsA G).length d, .int .i64 0]) (by simp [results, Tryz.results127, go_sem]) rfl ?_
      exact ⟨q, d, rfl, HLL.out, hBr⟩
end
section
open Go.RowKit Go.Sort Go.Shelf Go.Lib
set_option maxHeartbeats 400000 in
theorem r10has_q (l : List Int) (p : Option Addr) (c : Nat) (n : Int) (r : Bool) (w : World) (hp : Sl w (Value.int .i64) p l) (hl : l.length ≤ 9223372036854775807) (hr : decide (n ∈ l) = r) :
  Calls Tryz.prog 134 #[.slice p l.length c, .int .i64 n] w fun e w' => e = .returned (.bool r) ∧ w' = w := by
 subst hr
 go_enter Tryz.func134, Tryz.ntmps134
 go_wp2
 go_loop [5] (fun i => ∃ k : Nat, k ≤ l.length ∧ i = .int .i64 k ∧ Hid (∀ j (hj : j < l.length), j < k → l[j] ≠ n)) (fun i => l.length - (intOf i).toNat)
 case atStart => exact ⟨0, by omega, rfl, fun _ _ h => by omega⟩
 case round =>
  obtain ⟨k, hk, rfl, hj⟩ := hrel
  by_cases hlt : k < l.length
  ·obtain ⟨b1, o1, rfl, hb1, hc1⟩ := hp.get k hlt
   have e1 := hc1 k hlt
   clear hc1
   by_cases he : l[k] = n
   ·have HI : Hid (decide (n ∈ l) = true) := decide_eq_true (he ▸ List.getElem_mem hlt)
    have hb : (l[k] == n) = true := by simpa using he
    clear he
    go_wp2
    go_ret
    exact ⟨ret_bool HI.out.symm, rfl⟩
   ·have hb : (l[k] == n) = false := by simpa using he
    have HE := hidI he
    clear he
    go_wp2
    go_round
    case rel => exact ⟨k + 1, by omega, by go_num, fun j h1 h2 => by
     rcases Nat.lt_succ_iff_lt_or_eq.1 h2 with h3 | h3
     ·exact hj.out j h1 h3
     ·subst h3; exact HE.out⟩
    case measure => simp [intOf]; omega
  ·have HM : Hid (decide (n ∈ l) = false) := decide_eq_false (fun hm => by
    obtain ⟨i, hi, e⟩ := List.mem_iff_getElem.1 hm
    exact hj.out i hi (by omega) e)
   go_wp2
   go_ret
   exact ⟨ret_bool HM.out.symm, rfl⟩
structure OutD (L : List (List Int)) (B : Nat) (xs : List LEc) (v : Value) (W : World) : Prop where
 own : W.ownsRow B 30 1 v xs.length (xs.map lcV)
 eq : xs.map (·.1) = L
 sl : ∀ x ∈ xs, SlJ W x.2.1 x.1
theorem OutD.below {L : List (List Int)} {B : Nat} {xs : List LEc} {v : Value} {W W' : World} (h : OutD L B xs v W) (hB : RowKit.Below W.heap.size W W') : OutD L B xs v W' :=
 ⟨h.own.below hB, h.eq, fun x hx => (KCs.below hB).slj (h.sl x hx)⟩
theorem OutD.len {L : List (List Int)} {B : Nat} {xs : List LEc} {v : Value} {W : World} (h : OutD L B xs v W) : xs.length = L.length := by
 rw [← h.eq, List.length_map]
theorem OutD.ll {L : List (List Int)} {B : Nat} {xs : List LEc} {v : Value} {W : World} (h : OutD L B xs v W) : ∃ q d, v = .slice q L.length d ∧ LLj W q L := by
 obtain ⟨q, d, e, hs⟩ := own_sl h.own
 exact ⟨q, d, by rw [e, h.len], xs, h.eq, hs, h.sl⟩
theorem ofA_len (G : Gr) : (ofA G).1.length ≤ 64 ∧ ∀ x ∈ (ofA G).1, x.length ≤ 64 := by
 unfold ofA
 by_cases h : chkG G = 0
 ·rw [if_pos h]
  have hv := chkG_ok.1 h
  have hn : G.n.toNat ≤ 64 := by have := hv.n2; omega
  refine ⟨Nat.le_trans (cmpsK_len G G.n.toNat) hn, fun x hx => ?_⟩
  obtain ⟨s, _, rfl⟩ := List.mem_map.1 hx
  exact Nat.le_trans (cmpA_len G s) hn
 ·rw [if_neg h]; exact ⟨by simp, fun x hx => by cases hx⟩
theorem filt_snoc (hp : List Int → Bool) (L : List (List Int)) (k : Nat) (h : k < L.length) : (L.take (k + 1)).filter hp = (L.take k).filter hp ++ (if hp L[k] = true then [L[k]] else []) := by
 rw [List.take_succ_eq_append_getElem h, List.filter_append]
 congr 1
 by_cases e : hp L[k] = true
 ·rw [if_pos e, List.filter_cons_of_pos e]; rfl
 ·rw [if_neg e, List.filter_cons_of_neg e]; rfl
theorem any_snocX (pr : Ed → Bool) (es : List Ed) (j : Nat) (h : j < es.length) : (es.take (j + 1)).any pr = ((es.take j).any pr || pr es[j]) := by
 rw [List.take_succ_eq_append_getElem h, List.any_append]; simp
set_option maxRecDepth 100000 in
set_option maxHeartbeats 4000000 in
theorem r10Cyclic_any (G : Gr) (p : Option Addr) (c : Nat) (w : World) (hin : Sg 3 w edE p G.es) (hl : G.es.length ≤ 9223372036854775807) :
  Calls Tryz.prog 128 #[(.agg #[.int .i64 G.q, .int .i64 G.n, .slice p G.es.length c])] w (RetLL ((ofA G).1.filter (cycB G)) (ofA G).2 w) := by
 obtain ⟨i2, hi2, hx0, hx1, hx3⟩ := info_parts infoSg
 obtain ⟨w0, hw0⟩ : ∃ w0, w0 = w.alloc (.cells #[.int .i64 G.q, .int .i64 G.n, .slice p G.es.length c] 24) := ⟨_, rfl⟩
 have b0 : VRow w0 w.heap.size 24 [.int .i64 G.q, .int .i64 G.n, .slice p G.es.length c] := by subst hw0; exact VRow.new w _ _
 have hB0 : RowKit.Below w.heap.size w w0 := by subst hw0; exact (RowKit.Below.refl _ _).alloc (Nat.le_refl _) _
 have HB0 := hidI hB0
 have HIN := hidI (hin.below hB0)
 have HO := hidI (r10Of_any G p c w0 HIN.out hl)
 have f0 := b0.at 0 rfl; have f1 := b0.at 1 rfl; have f2 := b0.at 2 rfl
 obtain ⟨hL1, hL2⟩ := ofA_len G
 have HL2 := hidI hL2
 generalize (ofA G).1 = L at *
 generalize (ofA G).2 = ek at *
 clear hin hL2 hB0
 go_enter Tryz.func128, Tryz.ntmps128
 go_upto_region 1 with fail
 rw [← hw0]
 clear hw0
 go_wp2_with fail
 refine HO.out.mono ?_
 rintro e w1 ⟨q, d, rfl, hll, hB1⟩
 clear f0 f1 f2
 have b1 := b0.below hB1 b0.lt
 have HE : Hid (∀ V, RowKit.Below w1.heap.size w1 V → Sg 3 V edE p G.es) := fun V hV => (HIN.out.below hB1).below hV
 have HZ : Hid (∀ V, RowKit.Below w1.heap.size w1 V → RowKit.Below w.heap.size w V) := fun V hV => (HB0.out.trans (hB1.mono HB0.out.size)).trans (hV.mono (by have := hB1.size; have := HB0.out.size; omega))
 have HLL := hidI hll
 have hO0 : OutD ((L.take 0).filter (cycB G)) w1.heap.size [] (.slice (some ⟨w1.heap.size, 0, none⟩) 0 0) (w1.alloc (.cells #[] 30)) := ⟨own_new w1 w1.heap.size [] 30 (Nat.le_refl _) (by simp [maxLen]), by simp, fun x hx => by cases hx⟩
 have hBa : RowKit.Below w1.heap.size w1 (w1.alloc (.cells #[] 30)) := (RowKit.Below.refl _ _).alloc (Nat.le_refl _) _
 clear hll HO HIN
 go_wp2_with fail
 go_loopw [6, 7] (fun ov iv wr => ∃ (k : Nat) (xs : List LEc), k ≤ L.length ∧ iv = .int .i64 k ∧ OutD ((L.take k).filter (cycB G)) w1.heap.size xs ov wr ∧ RowKit.Below w1.heap.size w1 wr) (fun _ iv _ => L.length - (intOf iv).toNat)
 case atStart => exact ⟨0, [], by omega, rfl, hO0, hBa⟩
 case round =>
  clear hO0 hBa
  obtain ⟨k, xs, hk, rfl, hO, hB⟩ := hrel
  by_cases hlt : k < L.length
  ·have hltI : (k : Int) < (L.length : Int) := by omega
   rename World => wo
   have HLK : Hid (L[k].length ≤ 64) := HL2.out _ (List.getElem_mem hlt)
   have HFS := hidI (filt_snoc (cycB G) L k hlt)
   obtain ⟨b4, o4, q4, d4, rfl, hb4, e4, hs4⟩ := HLL.out.get k hlt
   have HE4 := hidI e4; have HS4 := hidI hs4
   have HOO := hidI hO
   generalize L[k] = l at *
   clear hO e4 hs4
   go_wp2_with fail
   go_loopw [8, 9] (fun fv jv wx => ∃ j : Nat, j ≤ G.es.length ∧ jv = .int .i64 j ∧ fv = .bool ((G.es.take j).any (fun x => decide (x.f ∈ l) && decide (x.t ∈ l))) ∧ RowKit.Below wo.heap.size wo wx) (fun _ jv _ => G.es.length - (intOf jv).toNat)
   case atStart => exact ⟨0, by omega, rfl, rfl, RowKit.Below.refl _ _⟩
   case round =>
    obtain ⟨j, hj, rfl, rfl, hBx⟩ := hrel
    have hBz := hB.trans (hBx.mono hB.size)
    have hg := b1.below hBz b1.lt
    have f2 := hg.at 2 rfl
    have e4 := (hBz.cell (p := (⟨b4, o4 + k, none⟩ : Addr)) hb4).trans HE4.out
    have hsl4 := (HS4.out.1.below hBz)
    by_cases hjl : j < G.es.length
    ·obtain ⟨b3, o3, rfl, hb3, q0, q1, q2⟩ := (HE.out _ hBz).get3 j hjl rfl
     have hjI : (j : Int) < (G.es.length : Int) := by omega
     have HA := hidI (any_snocX (fun x => decide (x.f ∈ l) && decide (x.t ∈ l)) G.es j hjl)
     have HLK' := HLK.out
     generalize (G.es.take j).any (fun x => decide (x.f ∈ l) && decide (x.t ∈ l)) = a1 at *
     generalize G.es[j] = x at *
     obtain ⟨r1, hr1⟩ : ∃ r, decide (x.f ∈ l) = r := ⟨_, rfl⟩
     obtain ⟨r2, hr2⟩ : ∃ r, decide (x.t ∈ l) = r := ⟨_, rfl⟩
     have q0 : wr.cell? ⟨b3, o3 + j * 3, none⟩ = some (.int .i64 x.f) := q0
     have q2 : wr.cell? ⟨b3, o3 + j * 3 + 2, none⟩ = some (.int .i64 x.t) := q2
     have HX : Hid ((G.es.take (j + 1)).any (fun x => decide (x.f ∈ l) && decide (x.t ∈ l)) = (a1 || (r1 && r2))) := by rw [Hid, HA.out, ← hr1, ← hr2]
     have HC1 := fun (n : Nat) => Calls.quiet_of_same (r10has_q l q4 d4 x.f r1 (wr.drewN n) hsl4 (by omega) hr1)
     have HC2 := fun (n : Nat) => Calls.quiet_of_same (r10has_q l q4 d4 x.t r2 (wr.drewN n) hsl4 (by omega) hr2)
     clear HA hr1 hr2 hg HLK'
     cases a1
     ·cases r1
      ·go_wp2_with fail
       (refine wp_region_quiet_lit (by kernel_rfl) (by kernel_rfl) ?_; (repeat (first | go_big_quiet_step ((first | (go_at_call 134; with_reducible exact HC1 _) | (go_at_call 134; with_reducible exact HC2 _))) | quiet_step ((first | (go_at_call 134; with_reducible exact HC1 _) | (go_at_call 134; with_reducible exact HC2 _))))); refine wpQuiet_nil ?_; intro _ hwq; obtain ⟨nq, hwq2⟩ := hwq; subst hwq2)
       go_wp2_with fail
       go_roundw
       case rel => exact ⟨j + 1, by omega, by go_num, by rw [HX.out]; rfl, below_dN hBx nq⟩
       case measure => simp [intOf]; omega
      ·go_wp2_with fail
       (refine wp_region_quiet_lit (by kernel_rfl) (by kernel_rfl) ?_; (repeat (first | go_big_quiet_step ((first | (go_at_call 134; with_reducible exact HC1 _) | (go_at_call 134; with_reducible exact HC2 _))) | quiet_step ((first | (go_at_call 134; with_reducible exact HC1 _) | (go_at_call 134; with_reducible exact HC2 _))))); refine wpQuiet_nil ?_; intro _ hwq; obtain ⟨nq, hwq2⟩ := hwq; subst hwq2)
       go_wp2_with fail
       go_roundw
       case rel => exact ⟨j + 1, by omega, by go_num, by rw [HX.out]; simp, below_dN hBx nq⟩
       case measure => simp [intOf]; omega
     ·go_wp2_with fail
      (refine wp_region_quiet_lit (by kernel_rfl) (by kernel_rfl) ?_; (repeat (first | go_big_quiet_step ((first | (go_at_call 134; with_reducible exact HC1 _) | (go_at_call 134; with_reducible exact HC2 _))) | quiet_step ((first | (go_at_call 134; with_reducible exact HC1 _) | (go_at_call 134; with_reducible exact HC2 _))))); refine wpQuiet_nil ?_; intro _ hwq; obtain ⟨nq, hwq2⟩ := hwq; subst hwq2)
      go_wp2_with fail
      go_roundw
      case rel => exact ⟨j + 1, by omega, by go_num, by rw [HX.out]; rfl, below_dN hBx nq⟩
      case measure => simp [intOf]; omega
    ·obtain rfl : j = G.es.length := by omega
     have hjI : ¬ (G.es.length : Int) < (G.es.length : Int) := by omega
     rw [List.take_length]
     have HP : Hid (cycB G l = (G.es.any (fun x => decide (x.f ∈ l) && decide (x.t ∈ l)))) := rfl
     generalize G.es.any (fun x => decide (x.f ∈ l) && decide (x.t ∈ l)) = a1 at *
     have hOx := HOO.out.below hBx
     have hzx := hBz.size
     have hsj := (KCs.below hBz).slj HS4.out
     have hxl : xs.length ≤ 64 := by have h1 := hOx.len; have h2 := List.length_filter_le (cycB G) (L.take k); rw [List.length_take] at h2; omega
     cases a1
     ·have hO2 : OutD ((L.take (k + 1)).filter (cycB G)) w1.heap.size xs u6 wr := ⟨hOx.own, by rw [hOx.eq, HFS.out, HP.out]; simp, hOx.sl⟩
      clear hOx HOO
      go_wp2_with fail
      go_roundw
      case rel => exact ⟨k + 1, xs, by omega, by go_num, hO2, hBz⟩
      case measure => simp [intOf]; omega
     ·have hnew := cell_one_at wr (.slice q4 l.length d4) 30 wr.heap.size rfl
      clear HOO
      go_wp2_with (at_builtin; refine wpList_append_own _ rfl _ _ 47 rfl w1.heap.size 30 i2 (.slice none 0 0) 1 24 Tryz.underlying47 hi2 hx0 hx1 hx3 rfl (by decide) _ _ _ rfl (hOx.own.alloc _) ⟨wr.heap.size, 0, none⟩ 1 1 [.slice q4 l.length d4] rfl rfl hnew (by simp [Value.oneCell']) (by simp [maxLen]; omega) (by omega) (by simp; omega) ?_; intro v' w9 hown' hgrow _)
      have hOa := hOx.own.alloc (.cells #[.slice q4 l.length d4] 30)
      have hAl : RowKit.Below wr.heap.size wr (wr.alloc (.cells #[.slice q4 l.length d4] 30)) := (RowKit.Below.refl _ _).alloc (Nat.le_refl _) _
      have hO9 : OutD ((L.take (k + 1)).filter (cycB G)) w1.heap.size (xs ++ [(l, (q4, d4))]) v' w9 := by
       refine ⟨by rw [List.length_append, List.map_append]; exact hown', by rw [List.map_append, hOx.eq, HFS.out, HP.out]; simp, fun x hx => ?_⟩
       have hkeep : ∀ {q : Option Addr} {l : List Int}, SlJ wr q l → SlJ w9 q l := fun h => ((KCs.below hAl).slj h).grown hgrow hOa (by decide)
       rcases List.mem_append.1 hx with h | h
       ·exact hkeep (hOx.sl x h)
       ·obtain rfl := List.mem_singleton.1 h
        exact hkeep hsj
      have hB9 : RowKit.Below w1.heap.size w1 w9 := (hBz.alloc hzx _).grown hgrow (by simp; omega) (fun j e => (hOx.own.lt j e).1)
      go_roundw
      case rel => exact ⟨k + 1, _, by omega, by go_num, hO9, hB9⟩
      case measure => simp [intOf]; omega
  ·obtain rfl : k = L.length := by omega
   have hltI : ¬ (L.length : Int) < (L.length : Int) := by omega
   rw [List.take_length] at hO
   obtain ⟨q', d', rfl, hll'⟩ := hO.ll
   have hBr := HZ.out _ hB
   have HLL2 := hidI hll'
   generalize List.filter (cycB G) L = R at *
   clear hO hB hll'
   go_wp2
   go_ret2
   exact ⟨q', d', rfl, HLL2.out, hBr⟩
set_option maxRecDepth 100000 in
set_option maxHeartbeats 4000000 in
theorem r10Sinks_any (G : Gr) (p : Option Addr) (c : Nat) (w : World) (hin : Sg 3 w edE p G.es) (hl : G.es.length ≤ 9223372036854775807) :
  Calls Tryz.prog 63 #[(.agg #[.int .i64 G.q, .int .i64 G.n, .slice p G.es.length c])] w (RetLL ((ofA G).1.filter (sinkB G)) (ofA G).2 w) := by
 obtain ⟨i2, hi2, hx0, hx1, hx3⟩ := info_parts infoSg
 obtain ⟨w0, hw0⟩ : ∃ w0, w0 = w.alloc (.cells #[.int .i64 G.q, .int .i64 G.n, .slice p G.es.length c] 24) := ⟨_, rfl⟩
 have b0 : VRow w0 w.heap.size 24 [.int .i64 G.q, .int .i64 G.n, .slice p G.es.length c] := by subst hw0; exact VRow.new w _ _
 have hB0 : RowKit.Below w.heap.size w w0 := by subst hw0; exact (RowKit.Below.refl _ _).alloc (Nat.le_refl _) _
 have HB0 := hidI hB0
 have HIN := hidI (hin.below hB0)
 have HO := hidI (r10Of_any G p c w0 HIN.out hl)
 have f0 := b0.at 0 rfl; have f1 := b0.at 1 rfl; have f2 := b0.at 2 rfl
 obtain ⟨hL1, hL2⟩ := ofA_len G
 have HL2 := hidI hL2
 generalize (ofA G).1 = L at *
 generalize (ofA G).2 = ek at *
 clear hin hL2 hB0
 go_enter Tryz.func63, Tryz.ntmps63
 go_upto_region 1 with fail
 rw [← hw0]
 clear hw0
 go_wp2_with fail
 refine HO.out.mono ?_
 rintro e w1 ⟨q, d, rfl, hll, hB1⟩
 clear f0 f1 f2
 have b1 := b0.below hB1 b0.lt
 have HE : Hid (∀ V, RowKit.Below w1.heap.size w1 V → Sg 3 V edE p G.es) := fun V hV => (HIN.out.below hB1).below hV
 have HZ : Hid (∀ V, RowKit.Below w1.heap.size w1 V → RowKit.Below w.heap.size w V) := fun V hV => (HB0.out.trans (hB1.mono HB0.out.size)).trans (hV.mono (by have := hB1.size; have := HB0.out.size; omega))
 have HLL := hidI hll
 have hO0 : OutD ((L.take 0).filter (sinkB G)) w1.heap.size [] (.slice (some ⟨w1.heap.size, 0, none⟩) 0 0) (w1.alloc (.cells #[] 30)) := ⟨own_new w1 w1.heap.size [] 30 (Nat.le_refl _) (by simp [maxLen]), by simp, fun x hx => by cases hx⟩
 have hBa : RowKit.Below w1.heap.size w1 (w1.alloc (.cells #[] 30)) := (RowKit.Below.refl _ _).alloc (Nat.le_refl _) _
 clear hll HO HIN
 go_wp2_with fail
 go_loopw [6, 7] (fun ov iv wr => ∃ (k : Nat) (xs : List LEc), k ≤ L.length ∧ iv = .int .i64 k ∧ OutD ((L.take k).filter (sinkB G)) w1.heap.size xs ov wr ∧ RowKit.Below w1.heap.size w1 wr) (fun _ iv _ => L.length - (intOf iv).toNat)
 case atStart => exact ⟨0, [], by omega, rfl, hO0, hBa⟩
 case round =>
  clear hO0 hBa
  obtain ⟨k, xs, hk, rfl, hO, hB⟩ := hrel
  by_cases hlt : k < L.length
  ·have hltI : (k : Int) < (L.length : Int) := by omega
   rename World => wo
   have HLK : Hid (L[k].length ≤ 64) := HL2.out _ (List.getElem_mem hlt)
   have HFS := hidI (filt_snoc (sinkB G) L k hlt)
   obtain ⟨b4, o4, q4, d4, rfl, hb4, e4, hs4⟩ := HLL.out.get k hlt
   have HE4 := hidI e4; have HS4 := hidI hs4
   have HOO := hidI hO
   generalize L[k] = l at *
   clear hO e4 hs4
   go_wp2_with fail
   go_loopw [8, 9] (fun fv jv wx => ∃ j : Nat, j ≤ G.es.length ∧ jv = .int .i64 j ∧ fv = .bool ((G.es.take j).any (fun x => decide (x.f ∈ l) && !decide (x.t ∈ l))) ∧ RowKit.Below wo.heap.size wo wx) (fun _ jv _ => G.es.length - (intOf jv).toNat)
   case atStart => exact ⟨0, by omega, rfl, rfl, RowKit.Below.refl _ _⟩
   case round =>
    obtain ⟨j, hj, rfl, rfl, hBx⟩ := hrel
    have hBz := hB.trans (hBx.mono hB.size)
    have hg := b1.below hBz b1.lt
    have f2 := hg.at 2 rfl
    have e4 := (hBz.cell (p := (⟨b4, o4 + k, none⟩ : Addr)) hb4).trans HE4.out
    have hsl4 := (HS4.out.1.below hBz)
    by_cases hjl : j < G.es.length
    ·obtain ⟨b3, o3, rfl, hb3, q0, q1, q2⟩ := (HE.out _ hBz).get3 j hjl rfl
     have hjI : (j : Int) < (G.es.length : Int) := by omega
     have HA := hidI (any_snocX (fun x => decide (x.f ∈ l) && !decide (x.t ∈ l)) G.es j hjl)
     have HLK' := HLK.out
     generalize (G.es.take j).any (fun x => decide (x.f ∈ l) && !decide (x.t ∈ l)) = a1 at *
     generalize G.es[j] = x at *
     obtain ⟨r1, hr1⟩ : ∃ r, decide (x.f ∈ l) = r := ⟨_, rfl⟩
     obtain ⟨r2, hr2⟩ : ∃ r, decide (x.t ∈ l) = r := ⟨_, rfl⟩
     have q0 : wr.cell? ⟨b3, o3 + j * 3, none⟩ = some (.int .i64 x.f) := q0
     have q2 : wr.cell? ⟨b3, o3 + j * 3 + 2, none⟩ = some (.int .i64 x.t) := q2
     have HX : Hid ((G.es.take (j + 1)).any (fun x => decide (x.f ∈ l) && !decide (x.t ∈ l)) = (a1 || (r1 && !r2))) := by rw [Hid, HA.out, ← hr1, ← hr2]
     have HC1 := fun (n : Nat) => Calls.quiet_of_same (r10has_q l q4 d4 x.f r1 (wr.drewN n) hsl4 (by omega) hr1)
     have HC2 := fun (n : Nat) => Calls.quiet_of_same (r10has_q l q4 d4 x.t r2 (wr.drewN n) hsl4 (by omega) hr2)
     clear HA hr1 hr2 hg HLK'
     cases a1
     ·cases r1
      ·go_wp2_with fail
       (refine wp_region_quiet_lit (by kernel_rfl) (by kernel_rfl) ?_; (repeat (first | go_big_quiet_step ((first | (go_at_call 134; with_reducible exact HC1 _) | (go_at_call 134; with_reducible exact HC2 _))) | quiet_step ((first | (go_at_call 134; with_reducible exact HC1 _) | (go_at_call 134; with_reducible exact HC2 _))))); refine wpQuiet_nil ?_; intro _ hwq; obtain ⟨nq, hwq2⟩ := hwq; subst hwq2)
       go_wp2_with fail
       go_roundw
       case rel => exact ⟨j + 1, by omega, by go_num, by rw [HX.out]; rfl, below_dN hBx nq⟩
       case measure => simp [intOf]; omega
      ·go_wp2_with fail
       (refine wp_region_quiet_lit (by kernel_rfl) (by kernel_rfl) ?_; (repeat (first | go_big_quiet_step ((first | (go_at_call 134; with_reducible exact HC1 _) | (go_at_call 134; with_reducible exact HC2 _))) | quiet_step ((first | (go_at_call 134; with_reducible exact HC1 _) | (go_at_call 134; with_reducible exact HC2 _))))); refine wpQuiet_nil ?_; intro _ hwq; obtain ⟨nq, hwq2⟩ := hwq; subst hwq2)
       go_wp2_with fail
       go_roundw
       case rel => exact ⟨j + 1, by omega, by go_num, by rw [HX.out]; simp, below_dN hBx nq⟩
       case measure => simp [intOf]; omega
     ·go_wp2_with fail
      (refine wp_region_quiet_lit (by kernel_rfl) (by kernel_rfl) ?_; (repeat (first | go_big_quiet_step ((first | (go_at_call 134; with_reducible exact HC1 _) | (go_at_call 134; with_reducible exact HC2 _))) | quiet_step ((first | (go_at_call 134; with_reducible exact HC1 _) | (go_at_call 134; with_reducible exact HC2 _))))); refine wpQuiet_nil ?_; intro _ hwq; obtain ⟨nq, hwq2⟩ := hwq; subst hwq2)
      go_wp2_with fail
      go_roundw
      case rel => exact ⟨j + 1, by omega, by go_num, by rw [HX.out]; rfl, below_dN hBx nq⟩
      case measure => simp [intOf]; omega
    ·obtain rfl : j = G.es.length := by omega
     have hjI : ¬ (G.es.length : Int) < (G.es.length : Int) := by omega
     rw [List.take_length]
     have HP : Hid (sinkB G l = !(G.es.any (fun x => decide (x.f ∈ l) && !decide (x.t ∈ l)))) := rfl
     generalize G.es.any (fun x => decide (x.f ∈ l) && !decide (x.t ∈ l)) = a1 at *
     have hOx := HOO.out.below hBx
     have hzx := hBz.size
     have hsj := (KCs.below hBz).slj HS4.out
     have hxl : xs.length ≤ 64 := by have h1 := hOx.len; have h2 := List.length_filter_le (sinkB G) (L.take k); rw [List.length_take] at h2; omega
     cases a1
     ·have hnew := cell_one_at wr (.slice q4 l.length d4) 30 wr.heap.size rfl
      clear HOO
      go_wp2_with (at_builtin; refine wpList_append_own _ rfl _ _ 47 rfl w1.heap.size 30 i2 (.slice none 0 0) 1 24 Tryz.underlying47 hi2 hx0 hx1 hx3 rfl (by decide) _ _ _ rfl (hOx.own.alloc _) ⟨wr.heap.size, 0, none⟩ 1 1 [.slice q4 l.length d4] rfl rfl hnew (by simp [Value.oneCell']) (by simp [maxLen]; omega) (by omega) (by simp; omega) ?_; intro v' w9 hown' hgrow _)
      have hOa := hOx.own.alloc (.cells #[.slice q4 l.length d4] 30)
      have hAl : RowKit.Below wr.heap.size wr (wr.alloc (.cells #[.slice q4 l.length d4] 30)) := (RowKit.Below.refl _ _).alloc (Nat.le_refl _) _
      have hO9 : OutD ((L.take (k + 1)).filter (sinkB G)) w1.heap.size (xs ++ [(l, (q4, d4))]) v' w9 := by
       refine ⟨by rw [List.length_append, List.map_append]; exact hown', by rw [List.map_append, hOx.eq, HFS.out, HP.out]; simp, fun x hx => ?_⟩
       have hkeep : ∀ {q : Option Addr} {l : List Int}, SlJ wr q l → SlJ w9 q l := fun h => ((KCs.below hAl).slj h).grown hgrow hOa (by decide)
       rcases List.mem_append.1 hx with h | h
       ·exact hkeep (hOx.sl x h)
       ·obtain rfl := List.mem_singleton.1 h
        exact hkeep hsj
      have hB9 : RowKit.Below w1.heap.size w1 w9 := (hBz.alloc hzx _).grown hgrow (by simp; omega) (fun j e => (hOx.own.lt j e).1)
      go_roundw
      case rel => exact ⟨k + 1, _, by omega, by go_num, hO9, hB9⟩
      case measure => simp [intOf]; omega
     ·have hO2 : OutD ((L.take (k + 1)).filter (sinkB G)) w1.heap.size xs u6 wr := ⟨hOx.own, by rw [hOx.eq, HFS.out, HP.out]; simp, hOx.sl⟩
      clear hOx HOO
      go_wp2_with fail
      go_roundw
      case rel => exact ⟨k + 1, xs, by omega, by go_num, hO2, hBz⟩
      case measure => simp [intOf]; omega
  ·obtain rfl : k = L.length := by omega
   have hltI : ¬ (L.length : Int) < (L.length : Int) := by omega
   rw [List.take_length] at hO
   obtain ⟨q', d', rfl, hll'⟩ := hO.ll
   have hBr := HZ.out _ hB
   have HLL2 := hidI hll'
   generalize List.filter (sinkB G) L = R at *
   clear hO hB hll'
   go_wp2
   go_ret2
   exact ⟨q', d', rfl, HLL2.out, hBr⟩
end
section
open Go.RowKit Go.Sort Go.Shelf Go.Lib
set_option maxRecDepth 100000 in
set_option maxHeartbeats 4000000 in
theorem r10Irr_any (G : Gr) (p : Option Addr) (c : Nat) (w : World) (hin : Sg 3 w edE p G.es) (hl : G.es.length ≤ 9223372036854775807) :
  Calls Tryz.prog 60 #[(.agg #[.int .i64 G.q, .int .i64 G.n, .slice p G.es.length c])] w fun e w' => e = .returned (.tuple #[.bool (decide (chkG G = 0) && irrA G), .int .i64 (ofA G).2]) ∧ RowKit.Below w.heap.size w w' := by
 obtain ⟨w0, hw0⟩ : ∃ w0, w0 = w.alloc (.cells #[.int .i64 G.q, .int .i64 G.n, .slice p G.es.length c] 24) := ⟨_, rfl⟩
 have b0 : VRow w0 w.heap.size 24 [.int .i64 G.q, .int .i64 G.n, .slice p G.es.length c] := by subst hw0; exact VRow.new w _ _
 have hB0 : RowKit.Below w.heap.size w w0 := by subst hw0; exact (RowKit.Below.refl _ _).alloc (Nat.le_refl _) _
 have HO := hidI (r10Of_any G p c w0 (hin.below hB0) hl)
 have HC := hidI (fun W (hW : RowKit.Below w0.heap.size w0 W) => r10Cyclic_any G p c W ((hin.below hB0).below hW) hl)
 have f0 := b0.at 0 rfl; have f1 := b0.at 1 rfl; have f2 := b0.at 2 rfl
 have HBX := hidI b0
 by_cases hc : chkG G = 0
 ·have e1 : ofA G = (compsA G, 0) := if_pos hc
  rw [e1] at HO HC ⊢
  have HI : Hid ((decide (chkG G = 0) && irrA G) = (decide ((compsA G).length = 1) && decide (((compsA G).filter (cycB G)).length = 1))) := by rw [Hid, decide_eq_true hc, Bool.true_and, ← irr_same (chkG_ok.1 hc)]; rfl
  rw [HI.out]
  obtain ⟨M, hM⟩ : ∃ M, (compsA G).filter (cycB G) = M := ⟨_, rfl⟩
  rw [show ((compsA G, (0 : Int)).1) = compsA G from rfl, hM] at HC
  rw [hM]
  generalize compsA G = L at *
  clear hM HI
  by_cases h1 : L.length = 1
  ·have k1 : ((L.length : Int) == 1) = true := by simp [h1]
   have e2 : decide (L.length = 1) = true := decide_eq_true h1
   rw [e2, Bool.true_and]
   by_cases h2 : M.length = 1
   ·have k2 : ((M.length : Int) == 1) = true := by simp [h2]
    have e3 : decide (M.length = 1) = true := decide_eq_true h2
    rw [e3]
    clear hc h1 h2 hin b0 e1 e2 e3
    (go_enter Tryz.func60, Tryz.ntmps60; go_upto_region 1 with fail; rw [← hw0]; clear hw0; go_wp2_with fail; refine HO.out.mono ?_; rintro e w1 ⟨q, d, rfl, hs, hB1⟩; have b1 := HBX.out.below hB1 HBX.out.lt; have x1 := hB0.trans (hB1.mono hB0.size); clear f0 f1 f2 hs; have f0 := b1.at 0 rfl; have f1 := b1.at 1 rfl; have f2 := b1.at 2 rfl; go_wp2_with fail; refine (HC.out w1 hB1).mono ?_; rintro e w2 ⟨q2, d2, rfl, hs, hB2⟩; have x2 := x1.trans (hB2.mono x1.size); clear f0 f1 f2 hs b1; go_wp2; go_ret2; exact ⟨rfl, x2⟩)
   ·have k2 : ((M.length : Int) == 1) = false := by simp; omega
    have e3 : decide (M.length = 1) = false := decide_eq_false h2
    rw [e3]
    clear hc h1 h2 hin b0 e1 e2 e3
    (go_enter Tryz.func60, Tryz.ntmps60; go_upto_region 1 with fail; rw [← hw0]; clear hw0; go_wp2_with fail; refine HO.out.mono ?_; rintro e w1 ⟨q, d, rfl, hs, hB1⟩; have b1 := HBX.out.below hB1 HBX.out.lt; have x1 := hB0.trans (hB1.mono hB0.size); clear f0 f1 f2 hs; have f0 := b1.at 0 rfl; have f1 := b1.at 1 rfl; have f2 := b1.at 2 rfl; go_wp2_with fail; refine (HC.out w1 hB1).mono ?_; rintro e w2 ⟨q2, d2, rfl, hs, hB2⟩; have x2 := x1.trans (hB2.mono x1.size); clear f0 f1 f2 hs b1; go_wp2; go_ret2; exact ⟨rfl, x2⟩)
  ·have k1 : ((L.length : Int) == 1) = false := by simp; omega
   have e2 : decide (L.length = 1) = false := decide_eq_false h1
   rw [e2, Bool.false_and]
   clear hc h1 hin b0 e1 e2
   (go_enter Tryz.func60, Tryz.ntmps60; go_upto_region 1 with fail; rw [← hw0]; clear hw0; go_wp2_with fail; refine HO.out.mono ?_; rintro e w1 ⟨q, d, rfl, hs, hB1⟩; have b1 := HBX.out.below hB1 HBX.out.lt; have x1 := hB0.trans (hB1.mono hB0.size); clear f0 f1 f2 hs; have f0 := b1.at 0 rfl; have f1 := b1.at 1 rfl; have f2 := b1.at 2 rfl; go_wp2_with fail; refine (HC.out w1 hB1).mono ?_; rintro e w2 ⟨q2, d2, rfl, hs, hB2⟩; have x2 := x1.trans (hB2.mono x1.size); clear f0 f1 f2 hs b1; go_wp2; go_ret2; exact ⟨rfl, x2⟩)
 ·have e1 : ofA G = ([], 1) := if_neg hc
  rw [e1] at HO HC ⊢
  rw [decide_eq_false hc, Bool.false_and]
  clear hc hin b0 e1
  (go_enter Tryz.func60, Tryz.ntmps60; go_upto_region 1 with fail; rw [← hw0]; clear hw0; go_wp2_with fail; refine HO.out.mono ?_; rintro e w1 ⟨q, d, rfl, hs, hB1⟩; have b1 := HBX.out.below hB1 HBX.out.lt; have x1 := hB0.trans (hB1.mono hB0.size); clear f0 f1 f2 hs; have f0 := b1.at 0 rfl; have f1 := b1.at 1 rfl; have f2 := b1.at 2 rfl; go_wp2_with fail; refine (HC.out w1 hB1).mono ?_; rintro e w2 ⟨q2, d2, rfl, hs, hB2⟩; have x2 := x1.trans (hB2.mono x1.size); clear f0 f1 f2 hs b1; go_wp2; go_ret2; exact ⟨rfl, x2⟩)
end
section
open Go.RowKit Go.Sort Go.Shelf Go.Lib
set_option maxHeartbeats 400000 in
theorem r12SameJ_any (l m : List Int) (p q : Option Addr) (c d : Nat) (w : World) (hp : Sl w (Value.int .i64) p l) (hq : Sl w (Value.int .i64) q m) (hl : l.length ≤ 9223372036854775807) (hm : m.length ≤ 9223372036854775807) :
  Calls Tryz.prog 235 #[.slice p l.length c, .slice q m.length d] w fun e w' => e = .returned (.bool (decide (l = m))) ∧ Dr w w' := by
 by_cases hlen : l.length = m.length
 ·have hlen' : ((l.length : Int) == (m.length : Int)) = true := by simp [hlen]
  have HT : Hid (l.length = m.length) := hlen
  clear hlen
  go_enter Tryz.func235, Tryz.ntmps235
  go_wp2
  go_loopw [5] (fun i wr => ∃ k : Nat, k ≤ l.length ∧ i = .int .i64 k ∧ Hid (l.take k = m.take k) ∧ Dr w wr) (fun i _ => l.length - (intOf i).toNat)
  case atStart => exact ⟨0, by omega, rfl, by simp [Hid], Dr.refl _⟩
  case round =>
   obtain ⟨k, hk, rfl, hj, hD⟩ := hrel
   by_cases hlt : k < l.length
   ·have hlt2 : k < m.length := by have := HT.out; omega
    obtain ⟨b1, o1, rfl, hb1, hc1⟩ := (hp.dr hD).get k hlt
    obtain ⟨b2, o2, rfl, hb2, hc2⟩ := (hq.dr hD).get k hlt2
    have e1 := hc1 k hlt
    have e2 := hc2 k hlt2
    have h2' : (k : Int) < (m.length : Int) := by omega
    clear hc1 hc2
    by_cases he : l[k] = m[k]
    ·have heb : (l[k] == m[k]) = true := by simpa using he
     have HE : Hid (l.take (k + 1) = m.take (k + 1)) := by unfold Hid; rw [List.take_succ_eq_append_getElem hlt, List.take_succ_eq_append_getElem hlt2, hj.out, he]
     clear he
     go_wp2_with fail
     (refine wp_region_quiet_lit (by kernel_rfl) (by kernel_rfl) ?_; (repeat (first | go_big_quiet_step (fail) | quiet_step (fail))); refine wpQuiet_nil ?_; intro _ hwq; obtain ⟨nq, hwq2⟩ := hwq; subst hwq2)
     go_wp2
     go_roundw
     case rel => exact ⟨k + 1, by omega, by go_num, HE, hD.one _⟩
     case measure => simp [intOf]; omega
    ·have heb : (l[k] == m[k]) = false := by simpa using he
     have HE : Hid (decide (l = m) = false) := decide_eq_false (fun e => by subst e; exact he rfl)
     go_wp2_with fail
     (refine wp_region_quiet_lit (by kernel_rfl) (by kernel_rfl) ?_; (repeat (first | go_big_quiet_step (fail) | quiet_step (fail))); refine wpQuiet_nil ?_; intro _ hwq; obtain ⟨nq, hwq2⟩ := hwq; subst hwq2)
     go_wp2
     go_ret
     exact ⟨ret_bool HE.out.symm, hD.one _⟩
   ·obtain rfl : k = l.length := by omega
    have HE : Hid (decide (l = m) = true) := by
     have h1 := hj.out
     rw [List.take_length, HT.out, List.take_length] at h1
     simp [Hid, h1]
    go_wp2
    go_ret
    exact ⟨ret_bool HE.out.symm, hD⟩
 ·have hlen' : ((l.length : Int) == (m.length : Int)) = false := by simpa using fun h : (l.length : Int) = m.length => hlen (by omega)
  have HE : Hid (decide (l = m) = false) := by simp [Hid]; rintro rfl; exact hlen rfl
  clear hlen
  go_enter Tryz.func235, Tryz.ntmps235
  go_wp2
  go_ret
  exact ⟨ret_bool HE.out.symm, Dr.refl _⟩
def idxL (L : List (List Int)) (s : List Int) : Int := if s ∈ L then ((L.idxOf s : Nat) : Int) else -1
theorem idxL_at {L : List (List Int)} {s : List Int} {k : Nat} (hk : k < L.length) (he : L[k] = s) (hj : ∀ j (h : j < L.length), j < k → L[j] ≠ s) : idxL L s = k := by
 have hm : s ∈ L := he ▸ List.getElem_mem hk
 have hi := List.idxOf_lt_length_iff.2 hm
 have hg : L[L.idxOf s] = s := List.getElem_idxOf hi
 have h1 : ¬ L.idxOf s < k := fun h => hj _ hi h hg
 have h2 : ¬ k < L.idxOf s := fun h => by
  have := List.not_of_lt_findIdx (p := (· == s)) (xs := L) (i := k) h
  simp [he] at this
 unfold idxL
 rw [if_pos hm]; omega
theorem idxL_none {L : List (List Int)} {s : List Int} (hj : ∀ j (h : j < L.length), L[j] ≠ s) : idxL L s = -1 := if_neg (fun hm => by
 obtain ⟨i, hi, e⟩ := List.mem_iff_getElem.1 hm
 exact hj i hi e)
set_option maxRecDepth 100000 in
set_option maxHeartbeats 1000000 in
theorem r12index_any (L : List (List Int)) (s : List Int) (p q : Option Addr) (c d : Nat) (w : World) (hp : LLj w p L) (hq : Sl w (Value.int .i64) q s) (hL : ∀ x ∈ L, x.length ≤ 100000) (hs : s.length ≤ 100000) (hl : L.length ≤ 100000) :
  Calls Tryz.prog 218 #[.slice p L.length c, .slice q s.length d] w fun e w' => e = .returned (.int .i64 (idxL L s)) ∧ Dr w w' := by
 have HL := hidI hL
 clear hL
 go_enter Tryz.func218, Tryz.ntmps218
 go_wp2
 go_loopw [5] (fun iv wr => ∃ k : Nat, k ≤ L.length ∧ iv = .int .i64 k ∧ Hid (∀ j (h : j < L.length), j < k → L[j] ≠ s) ∧ Dr w wr) (fun iv _ => L.length - (intOf iv).toNat)
 case atStart => exact ⟨0, by omega, rfl, fun j _ h => absurd h (by omega), Dr.refl _⟩
 case round =>
  obtain ⟨k, hk, rfl, hj, hD⟩ := hrel
  by_cases hlt : k < L.length
  ·have hltI : (k : Int) < (L.length : Int) := by omega
   obtain ⟨b1, o1, q1, d1, rfl, hb1, e1, s1⟩ := (hp.below (hD.below _)).get k hlt
   have HX := hidI (r12SameJ_any L[k] s q1 q d1 d wr s1.1 (hq.dr hD) (by have := HL.out _ (List.getElem_mem hlt); omega) (by omega))
   by_cases he : L[k] = s
   ·have HI : Hid (idxL L s = k) := idxL_at hlt he hj.out
    rw [decide_eq_true he] at HX
    generalize L[k] = x at *
    clear he s1
    go_wp2_with fail
    refine HX.out.mono ?_
    rintro e w2 ⟨rfl, hD2⟩
    go_wp2
    go_ret
    exact ⟨ret_int HI.out.symm, hD.trans hD2⟩
   ·have HJ : Hid (∀ j (h : j < L.length), j < k + 1 → L[j] ≠ s) := fun j h h2 => by
     by_cases e : j = k
     ·subst e; exact he
     ·exact hj.out j h (by omega)
    rw [decide_eq_false he] at HX
    generalize L[k] = x at *
    clear he s1
    go_wp2_with fail
    refine HX.out.mono ?_
    rintro e w2 ⟨rfl, hD2⟩
    go_wp2
    go_roundw
    case rel => exact ⟨k + 1, by omega, by go_num, HJ, hD.trans hD2⟩
    case measure => simp [intOf]; omega
  ·obtain rfl : k = L.length := by omega
   have hltI : ¬ (L.length : Int) < (L.length : Int) := by omega
   have HI : Hid (idxL L s = -1) := idxL_none (fun j h => hj.out j h h)
   go_wp2
   go_ret
   exact ⟨ret_int HI.out.symm, hD⟩
end
section
open Go.RowKit Go.Sort Go.Shelf Go.Lib
theorem sbAdd_mono (G : Gr) (set : List Int) (i : Nat) (st : Sst) (a : Nat) : st.1.length ≤ (sbAdd G set i st a).1.length ∧ st.2.length ≤ (sbAdd G set i st a).2.length := by
 unfold sbAdd
 split
 ·exact ⟨Nat.le_refl _, Nat.le_refl _⟩
 ·split
  ·exact ⟨Nat.le_refl _, by simp⟩
  ·exact ⟨by simp, by simp⟩
theorem sbTo_mono (G : Gr) (set : List Int) (i : Nat) (st : Sst) (a : Nat) : ∀ d, (sbTo G set i st a).1.length ≤ (sbTo G set i st (a + d)).1.length ∧ (sbTo G set i st a).2.length ≤ (sbTo G set i st (a + d)).2.length
 | 0 => ⟨Nat.le_refl _, Nat.le_refl _⟩
 | d + 1 => by
  have h1 := sbTo_mono G set i st a d
  have h2 := sbAdd_mono G set i (sbTo G set i st (a + d)) (a + d)
  rw [show a + (d + 1) = (a + d) + 1 by omega, sbTo_succ]
  omega
theorem sbGo_over {G : Gr} {m i a : Nat} {st : Sst} (h : i < st.1.length) (ha : a ≤ G.q.toNat) (ho : 64 < (sbTo G st.1[i] i st a).1.length ∨ 1024 < (sbTo G st.1[i] i st a).2.length) : sbGo G (m + 1) i st = none := by
 rw [sbGo_next h]
 have hm := sbTo_mono G st.1[i] i st a (G.q.toNat - a)
 rw [show a + (G.q.toNat - a) = G.q.toNat by omega] at hm
 rw [if_pos (by omega)]
theorem sbGo_step {G : Gr} {m i : Nat} {st : Sst} (h : i < st.1.length) (h1 : (sbTo G st.1[i] i st G.q.toNat).1.length ≤ 64) (h2 : (sbTo G st.1[i] i st G.q.toNat).2.length ≤ 1024) :
  sbGo G (m + 1) i st = sbGo G m (i + 1) (sbTo G st.1[i] i st G.q.toNat) := by
 rw [sbGo_next h, if_neg (by omega)]
def RetSlJ (l : List Int) (w : World) (e : Ending) (w' : World) : Prop := ∃ q d, e = .returned (.slice q l.length d) ∧ SlJ w' q l ∧ RowKit.Below w.heap.size w w'
set_option maxRecDepth 100000 in
set_option maxHeartbeats 1000000 in
theorem r12states_any (G : Gr) (p : Option Addr) (c : Nat) (w : World) (hv : Vg G) :
  Calls Tryz.prog 130 #[(.agg #[.int .i64 G.q, .int .i64 G.n, .slice p G.es.length c])] w (RetSlJ (upto G.n.toNat) w) := by
 obtain ⟨i0, hi0, hz0, hz1, hz3⟩ := info_parts infoIg
 obtain ⟨w0, hw0⟩ : ∃ w0, w0 = w.alloc (.cells #[.int .i64 G.q, .int .i64 G.n, .slice p G.es.length c] 24) := ⟨_, rfl⟩
 have b0 : VRow w0 w.heap.size 24 [.int .i64 G.q, .int .i64 G.n, .slice p G.es.length c] := by subst hw0; exact VRow.new w _ _
 have hB0 : RowKit.Below w.heap.size w w0 := by subst hw0; exact (RowKit.Below.refl _ _).alloc (Nat.le_refl _) _
 obtain ⟨N, hN⟩ : ∃ N : Nat, G.n = N := ⟨G.n.toNat, by have := hv.n1; omega⟩
 have hN64 : N ≤ 64 := by have := hv.n2; omega
 have hNT : G.n.toNat = N := by omega
 have HN := hidI hN
 have HB0 := hidI hB0
 rw [hNT]
 clear hv hN hNT hB0
 have h0 := own_new w0 w0.heap.size [] 3 (Nat.le_refl _) (by simp [maxLen])
 have hB1 : RowKit.Below w0.heap.size w0 (w0.alloc (.cells #[] 3)) := (RowKit.Below.refl _ _).alloc (Nat.le_refl _) _
 go_enter Tryz.func130, Tryz.ntmps130
 go_upto_region 1 with fail
 rw [← hw0]
 clear hw0
 go_wp2_with fail
 go_loopw [3, 4] (fun lv iv wr => ∃ k : Nat, k ≤ N ∧ iv = .int .i64 k ∧ wr.ownsRow w0.heap.size 3 1 lv (upto k).length ((upto k).map (Value.int .i64)) ∧ RowKit.Below w0.heap.size w0 wr) (fun _ iv _ => N - (intOf iv).toNat)
 case atStart => exact ⟨0, by omega, rfl, h0, hB1⟩
 case round =>
  clear h0 hB1
  obtain ⟨k, hk, rfl, hown, hB⟩ := hrel
  have f1 := (b0.below hB b0.lt).at 1 rfl
  rw [HN.out] at f1
  by_cases hlt : k < N
  ·have hltI : (k : Int) < (N : Int) := by omega
   have hnew := cell_one_at wr (.int .i64 (k : Int)) 3 wr.heap.size rfl
   have hlk : (upto k).length ≤ 64 := by rw [upto_len]; omega
   have HS : Hid ((upto (k + 1)).length = (upto k).length + 1 ∧ (upto (k + 1)).map (Value.int .i64) = (upto k).map (Value.int .i64) ++ [.int .i64 (k : Int)]) := by
    rw [Hid, upto_succ]; simp
   have hzx := hB.size
   generalize upto k = U at *
   go_wp2_with (at_builtin; refine wpList_append_own _ rfl _ _ 30 rfl w0.heap.size 3 i0 (.int .i64 0) 1 8 Tryz.underlying30 hi0 hz0 hz1 hz3 rfl (by decide) _ _ _ rfl (hown.alloc _) ⟨wr.heap.size, 0, none⟩ 1 1 [.int .i64 (k : Int)] rfl rfl hnew (by simp [Value.oneCell']) (by simp [maxLen]; omega) (by omega) (by simp; omega) ?_; intro v' w9 hown' hgrow _)
   have hB9 : RowKit.Below w0.heap.size w0 w9 := (hB.alloc hzx _).grown hgrow (by simp; omega) (fun j e => (hown.lt j e).1)
   go_roundw
   case rel => exact ⟨k + 1, by omega, by go_num, by rw [HS.out.1, HS.out.2]; exact hown', hB9⟩
   case measure => simp [intOf]; omega
  ·obtain rfl : k = N := by omega
   have hltI : ¬ (k : Int) < (k : Int) := by omega
   obtain ⟨q, d, rfl, hs⟩ := own_sl hown
   have HJ : Hid (SlJ wr q (upto k)) := ⟨hs, fun b o z hb => Lib.ownsRow_kind hown b (by rw [hb]; simp [Value.ownBlock])⟩
   have hBr := HB0.out.trans (hB.mono HB0.out.size)
   clear hown hs
   go_wp2
   go_ret
   exact ⟨q, d, rfl, HJ.out, hBr⟩
end
section
open Go.RowKit Go.Sort Go.Shelf Go.Lib
theorem own_notS {W : World} {B b e s : Nat} {v : Value} {n : Nat} {xs : List Value} {t : TypeId} {c : Array Value} {f : Nat × Nat} (h : W.ownsRow B e s v n xs) (hb : W.heap[b]? = some (.cells c t f)) (hne : t ≠ e) : some b ≠ v.ownBlock := fun he => by
 rcases h.2 with ⟨rfl, _⟩ | ⟨g, cap, cur, rfl, _, hh, _⟩
 ·cases he
 ·cases he
  rw [hb] at hh
  cases hh
  exact hne rfl
def KpT (e : TypeId) (W W' : World) : Prop := ∀ (i : Nat) (cur : Array Value) (t : TypeId) (fz : Nat × Nat), t ≠ e → W.heap[i]? = some (.cells cur t fz) → W'.heap[i]? = some (.cells cur t fz)
section
variable {W W' : World} {e : TypeId}
theorem KpT.grown {B s n : Nat} {v : Value} {xs : List Value} (hg : W.grownBy W' v.ownBlock) (ho : W.ownsRow B e s v n xs) : KpT e W W' := fun i _ _ _ ht hc =>
 (hg.block i (Array.getElem?_eq_some_iff.1 hc).1 (own_notS ho hc ht)).trans hc
theorem KpT.set {B j : Nat} {l : List Value} {v : Value} (h : VRow W B e l) : KpT e W (W.setCell ⟨B, j, none⟩ v) := fun i cur t fz ht hc => by
 have hne : i ≠ B := by
  rintro rfl
  have h' : W.heap[i]? = some (.cells l.toArray e) := h
  rw [h'] at hc
  cases hc
  exact ht rfl
 exact (Below.heap_setCell _ _ _ _ hne).trans hc
theorem KpT.own {B s n e' : Nat} {v : Value} {xs : List Value} (h : KpT e W W') (hne : e' ≠ e) (ho : W.ownsRow B e' s v n xs) : W'.ownsRow B e' s v n xs := by
 refine ⟨ho.1, ho.2.imp id ?_⟩
 rintro ⟨g, cap, cur, e1, e2, e3, e4⟩
 exact ⟨g, cap, cur, e1, e2, h _ _ _ _ hne e3, e4⟩
theorem KpT.slj {p : Option Addr} {l : List Int} (h : KpT e W W') (hne : 3 ≠ e) (hs : SlJ W p l) : SlJ W' p l := slj_ty (fun i c f hc => h i c _ f hne hc) hs
theorem KpT.row {B t : Nat} {l : List Value} (h : KpT e W W') (hne : t ≠ e) (r : VRow W B t l) : VRow W' B t l := h _ _ _ _ hne r
theorem OutD.kpt {L : List (List Int)} {B : Nat} {xs : List LEc} {v : Value} (h : OutD L B xs v W) (k : KpT e W W') (h1 : 30 ≠ e) (h2 : 3 ≠ e) : OutD L B xs v W' :=
 ⟨k.own h1 h.own, h.eq, fun x hx => k.slj h2 (h.sl x hx)⟩
end
structure SetJ (w : World) (G : Gr) (p : Option Addr) (c : Nat) (st : Sst) (xs : List LEc) (av ev : Value) (W : World) : Prop where
 g : VRow W w.heap.size 24 [.int .i64 G.q, .int .i64 G.n, .slice p G.es.length c]
 r : VRow W (w.heap.size + 1) 24 [.int .i64 0, .int .i64 0, .slice none 0 0]
 o : VRow W (w.heap.size + 2) 24 [.int .i64 G.q, .int .i64 0, ev]
 all : OutD st.1 (w.heap.size + 3) xs av W
 es : W.ownsRow (w.heap.size + 3) 44 3 ev st.2.length (cat st.2)
 b : RowKit.Below w.heap.size w W
section
variable {w : World} {G : Gr} {p : Option Addr} {c : Nat} {st : Sst} {xs : List LEc} {av ev : Value} {W W' : World}
theorem SetJ.below (h : SetJ w G p c st xs av ev W) (hB : RowKit.Below W.heap.size W W') : SetJ w G p c st xs av ev W' :=
 ⟨h.g.below hB h.g.lt, h.r.below hB h.r.lt, h.o.below hB h.o.lt, h.all.below hB, h.es.below hB, h.b.trans (hB.mono h.b.size)⟩
theorem SetJ.sz (h : SetJ w G p c st xs av ev W) : w.heap.size + 3 ≤ W.heap.size := by have := h.o.lt; omega
theorem SetJ.push {l : List Int} {q : Option Addr} {d : Nat} {v' : Value} (h : SetJ w G p c st xs av ev W) (hs : SlJ W q l)
  (hown : W'.ownsRow (w.heap.size + 3) 30 1 v' (xs.length + 1) (xs.map lcV ++ [.slice q l.length d])) (hg : (W.alloc (.cells #[.slice q l.length d] 30)).grownBy W' av.ownBlock) :
  SetJ w G p c (st.1 ++ [l], st.2) (xs ++ [(l, (q, d))]) v' ev W' := by
 have hAl : RowKit.Below W.heap.size W (W.alloc (.cells #[.slice q l.length d] 30)) := (RowKit.Below.refl _ _).alloc (Nat.le_refl _) _
 have h1 := h.below hAl
 have hk := KpT.grown hg h1.all.own
 have hb := h1.b.grown hg h1.b.size (fun j e => by have := (h1.all.own.lt j e).1; omega)
 refine ⟨hk.row (by decide) h1.g, hk.row (by decide) h1.r, hk.row (by decide) h1.o, ⟨?_, ?_, ?_⟩, hk.own (by decide) h1.es, hb⟩
 ·rw [List.length_append, List.map_append]; exact hown
 ·rw [List.map_append, h.all.eq]; rfl
 ·intro x hx
  rcases List.mem_append.1 hx with hx | hx
  ·exact hk.slj (by decide) (h1.all.sl x hx)
  ·obtain rfl := List.mem_singleton.1 hx
   exact hk.slj (by decide) ((KCs.below hAl).slj hs)
theorem SetJ.edge {y : Ed} {v' : Value} (h : SetJ w G p c st xs av ev W) (hown : W'.ownsRow (w.heap.size + 3) 44 3 v' (st.2.length + 1) (cat (st.2 ++ [y])))
  (hg : (W.alloc (.cells #[.int .i64 y.f, .int .i64 y.l, .int .i64 y.t] 44)).grownBy W' ev.ownBlock) :
  SetJ w G p c (st.1, st.2 ++ [y]) xs av v' (W'.setCell ⟨w.heap.size + 2, 2, none⟩ v') := by
 have hAl : RowKit.Below W.heap.size W (W.alloc (.cells #[.int .i64 y.f, .int .i64 y.l, .int .i64 y.t] 44)) := (RowKit.Below.refl _ _).alloc (Nat.le_refl _) _
 have h1 := h.below hAl
 have hk := KpT.grown hg h1.es
 have hb := h1.b.grown hg h1.b.size (fun j e => by have := (h1.es.lt j e).1; omega)
 have ho := hk.row (by decide) h1.o
 have hk2 := KpT.set (j := 2) (v := v') ho
 refine ⟨(hk.row (by decide) h1.g).other _ (by omega), (hk.row (by decide) h1.r).other _ (by omega), VRow.set (i := 2) v' ho, (h1.all.kpt hk (by decide) (by decide)).kpt hk2 (by decide) (by decide), ?_, hb.setCell (by simp) _⟩
 show (W'.setCell _ _).ownsRow _ _ _ _ (st.2 ++ [y]).length _
 rw [List.length_append]
 exact hk2.own (by decide) hown
end
end
section
open Go.RowKit Go.Sort Go.Shelf Go.Lib
def RetSets (G : Gr) (o : Option Sst) (w : World) (e : Ending) (w' : World) : Prop := RowKit.Below w.heap.size w w' ∧ match o with
 | none => e = .returned (.tuple #[.agg #[.int .i64 0, .int .i64 0, .slice none 0 0], .slice none 0 0, .bool false])
 | some r => ∃ p m c ps cs, e = .returned (.tuple #[.agg #[.int .i64 G.q, .int .i64 r.1.length, .slice p m c], .slice ps r.1.length cs, .bool true]) ∧ w'.ownsRow w.heap.size 44 3 (.slice p m c) r.2.length (cat r.2)
theorem SetJ.start (w : World) (G : Gr) (p : Option Addr) (c : Nat) (set : List Int) (q : Option Addr) (d : Nat) (hs : SlJ w q set) :
  SetJ w G p c ([set], []) [(set, (q, d))] (.slice (some ⟨w.heap.size + 3, 0, none⟩) 1 1) (.slice none 0 0)
   ((((w.alloc (.cells #[.int .i64 G.q, .int .i64 G.n, .slice p G.es.length c] 24)).alloc (.cells #[.int .i64 0, .int .i64 0, .slice none 0 0] 24)).alloc (.cells #[.int .i64 G.q, .int .i64 0, .slice none 0 0] 24)).alloc (.cells #[.slice q set.length d] 30)) := by
 have h1 : RowKit.Below w.heap.size w (((w.alloc (.cells #[.int .i64 G.q, .int .i64 G.n, .slice p G.es.length c] 24)).alloc (.cells #[.int .i64 0, .int .i64 0, .slice none 0 0] 24)).alloc (.cells #[.int .i64 G.q, .int .i64 0, .slice none 0 0] 24)) :=
  (((RowKit.Below.refl _ _).alloc (Nat.le_refl _) _).alloc (by simp) _).alloc (by simp; omega) _
 have hsz : (((w.alloc (.cells #[.int .i64 G.q, .int .i64 G.n, .slice p G.es.length c] 24)).alloc (.cells #[.int .i64 0, .int .i64 0, .slice none 0 0] 24)).alloc (.cells #[.int .i64 G.q, .int .i64 0, .slice none 0 0] 24)).heap.size = w.heap.size + 3 := by simp
 have ho := own_new (((w.alloc (.cells #[.int .i64 G.q, .int .i64 G.n, .slice p G.es.length c] 24)).alloc (.cells #[.int .i64 0, .int .i64 0, .slice none 0 0] 24)).alloc (.cells #[.int .i64 G.q, .int .i64 0, .slice none 0 0] 24)) (w.heap.size + 3) [.slice q set.length d] 30 (by rw [hsz]; omega) (by simp [maxLen])
 rw [hsz] at ho
 have hb := h1.alloc (by rw [hsz]; omega) (.cells #[.slice q set.length d] 30)
 refine ⟨(((VRow.new w _ _).alloc _).alloc _).alloc _, ((VRow.new1 w _ _ _).alloc _).alloc _, (VRow.new2 w _ _ _ _).alloc _, ⟨ho, rfl, fun x hx => ?_⟩, World.ownsRow_nil _ _ _ _, hb⟩
 obtain rfl := List.mem_singleton.1 hx
 exact (KCs.below hb).slj hs
theorem sbTo_pre (G : Gr) (set : List Int) (i : Nat) (st : Sst) : ∀ L, ∃ m, (sbTo G set i st L).1 = st.1 ++ m
 | 0 => ⟨[], by simp [sbTo]⟩
 | L + 1 => by
  obtain ⟨m, hm⟩ := sbTo_pre G set i st L
  rw [sbTo_succ]
  unfold sbAdd
  split
  ·exact ⟨m, hm⟩
  ·split
   ·exact ⟨m, hm⟩
   ·exact ⟨m ++ [_], by rw [hm, List.append_assoc]⟩
theorem sbTo_at (G : Gr) {i : Nat} {st : Sst} (h : i < st.1.length) (L : Nat) : (sbTo G st.1[i] i st L).1[i]? = some st.1[i] := by
 obtain ⟨m, hm⟩ := sbTo_pre G st.1[i] i st L
 rw [hm, List.getElem?_append_left h, List.getElem?_eq_getElem h]
theorem SetJ.look {w : World} {G : Gr} {p : Option Addr} {c : Nat} {st : Sst} {xs : List LEc} {av ev : Value} {W : World} (h : SetJ w G p c st xs av ev W) {i : Nat} {l : List Int} (hi : st.1[i]? = some l) :
  ∃ g cap q d, av = .slice (some ⟨g, 0, none⟩) st.1.length cap ∧ W.cell? ⟨g, i, none⟩ = some (.slice q l.length d) ∧ SlJ W q l ∧ g < W.heap.size := by
 have hx := h.all.len
 obtain ⟨hil, hie⟩ := List.getElem?_eq_some_iff.1 hi
 have hix : i < xs.length := by omega
 obtain ⟨g, cap, e⟩ : ∃ g cap, av = .slice (some ⟨g, 0, none⟩) xs.length cap := (own_forms h.all.own).resolve_left (fun hh => by omega)
 have h1 : (xs.map (·.1))[i]? = some l := by rw [h.all.eq]; exact hi
 rw [List.getElem?_map, List.getElem?_eq_getElem hix] at h1
 have h2 : xs[i].1 = l := Option.some.inj h1
 refine ⟨g, cap, xs[i].2.1, xs[i].2.2, by rw [e, hx], ?_, by rw [← h2]; exact h.all.sl _ (List.getElem_mem hix), (h.all.own.lt g (by rw [e]; rfl)).2⟩
 have ho := h.all.own
 rw [e] at ho
 rw [← h2]
 exact (ho.cellAt i (by omega)).trans (by simp [hix, lcV])
def tupS (t : Option Addr × Nat × Nat) : Value := .tuple #[.slice t.1 t.2.1 t.2.2, .int .i64 0]
def slS (t : Option Addr × Nat × Nat) : Value := .slice t.1 t.2.1 t.2.2
structure KpR (w1 : World) (r : List Int) (f38 f31 f39 f40 f11 f12 : Option Value) (W : World) : Prop where
 b : RowKit.Below w1.heap.size w1 W
 c : ∀ v, f38 = some v → ∃ t, v = tupS t ∧ W.ownsRow w1.heap.size 3 1 (slS t) r.length (r.map (Value.int .i64))
 m : ∀ v, f31 = some v → f38 = some v
 x : ∀ v, f39 = some v → ∃ t, f38 = some (tupS t) ∧ v = slS t
 y : ∀ v, f40 = some v → v = .int .i64 0
 z : ∀ v, f11 = some v → f39 = some v
 u : ∀ v, f12 = some v → v = .int .i64 0
section
variable {w1 : World} {r : List Int} {f38 f31 f39 f40 f11 f12 : Option Value} {W W' : World} {t : Option Addr × Nat × Nat}
theorem KpR.call (h : KpR w1 r none none none f40 none f12 W) (hB : RowKit.Below W.heap.size W W') (ho : W'.ownsRow W.heap.size 3 1 (slS t) r.length (r.map (Value.int .i64))) : KpR w1 r (some (tupS t)) none none f40 none f12 W' :=
 ⟨h.b.trans (hB.mono h.b.size), fun v hv => ⟨t, by cases hv; rfl, ⟨ho.1, ho.2.imp id (fun ⟨g, cap, cur, a, b, z⟩ => ⟨g, cap, cur, a, Nat.le_trans h.b.size b, z⟩)⟩⟩, (fun _ e => by cases e), (fun _ e => by cases e), h.y, (fun _ e => by cases e), h.u⟩
theorem KpR.move {v : Value} (h : KpR w1 r (some v) f31 f39 f40 f11 f12 W) : KpR w1 r (some v) (some v) f39 f40 f11 f12 W := ⟨h.b, h.c, fun _ e => e, h.x, h.y, h.z, h.u⟩
theorem KpR.ext0 (h : KpR w1 r (some (tupS t)) f31 none f40 none f12 W) : KpR w1 r (some (tupS t)) f31 (some (slS t)) f40 none f12 W := ⟨h.b, h.c, h.m, fun v hv => ⟨t, rfl, by cases hv; rfl⟩, h.y, (fun _ e => by cases e), h.u⟩
theorem KpR.ext1 (h : KpR w1 r f38 f31 f39 f40 f11 f12 W) : KpR w1 r f38 f31 f39 (some (.int .i64 0)) f11 f12 W := ⟨h.b, h.c, h.m, h.x, fun v hv => by cases hv; rfl, h.z, h.u⟩
theorem KpR.as0 {v : Value} (h : KpR w1 r f38 f31 (some v) f40 f11 f12 W) : KpR w1 r f38 f31 (some v) f40 (some v) f12 W := ⟨h.b, h.c, h.m, h.x, h.y, fun _ e => e, h.u⟩
theorem KpR.as1 (h : KpR w1 r f38 f31 f39 f40 f11 f12 W) : KpR w1 r f38 f31 f39 f40 f11 (some (.int .i64 0)) W := ⟨h.b, h.c, h.m, h.x, h.y, h.z, fun v hv => by cases hv; rfl⟩
end
set_option maxRecDepth 100000 in
set_option maxHeartbeats 4000000 in
theorem r12sets_any (G : Gr) (p : Option Addr) (c : Nat) (set : List Int) (q : Option Addr) (d : Nat) (w : World) (hin : Sg 3 w edE p G.es) (hs : SlJ w q set) (hv : Vg G) (hc : chkS G.n none set = 0) :
  Calls Tryz.prog 178 #[(.agg #[.int .i64 G.q, .int .i64 G.n, .slice p G.es.length c]), .slice q set.length d] w (RetSets G (sbGo G 66 0 ([set], [])) w) := by
 obtain ⟨i2, hi2, hx0, hx1, hx3⟩ := info_parts infoSg
 obtain ⟨i9, hi9, hy0, hy1, hy2⟩ := info_parts infoE
 obtain ⟨wa, hwa⟩ : ∃ wa, wa = (w.alloc (.cells #[.int .i64 G.q, .int .i64 G.n, .slice p G.es.length c] 24)).alloc (.cells #[.int .i64 0, .int .i64 0, .slice none 0 0] 24) := ⟨_, rfl⟩
 have b0 : VRow wa w.heap.size 24 [.int .i64 G.q, .int .i64 G.n, .slice p G.es.length c] := by subst hwa; exact (VRow.new w _ _).alloc _
 have f0 := b0.at 0 rfl
 go_enter Tryz.func178, Tryz.ntmps178
 go_upto_region 1 with fail
 rw [← hwa]
 go_wp2_with fail
 rw [show w.heap.size + 1 + 1 = w.heap.size + 2 by omega, show w.heap.size + 2 + 1 = w.heap.size + 3 by omega]
 have hJ0 := SetJ.start w G p c set q d hs
 have hg0 : Gs G.n ([set], []) := fun s hs' => by obtain rfl := List.mem_singleton.1 hs'; exact hc
 obtain ⟨Q, hQ⟩ : ∃ Q : Nat, G.q = Q := ⟨G.q.toNat, by have := hv.q1; omega⟩
 have hQ256 : Q ≤ 256 := by have := hv.q2; omega
 have hQT : G.q.toNat = Q := by omega
 have HQ := hidI hQ; have HQT := hidI hQT; have HV := hidI hv; have HIN := hidI hin
 clear hwa b0 f0 hs hc hin hv hQ hQT
 go_loopw [8, 9] (fun av iv wr => ∃ (i : Nat) (st : Sst) (xs : List LEc) (ev : Value), iv = .int .i64 i ∧ SetJ w G p c st xs av ev wr ∧ Hid (Gs G.n st) ∧ i ≤ st.1.length ∧ st.1.length ≤ 64 ∧ st.2.length ≤ 1024 ∧ Hid (sbGo G (66 - i) i st = sbGo G 66 0 ([set], []))) (fun _ iv _ => 66 - (intOf iv).toNat)
 case atStart => exact ⟨0, _, _, _, rfl, hJ0, hg0, by simp, by simp, by simp, rfl⟩
 case round =>
  clear hJ0 hg0
  obtain ⟨i, st, xs, ev, rfl, hJ, hG, hi, h64, h1k, hgo⟩ := hrel
  have f0 := hJ.g.at 0 rfl
  rw [HQ.out] at f0
  have hlen := hJ.all.len
  obtain ⟨qa, ca, hu8, _⟩ := own_sl hJ.all.own
  rw [hlen] at hu8
  subst hu8
  by_cases hlt : i < st.1.length
  ·have hltI : (i : Int) < (st.1.length : Int) := by omega
   have HAT := hidI (sbTo_at G hlt)
   have HOV := hidI (fun a => @sbGo_over G (65 - i) i a st hlt)
   have HSTEP := hidI (@sbGo_step G (65 - i) i st hlt)
   have hck := hG.out _ (List.getElem_mem hlt)
   have hgo' : Hid (sbGo G ((65 - i) + 1) i st = sbGo G 66 0 ([set], [])) := by rw [Hid, ← hgo.out, show 66 - i = (65 - i) + 1 by omega]
   have HGT := hidI (fun a => Gs.to (i := i) HV.out.n1 (set := st.1[i]) hG.out a)
   have HLE := hidI (sbTo_len (G := G) (set := st.1[i]) (i := i) (st := st) Q)
   generalize st.1[i] = l at *
   have hJ1 : SetJ w G p c (sbTo G l i st 0) xs (.slice qa st.1.length ca) ev wr := hJ
   clear hgo
   go_wp2_with fail
   clear f0
   go_loopw [8, 10] (fun av lv wx => ∃ (a : Nat) (xs : List LEc) (ev : Value), a ≤ Q ∧ lv = .int .i64 a ∧ SetJ w G p c (sbTo G l i st a) xs av ev wx ∧ (sbTo G l i st a).1.length ≤ 64 ∧ (sbTo G l i st a).2.length ≤ 1024) (fun _ lv _ => Q - (intOf lv).toNat)
   case atStart => exact ⟨0, xs, ev, by omega, rfl, hJ1, h64, h1k⟩
   case round =>
    clear hJ hJ1 h64 h1k
    obtain ⟨a, xs, ev, ha, rfl, hJ, h64, h1k⟩ := hrel
    have f0 := hJ.g.at 0 rfl
    rw [HQ.out] at f0
    by_cases hlta : a < Q
    ·have hltaI : (a : Int) < (Q : Int) := by omega
     obtain ⟨ga, capa, q4, d4, rfl, e4, s4, hgl⟩ := hJ.look (HAT.out a)
     have hckl : l.length ≤ 64 := chk_len ⟨HV.out.n1, HV.out.n2⟩ hck
     have hstp : stepA G l (a : Int) = (nextA G l a, 0) := by unfold stepA; rw [if_pos (chkG_ok.2 HV.out), if_pos hck, if_neg (by have := HQ.out; omega)]
     have HS := hidI (fun W (hW : RowKit.Below wr.heap.size wr W) => rStep_any G p c l q4 d4 a W (HIN.out.below (hJ.b.trans (hW.mono hJ.b.size))) (s4.1.below hW) (by have := HV.out.len; omega) (by omega))
     rw [hstp] at HS
     have hil : i < (sbTo G l i st a).1.length := by have := HLE.out; have := (List.getElem?_eq_some_iff.1 (HAT.out a)).1; omega
     have hilI : (i : Int) < ((sbTo G l i st a).1.length : Int) := by omega
     have HADD := hidI (sbTo_succ G l i st a)
     have HGA := hidI (HGT.out a)
     have HOVa := hidI (HOV.out (a + 1) (by have := HQT.out; omega))
     have HJ1 := hidI hJ
     generalize sbTo G l i st a = st2 at *
     clear hJ hstp
     go_upto_region 9 with fail
     go_cut [11, 12] (fun s11 s12 wx => ∃ t, s11 = slS t ∧ s12 = .int .i64 0 ∧ RowKit.Below wr.heap.size wr wx ∧ wx.ownsRow wr.heap.size 3 1 (slS t) (nextA G l a).length ((nextA G l a).map (Value.int .i64)))
     case first =>
      obtain ⟨W0, rfl⟩ : ∃ W0 : World, W0 = wr := ⟨_, rfl⟩
      refine region_detW (by kernel_rfl) 12 [(some 32, some (.agg #[.int .i64 G.q, .int .i64 G.n, .slice p G.es.length c])), (some 33, some (.slice (some ⟨ga, 0, none⟩) st2.1.length capa)), (some 34, some (.int .i64 (i : Int))), (some 35, some (.pointer (some ⟨ga, i, none⟩))), (some 36, some (.slice q4 l.length d4)), (some 37, some (.int .i64 (a : Int))), (some 38, none), (some 31, none), (some 39, none), (some 40, none), (some 11, none), (some 12, none)]
       (fun d f W => KpR W0 (nextA G l a) (f 38) (f 31) (f 39) (f 40) (f 11) (f 12) W) (by kernel_rfl) (by kernel_rfl) (by kernel_rfl) (by kernel_rfl) ⟨below_dN (RowKit.Below.refl _ _) 1, (fun _ e => by cases e), (fun _ e => by cases e), (fun _ e => by cases e), (fun _ e => by cases e), (fun _ e => by cases e), (fun _ e => by cases e)⟩ ?_ ?_
      focus
       intro io o' ho av d f W hS hdi hdn hnd hdep hout hold K hK
       have hil' : io < 12 := (Array.getElem?_eq_some_iff.1 ho).1
       have hcases : io = 0 ∨ io = 1 ∨ io = 2 ∨ io = 3 ∨ io = 4 ∨ io = 5 ∨ io = 6 ∨ io = 7 ∨ io = 8 ∨ io = 9 ∨ io = 10 ∨ io = 11 := by omega
       clear hil'
       have v2 := hout 2 (by kernel_rfl)
       have v8 := hout 8 (by kernel_rfl)
       have v9 := hout 9 (by kernel_rfl)
       have v10 := hout 10 (by kernel_rfl)
       simp at v2 v8 v9 v10
       clear hout
       have JW := HJ1.out.below hS.b
       have f0 := JW.g.at 0 rfl; have f1 := JW.g.at 1 rfl; have f2 := JW.g.at 2 rfl
       have e4 := (hS.b.cell (p := (⟨ga, i, none⟩ : Addr)) hgl).trans e4
       clear JW
       rcases hcases with rfl | rfl | rfl | rfl | rfl | rfl | rfl | rfl | rfl | rfl | rfl | rfl
       all_goals (simp only [List.getElem?_toArray, List.getElem?_cons_succ, List.getElem?_cons_zero, Option.some.injEq] at ho; subst ho; simp [Region.binds] at hdep; (try go_split_ands))
       ·go_simp; exact hK _ _ (fun u hu => Option.some.inj hu) hS
       ·go_simp; exact hK _ _ (fun u hu => Option.some.inj hu) hS
       ·go_simp; exact hK _ _ (fun u hu => Option.some.inj hu) hS
       ·go_simp; exact hK _ _ (fun u hu => Option.some.inj hu) hS
       ·go_simp; exact hK _ _ (fun u hu => Option.some.inj hu) hS
       ·go_simp; exact hK _ _ (fun u hu => Option.some.inj hu) hS
       ·have h38 := (hold 6 (by kernel_rfl) _ rfl 38 rfl).1
        have h31 := (hold 7 (by kernel_rfl) _ rfl 31 rfl).1
        have h39 := (hold 8 (by kernel_rfl) _ rfl 39 rfl).1
        have h11 := (hold 10 (by kernel_rfl) _ rfl 11 rfl).1
        go_simp
        refine (HS.out W hS.b).mono ?_
        rintro e wk ⟨pn, mn, cn, rfl, hownk, hBk⟩
        have h := hS
        rw [h38, h31, h39, h11] at h
        have hfin := KpR.call (t := (pn, mn, cn)) h hBk hownk
        exact hK _ _ (fun u hu => by cases hu) (by
         show KpR _ _ (some _) (f 31) (f 39) (f 40) (f 11) (f 12) wk
         rw [h31, h39, h11]; exact hfin)
       ·obtain ⟨v, hv, hat⟩ : ∃ v, f 38 = some v ∧ av.tmps[38]? = some v := by assumption
        have h := hS
        rw [hv] at h
        have hfin := h.move
        go_simp
        exact hK _ _ (fun u hu => by cases hu) (by
         show KpR _ _ (f 38) (some _) (f 39) (f 40) (f 11) (f 12) W
         rw [hv]; exact hfin)
       ·obtain ⟨v, hv, hat⟩ : ∃ v, f 31 = some v ∧ av.tmps[31]? = some v := by assumption
        have h11 := (hold 10 (by kernel_rfl) _ rfl 11 rfl).1
        have h39 := (hold 8 (by kernel_rfl) _ rfl 39 rfl).1
        have h38 := hS.m v hv
        obtain ⟨t, rfl, _⟩ := hS.c v h38
        have h := hS
        rw [h38, h39, h11] at h
        have hfin := h.ext0
        unfold tupS at hat
        go_simp
        exact hK _ _ (fun u hu => by cases hu) (by
         show KpR _ _ (f 38) (f 31) (some _) (f 40) (f 11) (f 12) W
         rw [h38, h11]; exact hfin)
       ·obtain ⟨v, hv, hat⟩ : ∃ v, f 31 = some v ∧ av.tmps[31]? = some v := by assumption
        have h38 := hS.m v hv
        obtain ⟨t, rfl, _⟩ := hS.c v h38
        have hfin := hS.ext1
        unfold tupS at hat
        go_simp
        exact hK _ _ (fun u hu => by cases hu) hfin
       ·obtain ⟨v, hv, hat⟩ : ∃ v, f 39 = some v ∧ av.tmps[39]? = some v := by assumption
        have h := hS
        rw [hv] at h
        have hfin := h.as0
        go_simp
        exact hK _ _ (fun u hu => by cases hu) (by
         show KpR _ _ (f 38) (f 31) (f 39) (f 40) (some _) (f 12) W
         rw [hv]; exact hfin)
       ·obtain ⟨v, hv, hat⟩ : ∃ v, f 40 = some v ∧ av.tmps[40]? = some v := by assumption
        obtain rfl := hS.y v hv
        have hfin := hS.as1
        go_simp
        exact hK _ _ (fun u hu => by cases hu) hfin
      intro d f W9 hS hall hf
      obtain ⟨v11, hv11, -⟩ := hf (some 11, none) (by simp) 11 rfl
      obtain ⟨v12, hv12, -⟩ := hf (some 12, none) (by simp) 12 rfl
      have h39 := hS.z _ hv11
      obtain ⟨t, h38, rfl⟩ := hS.x _ h39
      obtain ⟨t', e', ho9⟩ := hS.c _ h38
      have htt : t = t' := by
       obtain ⟨a1, a2, a3⟩ := t
       obtain ⟨b1, b2, b3⟩ := t'
       unfold tupS at e'
       simp at e'
       simp [e']
      subst htt
      obtain rfl := hS.u _ hv12
      have hB9 := hS.b
      simp only [putsD, List.filterMap_cons, List.filterMap_nil, Option.map_some, Option.map_none, Option.getD_some, Option.getD_none, List.foldl_cons, List.foldl_nil, Act.put, List.setIfInBounds_toArray, List.set_cons_zero, List.set_cons_succ]
      rw [hv11, hv12]
      simp only [Option.getD_some]
      generalize (f 38).getD undef = v38
      generalize (f 31).getD undef = v31
      generalize (f 39).getD undef = v39
      generalize (f 40).getD undef = v40
      clear hf hv11 hv12 h39 h38 e' hS
      go_wp2_with fail
      go_meet
      exact ⟨t, rfl, rfl, hB9, ho9⟩
     case rest =>
      obtain ⟨⟨qn, mn, dn⟩, rfl, rfl, hB9, ho9⟩ := hcut
      obtain ⟨wA, rfl⟩ : ∃ wA : World, wA = wc := ⟨_, rfl⟩
      obtain ⟨q', d', heq, hsn⟩ := own_sl ho9
      have hJn : SlJ wA qn (nextA G l a) := by
       unfold slS at heq
       simp at heq
       obtain ⟨rfl, rfl, rfl⟩ := heq
       exact ⟨hsn, fun b o z hb => Lib.ownsRow_kind ho9 b (by simp [slS, hb, Value.ownBlock])⟩
      have hmn : mn = (nextA G l a).length := by unfold slS at heq; simp at heq; exact heq.2.1
      subst hmn
      have hn64 : (nextA G l a).length ≤ 64 := by have := uptof_len (nxP G.es l a) G.n.toNat; have h2 := HV.out.n2; show ((upto G.n.toNat).filter (nxP G.es l a)).length ≤ 64; omega
      have J9 := HJ1.out.below hB9
      obtain ⟨pe, ce, rfl, _, _, _⟩ := own_sg J9.es
      have HLL : Hid (LLj wA (some ⟨ga, 0, none⟩) st2.1) := by obtain ⟨q5, d5, e5, h5⟩ := J9.all.ll; cases e5; exact h5
      have HN0 : Hid (nextA G l a = [] → sbTo G l i st (a + 1) = st2) := fun h => by rw [HADD.out, sbAdd_none h]
      have HN1 : Hid (nextA G l a ≠ [] → nextA G l a ∈ st2.1 → sbTo G l i st (a + 1) = (st2.1, st2.2 ++ [⟨(i : Int), (a : Int), ((st2.1.idxOf (nextA G l a) : Nat) : Int)⟩])) := fun h h2 => by rw [HADD.out, sbAdd_old h h2]
      have HN2 : Hid (nextA G l a ≠ [] → nextA G l a ∉ st2.1 → sbTo G l i st (a + 1) = (st2.1 ++ [nextA G l a], st2.2 ++ [⟨(i : Int), (a : Int), (st2.1.length : Int)⟩])) := fun h h2 => by rw [HADD.out, sbAdd_new h h2]
      have HIX := hidI (r12index_any st2.1 (nextA G l a) (some ⟨ga, 0, none⟩) qn capa dn wA HLL.out hJn.1 (fun x hx => by have := chk_len ⟨HV.out.n1, HV.out.n2⟩ (HGA.out x hx); omega) (by omega) (by omega))
      have HJN := hidI hJn
      have HJ9 := hidI J9
      clear HS HADD ho9 hsn heq hJn J9 HJ1 HLL HGA hck e4 s4
      unfold slS
      generalize nextA G l a = nx at *
      by_cases h0 : nx = []
      ·subst h0
       have HT := hidI (HN0.out rfl)
       clear HN0 HN1 HN2 HIX
       go_wp2_with fail
       go_roundw
       case rel => exact ⟨a + 1, xs, _, by omega, by go_num, by rw [HT.out]; exact HJ9.out, by rw [HT.out]; exact h64, by rw [HT.out]; exact h1k⟩
       case measure => simp [intOf]; omega
      ·have hl0 : ((nx.length : Int) == 0) = false := by
        have := List.length_pos_iff.2 h0
        simpa using fun e => h0 e
       have HN1 := hidI (HN1.out h0)
       have HN2 := hidI (HN2.out h0)
       have HZ1 : Hid (nx ∈ st2.1 → idxL st2.1 nx = ((st2.1.idxOf nx : Nat) : Int)) := fun h => if_pos h
       have HZ2 : Hid (nx ∉ st2.1 → idxL st2.1 nx = -1) := fun h => if_neg h
       generalize idxL st2.1 nx = z at *
       clear HN0 h0
       go_wp2_with fail
       refine HIX.out.mono ?_
       rintro e w9 ⟨rfl, hD9⟩
       have J := HJ9.out.below (hD9.below _)
       have hJn := (KCs.below (hD9.below _)).slj HJN.out
       have hBw : RowKit.Below wr.heap.size wr w9 := hB9.trans ((hD9.below _).mono hB9.size)
       clear HIX HJ9 HJN hB9
       go_upto_if 48 with fail
       go_cut [8, 13] (fun s8 s13 wx => ∃ (S : List (List Int)) (xs' : List LEc) (k : Nat), s13 = .int .i64 (k : Int) ∧ SetJ w G p c (S, st2.2) xs' s8 (.slice pe st2.2.length ce) wx ∧ S.length ≤ 65 ∧ Hid (sbTo G l i st (a + 1) = (S, st2.2 ++ [⟨(i : Int), (a : Int), (k : Int)⟩])))
       case first =>
        by_cases hm : nx ∈ st2.1
        ·have hz := HZ1.out hm
         have HT := hidI (HN1.out hm)
         have hzb : (z == -1) = false := by rw [hz]; simp
         subst hz
         clear HN1 HN2 HZ1 HZ2 hm
         go_wp2_with fail
         go_meet
         exact ⟨st2.1, xs, _, rfl, J, by omega, HT⟩
        ·have hz := HZ2.out hm
         have HT := hidI (HN2.out hm)
         subst hz
         have hown := J.all.own
         have hlx := J.all.len
         rw [show xs.length = st2.1.length from hlx] at hown
         have hownA := hown.alloc (.cells #[.slice qn nx.length dn] 30)
         have hnew := cell_one_at w9 (.slice qn nx.length dn) 30 w9.heap.size rfl
         have hzz := J.sz
         have HP := hidI (fun v' W' (h1 : World.ownsRow W' (w.heap.size + 3) 30 1 v' (st2.1.length + 1) (xs.map lcV ++ [.slice qn nx.length dn])) h2 => J.push (v' := v') (W' := W') hJn (by rw [show xs.length = st2.1.length from hlx]; exact h1) h2)
         clear HN1 HN2 HZ1 HZ2 hm hown hlx J
         go_wp2_with (at_builtin; refine wpList_append_own _ rfl _ _ 47 rfl (w.heap.size + 3) 30 i2 (.slice none 0 0) 1 24 Tryz.underlying47 hi2 hx0 hx1 hx3 rfl (by decide) _ _ _ rfl hownA ⟨w9.heap.size, 0, none⟩ 1 1 [.slice qn nx.length dn] rfl rfl hnew (by simp [Value.oneCell']) (by simp [maxLen]; omega) (by omega) (by simp; omega) ?_; intro v' w10 hown' hgrow _)
         go_meet
         exact ⟨st2.1 ++ [nx], xs ++ [(nx, (qn, dn))], st2.1.length, rfl, HP.out _ _ hown' hgrow, by simp; omega, HT⟩
       case rest =>
        obtain ⟨S, xs', k, rfl, J, hS65, HT⟩ := hcut
        obtain ⟨wB, rfl⟩ : ∃ wB : World, wB = wc := ⟨_, rfl⟩
        clear HN1 HN2 HZ1 HZ2
        obtain ⟨qa, ca, hu8, _⟩ := own_sl J.all.own
        have hlx := J.all.len
        rw [show xs'.length = S.length from hlx] at hu8
        subst hu8
        have hoE : wB.ownsRow (w.heap.size + 3) 44 3 (.slice pe st2.2.length ce) st2.2.length (cat st2.2) := J.es
        have hoA := hoE.alloc (.cells (edE ⟨(i : Int), (a : Int), (k : Int)⟩).toArray 44)
        have hnew := cell_new3 wB ⟨(i : Int), (a : Int), (k : Int)⟩ 44 wB.heap.size rfl
        have k2 := J.o.at 2 rfl
        have hzz := J.sz
        have ro := J.o.alloc (.cells (edE ⟨(i : Int), (a : Int), (k : Int)⟩).toArray 44)
        have hne : ∀ j, (Value.slice pe st2.2.length ce).ownBlock = some j → w.heap.size + 3 ≤ j := fun j e => (hoE.lt j e).1
        have HE := hidI (fun v' W' h1 h2 => J.edge (y := ⟨(i : Int), (a : Int), (k : Int)⟩) (v' := v') (W' := W') h1 h2)
        clear hlx J hoE
        go_upto_region 16 with (at_builtin; refine wpList_append_own _ rfl _ _ 22 rfl (w.heap.size + 3) 44 i9 _ 3 24 Tryz.underlying22 hi9 hy0 hy1 hy2 rfl (by decide) _ _ _ rfl hoA ⟨wB.heap.size, 0, none⟩ 1 1 (cat [⟨(i : Int), (a : Int), (k : Int)⟩]) rfl rfl hnew (cat_one _) (by simp [maxLen]; omega) (by omega) (by rw [World.size_alloc]; omega) ?_; intro v' w10 hown' hgrow _; rw [← cat_app] at hown'; obtain ⟨pv, mv, cv, rfl⟩ := own_shape hown'; have r2 := VRow.grown ro hgrow (fun e => by have := hne _ e.symm; omega); have z2 := r2.frozen 2; have s2 := r2.at 2 rfl)
        have J2 : SetJ w G p c (S, st2.2 ++ [⟨(i : Int), (a : Int), (k : Int)⟩]) xs' (.slice qa S.length ca) (.slice pv mv cv) (w10.setCell ⟨w.heap.size + 2, 2, none⟩ (.slice pv mv cv)) := HE.out _ _ hown' hgrow
        obtain ⟨hmv, -⟩ := sg_len (p' := none) hown'
        rw [List.length_append, List.length_singleton] at hmv
        subst hmv
        clear hown' hgrow r2 z2 s2 ro hoA hnew k2 HE hne
        generalize w10.setCell ⟨w.heap.size + 2, 2, none⟩ (.slice pv (st2.2.length + 1) cv) = wE at *
        have o2 := J2.o.at 2 rfl
        by_cases hA : 64 < S.length
        ·have hAI : (64 : Int) < (S.length : Int) := by omega
         have HX : Hid (sbGo G 66 0 ([set], []) = none) := by rw [Hid, ← hgo'.out]; exact HOVa.out (by rw [HT.out]; exact .inl hA)
         (have HB2 := hidI J2.b; have HR2 := hidI J2.r; have j0 := J2.r.at 0 rfl; have j1 := J2.r.at 1 rfl; have j2 := J2.r.at 2 rfl; have z0 := J2.r.frozen 0; have z1 := J2.r.frozen 1; have z2 := J2.r.frozen 2; clear J2; go_wp2; have r6 := VRow.set (i := 2) (.slice none 0 0) (VRow.set (i := 1) (.int .i64 0) (VRow.set (i := 0) (.int .i64 0) HR2.out)); have y0 := r6.at 0 rfl; have y1 := r6.at 1 rfl; have y2 := r6.at 2 rfl; refine bodyPost_ret (v := .tuple #[.agg #[.int .i64 0, .int .i64 0, .slice none 0 0], .slice none 0 0, .bool false]) (by simp [results, Tryz.results178, go_sem, y0, y1, y2]) rfl ?_; refine ⟨((HB2.out.setCell (p := ⟨w.heap.size + 1, 0, none⟩) (by simp) (.int .i64 0)).setCell (p := ⟨w.heap.size + 1, 1, none⟩) (by simp) (.int .i64 0)).setCell (p := ⟨w.heap.size + 1, 2, none⟩) (by simp) (.slice none 0 0), ?_⟩; rw [HX.out])
        ·have hAI : ¬ (64 : Int) < (S.length : Int) := by omega
         by_cases hC : 1024 < st2.2.length + 1
         ·have hCI : (1024 : Int) < ((st2.2.length : Int) + 1) := by omega
          have HX : Hid (sbGo G 66 0 ([set], []) = none) := by rw [Hid, ← hgo'.out]; exact HOVa.out (by rw [HT.out]; right; simp; omega)
          (have HB2 := hidI J2.b; have HR2 := hidI J2.r; have j0 := J2.r.at 0 rfl; have j1 := J2.r.at 1 rfl; have j2 := J2.r.at 2 rfl; have z0 := J2.r.frozen 0; have z1 := J2.r.frozen 1; have z2 := J2.r.frozen 2; clear J2; go_wp2; have r6 := VRow.set (i := 2) (.slice none 0 0) (VRow.set (i := 1) (.int .i64 0) (VRow.set (i := 0) (.int .i64 0) HR2.out)); have y0 := r6.at 0 rfl; have y1 := r6.at 1 rfl; have y2 := r6.at 2 rfl; refine bodyPost_ret (v := .tuple #[.agg #[.int .i64 0, .int .i64 0, .slice none 0 0], .slice none 0 0, .bool false]) (by simp [results, Tryz.results178, go_sem, y0, y1, y2]) rfl ?_; refine ⟨((HB2.out.setCell (p := ⟨w.heap.size + 1, 0, none⟩) (by simp) (.int .i64 0)).setCell (p := ⟨w.heap.size + 1, 1, none⟩) (by simp) (.int .i64 0)).setCell (p := ⟨w.heap.size + 1, 2, none⟩) (by simp) (.slice none 0 0), ?_⟩; rw [HX.out])
         ·have hCI : ¬ (1024 : Int) < ((st2.2.length : Int) + 1) := by omega
          have HJ2 := hidI J2
          clear J2
          go_wp2_with fail
          go_roundw
          case rel => exact ⟨a + 1, xs', _, by omega, by go_num, by rw [HT.out]; exact HJ2.out, by rw [HT.out]; show S.length ≤ 64; omega, by rw [HT.out]; simp; omega⟩
          case measure => simp [intOf]; omega
    ·obtain rfl : a = Q := by omega
     have hltaI : ¬ (a : Int) < (a : Int) := by omega
     have hgo2 : Hid (sbGo G (66 - (i + 1)) (i + 1) (sbTo G l i st a) = sbGo G 66 0 ([set], [])) := by
      have h := HSTEP.out
      rw [HQT.out] at h
      rw [Hid, ← hgo'.out, h h64 h1k, show 66 - (i + 1) = 65 - i by omega]
     have hle : i + 1 ≤ (sbTo G l i st a).1.length := by have := HLE.out; omega
     have HG2 := hidI (HGT.out a)
     have HJ2 := hidI hJ
     generalize sbTo G l i st a = st2 at *
     clear hJ
     go_wp2
     go_roundw
     case rel => exact ⟨i + 1, st2, xs, ev, by go_num, HJ2.out, HG2.out, hle, h64, h1k, hgo2⟩
     case measure => simp [intOf]; omega
  ·have hie : i = st.1.length := by omega
   subst hie
   have hltI : ¬ (st.1.length : Int) < (st.1.length : Int) := by omega
   have HR : Hid (sbGo G 66 0 ([set], []) = some st) := by
    rw [Hid, ← hgo.out, show 66 - st.1.length = (65 - st.1.length) + 1 by omega]
    exact sbGo_end (Nat.le_refl _)
   obtain ⟨pe, ce, rfl, _, _, _⟩ := own_sg hJ.es
   have k1 := hJ.o.at 1 rfl
   have zk := hJ.o.frozen 1
   have o1 := VRow.set (i := 1) (.int .i64 (st.1.length : Int)) hJ.o
   have rr : VRow (wr.setCell ⟨w.heap.size + 2, 1, none⟩ (.int .i64 (st.1.length : Int))) (w.heap.size + 1) 24 [.int .i64 0, .int .i64 0, .slice none 0 0] := hJ.r.other _ (by omega)
   have c0 := o1.at 0 rfl; have c1 := o1.at 1 rfl; have c2 := o1.at 2 rfl
   have j0 := rr.at 0 rfl; have j1 := rr.at 1 rfl; have j2 := rr.at 2 rfl
   have z0 := rr.frozen 0; have z1 := rr.frozen 1; have z2 := rr.frozen 2
   have r1 := VRow.set (i := 0) (.int .i64 G.q) rr
   have r2 := VRow.set (i := 1) (.int .i64 (st.1.length : Int)) r1
   have r3 := VRow.set (i := 2) (.slice pe st.2.length ce) r2
   have y0 := r3.at 0 rfl; have y1 := r3.at 1 rfl; have y2 := r3.at 2 rfl
   have HES := hidI (((KpT.set (j := 2) (v := .slice pe st.2.length ce) r2).own (by decide) ((KpT.set (j := 1) (v := .int .i64 (st.1.length : Int)) r1).own (by decide) ((KpT.set (j := 0) (v := .int .i64 G.q) rr).own (by decide) ((KpT.set (j := 1) (v := .int .i64 (st.1.length : Int)) hJ.o).own (by decide) hJ.es)))))
   have HBB := hidI ((((hJ.b.setCell (p := ⟨w.heap.size + 2, 1, none⟩) (by simp) (.int .i64 (st.1.length : Int))).setCell (p := ⟨w.heap.size + 1, 0, none⟩) (by simp) (.int .i64 G.q)).setCell (p := ⟨w.heap.size + 1, 1, none⟩) (by simp) (.int .i64 (st.1.length : Int))).setCell (p := ⟨w.heap.size + 1, 2, none⟩) (by simp) (.slice pe st.2.length ce))
   clear hJ f0 r1 r2 rr o1 hgo hG
   go_wp2
   refine bodyPost_ret (v := .tuple #[.agg #[.int .i64 G.q, .int .i64 (st.1.length : Int), .slice pe st.2.length ce], .slice qa st.1.length ca, .bool true]) (by simp [results, Tryz.results178, go_sem, y0, y1, y2]) rfl ?_
   refine ⟨HBB.out, ?_⟩
   rw [HR.out]
   exact ⟨pe, st.2.length, ce, qa, ca, rfl, (by have h := HES.out; refine ⟨h.1, h.2.imp id (fun ⟨g, cap, cur, a, b, z⟩ => ⟨g, cap, cur, a, by omega, z⟩)⟩)⟩
end
section
open Go.RowKit Go.Sort Go.Shelf Go.Lib
set_option maxRecDepth 100000 in
set_option maxHeartbeats 2000000 in
theorem r12From_any (G : Gr) (p : Option Addr) (c N : Nat) (q : Option Addr) (d : Nat) (w : World) (hin : Sg 3 w edE p G.es) (hs : SlJ w q (upto N)) (hv : Vg G) (hN : G.n = N) (h0 : 0 < N) :
  Calls Tryz.prog 129 #[(.agg #[.int .i64 G.q, .int .i64 G.n, .slice p G.es.length c]), .slice q (upto N).length d] w (RetSb (sbR G (sbGo G 66 0 ([upto N], []))) w) := by
 obtain ⟨w0, hw0⟩ : ∃ w0, w0 = (w.alloc (.cells #[.int .i64 G.q, .int .i64 G.n, .slice p G.es.length c] 24)).alloc (.cells #[.int .i64 0, .int .i64 0, .slice none 0 0] 24) := ⟨_, rfl⟩
 have b0 : VRow w0 w.heap.size 24 [.int .i64 G.q, .int .i64 G.n, .slice p G.es.length c] := by subst hw0; exact (VRow.new w _ _).alloc _
 have b1 : VRow w0 (w.heap.size + 1) 24 [.int .i64 0, .int .i64 0, .slice none 0 0] := by subst hw0; exact VRow.new1 w _ _ _
 have hB0 : RowKit.Below w.heap.size w w0 := by subst hw0; exact ((RowKit.Below.refl _ _).alloc (Nat.le_refl _) _).alloc (by simp) _
 have hN64 : N ≤ 64 := by have := hv.n2; omega
 have hlen := hv.len
 have HCK := hidI (rCheck_r G p c w0 0 (chkG_ok.2 hv) (hin.below hB0) (by omega))
 have HUC : chkS G.n none (upto N) = 0 := chkS_of (upto_srt _) (fun x hx => by have := mem_upto.1 hx; omega) (fun q h => by cases h)
 have HST := hidI (fun W (hB : RowKit.Below w.heap.size w W) => r12sets_any G p c (upto N) q d W (hin.below hB) ((KCs.below hB).slj hs) hv HUC)
 have HSL := hidI (fun W (hB : RowKit.Below w.heap.size w W) => (KCs.below hB).slj hs)
 have HU := hidI (fun (k : Nat) (h : k < (upto N).length) => upto_get h)
 have HUL := hidI (upto_len N)
 have HN := hidI hN
 generalize sbGo G 66 0 ([upto N], []) = O at *
 generalize upto N = U at *
 have hl0 : ((U.length : Int) == 0) = false := by have := HUL.out; simp; rintro rfl; simp at this; omega
 have f0 := b0.at 0 rfl; have f1 := b0.at 1 rfl; have f2 := b0.at 2 rfl
 clear hin hs hv hN HUC
 go_enter Tryz.func129, Tryz.ntmps129
 go_upto_region 1 with fail
 rw [← hw0]
 clear hw0
 go_wp2_with fail
 refine HCK.out.mono ?_
 rintro e w1 ⟨rfl, hB1⟩
 have x1 := hB0.trans (hB1.mono hB0.size)
 have c0 := b0.below hB1 b0.lt; have c1 := b1.below hB1 b1.lt
 have HB1L := hidI b1.lt
 have hB1s := hB1.size
 clear f0 f1 f2 HCK b0 b1 hB1
 go_wp2_with fail
 go_loopw [7] (fun iv wr => ∃ k : Nat, k ≤ U.length ∧ iv = .int .i64 k ∧ RowKit.Below w1.heap.size w1 wr) (fun iv _ => U.length - (intOf iv).toNat)
 case atStart => exact ⟨0, by omega, rfl, RowKit.Below.refl _ _⟩
 case round =>
  obtain ⟨k, hk, rfl, hB⟩ := hrel
  have xr := x1.trans (hB.mono x1.size)
  have xr1 : w0.heap.size ≤ wr.heap.size := Nat.le_trans hB1s hB.size
  by_cases hlt : k < U.length
  ·have hltI : (k : Int) < (U.length : Int) := by omega
   have f1 := (c0.below hB c0.lt).at 1 rfl
   rw [HN.out] at f1
   obtain ⟨bu, ou, rfl, hbu, hcu⟩ := (HSL.out wr xr).1.get k hlt
   have hkN : k < N := by have := HUL.out; omega
   rcases k with _ | m
   ·have e1 := hcu 0 hlt
    rw [HU.out 0 hlt, Nat.add_zero] at e1
    have e1 : wr.cell? ⟨bu, ou, none⟩ = some (.int .i64 0) := e1
    have d2 : decide ((N : Int) ≤ 0) = false := decide_eq_false (by omega)
    clear hcu
    go_wp2_with fail
    (refine wp_region_quiet_lit (by kernel_rfl) (by kernel_rfl) ?_; (repeat (first | go_big_quiet_step (fail) | quiet_step (fail))); refine wpQuiet_nil ?_; intro _ hwq; obtain ⟨nq, hwq2⟩ := hwq; subst hwq2)
    go_wp2_with fail
    (refine wp_region_quiet_lit (by kernel_rfl) (by kernel_rfl) ?_; (repeat (first | go_big_quiet_step (fail) | quiet_step (fail))); refine wpQuiet_nil ?_; intro _ hwq; obtain ⟨nq, hwq2⟩ := hwq; subst hwq2)
    go_wp2
    go_roundw
    case rel => exact ⟨0 + 1, by omega, by go_num, below_dN hB _⟩
    case measure => simp [intOf]; omega
   ·have e1 := hcu (m + 1) hlt
    have e2 := hcu m (by omega)
    rw [HU.out (m + 1) hlt] at e1
    rw [HU.out m (by omega)] at e2
    have e1 : wr.cell? ⟨bu, ou + (m + 1), none⟩ = some (.int .i64 ((m : Int) + 1)) := e1
    have m0 : (0 : Int) ≤ (m : Int) := by omega
    have m1 : (m : Int) < (U.length : Int) := by omega
    have m2 : (m : Int) + 1 < (U.length : Int) := by omega
    have m3 : (0 : Int) ≤ (m : Int) + 1 := by omega
    have m4 : (0 : Int) < (m : Int) + 1 := by omega
    have q1 : IntKind.i64.wrap (m : Int) = (m : Int) := IntWalk.i64_in _ (by omega)
    have d1 : decide ((m : Int) + 1 < 0) = false := decide_eq_false (by omega)
    have d2 : decide ((N : Int) ≤ (m : Int) + 1) = false := decide_eq_false (by omega)
    have d4 : decide ((m : Int) + 1 ≤ (m : Int)) = false := decide_eq_false (by omega)
    clear hcu
    go_wp2_with fail
    (refine wp_region_quiet_lit (by kernel_rfl) (by kernel_rfl) ?_; (repeat (first | go_big_quiet_step (fail) | quiet_step (fail))); refine wpQuiet_nil ?_; intro _ hwq; obtain ⟨nq, hwq2⟩ := hwq; subst hwq2)
    go_wp2_with fail
    (refine wp_region_quiet_lit (by kernel_rfl) (by kernel_rfl) ?_; (repeat (first | go_big_quiet_step (fail) | quiet_step (fail))); refine wpQuiet_nil ?_; intro _ hwq; obtain ⟨nq, hwq2⟩ := hwq; subst hwq2)
    go_wp2
    go_roundw
    case rel => exact ⟨m + 1 + 1, by omega, by go_num, below_dN hB _⟩
    case measure => simp [intOf]; omega
  ·obtain rfl : k = U.length := by omega
   have hltI : ¬ (U.length : Int) < (U.length : Int) := by omega
   have a0 := c0.below hB c0.lt; have a1 := c1.below hB c1.lt
   have f0 := a0.at 0 rfl; have f1 := a0.at 1 rfl; have f2 := a0.at 2 rfl
   have HS2 := hidI (HST.out wr xr)
   clear c0 c1 HST HU HSL hl0 hB
   go_wp2_with fail
   refine HS2.out.mono ?_
   rintro e w2 ⟨hB2, hO⟩
   have x2 := xr.trans (hB2.mono xr.size)
   have g1 := a1.below hB2 a1.lt
   clear f0 f1 f2 a0 a1
   have g1a := g1.alloc (.cells #[.int .i64 0, .int .i64 0, .slice none 0 0] 24)
   cases O with
   | none =>
    replace hO : e = _ := hO
    subst hO
    have j0 := g1a.at 0 rfl; have j1 := g1a.at 1 rfl; have j2 := g1a.at 2 rfl
    have z0 := g1a.frozen 0; have z1 := g1a.frozen 1; have z2 := g1a.frozen 2
    have x3 := x2.alloc x2.size (.cells #[.int .i64 0, .int .i64 0, .slice none 0 0] 24)
    have r6 := VRow.set (i := 2) (.slice none 0 0) (VRow.set (i := 1) (.int .i64 0) (VRow.set (i := 0) (.int .i64 0) g1a))
    have y0 := r6.at 0 rfl; have y1 := r6.at 1 rfl; have y2 := r6.at 2 rfl
    have x6 := ((x3.setCell (show w.heap.size ≤ w.heap.size + 1 by omega) (.int .i64 0) (p := ⟨w.heap.size + 1, 0, none⟩)).setCell (show w.heap.size ≤ w.heap.size + 1 by omega) (.int .i64 0) (p := ⟨w.heap.size + 1, 1, none⟩)).setCell (show w.heap.size ≤ w.heap.size + 1 by omega) (.slice none 0 0) (p := ⟨w.heap.size + 1, 2, none⟩)
    clear g1 g1a r6 x3
    go_wp2
    refine bodyPost_ret (v := .tuple #[.agg #[.int .i64 0, .int .i64 0, .slice none 0 0], .slice none 0 0, .int .i64 4]) (by simp [results, Tryz.results129, go_sem, y0, y1, y2]) rfl ?_
    exact RetSb.of (G := ⟨0, 0, []⟩) (S := []) rfl rfl (World.ownsRow_nil _ _ _ _) x6
   | some r =>
    obtain ⟨p2, m2, c2, ps, cs, rfl, hown⟩ := hO
    obtain ⟨hm2, -⟩ := sg_len (p' := none) hown
    have HMM := hidI hm2
    have hz : w.heap.size + 1 < wr.heap.size := Nat.lt_of_lt_of_le HB1L.out xr1
    obtain ⟨w3, hw3⟩ : ∃ w3, w3 = w2.alloc (.cells #[.int .i64 G.q, .int .i64 r.1.length, .slice p2 m2 c2] 24) := ⟨_, rfl⟩
    have g1b : VRow w3 (w.heap.size + 1) 24 [.int .i64 0, .int .i64 0, .slice none 0 0] := by subst hw3; exact g1.alloc _
    have hownb : w3.ownsRow wr.heap.size 44 3 (.slice p2 m2 c2) r.2.length (cat r.2) := by subst hw3; exact hown.alloc _
    have hnw : VRow w3 w2.heap.size 24 [.int .i64 G.q, .int .i64 r.1.length, .slice p2 m2 c2] := by subst hw3; exact VRow.new w2 _ _
    have x3 : RowKit.Below w.heap.size w w3 := by subst hw3; exact x2.alloc x2.size _
    have j0 := g1b.at 0 rfl; have j1 := g1b.at 1 rfl; have j2 := g1b.at 2 rfl
    have z0 := g1b.frozen 0; have z1 := g1b.frozen 1; have z2 := g1b.frozen 2
    have n0 := hnw.at 0 rfl; have n1 := hnw.at 1 rfl; have n2 := hnw.at 2 rfl
    have r6 := VRow.set (i := 2) (.slice p2 m2 c2) (VRow.set (i := 1) (.int .i64 r.1.length) (VRow.set (i := 0) (.int .i64 G.q) g1b))
    have y0 := r6.at 0 rfl; have y1 := r6.at 1 rfl; have y2 := r6.at 2 rfl
    have x6 := ((x3.setCell (show w.heap.size ≤ w.heap.size + 1 by omega) (.int .i64 G.q) (p := ⟨w.heap.size + 1, 0, none⟩)).setCell (show w.heap.size ≤ w.heap.size + 1 by omega) (.int .i64 r.1.length) (p := ⟨w.heap.size + 1, 1, none⟩)).setCell (show w.heap.size ≤ w.heap.size + 1 by omega) (.slice p2 m2 c2) (p := ⟨w.heap.size + 1, 2, none⟩)
    have o6 := ownsRow_setCell_below (a := (⟨w.heap.size + 1, 2, none⟩ : Addr)) (ownsRow_setCell_below (a := (⟨w.heap.size + 1, 1, none⟩ : Addr)) (ownsRow_setCell_below (a := (⟨w.heap.size + 1, 0, none⟩ : Addr)) hownb hz (.int .i64 G.q)) hz (.int .i64 r.1.length)) hz (.slice p2 m2 c2)
    clear g1 g1a g1b r6 x3 hown hownb hm2 hnw
    go_upto_region 13 with fail
    rw [← hw3]
    clear hw3
    go_wp2
    refine bodyPost_ret (v := .tuple #[.agg #[.int .i64 G.q, .int .i64 r.1.length, .slice p2 m2 c2], .slice ps r.1.length cs, .int .i64 0]) (by simp [results, Tryz.results129, go_sem, y0, y1, y2]) rfl ?_
    exact RetSb.of (G := ⟨G.q, (r.1.length : Int), r.2⟩) (S := r.1) rfl HMM.out (by rw [HMM.out] at o6 ⊢; exact own_downN o6 xr.size) x6
end
end Go.Proofs.YtocbhlohcikapaaGreatDoor
