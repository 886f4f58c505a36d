/-
  Words, plain lemmas and walks, merged: Gy, Gs, Gz.
-/
import Derived.Test.YtocbhlohcikapaaGreatDoorZqc
import Derived.Test.YtocbhlohcikapaaGreatDoorZqa
set_option linter.unusedVariables false
set_option linter.unusedSimpArgs false
namespace Go.Proofs.YtocbhlohcikapaaGreatDoor
open Go.RowKit Go.Sort Go.Shelf Go.Lib

def nxE (st : List Int) (b t : Int) (x : Ed) : Bool := decide (x.t = t) && (decide (x.l = b) && decide (x.f ∈ st))
/-- A state that an edge with a label leads to, from a set. -/
def nxP (es : List Ed) (st : List Int) (b t : Int) : Bool := es.any (nxE st b t)
def nextA (G : Gr) (st : List Int) (b : Int) : List Int := (upto G.n.toNat).filter (nxP G.es st b)
theorem uptof_succ (f : Int → Bool) (k : Nat) : (upto (k + 1)).filter f = (upto k).filter f ++ (if f (k : Int) = true then [(k : Int)] else []) := by
  rw [upto_succ, List.filter_append]; congr 1; cases h : f (k : Int) <;> simp [h]
theorem uptof_len (f : Int → Bool) (k : Nat) : ((upto k).filter f).length ≤ k := Nat.le_trans (List.length_filter_le _ _) (by rw [upto_len]; omega)

set_option maxRecDepth 100000 in
set_option maxHeartbeats 4000000 in
theorem rNext_any (G : Gr) (p : Option Addr) (c : Nat) (st : List Int) (q : Option Addr) (d : Nat) (b : Int) (w : World) (hin : Sg 3 w edE p G.es) (hst : Sl w (Value.int .i64) q st) (hl : G.es.length ≤ 10000) (hs : st.length ≤ 100000) (hn0 : 0 ≤ G.n) (hn1 : G.n ≤ 100000) :
    Calls Tryz.prog 234 #[(.agg #[.int .i64 G.q, .int .i64 G.n, .slice p G.es.length c]), .slice q st.length d, .int .i64 b] w fun e w' => ∃ p m c, e = .returned (.slice p m c) ∧ w'.ownsRow w.heap.size 3 1 (.slice p m c) (nextA G st b).length ((nextA G st b).map (Value.int .i64)) ∧ RowKit.Below w.heap.size w w' := by
  have HIN := hidI hin; have HST := hidI hst
  clear hin hst
  obtain ⟨i0, hi0, hz0, hz1, hz3⟩ := info_parts infoIn
  obtain ⟨w1, hw1⟩ : ∃ w1, w1 = w.alloc (.cells #[.int .i64 G.q, .int .i64 G.n, .slice p G.es.length c] 24) := ⟨_, rfl⟩
  have c0 : VRow w1 w.heap.size 24 [.int .i64 G.q, .int .i64 G.n, .slice p G.es.length c] := by subst hw1; exact VRow.new w _ _
  have x1 : RowKit.Below w.heap.size w w1 := by subst hw1; exact (RowKit.Below.refl _ _).alloc (Nat.le_refl _) _
  have hsz := x1.size
  have hsz1 : w.heap.size < w1.heap.size := c0.lt
  go_enter Tryz.func234, Tryz.ntmps234
  go_wp2
  rw [← hw1]
  clear hw1
  go_loopw [7, 8] (fun ov iv wr => ∃ k : Nat, k ≤ G.n.toNat ∧ iv = .int .i64 k ∧ wr.ownsRow w1.heap.size 3 1 ov ((upto k).filter (nxP G.es st b)).length (((upto k).filter (nxP G.es st b)).map (Value.int .i64)) ∧ RowKit.Below w1.heap.size w1 wr) (fun _ iv _ => G.n.toNat - (intOf iv).toNat)
  case atStart => exact ⟨0, by omega, rfl, World.ownsRow_nil _ _ _ _, RowKit.Below.refl _ _⟩
  case round =>
    obtain ⟨k, hk, rfl, hown, hB⟩ := hrel
    have xr := x1.trans (hB.mono x1.size)
    have cr := c0.below hB hsz1
    have f1 := cr.at 1 rfl; have f2 := cr.at 2 rfl
    by_cases hlt : k < G.n.toNat
    · have hlt' : (k : Int) < G.n := by omega
      have HN := hidI (uptof_succ (nxP G.es st b) k)
      have hML := uptof_len (nxP G.es st b) k
      generalize (upto k).filter (nxP G.es st b) = M at *
      have hszr := hB.size
      obtain ⟨wo, rfl⟩ : ∃ wo : World, wo = wr := ⟨_, rfl⟩
      go_wp2
      go_loopw [9, 10] (fun fv jv wr => ∃ j : Nat, j ≤ G.es.length ∧ jv = .int .i64 j ∧ fv = .bool ((G.es.take j).any (nxE st b k)) ∧ RowKit.Below wo.heap.size wo wr) (fun _ jv _ => G.es.length - (intOf jv).toNat)
      case atStart => exact ⟨0, by omega, rfl, by simp, RowKit.Below.refl _ _⟩
      case round =>
        obtain ⟨j, hj, rfl, rfl, hBt⟩ := hrel
        have xt := xr.trans (hBt.mono xr.size)
        have ct := cr.below hBt cr.lt
        clear f1 f2
        have f1 := ct.at 1 rfl; have f2 := ct.at 2 rfl
        by_cases hjl : j < G.es.length
        · obtain ⟨b3, o3, rfl, hb3, e0, e1, e2⟩ := (HIN.out.below xt).get3 j hjl rfl
          have HA := hidI (any_snoc (nxE st b k) G.es j hjl)
          generalize (G.es.take j).any (nxE st b k) = fd at *
          generalize hx : G.es[j] = x at *
          have HS1 : Sl (wr.alloc (.cells #[.int .i64 x.f, .int .i64 x.l, .int .i64 x.t] 44)) (Value.int .i64) q st := HST.out.below (xt.alloc xt.size _)
          have hBn : RowKit.Below wo.heap.size wo (wr.alloc (.cells #[.int .i64 x.f, .int .i64 x.l, .int .i64 x.t] 44)) := hBt.alloc hBt.size _
          cases fd
          · by_cases h1 : x.t = (k : Int)
            · have d1 : (x.t == (k : Int)) = true := by simpa using h1
              by_cases h2 : x.l = b
              · have d2 : (x.l == b) = true := by simpa using h2
                have HV : Hid ((G.es.take (j + 1)).any (nxE st b k) = decide (x.f ∈ st)) := by rw [Hid, HA.out]; simp [nxE, h1, h2]
                clear h1 h2
                go_wp2_with (go_at_call 136; refine (rHas_q st q d x.f _ HS1 (by omega)).mono ?_; rintro e w' ⟨rfl, rfl⟩)
                go_roundw
                case rel => exact ⟨j + 1, by omega, by go_num, by rw [HV.out], hBn⟩
                case measure => simp [intOf]; omega
              · have d2 : (x.l == b) = false := by simpa using h2
                have HV : Hid ((G.es.take (j + 1)).any (nxE st b k) = false) := by rw [Hid, HA.out]; simp [nxE, h2]
                clear h1 h2
                go_wp2_with fail
                go_roundw
                case rel => exact ⟨j + 1, by omega, by go_num, by rw [HV.out], hBn⟩
                case measure => simp [intOf]; omega
            · have d1 : (x.t == (k : Int)) = false := by simpa using h1
              have HV : Hid ((G.es.take (j + 1)).any (nxE st b k) = false) := by rw [Hid, HA.out]; simp [nxE, h1]
              clear h1
              go_wp2_with fail
              go_roundw
              case rel => exact ⟨j + 1, by omega, by go_num, by rw [HV.out], hBn⟩
              case measure => simp [intOf]; omega
          · have HV : Hid ((G.es.take (j + 1)).any (nxE st b k) = true) := by rw [Hid, HA.out]; rfl
            go_wp2_with fail
            go_roundw
            case rel => exact ⟨j + 1, by omega, by go_num, by rw [HV.out], hBn⟩
            case measure => simp [intOf]; omega
        · obtain rfl : j = G.es.length := by omega
          rw [List.take_length]
          have HV : Hid (G.es.any (nxE st b k) = nxP G.es st b k) := rfl
          have hownt := hown.below hBt
          have hBt2 := hB.trans (hBt.mono hB.size)
          generalize G.es.any (nxE st b k) = fd at *
          cases fd
          · have HN : Hid (List.filter (nxP G.es st b) (upto (k + 1)) = M) := by rw [Hid, HN.out, ← HV.out]; simp
            go_wp2_with fail
            go_roundw
            case rel => exact ⟨k + 1, by omega, by go_num, by rw [HN.out]; exact hownt, hBt2⟩
            case measure => simp [intOf]; omega
          · have HN : Hid (List.filter (nxP G.es st b) (upto (k + 1)) = M ++ [(k : Int)]) := by rw [Hid, HN.out, ← HV.out]; simp
            have hnew := cell_one_at wr (.int .i64 (k : Int)) 3 wr.heap.size rfl
            have hszt := hBt.size
            go_wp2_with (at_builtin; refine wpList_append_own _ rfl _ _ 30 rfl w1.heap.size 3 i0 (.int .i64 0) 1 8 Tryz.underlying30 hi0 hz0 hz1 hz3 rfl (by decide) _ _ _ rfl (hownt.alloc _) ⟨wr.heap.size, 0, none⟩ 1 1 [.int .i64 (k : Int)] rfl rfl hnew (by simp [Value.oneCell']) (by simp [maxLen]; omega) (by omega) (by rw [World.size_alloc]; omega) ?_; intro v' w2 hown' hgrow _)
            go_roundw
            case rel => exact ⟨k + 1, by omega, by go_num, by rw [HN.out, List.length_append, List.map_append]; exact hown', (hBt2.alloc hBt2.size _).grown hgrow (Nat.le_trans hBt2.size (by simp)) (fun j e => (hownt.lt j e).1)⟩
            case measure => simp [intOf]; omega
    · obtain rfl : k = G.n.toNat := by omega
      have hlt' : ¬ ((G.n.toNat : Int) < G.n) := by omega
      go_wp2
      go_ret
      obtain ⟨p', c', rfl, _⟩ := own_sl hown
      exact ⟨_, _, _, rfl, ⟨hown.1, hown.2.imp id (fun ⟨g, cap, cur, a, b, z⟩ => ⟨g, cap, cur, a, Nat.le_trans hsz b, z⟩)⟩, xr⟩
end Go.Proofs.YtocbhlohcikapaaGreatDoor
namespace Go.Proofs.YtocbhlohcikapaaGreatDoor
open Go.RowKit Go.Sort Go.Lib

set_option maxRecDepth 100000 in
set_option maxHeartbeats 2000000 in
theorem rCheckSet_any (G : Gr) (p : Option Addr) (c : Nat) (l : List Int) (q : Option Addr) (d : Nat) (w : World) (hin : Sl w (Value.int .i64) q l) (hl : l.length ≤ 9223372036854775807) :
    Calls Tryz.prog 233 #[(.agg #[.int .i64 G.q, .int .i64 G.n, .slice p G.es.length c]), .slice q l.length d] w fun e w' => e = .returned (.int .i64 (chkS G.n none l)) ∧ Below w.heap.size w w' := by
  have hB0 : Below w.heap.size w (w.alloc (.cells #[.int .i64 G.q, .int .i64 G.n, .slice p G.es.length c] 24)) := (Below.refl _ _).alloc (Nat.le_refl _) _
  have b0 : VRow (w.alloc (.cells #[.int .i64 G.q, .int .i64 G.n, .slice p G.es.length c] 24)) w.heap.size 24 [.int .i64 G.q, .int .i64 G.n, .slice p G.es.length c] := VRow.new w _ _
  have hin0 := hin.below hB0
  clear hin
  go_enter Tryz.func233, Tryz.ntmps233
  go_wp2
  generalize (w.alloc (.cells #[.int .i64 G.q, .int .i64 G.n, .slice p G.es.length c] 24)) = w0 at *
  go_loopw [5] (fun i wr => ∃ k : Nat, k ≤ l.length ∧ i = .int .i64 k ∧ Hid (chkS G.n (pvS l k) (l.drop k) = chkS G.n none l) ∧ Dr w0 wr) (fun i _ => l.length - (intOf i).toNat)
  case atStart => exact ⟨0, by omega, rfl, rfl, Dr.refl _⟩
  case round =>
    obtain ⟨k, hk, rfl, hj, hD⟩ := hrel
    have f1 := (b0.dr hD).at 1 rfl
    have hBr := hB0.trans (hD.below _)
    by_cases hlt : k < l.length
    · obtain ⟨b1, o1, rfl, hb1, hc1⟩ := (hin0.dr hD).get k hlt
      have e1 := hc1 k hlt
      have HA := hidI (chkS_at (n := G.n) hlt)
      by_cases h0 : l[k] < 0
      · have HI : Hid (chkS G.n none l = 25) := by rw [Hid, ← hj.out, HA.out, if_pos (.inl h0)]
        clear hc1
        go_wp2_with fail
        (refine wp_region_quiet_lit (by kernel_rfl) (by kernel_rfl) ?_; (repeat (first | go_big_quiet_step (fail) | quiet_step (fail))); refine wpQuiet_nil ?_; intro _ hwq; obtain ⟨nq, hwq2⟩ := hwq; subst hwq2)
        go_wp2
        go_ret
        exact ⟨ret_int HI.out.symm, below_dN hBr nq⟩
      · have d0 : decide (l[k] < 0) = false := decide_eq_false h0
        by_cases h1 : G.n ≤ l[k]
        · have HI : Hid (chkS G.n none l = 25) := by rw [Hid, ← hj.out, HA.out, if_pos (.inr h1)]
          clear hc1
          go_wp2_with fail
          (refine wp_region_quiet_lit (by kernel_rfl) (by kernel_rfl) ?_; (repeat (first | go_big_quiet_step (fail) | quiet_step (fail))); refine wpQuiet_nil ?_; intro _ hwq; obtain ⟨nq, hwq2⟩ := hwq; subst hwq2)
          go_wp2
          go_ret
          exact ⟨ret_int HI.out.symm, below_dN hBr nq⟩
        · have HA2 := hidI (HA.out.trans (if_neg (by omega)))
          have d1 : decide (G.n ≤ l[k]) = false := decide_eq_false h1
          by_cases hk0 : k = 0
          · subst hk0
            have HN : Hid (chkS G.n (pvS l (0 + 1)) (l.drop (0 + 1)) = chkS G.n none l) := by rw [Hid, ← hj.out, HA2.out]; simp [pvS, leP]
            clear hc1
            rw [Nat.add_zero] at e1
            go_wp2_with fail
            (refine wp_region_quiet_lit (by kernel_rfl) (by kernel_rfl) ?_; (repeat (first | go_big_quiet_step (fail) | quiet_step (fail))); refine wpQuiet_nil ?_; intro _ hwq; obtain ⟨nq, hwq2⟩ := hwq; subst hwq2)
            go_wp2_with fail
            (refine wp_region_quiet_lit (by kernel_rfl) (by kernel_rfl) ?_; (repeat (first | go_big_quiet_step (fail) | quiet_step (fail))); refine wpQuiet_nil ?_; intro _ hwq; obtain ⟨nq, hwq2⟩ := hwq; subst hwq2)
            go_wp2
            go_roundw
            case rel => exact ⟨0 + 1, by omega, by go_num, HN, hD.one _⟩
            case measure => simp [intOf]; omega
          · obtain ⟨m, rfl⟩ : ∃ m, k = m + 1 := ⟨k - 1, by omega⟩
            have e2 := hc1 m (by omega)
            have m0 : (0 : Int) ≤ (m : Int) := by omega
            have m1 : (m : Int) < (l.length : Int) := by omega
            have m2 : (m : Int) + 1 < (l.length : Int) := by omega
            have m3 : (0 : Int) ≤ (m : Int) + 1 := by omega
            have m4 : (0 : Int) < (m : Int) + 1 := by omega
            have q1 : IntKind.i64.wrap (m : Int) = (m : Int) := IntWalk.i64_in _ (by omega)
            have hpv : pvS l (m + 1) = some l[m] := by simp [pvS, show m < l.length by omega]
            by_cases h2 : l[m + 1] ≤ l[m]
            · have HI : Hid (chkS G.n none l = 10) := by rw [Hid, ← hj.out, HA2.out, hpv]; simp [leP, h2]
              clear hc1 hpv
              go_wp2_with fail
              (refine wp_region_quiet_lit (by kernel_rfl) (by kernel_rfl) ?_; (repeat (first | go_big_quiet_step (fail) | quiet_step (fail))); refine wpQuiet_nil ?_; intro _ hwq; obtain ⟨nq, hwq2⟩ := hwq; subst hwq2)
              go_wp2_with fail
              (refine wp_region_quiet_lit (by kernel_rfl) (by kernel_rfl) ?_; (repeat (first | go_big_quiet_step (fail) | quiet_step (fail))); refine wpQuiet_nil ?_; intro _ hwq; obtain ⟨nq, hwq2⟩ := hwq; subst hwq2)
              go_wp2
              go_ret
              exact ⟨ret_int HI.out.symm, below_dN (below_dN hBr _) _⟩
            · have HN : Hid (chkS G.n (pvS l (m + 1 + 1)) (l.drop (m + 1 + 1)) = chkS G.n none l) := by rw [Hid, ← hj.out, HA2.out, hpv]; simp [leP, h2]
              have d2 : decide (l[m + 1] ≤ l[m]) = false := decide_eq_false h2
              clear hc1 hpv
              go_wp2_with fail
              (refine wp_region_quiet_lit (by kernel_rfl) (by kernel_rfl) ?_; (repeat (first | go_big_quiet_step (fail) | quiet_step (fail))); refine wpQuiet_nil ?_; intro _ hwq; obtain ⟨nq, hwq2⟩ := hwq; subst hwq2)
              go_wp2_with fail
              (refine wp_region_quiet_lit (by kernel_rfl) (by kernel_rfl) ?_; (repeat (first | go_big_quiet_step (fail) | quiet_step (fail))); refine wpQuiet_nil ?_; intro _ hwq; obtain ⟨nq, hwq2⟩ := hwq; subst hwq2)
              go_wp2
              go_roundw
              case rel => exact ⟨m + 1 + 1, by omega, by go_num, HN, hD.one _⟩
              case measure => simp [intOf]; omega
    · have HI : Hid (chkS G.n none l = 0) := by rw [Hid, ← hj.out, chkS_end hlt]
      go_wp2
      go_ret
      exact ⟨ret_int HI.out.symm, hBr⟩
end Go.Proofs.YtocbhlohcikapaaGreatDoor
namespace Go.Proofs.YtocbhlohcikapaaGreatDoor
open Go.RowKit Go.Sort Go.Shelf Go.Lib

/-- The states that are reached from a set by a label, and the error. -/
def stepA (G : Gr) (st : List Int) (b : Int) : List Int × Int := if chkG G = 0 then (if chkS G.n none st = 0 then (if b < 0 ∨ G.q ≤ b then ([], 2) else (nextA G st b, 0)) else ([], chkS G.n none st)) else ([], 1)

set_option maxRecDepth 100000 in
set_option maxHeartbeats 2000000 in
theorem rStep_any (G : Gr) (p : Option Addr) (c : Nat) (st : List Int) (q : Option Addr) (d : Nat) (b : Int) (w : World) (hin : Sg 3 w edE p G.es) (hst : Sl w (Value.int .i64) q st) (hl : G.es.length ≤ 10000) (hs : st.length ≤ 100000) :
    Calls Tryz.prog 217 #[(.agg #[.int .i64 G.q, .int .i64 G.n, .slice p G.es.length c]), .slice q st.length d, .int .i64 b] w (RetLi (stepA G st b).1 (stepA G st b).2 w) := by
  have HIN := hidI hin; have HST := hidI hst
  clear hin hst
  have b0 : VRow (w.alloc (.cells #[.int .i64 G.q, .int .i64 G.n, .slice p G.es.length c] 24)) w.heap.size 24 [.int .i64 G.q, .int .i64 G.n, .slice p G.es.length c] := VRow.new w _ _
  have hB0 : RowKit.Below w.heap.size w (w.alloc (.cells #[.int .i64 G.q, .int .i64 G.n, .slice p G.es.length c] 24)) := (RowKit.Below.refl _ _).alloc (Nat.le_refl _) _
  obtain ⟨r, hr⟩ : ∃ r, chkG G = r := ⟨_, rfl⟩
  by_cases hr0 : r = 0
  · subst hr0
    obtain ⟨r2, hr2⟩ : ∃ r2, chkS G.n none st = r2 := ⟨_, rfl⟩
    have HR := hidI hr; have HR2 := hidI hr2
    clear hr
    go_enter Tryz.func217, Tryz.ntmps217
    go_wp2_with fail
    refine (rCheck_r G p c _ 0 HR.out (HIN.out.below hB0) (by omega)).mono ?_
    rintro e w1 ⟨rfl, hB1⟩
    have x1 := hB0.trans (hB1.mono hB0.size)
    have c0 := b0.below hB1 b0.lt
    clear hB1 hB0 b0
    have f0 := c0.at 0 rfl; have f1 := c0.at 1 rfl; have f2 := c0.at 2 rfl
    go_wp2_with fail
    refine (rCheckSet_any G p c st q d _ (HST.out.below x1) (by omega)).mono ?_
    rw [hr2]
    rintro e w2 ⟨rfl, hB2⟩
    have x2 := x1.trans (hB2.mono x1.size)
    have d0 := c0.below hB2 c0.lt
    clear f0 f1 f2 hB2 c0
    have f0 := d0.at 0 rfl; have f1 := d0.at 1 rfl; have f2 := d0.at 2 rfl
    by_cases h2 : r2 = 0
    · subst h2
      clear hr2
      by_cases h0 : b < 0
      · have HK : Hid (stepA G st b = ([], 2)) := by unfold Hid stepA; rw [if_pos HR.out, if_pos HR2.out, if_pos (.inl h0)]
        go_wp2
        go_ret2
        exact RetLi.nil HK.out x2
      · by_cases h1 : G.q ≤ b
        · have HK : Hid (stepA G st b = ([], 2)) := by unfold Hid stepA; rw [if_pos HR.out, if_pos HR2.out, if_pos (.inr h1)]
          go_wp2
          go_ret2
          exact RetLi.nil HK.out x2
        · have HK : Hid (stepA G st b = (nextA G st b, 0)) := by unfold Hid stepA; rw [if_pos HR.out, if_pos HR2.out, if_neg (by omega)]
          have hv := chkG_ok.1 HR.out
          have hn0 := hv.n1
          have hn1 := hv.n2
          have hx := x2.size
          go_wp2_with fail
          refine (rNext_any G p c st q d b _ (HIN.out.below x2) (HST.out.below x2) hl hs hn0 (by omega)).mono ?_
          rintro e w3 ⟨p3, m3, c3, rfl, hown3, hB3⟩
          go_wp2
          go_ret2
          exact RetLi.of (m := 0) HK.out hown3 hx (x2.trans (hB3.mono x2.size))
    · have HK : Hid (stepA G st b = ([], r2)) := by unfold Hid stepA; rw [if_pos HR.out, HR2.out, if_neg h2]
      have hrb : (r2 == 0) = false := by simpa using h2
      clear hr2
      go_wp2
      go_ret2
      exact RetLi.nil HK.out x2
  · have HK : Hid (stepA G st b = ([], 1)) := by unfold Hid stepA; rw [if_neg (by rw [hr]; exact hr0)]
    have hrb : (r == 0) = false := by simpa using hr0
    have HR := hidI hr
    clear hr
    go_enter Tryz.func217, Tryz.ntmps217
    go_wp2_with fail
    refine (rCheck_r G p c _ r HR.out (HIN.out.below hB0) (by omega)).mono ?_
    rintro e w1 ⟨rfl, hB1⟩
    have x1 := hB0.trans (hB1.mono hB0.size)
    go_wp2
    go_ret2
    exact RetLi.nil HK.out x1
end Go.Proofs.YtocbhlohcikapaaGreatDoor
