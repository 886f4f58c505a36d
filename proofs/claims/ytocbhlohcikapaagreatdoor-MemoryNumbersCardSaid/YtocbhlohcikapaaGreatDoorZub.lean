/-
  Words, plain lemmas and walks, merged: Gh, Gi, Gj, Gk, Gp, Gl, Gm, Gw, Gv, Gu, Gq, Gy, Gs, Gz.
-/
import Derived.Test.YtocbhlohcikapaaGreatDoorZua
import Derived.Maps.AppendAt
import Derived.Deep.CutBlock
set_option linter.unusedVariables false
set_option linter.unusedSimpArgs false
namespace Go.Proofs.YtocbhlohcikapaaGreatDoor
section
open Go.RowKit Go.Sort Go.Shelf Go.Lib
def detB : List Ed → Bool
 | x :: y :: l => !(decide (x.f = y.f) && decide (x.l = y.l)) && detB (y :: l)
 | _ => true
theorem detB_t : ∀ {l : List Ed}, (∀ k (h : k + 1 < l.length), ¬ (l[k].f = l[k + 1].f ∧ l[k].l = l[k + 1].l)) → detB l = true
 | [], _ => rfl
 | [_], _ => rfl
 | x :: y :: l, h => by
  have h0 := h 0 (by simp)
  simp only [List.getElem_cons_zero, List.getElem_cons_succ] at h0
  rw [detB, detB_t (fun k hk => by have := h (k + 1) (by simpa using hk); simpa using this)]
  by_cases h1 : x.f = y.f
  ·have : x.l ≠ y.l := fun e => h0 ⟨h1, e⟩
   simp [this]
  ·simp [h1]
theorem detB_f : ∀ {l : List Ed} (k : Nat) (h : k + 1 < l.length), l[k].f = l[k + 1].f → l[k].l = l[k + 1].l → detB l = false
 | [], k, h, _, _ => by simp at h
 | [_], k, h, _, _ => by simp at h
 | x :: y :: l, 0, _, h1, h2 => by
  simp only [List.getElem_cons_zero, List.getElem_cons_succ] at h1 h2
  simp [detB, h1, h2]
 | x :: y :: l, k + 1, h, h1, h2 => by
  rw [detB, detB_f k (by simpa using h) (by simpa using h1) (by simpa using h2), Bool.and_false]
def detA (G : Gr) : Bool × Int := if chkG G = 0 then (detB G.es, 0) else (false, 1)
theorem detA_bad {G : Gr} (h : chkG G ≠ 0) : detA G = (false, 1) := by unfold detA; rw [if_neg h]
theorem detA_ok {G : Gr} (h : chkG G = 0) : detA G = (detB G.es, 0) := by unfold detA; rw [if_pos h]
end
section
open Go.RowKit Go.Sort Go.Shelf Go.Lib
theorem ret_bi' {a : Bool} {b : Int} {x : Bool × Int} (h : x = (a, b)) : Ending.returned (.tuple #[.bool a, .int .i64 b]) = .returned (.tuple #[.bool x.1, .int .i64 x.2]) := by subst h; rfl
def TwoEds (w : World) (a b : Ed) (u v : Value) (wx : World) : Prop :=
 ∃ g h, u = .pointer (some ⟨g, 0, none⟩) ∧ v = .pointer (some ⟨h, 0, none⟩) ∧ VRow wx g 44 (edE a) ∧ VRow wx h 44 (edE b) ∧ Below w.heap.size w wx
set_option maxRecDepth 100000 in
set_option maxHeartbeats 2000000 in
theorem gDet_any (G : Gr) (p : Option Addr) (c : Nat) (w : World) (hin : Sg 3 w edE p G.es) (hl : G.es.length ≤ 9223372036854775807) :
  Calls Tryz.prog 30 #[(.agg #[.int .i64 G.q, .int .i64 G.n, .slice p G.es.length c])] w fun e w' => e = .returned (.tuple #[.bool (detA G).1, .int .i64 (detA G).2]) ∧ Below w.heap.size w w' := by
 have hB0 : Below w.heap.size w (w.alloc (.cells #[.int .i64 G.q, .int .i64 G.n, .slice p G.es.length c] 24)) := (Below.refl _ _).alloc (Nat.le_refl _) _
 have b0 : VRow (w.alloc (.cells #[.int .i64 G.q, .int .i64 G.n, .slice p G.es.length c] 24)) w.heap.size 24 [.int .i64 G.q, .int .i64 G.n, .slice p G.es.length c] := VRow.new w _ _
 have HIN := hidI hin
 obtain ⟨r, hr⟩ : ∃ r, chkG G = r := ⟨_, rfl⟩
 by_cases hr0 : r = 0
 ·subst hr0
  have HD := hidI (detA_ok hr)
  have HR := hidI hr
  have hlen : G.es.length ≤ 1024 := (chkG_ok.1 hr).len
  clear hr hin
  go_enter Tryz.func30, Tryz.ntmps30
  go_wp2_with fail
  refine (gCheck_r G p c _ 0 HR.out (HIN.out.below hB0) hl).mono ?_
  rintro e w1 ⟨rfl, hB1⟩
  have x1 := hB0.trans (hB1.mono hB0.size)
  have b1 := b0.below hB1 b0.lt
  have f2 := b1.at 2 rfl
  clear hB0 b0 hB1
  go_wp2
  go_loopw [4] (fun iv wr => ∃ k : Nat, 1 ≤ k ∧ (k ≤ G.es.length ∨ k = 1) ∧ iv = .int .i64 k ∧ Hid (∀ m (h : m + 1 < G.es.length), m + 1 < k → ¬ (G.es[m].f = G.es[m + 1].f ∧ G.es[m].l = G.es[m + 1].l)) ∧ Below w1.heap.size w1 wr) (fun iv _ => G.es.length - (intOf iv).toNat)
  case atStart => exact ⟨1, by omega, .inr rfl, rfl, fun m _ h => by omega, Below.refl _ _⟩
  case round =>
   obtain ⟨k, hk1, hk, rfl, hj, hB⟩ := hrel
   have xr := x1.trans (hB.mono x1.size)
   have br := b1.below hB b1.lt
   have f2 := br.at 2 rfl
   by_cases hlt : k < G.es.length
   ·obtain ⟨m, rfl⟩ : ∃ m, k = m + 1 := ⟨k - 1, by omega⟩
    obtain ⟨b3, o3, rfl, hb3, e0, e1, e2⟩ := (HIN.out.below xr).get3 (m + 1) hlt rfl
    obtain ⟨b4, o4, he4, _, e3, e4, e5⟩ := (HIN.out.below xr).get3 m (by omega) rfl
    cases he4
    have hI : (m : Int) + 1 < (G.es.length : Int) := by omega
    have hI2 : (m : Int) < (G.es.length : Int) := by omega
    have HN : Hid (¬ (G.es[m].f = G.es[m + 1].f ∧ G.es[m].l = G.es[m + 1].l) → ∀ i (h : i + 1 < G.es.length), i + 1 < m + 1 + 1 → ¬ (G.es[i].f = G.es[i + 1].f ∧ G.es[i].l = G.es[i + 1].l)) := fun hn i hi h1 => by
     by_cases e : i = m
     ·subst e; exact hn
     ·exact hj.out i hi (by omega)
    have HF : Hid (G.es[m].f = G.es[m + 1].f → G.es[m].l = G.es[m + 1].l → detB G.es = false) := detB_f m hlt
    have q0 : IntKind.i64.wrap ((m : Int) + 1) = (m : Int) + 1 := IntWalk.i64_in _ (by omega)
    have q1 : IntKind.i64.wrap (m : Int) = (m : Int) := IntWalk.i64_in _ (by omega)
    have m0 : (0 : Int) ≤ (m : Int) := by omega
    have m2 : (0 : Int) ≤ (m : Int) + 1 := by omega
    go_upto_region 6 with fail
    go_cut [5, 6] (fun s5 s6 wx => TwoEds wr G.es[m] G.es[m + 1] s5 s6 wx)
    case first =>
     go_region_held3 (fun w' => w'.cell? ⟨w.heap.size, 2, none⟩ = some (.slice (some ⟨b3, o3, none⟩) G.es.length c) ∧ w'.cell? ⟨b3, o3 + (m + 1) * 3, none⟩ = some (.int .i64 G.es[m + 1].f) ∧ w'.cell? ⟨b3, o3 + (m + 1) * 3 + 1, none⟩ = some (.int .i64 G.es[m + 1].l) ∧ w'.cell? ⟨b3, o3 + (m + 1) * 3 + 2, none⟩ = some (.int .i64 G.es[m + 1].t) ∧
       w'.cell? ⟨b3, o3 + m * 3, none⟩ = some (.int .i64 G.es[m].f) ∧ w'.cell? ⟨b3, o3 + m * 3 + 1, none⟩ = some (.int .i64 G.es[m].l) ∧ w'.cell? ⟨b3, o3 + m * 3 + 2, none⟩ = some (.int .i64 G.es[m].t))
      (first | go_keep) (first | fail)
     all_goals (go_wp2_with fail; go_meet)
     all_goals first
      | exact ⟨_, _, rfl, rfl, ((VRow.new wr 44 (edE G.es[m])).alloc _).dr ⟨1, rfl⟩, (VRow.new1 wr _ 44 (edE G.es[m + 1])).dr ⟨1, rfl⟩, below_dN (((Below.refl _ _).alloc (Nat.le_refl _) _).alloc (by simp) _) 1⟩
      | exact ⟨_, _, rfl, rfl, (VRow.new1 wr _ 44 (edE G.es[m])).dr ⟨1, rfl⟩, ((VRow.new wr 44 (edE G.es[m + 1])).alloc _).dr ⟨1, rfl⟩, below_dN (((Below.refl _ _).alloc (Nat.le_refl _) _).alloc (by simp) _) 1⟩
    case rest =>
     obtain ⟨g, h, rfl, rfl, hra, hrb, hBc⟩ := hcut
     have g0 := hra.at 0 rfl; have g1 := hra.at 1 rfl
     have h0 := hrb.at 0 rfl; have h1 := hrb.at 1 rfl
     have hB2 := hB.trans (hBc.mono hB.size)
     clear e0 e1 e2 e3 e4 e5 f2
     by_cases h3 : G.es[m].f = G.es[m + 1].f
     ·have d3 : (G.es[m].f == G.es[m + 1].f) = true := by simpa using h3
      by_cases h4 : G.es[m].l = G.es[m + 1].l
      ·have d4 : (G.es[m].l == G.es[m + 1].l) = true := by simpa using h4
       have HX : Hid (detA G = (false, 0)) := HD.out.trans (by rw [HF.out h3 h4])
       clear h3 h4
       go_wp2
       go_ret2
       exact ⟨ret_bi' HX.out, x1.trans (hB2.mono x1.size)⟩
      ·have d4 : (G.es[m].l == G.es[m + 1].l) = false := by simpa using h4
       have HX := hidI (HN.out (fun h => h4 h.2))
       clear h3 h4
       go_wp2
       go_roundw
       case rel => exact ⟨m + 1 + 1, by omega, by omega, by go_num, HX, hB2⟩
       case measure => simp [intOf]; omega
     ·have d3 : (G.es[m].f == G.es[m + 1].f) = false := by simpa using h3
      have HX := hidI (HN.out (fun h => h3 h.1))
      clear h3
      go_wp2
      go_roundw
      case rel => exact ⟨m + 1 + 1, by omega, by omega, by go_num, HX, hB2⟩
      case measure => simp [intOf]; omega
   ·have HX : Hid (detA G = (true, 0)) := HD.out.trans (by rw [detB_t (fun m hm => hj.out m hm (by omega))])
    have hI : ¬ ((k : Int) < (G.es.length : Int)) := by omega
    go_wp2
    go_ret2
    exact ⟨ret_bi' HX.out, xr⟩
 ·have hrb : (r == 0) = false := by simpa using hr0
  have HD := hidI (detA_bad (G := G) (by rw [hr]; exact hr0))
  have HR := hidI hr
  clear hr hin hr0
  go_enter Tryz.func30, Tryz.ntmps30
  go_wp2_with fail
  refine (gCheck_r G p c _ r HR.out (HIN.out.below hB0) hl).mono ?_
  rintro e w1 ⟨rfl, hB1⟩
  go_wp2
  go_ret2
  exact ⟨ret_bi' HD.out, hB0.trans (hB1.mono hB0.size)⟩
set_option maxRecDepth 100000 in
set_option maxHeartbeats 2000000 in
theorem rDet_any (G : Gr) (p : Option Addr) (c : Nat) (w : World) (hin : Sg 3 w edE p G.es) (hl : G.es.length ≤ 9223372036854775807) :
  Calls Tryz.prog 97 #[(.agg #[.int .i64 G.q, .int .i64 G.n, .slice p G.es.length c])] w fun e w' => e = .returned (.tuple #[.bool (detA G).1, .int .i64 (detA G).2]) ∧ Below w.heap.size w w' := by
 have hB0 : Below w.heap.size w (w.alloc (.cells #[.int .i64 G.q, .int .i64 G.n, .slice p G.es.length c] 24)) := (Below.refl _ _).alloc (Nat.le_refl _) _
 have b0 : VRow (w.alloc (.cells #[.int .i64 G.q, .int .i64 G.n, .slice p G.es.length c] 24)) w.heap.size 24 [.int .i64 G.q, .int .i64 G.n, .slice p G.es.length c] := VRow.new w _ _
 have HIN := hidI hin
 obtain ⟨r, hr⟩ : ∃ r, chkG G = r := ⟨_, rfl⟩
 by_cases hr0 : r = 0
 ·subst hr0
  have HD := hidI (detA_ok hr)
  have HR := hidI hr
  have hlen : G.es.length ≤ 1024 := (chkG_ok.1 hr).len
  clear hr hin
  go_enter Tryz.func97, Tryz.ntmps97
  go_wp2_with fail
  refine (rCheck_r G p c _ 0 HR.out (HIN.out.below hB0) hl).mono ?_
  rintro e w1 ⟨rfl, hB1⟩
  have x1 := hB0.trans (hB1.mono hB0.size)
  have b1 := b0.below hB1 b0.lt
  have f2 := b1.at 2 rfl
  clear hB0 b0 hB1
  go_wp2
  go_loopw [4] (fun iv wr => ∃ k : Nat, 1 ≤ k ∧ (k ≤ G.es.length ∨ k = 1) ∧ iv = .int .i64 k ∧ Hid (∀ m (h : m + 1 < G.es.length), m + 1 < k → ¬ (G.es[m].f = G.es[m + 1].f ∧ G.es[m].l = G.es[m + 1].l)) ∧ Below w1.heap.size w1 wr) (fun iv _ => G.es.length - (intOf iv).toNat)
  case atStart => exact ⟨1, by omega, .inr rfl, rfl, fun m _ h => by omega, Below.refl _ _⟩
  case round =>
   obtain ⟨k, hk1, hk, rfl, hj, hB⟩ := hrel
   have xr := x1.trans (hB.mono x1.size)
   have br := b1.below hB b1.lt
   have f2 := br.at 2 rfl
   by_cases hlt : k < G.es.length
   ·obtain ⟨m, rfl⟩ : ∃ m, k = m + 1 := ⟨k - 1, by omega⟩
    obtain ⟨b3, o3, rfl, hb3, e0, e1, e2⟩ := (HIN.out.below xr).get3 (m + 1) hlt rfl
    obtain ⟨b4, o4, he4, _, e3, e4, e5⟩ := (HIN.out.below xr).get3 m (by omega) rfl
    cases he4
    have hI : (m : Int) + 1 < (G.es.length : Int) := by omega
    have hI2 : (m : Int) < (G.es.length : Int) := by omega
    have q1 : IntKind.i64.wrap (m : Int) = (m : Int) := IntWalk.i64_in _ (by omega)
    have m0 : (0 : Int) ≤ (m : Int) := by omega
    have HN : Hid (¬ (G.es[m].f = G.es[m + 1].f ∧ G.es[m].l = G.es[m + 1].l) → ∀ i (h : i + 1 < G.es.length), i + 1 < m + 1 + 1 → ¬ (G.es[i].f = G.es[i + 1].f ∧ G.es[i].l = G.es[i + 1].l)) := fun hn i hi h1 => by
     by_cases e : i = m
     ·subst e; exact hn
     ·exact hj.out i hi (by omega)
    have HF : Hid (G.es[m].f = G.es[m + 1].f → G.es[m].l = G.es[m + 1].l → detB G.es = false) := detB_f m hlt
    by_cases h3 : G.es[m].f = G.es[m + 1].f
    ·have d3 : (G.es[m + 1].f == G.es[m].f) = true := by simpa using h3.symm
     by_cases h4 : G.es[m].l = G.es[m + 1].l
     ·have d4 : (G.es[m + 1].l == G.es[m].l) = true := by simpa using h4.symm
      have HX : Hid (detA G = (false, 0)) := HD.out.trans (by rw [HF.out h3 h4])
      clear h3 h4
      go_wp2_with fail
      (refine wp_region_quiet_lit (by kernel_rfl) (by kernel_rfl) ?_; (repeat (first | go_big_quiet_step (fail) | quiet_step (fail))); refine wpQuiet_nil ?_; intro _ hwq; obtain ⟨nq, hwq2⟩ := hwq; subst hwq2)
      go_wp2
      go_ret2
      exact ⟨ret_bi' HX.out, below_dN xr nq⟩
     ·have d4 : (G.es[m + 1].l == G.es[m].l) = false := by simpa using fun h : G.es[m + 1].l = G.es[m].l => h4 h.symm
      have HX := hidI (HN.out (fun h => h4 h.2))
      clear h3 h4
      go_wp2_with fail
      (refine wp_region_quiet_lit (by kernel_rfl) (by kernel_rfl) ?_; (repeat (first | go_big_quiet_step (fail) | quiet_step (fail))); refine wpQuiet_nil ?_; intro _ hwq; obtain ⟨nq, hwq2⟩ := hwq; subst hwq2)
      go_wp2
      go_roundw
      case rel => exact ⟨m + 1 + 1, by omega, by omega, by go_num, HX, below_dN hB nq⟩
      case measure => simp [intOf]; omega
    ·have d3 : (G.es[m + 1].f == G.es[m].f) = false := by simpa using fun h : G.es[m + 1].f = G.es[m].f => h3 h.symm
     have HX := hidI (HN.out (fun h => h3 h.1))
     clear h3
     go_wp2_with fail
     (refine wp_region_quiet_lit (by kernel_rfl) (by kernel_rfl) ?_; (repeat (first | go_big_quiet_step (fail) | quiet_step (fail))); refine wpQuiet_nil ?_; intro _ hwq; obtain ⟨nq, hwq2⟩ := hwq; subst hwq2)
     go_wp2
     go_roundw
     case rel => exact ⟨m + 1 + 1, by omega, by omega, by go_num, HX, below_dN hB nq⟩
     case measure => simp [intOf]; omega
   ·have HX : Hid (detA G = (true, 0)) := HD.out.trans (by rw [detB_t (fun m hm => hj.out m hm (by omega))])
    have hI : ¬ ((k : Int) < (G.es.length : Int)) := by omega
    go_wp2
    go_ret2
    exact ⟨ret_bi' HX.out, xr⟩
 ·have hrb : (r == 0) = false := by simpa using hr0
  have HD := hidI (detA_bad (G := G) (by rw [hr]; exact hr0))
  have HR := hidI hr
  clear hr hin hr0
  go_enter Tryz.func97, Tryz.ntmps97
  go_wp2_with fail
  refine (rCheck_r G p c _ r HR.out (HIN.out.below hB0) hl).mono ?_
  rintro e w1 ⟨rfl, hB1⟩
  go_wp2
  go_ret2
  exact ⟨ret_bi' HD.out, hB0.trans (hB1.mono hB0.size)⟩
end
section
open Go.RowKit Go.Sort Go.Shelf Go.Lib
section
variable {P : Program} {w : World}
theorem run_append_sg (base : Nat) (t ty e : TypeId) (i : TypeInfo) (z : Value) (ht : P.underlying t = some (.slice e)) (hi : P.info? e = some i) (hz : i.zero = some z) (hs : i.size = 3) (hby : i.bytes = 24) (hzs : z.cells.size = 3)
  (v : Value) (xs : List Ed) (n : Nat) (hown : w.ownsRow base e 3 v n (cat xs)) (p : Option Addr) (c : Nat) (l : List Ed) (m : Nat) (hm : l.length = m) (hl : Sg 3 w edE p l) (h63 : n + m ≤ 100000) (hbase : base ≤ w.heap.size) :
  ∃ v' w', (Builtin.append_ #[t, t] ty #[v, .slice p m c]).run P w = .ok v' w' ∧ w'.ownsRow base e 3 v' (n + m) (cat (xs ++ l)) ∧ w.grownBy w' v.ownBlock := by
 subst hm
 cases p with
 | none =>
  rcases hl with h0 | ⟨_, _, hp, _⟩
  ·subst h0
   refine ⟨v, w, ?_, by simpa using hown, World.grownBy.refl w _⟩
   rcases hown.2 with ⟨rfl, h0⟩ | ⟨g, cap, cur, rfl, _, _, hnc, _⟩
   ·simp [Builtin.append_, run_underlying ht, sizeOf, typeInfo, hi, Builtin.lenOf, Builtin.firstCells]
   ·simp [Builtin.append_, run_underlying ht, sizeOf, typeInfo, hi, Builtin.lenOf, Builtin.firstCells, hnc, storeCells]
  ·cases hp
 | some ad =>
  have hn : ∀ j u, (cat l)[j]? = some u → w.cell? (ad.add j) = some u := by
   rcases hl with h0 | ⟨b, off, hp, _, hc⟩
   ·subst h0; simp [cat]
   ·cases hp
    intro j u hu
    rw [show (⟨b, off, none⟩ : Addr).add j = ⟨b, off + j, none⟩ by unfold Addr.add; split <;> simp_all]; exact sg_cells hc j u hu
  obtain ⟨v', w', h1, h2, h3, _, _⟩ := run_append_own_at w base t ty e i z 3 24 ht hi hz hs hby hzs (by decide) v n _ hown ad l.length c (cat l) (cat_len l) hn (cat_one l) (by simp only [maxLen]; omega) (by omega) hbase
  exact ⟨v', w', h1, by rw [cat_app]; exact h2, h3⟩
theorem step_append_run {ops : Array Oper} {o : Oper} {a : Act} {K : Act → World → Prop} {Q : Exit → Act → World → Prop} {E : Prop} (hgd : o.guard = none) (s x : Operand) (t : TypeId)
  (ho : o.op = .call { callee := .builtin .append, args := #[s, x], argTypes := #[t, t] }) (sv xv : Value) (hs : a.eval s = sv) (hx : a.eval x = xv) (v' : Value) (w' : World)
  (hrun : (Builtin.append_ #[t, t] o.type #[sv, xv]).run P w = .ok v' w') (h : K (a.put o.dst v') w') : if Region.wanted o (yielded ops a.tmps) = true then Oper.wp P o a w K Q else E := by
 have hw : Region.wanted o (yielded ops a.tmps) = true := by simp [Region.wanted, hgd]
 rw [if_pos hw]
 unfold Oper.wp execOp
 simp only [ho, resolve, invoke, builtin, Sem.run_bind, Sem.run_pure, Result.andThen_ok, List.map_toArray, List.map_cons, List.map_nil, hs, hx, hrun]
 exact h
end
theorem step_append_sg {P : Program} {w : World} {ops : Array Oper} {o : Oper} {a : Act} {K : Act → World → Prop} {Q : Exit → Act → World → Prop} {E : Prop} (hgd : o.guard = none) (s x : Operand) (t : TypeId)
  (ho : o.op = .call { callee := .builtin .append, args := #[s, x], argTypes := #[t, t] }) (sv : Value) (p : Option Addr) (m c : Nat) (hs : a.eval s = sv) (hx : a.eval x = .slice p m c)
  (base : Nat) (e : TypeId) (i : TypeInfo) (z : Value) (ht : P.underlying t = some (.slice e)) (hi : P.info? e = some i) (hz : i.zero = some z) (hsz : i.size = 3) (hby : i.bytes = 24) (hzs : z.cells.size = 3)
  (xs : List Ed) (n : Nat) (l : List Ed) (hm : l.length = m) (h63 : n + m ≤ 100000) (hown : w.ownsRow base e 3 sv n (cat xs)) (hl : Sg 3 w edE p l) (hbase : base ≤ w.heap.size)
  (h : ∀ v' w', w'.ownsRow base e 3 v' (n + m) (cat (xs ++ l)) → w.grownBy w' sv.ownBlock → K (a.put o.dst v') w') : if Region.wanted o (yielded ops a.tmps) = true then Oper.wp P o a w K Q else E := by
 obtain ⟨v', w', h1, h2, h3⟩ := run_append_sg base t o.type e i z ht hi hz hsz hby hzs sv xs n hown p c l m hm hl h63 hbase
 exact step_append_run hgd s x t ho sv _ hs hx v' w' h1 (h v' w' h2 h3)
theorem own_conv {w : World} {B B' e n : Nat} {v : Value} {xs ys : List Ed} (h : w.ownsRow B e 3 v n (cat xs)) (he : ys = xs) (hB : B' ≤ B) : w.ownsRow B' e 3 v ys.length (cat ys) := by
 subst he
 have hn : ys.length = n := by have := h.1; rw [cat_len] at this; omega
 subst hn
 refine ⟨h.1, ?_⟩
 rcases h.2 with h | ⟨g, cap, cur, a, b, r⟩
 ·exact .inl h
 ·exact .inr ⟨g, cap, cur, a, Nat.le_trans hB b, r⟩
theorem heap_old1 (w : World) (o o' : Obj) : ((w.alloc o).alloc o').heap[w.heap.size]? = some o := (Below.heap_alloc _ o' _ (by simp)).trans (heap_alloc_new w o)
theorem drB (B : Nat) (w : World) : RowKit.Below B w w.drew := ⟨rfl, rfl, rfl, Nat.le_refl _, fun _ _ => rfl⟩
theorem keep3 {W W' : World} {b o0 o1 o2 : Nat} {v0 v1 v2 : Value} (hb : b < W.heap.size) (h0 : W.cell? ⟨b, o0, none⟩ = some v0) (h1 : W.cell? ⟨b, o1, none⟩ = some v1) (h2 : W.cell? ⟨b, o2, none⟩ = some v2) (h : RowKit.Below W.heap.size W W') :
  W'.cell? ⟨b, o0, none⟩ = some v0 ∧ W'.cell? ⟨b, o1, none⟩ = some v1 ∧ W'.cell? ⟨b, o2, none⟩ = some v2 ∧ RowKit.Below W.heap.size W W' :=
 ⟨(h.cell (p := ⟨b, o0, none⟩) hb).trans h0, (h.cell (p := ⟨b, o1, none⟩) hb).trans h1, (h.cell (p := ⟨b, o2, none⟩) hb).trans h2, h⟩
theorem heap_new1 (w : World) (o o' : Obj) : ((w.alloc o).alloc o').heap[w.heap.size + 1]? = some o' := by
 have := heap_alloc_new (w.alloc o) o'; rwa [World.size_alloc] at this
theorem Sg.take {w : World} {p : Option Addr} {l : List Ed} (h : Sg 3 w edE p l) (k : Nat) : Sg 3 w edE p (l.take k) := by
 rcases h with h | ⟨b, off, hp, hb, hc⟩
 ·subst h; exact .inl (by simp)
 ·exact .inr ⟨b, off, hp, hb, fun i hi j hj => by rw [List.getElem_take]; exact hc i (by rw [List.length_take] at hi; omega) j hj⟩
theorem Sg.drop {w : World} {b off : Nat} {l : List Ed} (h : Sg 3 w edE (some ⟨b, off, none⟩) l) (k : Nat) : Sg 3 w edE (some ⟨b, off + k * 3, none⟩) (l.drop k) := by
 rcases h with h | ⟨b', off', hp, hb, hc⟩
 ·subst h; exact .inl (by simp)
 ·cases hp
  refine .inr ⟨b, off + k * 3, rfl, hb, fun i hi j hj => ?_⟩
  rw [List.length_drop] at hi
  have := hc (k + i) (by omega) j hj
  rw [List.getElem_drop, ← this]
  congr 2
  rw [Nat.add_mul]; omega
theorem own_empty {W : World} {g B : Nat} {e : TypeId} (h : W.heap[g]? = some (.cells #[] e (0, 0))) (hB : B ≤ g) : W.ownsRow B e 3 (.slice (some ⟨g, 0, none⟩) 0 0) 0 (cat []) :=
 ⟨rfl, .inr ⟨g, 0, #[], rfl, hB, h, Nat.le_refl _, by simp, rfl, rfl⟩⟩
def posE (x : Ed) (l : List Ed) (k : Nat) : Prop := k ≤ l.length ∧ ∀ m (h : m < l.length), m < k → ltE l[m] x = true
theorem insE_at {x : Ed} : ∀ {l : List Ed} {k : Nat}, l.Pairwise (fun a b => ltE a b = true) → posE x l k → (∀ h : k < l.length, ltE l[k] x = false) → (∀ h : k < l.length, l[k] ≠ x) → insE x l = l.take k ++ x :: l.drop k
 | [], k, _, hp, _, _ => by have := hp.1; simp at this; subst this; rfl
 | y :: l, 0, _, _, h1, h2 => by
  have h1 := h1 (by simp); have h2 := h2 (by simp)
  simp only [List.getElem_cons_zero] at h1 h2
  unfold insE
  rw [if_pos]
  ·rfl
  ·cases hb : ltE x y
   ·exact absurd (ltE_total h1 hb) h2
   ·rfl
 | y :: l, k + 1, hs, hp, h1, h2 => by
  have hy := hp.2 0 (by simp) (by omega)
  simp only [List.getElem_cons_zero] at hy
  have ih := insE_at (x := x) (l := l) (k := k) (List.pairwise_cons.1 hs).2 ⟨by have := hp.1; simp at this; omega, fun m hm hk => by have := hp.2 (m + 1) (by simpa using hm) (by omega); simpa using this⟩
   (fun h => by have := h1 (by simpa using h); simpa using this) (fun h => by have := h2 (by simpa using h); simpa using this)
  unfold insE
  rw [if_neg (by rw [ltE_asymm hy]; decide), if_neg (fun e => by subst e; rw [ltE_irrefl] at hy; cases hy), ih]
  rfl
theorem insE_mem {x : Ed} {l : List Ed} (hs : l.Pairwise (fun a b => ltE a b = true)) (hm : x ∈ l) : insE x l = l :=
 norm_unique (insE_srt hs) hs (fun z => by rw [mem_insE]; exact ⟨fun h => h.elim (fun e => by subst e; exact hm) id, .inr⟩)
theorem norm_take_succ (l : List Ed) (k : Nat) (h : k < l.length) : norm (l.take (k + 1)) = insE l[k] (norm (l.take k)) := by
 rw [List.take_succ_eq_append_getElem h, norm_snoc]
theorem insE_len (x : Ed) : ∀ l : List Ed, (insE x l).length ≤ l.length + 1
 | [] => by simp [insE]
 | y :: l => by
  have := insE_len x l
  unfold insE; split
  ·simp
  ·split
   ·simp
   ·simp; omega
theorem norm_len (l : List Ed) : ∀ k, k ≤ l.length → (norm (l.take k)).length ≤ k := by
 intro k
 induction k with
 | zero => intro _; simp [norm]
 | succ k ih =>
  intro h
  rw [norm_take_succ l k (by omega)]
  have := insE_len l[k] (norm (l.take k)); have := ih (by omega); omega
set_option maxRecDepth 100000 in
set_option maxHeartbeats 4000000 in
theorem rSorted_any (l : List Ed) (p : Option Addr) (c : Nat) (w : World) (hin : Sg 3 w edE p l) (hl : l.length ≤ 10000) :
  Calls Tryz.prog 181 #[.slice p l.length c] w (RetOwnE (norm l) w) := by
 have HIN := hidI hin
 obtain ⟨i0, hi0, hz0, hz1, hz2⟩ := info_parts infoE
 clear hin
 go_enter Tryz.func181, Tryz.ntmps181
 go_wp2
 go_loopw [3, 4] (fun ov iv wr => ∃ k : Nat, k ≤ l.length ∧ iv = .int .i64 k ∧ wr.ownsRow w.heap.size 44 3 ov (norm (l.take k)).length (cat (norm (l.take k))) ∧ Below w.heap.size w wr) (fun _ iv _ => l.length - (intOf iv).toNat)
 case atStart => exact ⟨0, by omega, rfl, World.ownsRow_nil _ _ _ _, Below.refl _ _⟩
 case round =>
  obtain ⟨k, hk, rfl, hown, hB⟩ := hrel
  by_cases hlt : k < l.length
  ·have HNX := hidI (norm_take_succ l k hlt)
   have hNs := norm_srt (l.take k)
   have hNl := norm_len l k hk
   generalize norm (l.take k) = N at *
   obtain ⟨po, co, rfl, hso, hco, _⟩ := own_sg hown
   have HS := hidI hNs
   obtain ⟨b3, o3, rfl, _⟩ := HIN.out.get k hlt
   clear hNs
   go_upto_block 2 with fail
   go_cut [5] (fun s5 wx => ∃ j : Nat, s5 = .int .i64 j ∧ Hid (posE l[k] N j ∧ ∀ h : j < N.length, ltE N[j] l[k] = false) ∧ Below wr.heap.size wr wx)
   case first =>
    obtain ⟨wo, rfl⟩ : ∃ wo : World, wo = wr := ⟨_, rfl⟩
    go_wp2_with fail
    go_loopw [5] (fun s5 wx => ∃ j : Nat, s5 = .int .i64 j ∧ Hid (posE l[k] N j) ∧ Below wo.heap.size wo wx) (fun s5 _ => N.length - (intOf s5).toNat)
    case atStart => exact ⟨0, rfl, ⟨by omega, fun m _ h => by omega⟩, Below.refl _ _⟩
    case round =>
     obtain ⟨j, rfl, hp, hBx⟩ := hrel
     have hjN := hp.out.1
     by_cases hjl : j < N.length
     ·have hI : (j : Int) < (N.length : Int) := by omega
      have hI2 : (k : Int) < (l.length : Int) := by omega
      have HP : Hid (ltE N[j] l[k] = true → posE l[k] N (j + 1)) := fun h => ⟨by omega, fun m hm h1 => by
       by_cases e : m = j
       ·subst e; exact h
       ·exact hp.out.2 m hm (by omega)⟩
      have HC := hidI (cmpE_neg N[j] l[k])
      have hBy := hBx
      have hBy2 := hB.trans (hBx.mono hB.size)
      obtain ⟨b4, o4, hpo, _⟩ := hso.get j hjl
      subst hpo
      clear hBx
      go_wp2_with fail
      refine region_tail 13 (by kernel_rfl) (by kernel_rfl) fun W hD => ?_
      have hBW := hBy.trans (hD.below _)
      have hBW2 := hBy2.trans (hD.below _)
      obtain ⟨b5, o5, hx5, _, e0, e1, e2⟩ := (hso.below hBW).get3 j hjl rfl
      obtain ⟨b6, o6, hx6, _, e3, e4, e5⟩ := (HIN.out.below hBW2).get3 k hlt rfl
      cases hx5; cases hx6
      simp only [List.take_succ_cons, List.take_zero, List.drop_succ_cons, List.drop_zero]
      iterate 13 still_step
      refine wpStill_nil ?_
      go_wp2_with fail
      refine (rCompare_up N[j] l[k] _).mono ?_
      rintro e w1 ⟨rfl, hU1⟩
      have hB1 := hBW.trans (hU1.below.mono hBW.size)
      clear e0 e1 e2 e3 e4 e5
      by_cases hcs : cmpE N[j] l[k] < 0
      ·have HN := hidI (HP.out (by rw [← HC.out, decide_eq_true hcs]))
       go_wp2
       go_roundw
       case rel => exact ⟨j + 1, by go_num, HN, hB1⟩
       case measure => simp [intOf]; omega
      ·have HF : Hid (ltE N[j] l[k] = false) := by unfold Hid; rw [← HC.out, decide_eq_false hcs]
       have hcs' : 0 ≤ cmpE N[j] l[k] := by omega
       go_wp2_with fail
       go_meet
       exact ⟨j, rfl, ⟨hp.out, fun _ => HF.out⟩, hB1⟩
     ·have hd : decide ((j : Int) < (N.length : Int)) = false := decide_eq_false (by omega)
      have hd2 : decide (j < N.length) = false := decide_eq_false (by omega)
      go_wp2_with fail
      (refine wp_region_quiet_lit (by kernel_rfl) (by kernel_rfl) ?_; (repeat (first | go_big_quiet_step (fail) | quiet_step (fail))); refine wpQuiet_nil ?_; intro _ hwq; obtain ⟨nq, hwq2⟩ := hwq; subst hwq2)
      go_wp2_with fail
      go_meet
      exact ⟨j, rfl, ⟨hp.out, fun h => absurd h hjl⟩, below_dN hBx nq⟩
   case rest =>
    obtain ⟨j, rfl, hp, hBx⟩ := hcut
    have hjN := hp.out.1.1
    have hBw := hB.trans (hBx.mono hB.size)
    have hownc := hown.below hBx
    have hsoc := hso.below hBx
    obtain ⟨b6, o6, hx6, hb3, e3, e4, e5⟩ := (HIN.out.below hBw).get3 k hlt rfl
    cases hx6
    have hI2 : (k : Int) < (l.length : Int) := by omega
    by_cases hjl : j < N.length
    ·have hI : (j : Int) < (N.length : Int) := by omega
     obtain ⟨b4, o4, rfl, _, e0, e1, e2⟩ := hsoc.get3 j hjl rfl
     have hq := eqlE N[j] l[k]
     have hgd := guardE .eql
     by_cases heq : N[j] = l[k]
     ·rw [decide_eq_true heq] at hq
      have HX : Hid (norm (l.take (k + 1)) = N) := HNX.out.trans (insE_mem HS.out (by rw [← heq]; exact List.getElem_mem hjl))
      clear heq
      go_wp2_with fail
      (refine wp_region_quiet_lit (by kernel_rfl) (by kernel_rfl) ?_; (repeat (first | go_big_quiet_step (fail) | quiet_step (fail))); refine wpQuiet_nil ?_; intro _ hwq; obtain ⟨nq, hwq2⟩ := hwq; subst hwq2)
      clear e0 e1 e2 e3 e4 e5 hq hgd
      go_wp2
      go_roundw
      case rel => exact ⟨k + 1, by omega, by go_num, by rw [HX.out]; exact hownc, below_dN hBw nq⟩
      case measure => simp [intOf]; omega
     ·rw [decide_eq_false heq] at hq
      have HX : Hid (norm (l.take (k + 1)) = N.take j ++ l[k] :: N.drop j) := HNX.out.trans (insE_at HS.out hp.out.1 hp.out.2 (fun _ => heq))
      clear heq
      go_wp2_with fail
      (refine wp_region_quiet_lit (by kernel_rfl) (by kernel_rfl) ?_; (repeat (first | go_big_quiet_step (fail) | quiet_step (fail))); refine wpQuiet_nil ?_; intro _ hwq; obtain ⟨nq, hwq2⟩ := hwq; subst hwq2)
      clear e0 e1 e2 hq hgd
      go_wp2_with fail
      have hcj : ¬ co = j := by omega
      have hI3 : (j : Int) ≤ (co : Int) := by omega
      have hI4 : (N.length : Int) ≤ (co : Int) := by omega
      have hownq : (wc.drewN nq).ownsRow w.heap.size 44 3 (.slice (some ⟨b4, o4, none⟩) N.length co) N.length (cat N) := hownc
      have hsoq : Sg 3 (wc.drewN nq) edE (some ⟨b4, o4, none⟩) N := hsoc
      have hBq : Below w.heap.size w (wc.drewN nq) := below_dN hBw nq
      have HNL : Hid ((N.take j).length = j) := by unfold Hid; rw [List.length_take]; omega
      have HDL : Hid ((N.drop j).length = N.length - j) := by unfold Hid; simp
      have k0 : (wc.drewN nq).cell? ⟨b3, o3 + k * 3, none⟩ = some (.int .i64 l[k].f) := e3
      have k1 : (wc.drewN nq).cell? ⟨b3, o3 + k * 3 + 1, none⟩ = some (.int .i64 l[k].l) := e4
      have k2 : (wc.drewN nq).cell? ⟨b3, o3 + k * 3 + 2, none⟩ = some (.int .i64 l[k].t) := e5
      have hb3q : b3 < (wc.drewN nq).heap.size := hb3
      clear hownc hsoc hBx hBw e3 e4 e5
      generalize wc.drewN nq = wq at *
      go_region_held3 (fun w' => w'.cell? ⟨b3, o3 + k * 3, none⟩ = some (.int .i64 l[k].f) ∧ w'.cell? ⟨b3, o3 + k * 3 + 1, none⟩ = some (.int .i64 l[k].l) ∧ w'.cell? ⟨b3, o3 + k * 3 + 2, none⟩ = some (.int .i64 l[k].t) ∧ Below wq.heap.size wq w')
       ((go_split_ands; refine keep3 hb3q k0 k1 k2 ?_; first
        | assumption
        | exact drB _ _
        | exact RowKit.Below.grown (by assumption) hgC (RowKit.Below.size (by assumption)) (fun j0 e => (hoB.lt j0 e).1)
        | exact RowKit.Below.grown (by assumption) hgB (RowKit.Below.size (by assumption)) (fun j0 e => (hoA.lt j0 e).1)
        | exact RowKit.Below.grown (by assumption) hgA (RowKit.Below.size (by assumption)) (fun j0 e => by simp [Value.ownBlock] at e; omega)
        | exact RowKit.Below.alloc (by assumption) (RowKit.Below.size (by assumption)) _
        | exact RowKit.Below.trans (by assumption) (drB _ _)
        | fail))
       (first
        | (go_split_ands; refine step_append_sg (by rfl) _ _ _ (by rfl) (.slice (some ⟨_, 0, none⟩) 0 0) _ j _ (by rfl) (by rfl) wq.heap.size 44 i0 _ Tryz.underlying22 hi0 hz0 hz1 hz2 rfl [] 0 (N.take j) HNL.out (by omega) (own_empty (by first | exact heap_alloc_new wq _ | exact heap_new1 wq _ _ | exact heap_old1 wq _ _) (by omega)) ((hsoq.below (by assumption)).take j) (RowKit.Below.size (by assumption)) ?_; intro vA wA hoA hgA)
        | (go_split_ands; refine step_append_sg (by rfl) _ _ _ (by rfl) vA (some ⟨_, 0, none⟩) 1 1 (by rfl) (by rfl) wq.heap.size 44 i0 _ Tryz.underlying22 hi0 hz0 hz1 hz2 rfl ([] ++ N.take j) (0 + j) [l[k]] rfl (by omega) (by first | exact hoA | exact hoA.alloc _) (by first | exact Sg.of_row (l := [l[k]]) (VRow.new wA 44 _) | exact Sg.of_row (l := [l[k]]) ((VRow.new1 wq _ 44 (cat [l[k]])).grown hgA (by simp [Value.ownBlock])) | exact Sg.of_row (l := [l[k]]) (((VRow.new wq 44 (cat [l[k]])).alloc _).grown hgA (by simp [Value.ownBlock])) | exact Sg.of_row (l := [l[k]]) (((VRow.new1 wq _ 44 (cat [l[k]])).dr ⟨1, rfl⟩).grown hgA (by simp [Value.ownBlock])) | exact Sg.of_row (l := [l[k]]) ((((VRow.new wq 44 (cat [l[k]])).alloc _).dr ⟨1, rfl⟩).grown hgA (by simp [Value.ownBlock]))) (RowKit.Below.size (by assumption)) ?_; intro vB wB hoB hgB)
        | (go_split_ands; refine step_append_sg (by rfl) _ _ _ (by rfl) vB _ _ _ (by rfl) (by rfl) wq.heap.size 44 i0 _ Tryz.underlying22 hi0 hz0 hz1 hz2 rfl ([] ++ N.take j ++ [l[k]]) (0 + j + 1) (N.drop j) (by first | exact HDL.out | simp) (by omega) hoB (by first | exact ((hsoq.below (by assumption)).drop j) | exact .inl (by simp)) (RowKit.Below.size (by assumption)) ?_; intro vC wC hoC hgC)
        | fail)
      all_goals
       go_split_ands
       have hBC : RowKit.Below wq.heap.size wq wC := by assumption
       have hfin := own_conv (ys := norm (l.take (k + 1))) hoC (by rw [HX.out]; simp) hBq.size
       have hBf := hBq.trans (hBC.mono hBq.size)
       clear hoA hgA hoB hgB hoC hgC hBC
       go_wp2
       go_roundw
       case rel => exact ⟨k + 1, by omega, by go_num, hfin, hBf⟩
       case measure => simp [intOf]; omega
    ·rcases own_forms hownc with ⟨he, hN0⟩ | ⟨g4, c4, he⟩
     ·obtain rfl : N = [] := List.length_eq_zero_iff.1 hN0
      obtain rfl : j = 0 := by simpa using hjN
      simp only [List.length_nil, Value.slice.injEq, true_and] at he
      obtain ⟨rfl, rfl⟩ := he
      have HX : Hid (norm (l.take (k + 1)) = ([] : List Ed).take 0 ++ l[k] :: ([] : List Ed).drop 0) := HNX.out.trans (insE_at HS.out hp.out.1 hp.out.2 (fun h => absurd h hjl))
      go_wp2_with fail
      (refine wp_region_quiet_lit (by kernel_rfl) (by kernel_rfl) ?_; (repeat (first | go_big_quiet_step (fail) | quiet_step (fail))); refine wpQuiet_nil ?_; intro _ hwq; obtain ⟨nq, hwq2⟩ := hwq; subst hwq2)
      go_wp2_with fail
      have hownq : (wc.drewN nq).ownsRow w.heap.size 44 3 (.slice none 0 0) 0 (cat ([] : List Ed)) := hownc
      have hsoq : Sg 3 (wc.drewN nq) edE none ([] : List Ed) := hsoc
      have hBq : Below w.heap.size w (wc.drewN nq) := below_dN hBw nq
      have HNL : Hid ((([] : List Ed).take 0).length = 0) := by unfold Hid; rw [List.length_take]; omega
      have HDL : Hid ((([] : List Ed).drop 0).length = 0 - 0) := by unfold Hid; simp
      have k0 : (wc.drewN nq).cell? ⟨b3, o3 + k * 3, none⟩ = some (.int .i64 l[k].f) := e3
      have k1 : (wc.drewN nq).cell? ⟨b3, o3 + k * 3 + 1, none⟩ = some (.int .i64 l[k].l) := e4
      have k2 : (wc.drewN nq).cell? ⟨b3, o3 + k * 3 + 2, none⟩ = some (.int .i64 l[k].t) := e5
      have hb3q : b3 < (wc.drewN nq).heap.size := hb3
      clear hownc hsoc hBx hBw e3 e4 e5
      generalize wc.drewN nq = wq at *
      go_region_held3 (fun w' => w'.cell? ⟨b3, o3 + k * 3, none⟩ = some (.int .i64 l[k].f) ∧ w'.cell? ⟨b3, o3 + k * 3 + 1, none⟩ = some (.int .i64 l[k].l) ∧ w'.cell? ⟨b3, o3 + k * 3 + 2, none⟩ = some (.int .i64 l[k].t) ∧ Below wq.heap.size wq w')
       ((go_split_ands; refine keep3 hb3q k0 k1 k2 ?_; first
        | assumption
        | exact drB _ _
        | exact RowKit.Below.grown (by assumption) hgC (RowKit.Below.size (by assumption)) (fun j0 e => (hoB.lt j0 e).1)
        | exact RowKit.Below.grown (by assumption) hgB (RowKit.Below.size (by assumption)) (fun j0 e => (hoA.lt j0 e).1)
        | exact RowKit.Below.grown (by assumption) hgA (RowKit.Below.size (by assumption)) (fun j0 e => by simp [Value.ownBlock] at e; omega)
        | exact RowKit.Below.alloc (by assumption) (RowKit.Below.size (by assumption)) _
        | exact RowKit.Below.trans (by assumption) (drB _ _)
        | fail))
       (first
        | (go_split_ands; refine step_append_sg (by rfl) _ _ _ (by rfl) (.slice (some ⟨_, 0, none⟩) 0 0) _ 0 _ (by rfl) (by rfl) wq.heap.size 44 i0 _ Tryz.underlying22 hi0 hz0 hz1 hz2 rfl [] 0 (([] : List Ed).take 0) HNL.out (by omega) (own_empty (by first | exact heap_alloc_new wq _ | exact heap_new1 wq _ _ | exact heap_old1 wq _ _) (by omega)) ((hsoq.below (by assumption)).take 0) (RowKit.Below.size (by assumption)) ?_; intro vA wA hoA hgA)
        | (go_split_ands; refine step_append_sg (by rfl) _ _ _ (by rfl) vA (some ⟨_, 0, none⟩) 1 1 (by rfl) (by rfl) wq.heap.size 44 i0 _ Tryz.underlying22 hi0 hz0 hz1 hz2 rfl ([] ++ ([] : List Ed).take 0) (0 + 0) [l[k]] rfl (by omega) (by first | exact hoA | exact hoA.alloc _) (by first | exact Sg.of_row (l := [l[k]]) (VRow.new wA 44 _) | exact Sg.of_row (l := [l[k]]) ((VRow.new1 wq _ 44 (cat [l[k]])).grown hgA (by simp [Value.ownBlock])) | exact Sg.of_row (l := [l[k]]) (((VRow.new wq 44 (cat [l[k]])).alloc _).grown hgA (by simp [Value.ownBlock])) | exact Sg.of_row (l := [l[k]]) (((VRow.new1 wq _ 44 (cat [l[k]])).dr ⟨1, rfl⟩).grown hgA (by simp [Value.ownBlock])) | exact Sg.of_row (l := [l[k]]) ((((VRow.new wq 44 (cat [l[k]])).alloc _).dr ⟨1, rfl⟩).grown hgA (by simp [Value.ownBlock]))) (RowKit.Below.size (by assumption)) ?_; intro vB wB hoB hgB)
        | (go_split_ands; refine step_append_sg (by rfl) _ _ _ (by rfl) vB _ _ _ (by rfl) (by rfl) wq.heap.size 44 i0 _ Tryz.underlying22 hi0 hz0 hz1 hz2 rfl ([] ++ ([] : List Ed).take 0 ++ [l[k]]) (0 + 0 + 1) (([] : List Ed).drop 0) (by first | exact HDL.out | simp) (by omega) hoB (by first | exact ((hsoq.below (by assumption)).drop 0) | exact .inl (by simp)) (RowKit.Below.size (by assumption)) ?_; intro vC wC hoC hgC)
        | fail)
      all_goals
       go_split_ands
       have hBC : RowKit.Below wq.heap.size wq wC := by assumption
       have hfin := own_conv (ys := norm (l.take (k + 1))) hoC (by rw [HX.out]; simp) hBq.size
       have hBf := hBq.trans (hBC.mono hBq.size)
       clear hoA hgA hoB hgB hoC hgC hBC
       go_wp2
       go_roundw
       case rel => exact ⟨k + 1, by omega, by go_num, hfin, hBf⟩
       case measure => simp [intOf]; omega
     ·obtain rfl : j = N.length := by omega
      have HX : Hid (norm (l.take (k + 1)) = N.take N.length ++ l[k] :: N.drop N.length) := HNX.out.trans (insE_at HS.out hp.out.1 hp.out.2 (fun h => absurd h hjl))
      have hd : decide ((N.length : Int) < (N.length : Int)) = false := decide_eq_false (by omega)
      have hd2 : decide (N.length < N.length) = false := decide_eq_false (by omega)
      cases he
      by_cases hcj : co = N.length
      ·subst hcj
       go_wp2_with fail
       (refine wp_region_quiet_lit (by kernel_rfl) (by kernel_rfl) ?_; (repeat (first | go_big_quiet_step (fail) | quiet_step (fail))); refine wpQuiet_nil ?_; intro _ hwq; obtain ⟨nq, hwq2⟩ := hwq; subst hwq2)
       go_wp2_with fail
       have hownq : (wc.drewN nq).ownsRow w.heap.size 44 3 (.slice (some ⟨g4, 0, none⟩) N.length N.length) N.length (cat N) := hownc
       have hsoq : Sg 3 (wc.drewN nq) edE (some ⟨g4, 0, none⟩) N := hsoc
       have hBq : Below w.heap.size w (wc.drewN nq) := below_dN hBw nq
       have HNL : Hid ((N.take N.length).length = N.length) := by unfold Hid; rw [List.length_take]; omega
       have HDL : Hid ((N.drop N.length).length = N.length - N.length) := by unfold Hid; simp
       have k0 : (wc.drewN nq).cell? ⟨b3, o3 + k * 3, none⟩ = some (.int .i64 l[k].f) := e3
       have k1 : (wc.drewN nq).cell? ⟨b3, o3 + k * 3 + 1, none⟩ = some (.int .i64 l[k].l) := e4
       have k2 : (wc.drewN nq).cell? ⟨b3, o3 + k * 3 + 2, none⟩ = some (.int .i64 l[k].t) := e5
       have hb3q : b3 < (wc.drewN nq).heap.size := hb3
       clear hownc hsoc hBx hBw e3 e4 e5
       generalize wc.drewN nq = wq at *
       go_region_held3 (fun w' => w'.cell? ⟨b3, o3 + k * 3, none⟩ = some (.int .i64 l[k].f) ∧ w'.cell? ⟨b3, o3 + k * 3 + 1, none⟩ = some (.int .i64 l[k].l) ∧ w'.cell? ⟨b3, o3 + k * 3 + 2, none⟩ = some (.int .i64 l[k].t) ∧ Below wq.heap.size wq w')
        ((go_split_ands; refine keep3 hb3q k0 k1 k2 ?_; first
         | assumption
         | exact drB _ _
         | exact RowKit.Below.grown (by assumption) hgC (RowKit.Below.size (by assumption)) (fun j0 e => (hoB.lt j0 e).1)
         | exact RowKit.Below.grown (by assumption) hgB (RowKit.Below.size (by assumption)) (fun j0 e => (hoA.lt j0 e).1)
         | exact RowKit.Below.grown (by assumption) hgA (RowKit.Below.size (by assumption)) (fun j0 e => by simp [Value.ownBlock] at e; omega)
         | exact RowKit.Below.alloc (by assumption) (RowKit.Below.size (by assumption)) _
         | exact RowKit.Below.trans (by assumption) (drB _ _)
         | fail))
        (first
         | (go_split_ands; refine step_append_sg (by rfl) _ _ _ (by rfl) (.slice (some ⟨_, 0, none⟩) 0 0) _ N.length _ (by rfl) (by rfl) wq.heap.size 44 i0 _ Tryz.underlying22 hi0 hz0 hz1 hz2 rfl [] 0 (N.take N.length) HNL.out (by omega) (own_empty (by first | exact heap_alloc_new wq _ | exact heap_new1 wq _ _ | exact heap_old1 wq _ _) (by omega)) ((hsoq.below (by assumption)).take N.length) (RowKit.Below.size (by assumption)) ?_; intro vA wA hoA hgA)
         | (go_split_ands; refine step_append_sg (by rfl) _ _ _ (by rfl) vA (some ⟨_, 0, none⟩) 1 1 (by rfl) (by rfl) wq.heap.size 44 i0 _ Tryz.underlying22 hi0 hz0 hz1 hz2 rfl ([] ++ N.take N.length) (0 + N.length) [l[k]] rfl (by omega) (by first | exact hoA | exact hoA.alloc _) (by first | exact Sg.of_row (l := [l[k]]) (VRow.new wA 44 _) | exact Sg.of_row (l := [l[k]]) ((VRow.new1 wq _ 44 (cat [l[k]])).grown hgA (by simp [Value.ownBlock])) | exact Sg.of_row (l := [l[k]]) (((VRow.new wq 44 (cat [l[k]])).alloc _).grown hgA (by simp [Value.ownBlock])) | exact Sg.of_row (l := [l[k]]) (((VRow.new1 wq _ 44 (cat [l[k]])).dr ⟨1, rfl⟩).grown hgA (by simp [Value.ownBlock])) | exact Sg.of_row (l := [l[k]]) ((((VRow.new wq 44 (cat [l[k]])).alloc _).dr ⟨1, rfl⟩).grown hgA (by simp [Value.ownBlock]))) (RowKit.Below.size (by assumption)) ?_; intro vB wB hoB hgB)
         | (go_split_ands; refine step_append_sg (by rfl) _ _ _ (by rfl) vB _ _ _ (by rfl) (by rfl) wq.heap.size 44 i0 _ Tryz.underlying22 hi0 hz0 hz1 hz2 rfl ([] ++ N.take N.length ++ [l[k]]) (0 + N.length + 1) (N.drop N.length) (by first | exact HDL.out | simp) (by omega) hoB (by first | exact ((hsoq.below (by assumption)).drop N.length) | exact .inl (by simp)) (RowKit.Below.size (by assumption)) ?_; intro vC wC hoC hgC)
         | fail)
       all_goals
        go_split_ands
        have hBC : RowKit.Below wq.heap.size wq wC := by assumption
        have hfin := own_conv (ys := norm (l.take (k + 1))) hoC (by rw [HX.out]; simp) hBq.size
        have hBf := hBq.trans (hBC.mono hBq.size)
        clear hoA hgA hoB hgB hoC hgC hBC
        go_wp2
        go_roundw
        case rel => exact ⟨k + 1, by omega, by go_num, hfin, hBf⟩
        case measure => simp [intOf]; omega
      ·have hI4 : (N.length : Int) ≤ (co : Int) := by omega
       go_wp2_with fail
       (refine wp_region_quiet_lit (by kernel_rfl) (by kernel_rfl) ?_; (repeat (first | go_big_quiet_step (fail) | quiet_step (fail))); refine wpQuiet_nil ?_; intro _ hwq; obtain ⟨nq, hwq2⟩ := hwq; subst hwq2)
       go_wp2_with fail
       have hownq : (wc.drewN nq).ownsRow w.heap.size 44 3 (.slice (some ⟨g4, 0, none⟩) N.length co) N.length (cat N) := hownc
       have hsoq : Sg 3 (wc.drewN nq) edE (some ⟨g4, 0, none⟩) N := hsoc
       have hBq : Below w.heap.size w (wc.drewN nq) := below_dN hBw nq
       have HNL : Hid ((N.take N.length).length = N.length) := by unfold Hid; rw [List.length_take]; omega
       have HDL : Hid ((N.drop N.length).length = N.length - N.length) := by unfold Hid; simp
       have k0 : (wc.drewN nq).cell? ⟨b3, o3 + k * 3, none⟩ = some (.int .i64 l[k].f) := e3
       have k1 : (wc.drewN nq).cell? ⟨b3, o3 + k * 3 + 1, none⟩ = some (.int .i64 l[k].l) := e4
       have k2 : (wc.drewN nq).cell? ⟨b3, o3 + k * 3 + 2, none⟩ = some (.int .i64 l[k].t) := e5
       have hb3q : b3 < (wc.drewN nq).heap.size := hb3
       clear hownc hsoc hBx hBw e3 e4 e5
       generalize wc.drewN nq = wq at *
       go_region_held3 (fun w' => w'.cell? ⟨b3, o3 + k * 3, none⟩ = some (.int .i64 l[k].f) ∧ w'.cell? ⟨b3, o3 + k * 3 + 1, none⟩ = some (.int .i64 l[k].l) ∧ w'.cell? ⟨b3, o3 + k * 3 + 2, none⟩ = some (.int .i64 l[k].t) ∧ Below wq.heap.size wq w')
        ((go_split_ands; refine keep3 hb3q k0 k1 k2 ?_; first
         | assumption
         | exact drB _ _
         | exact RowKit.Below.grown (by assumption) hgC (RowKit.Below.size (by assumption)) (fun j0 e => (hoB.lt j0 e).1)
         | exact RowKit.Below.grown (by assumption) hgB (RowKit.Below.size (by assumption)) (fun j0 e => (hoA.lt j0 e).1)
         | exact RowKit.Below.grown (by assumption) hgA (RowKit.Below.size (by assumption)) (fun j0 e => by simp [Value.ownBlock] at e; omega)
         | exact RowKit.Below.alloc (by assumption) (RowKit.Below.size (by assumption)) _
         | exact RowKit.Below.trans (by assumption) (drB _ _)
         | fail))
        (first
         | (go_split_ands; refine step_append_sg (by rfl) _ _ _ (by rfl) (.slice (some ⟨_, 0, none⟩) 0 0) _ N.length _ (by rfl) (by rfl) wq.heap.size 44 i0 _ Tryz.underlying22 hi0 hz0 hz1 hz2 rfl [] 0 (N.take N.length) HNL.out (by omega) (own_empty (by first | exact heap_alloc_new wq _ | exact heap_new1 wq _ _ | exact heap_old1 wq _ _) (by omega)) ((hsoq.below (by assumption)).take N.length) (RowKit.Below.size (by assumption)) ?_; intro vA wA hoA hgA)
         | (go_split_ands; refine step_append_sg (by rfl) _ _ _ (by rfl) vA (some ⟨_, 0, none⟩) 1 1 (by rfl) (by rfl) wq.heap.size 44 i0 _ Tryz.underlying22 hi0 hz0 hz1 hz2 rfl ([] ++ N.take N.length) (0 + N.length) [l[k]] rfl (by omega) (by first | exact hoA | exact hoA.alloc _) (by first | exact Sg.of_row (l := [l[k]]) (VRow.new wA 44 _) | exact Sg.of_row (l := [l[k]]) ((VRow.new1 wq _ 44 (cat [l[k]])).grown hgA (by simp [Value.ownBlock])) | exact Sg.of_row (l := [l[k]]) (((VRow.new wq 44 (cat [l[k]])).alloc _).grown hgA (by simp [Value.ownBlock])) | exact Sg.of_row (l := [l[k]]) (((VRow.new1 wq _ 44 (cat [l[k]])).dr ⟨1, rfl⟩).grown hgA (by simp [Value.ownBlock])) | exact Sg.of_row (l := [l[k]]) ((((VRow.new wq 44 (cat [l[k]])).alloc _).dr ⟨1, rfl⟩).grown hgA (by simp [Value.ownBlock]))) (RowKit.Below.size (by assumption)) ?_; intro vB wB hoB hgB)
         | (go_split_ands; refine step_append_sg (by rfl) _ _ _ (by rfl) vB _ _ _ (by rfl) (by rfl) wq.heap.size 44 i0 _ Tryz.underlying22 hi0 hz0 hz1 hz2 rfl ([] ++ N.take N.length ++ [l[k]]) (0 + N.length + 1) (N.drop N.length) (by first | exact HDL.out | simp) (by omega) hoB (by first | exact ((hsoq.below (by assumption)).drop N.length) | exact .inl (by simp)) (RowKit.Below.size (by assumption)) ?_; intro vC wC hoC hgC)
         | fail)
       all_goals
        go_split_ands
        have hBC : RowKit.Below wq.heap.size wq wC := by assumption
        have hfin := own_conv (ys := norm (l.take (k + 1))) hoC (by rw [HX.out]; simp) hBq.size
        have hBf := hBq.trans (hBC.mono hBq.size)
        clear hoA hgA hoB hgB hoC hgC hBC
        go_wp2
        go_roundw
        case rel => exact ⟨k + 1, by omega, by go_num, hfin, hBf⟩
        case measure => simp [intOf]; omega
  ·obtain rfl : k = l.length := by omega
   rw [List.take_length] at hown
   go_wp2
   go_ret
   exact ⟨_, rfl, hown, hB⟩
end
section
open Go.RowKit Go.Sort Go.Shelf Go.Lib
set_option maxRecDepth 100000 in
set_option maxHeartbeats 1000000 in
theorem rMake_any (q n : Int) (l : List Ed) (p : Option Addr) (c : Nat) (w : World) (hin : Sg 3 w edE p l) (hl : l.length ≤ 10000) :
  Calls Tryz.prog 133 #[.int .i64 q, .int .i64 n, .slice p l.length c] w (RetGr (makeA q n l).1 (makeA q n l).2 w) := by
 have hB0 : Below w.heap.size w (w.alloc (.cells #[.int .i64 0, .int .i64 0, .slice none 0 0] 24)) := (Below.refl _ _).alloc (Nat.le_refl _) _
 have b0 : VRow (w.alloc (.cells #[.int .i64 0, .int .i64 0, .slice none 0 0] 24)) w.heap.size 24 [.int .i64 0, .int .i64 0, .slice none 0 0] := VRow.new w _ _
 go_enter Tryz.func133, Tryz.ntmps133
 go_wp2_with fail
 refine (rSorted_any l p c _ (hin.below hB0) hl).mono ?_
 rintro e w4 ⟨v4, rfl, hown4, hB4⟩
 have hz0 : w.heap.size < (w.alloc (.cells #[.int .i64 0, .int .i64 0, .slice none 0 0] 24)).heap.size := b0.lt
 have x4 := hB0.trans (hB4.mono hB0.size)
 have b4 := b0.below hB4 b0.lt
 clear hB4 hB0 b0
 generalize (w.alloc (.cells #[.int .i64 0, .int .i64 0, .slice none 0 0] 24)).heap.size = B at *
 obtain ⟨p4, c4, rfl, hs4, hc4, _⟩ := own_sg hown4
 have f0 := b4.at 0 rfl; have f1 := b4.at 1 rfl; have f2 := b4.at 2 rfl
 have hfz := fun j => b4.frozen j
 have hz4 := b4.lt
 have hw5 : Sg 3 (w4.alloc (.cells #[.int .i64 (⟨q, n, norm l⟩ : Gr).q, .int .i64 (⟨q, n, norm l⟩ : Gr).n, .slice p4 (⟨q, n, norm l⟩ : Gr).es.length c4] 24)) edE p4 (norm l) := hs4.below ((Below.refl _ _).alloc (Nat.le_refl _) _)
 have hln : (norm l).length ≤ 100000 := by
  have := norm_len l l.length (Nat.le_refl _); rw [List.take_length] at this; omega
 obtain ⟨r, hr⟩ : ∃ r, chkG ⟨q, n, norm l⟩ = r := ⟨_, rfl⟩
 have b4' : VRow (w4.alloc (.cells #[.int .i64 (⟨q, n, norm l⟩ : Gr).q, .int .i64 (⟨q, n, norm l⟩ : Gr).n, .slice p4 (⟨q, n, norm l⟩ : Gr).es.length c4] 24)) w.heap.size 24 [.int .i64 0, .int .i64 0, .slice none 0 0] := b4.alloc _
 have c4' : VRow (w4.alloc (.cells #[.int .i64 (⟨q, n, norm l⟩ : Gr).q, .int .i64 (⟨q, n, norm l⟩ : Gr).n, .slice p4 (⟨q, n, norm l⟩ : Gr).es.length c4] 24)) w4.heap.size 24 [.int .i64 (⟨q, n, norm l⟩ : Gr).q, .int .i64 (⟨q, n, norm l⟩ : Gr).n, .slice p4 (⟨q, n, norm l⟩ : Gr).es.length c4] := VRow.new w4 _ _
 have x4' := x4.alloc x4.size (.cells #[.int .i64 (⟨q, n, norm l⟩ : Gr).q, .int .i64 (⟨q, n, norm l⟩ : Gr).n, .slice p4 (⟨q, n, norm l⟩ : Gr).es.length c4] 24)
 have hL : Hid ((norm l).length ≤ c4) := hc4
 by_cases hr0 : r = 0
 ·subst hr0
  have HR := hidI (makeA_ok hr)
  go_wp2_with fail
  refine (rCheck_r ⟨q, n, norm l⟩ p4 c4 _ 0 hr hw5 (by show (norm l).length ≤ _; omega)).mono ?_
  rintro e w5 ⟨rfl, hB5⟩
  have x5 := x4'.trans (hB5.mono x4'.size)
  have b5 := b4'.below hB5 b4'.lt
  have c5 := c4'.below hB5 c4'.lt
  have o5 := (hown4.alloc (.cells #[.int .i64 (⟨q, n, norm l⟩ : Gr).q, .int .i64 (⟨q, n, norm l⟩ : Gr).n, .slice p4 (⟨q, n, norm l⟩ : Gr).es.length c4] 24)).below hB5
  have g0 := c5.at 0 rfl; have g1 := c5.at 1 rfl; have g2 := c5.at 2 rfl
  have k0 := b5.at 0 rfl; have k1 := b5.at 1 rfl; have k2 := b5.at 2 rfl
  have z0 := b5.frozen 0; have z1 := b5.frozen 1; have z2 := b5.frozen 2
  clear f0 f1 f2 hfz hr
  go_wp2
  have r6 := VRow.set (i := 2) (.slice p4 (norm l).length c4) (VRow.set (i := 1) (.int .i64 n) (VRow.set (i := 0) (.int .i64 q) b5))
  have y0 := r6.at 0 rfl; have y1 := r6.at 1 rfl; have y2 := r6.at 2 rfl
  have o6 := ownsRow_setCell_below (a := ⟨w.heap.size, 2, none⟩) (ownsRow_setCell_below (a := ⟨w.heap.size, 1, none⟩) (ownsRow_setCell_below (a := ⟨w.heap.size, 0, none⟩) o5 hz0 (.int .i64 q)) hz0 (.int .i64 n)) hz0 (.slice p4 (norm l).length c4)
  have x6 : Below w.heap.size w (((w5.setCell ⟨w.heap.size, 0, none⟩ (.int .i64 q)).setCell ⟨w.heap.size, 1, none⟩ (.int .i64 n)).setCell ⟨w.heap.size, 2, none⟩ (.slice p4 (norm l).length c4)) := ((x5.setCell (Nat.le_refl _) _).setCell (Nat.le_refl _) _).setCell (Nat.le_refl _) _
  refine bodyPost_ret (v := .tuple #[.agg #[.int .i64 q, .int .i64 n, .slice p4 (norm l).length c4], .int .i64 0]) (by simp [results, Tryz.results133, go_sem, y0, y1, y2]) rfl ?_
  obtain ⟨p6, c6, hv, hs6, _, _⟩ := own_sg o6
  cases hv
  exact RetGr.of HR.out hs6 hL.out x6
 ·have hrb : (r == 0) = false := by simpa using hr0
  have HR := hidI (makeA_bad (by rw [hr]; exact hr0))
  rw [hr] at HR
  go_wp2_with fail
  refine (rCheck_r ⟨q, n, norm l⟩ p4 c4 _ r hr hw5 (by show (norm l).length ≤ _; omega)).mono ?_
  rintro e w5 ⟨rfl, hB5⟩
  have x5 := x4'.trans (hB5.mono x4'.size)
  have b5 := b4'.below hB5 b4'.lt
  have o5 := (hown4.alloc (.cells #[.int .i64 (⟨q, n, norm l⟩ : Gr).q, .int .i64 (⟨q, n, norm l⟩ : Gr).n, .slice p4 (⟨q, n, norm l⟩ : Gr).es.length c4] 24)).below hB5
  have k0 := b5.at 0 rfl; have k1 := b5.at 1 rfl; have k2 := b5.at 2 rfl
  have z0 := b5.frozen 0; have z1 := b5.frozen 1; have z2 := b5.frozen 2
  clear f0 f1 f2 hfz hr
  go_wp2
  have r6 := VRow.set (i := 2) (.slice none 0 0) (VRow.set (i := 1) (.int .i64 0) (VRow.set (i := 0) (.int .i64 0) b5))
  have y0 := r6.at 0 rfl; have y1 := r6.at 1 rfl; have y2 := r6.at 2 rfl
  have o6 := ownsRow_setCell_below (a := ⟨w.heap.size, 2, none⟩) (ownsRow_setCell_below (a := ⟨w.heap.size, 1, none⟩) (ownsRow_setCell_below (a := ⟨w.heap.size, 0, none⟩) o5 hz0 (.int .i64 0)) hz0 (.int .i64 0)) hz0 (.slice none 0 0)
  have x6 : Below w.heap.size w (((w5.setCell ⟨w.heap.size, 0, none⟩ (.int .i64 0)).setCell ⟨w.heap.size, 1, none⟩ (.int .i64 0)).setCell ⟨w.heap.size, 2, none⟩ (.slice none 0 0)) := ((x5.setCell (Nat.le_refl _) _).setCell (Nat.le_refl _) _).setCell (Nat.le_refl _) _
  refine bodyPost_ret (v := .tuple #[.agg #[.int .i64 0, .int .i64 0, .slice none 0 0], .int .i64 r]) (by simp [results, Tryz.results133, go_sem, y0, y1, y2]) rfl ?_
  exact RetGr.of (G' := ⟨0, 0, []⟩) HR.out (Sg.nil _ _ _ _) (by simp) x6
end
section
open Go.RowKit
def leP : Option Int → Int → Bool
 | some q, s => decide (s ≤ q)
 | none, _ => false
def chkS (n : Int) (p : Option Int) : List Int → Int
 | [] => 0
 | s :: l => if s < 0 ∨ n ≤ s then 25 else if leP p s = true then 10 else chkS n (some s) l
theorem chkS_cons (n : Int) (p : Option Int) (s : Int) (l : List Int) : chkS n p (s :: l) = if s < 0 ∨ n ≤ s then 25 else if leP p s = true then 10 else chkS n (some s) l := by rw [chkS]
def pvS (l : List Int) (k : Nat) : Option Int := if k = 0 then none else l[k - 1]?
theorem chkS_at {n : Int} {l : List Int} {k : Nat} (hk : k < l.length) : chkS n (pvS l k) (l.drop k) = if l[k] < 0 ∨ n ≤ l[k] then 25 else if leP (pvS l k) l[k] = true then 10 else chkS n (pvS l (k + 1)) (l.drop (k + 1)) := by
 rw [List.drop_eq_getElem_cons hk, show pvS l (k + 1) = some l[k] by simp [pvS, hk]]
 exact chkS_cons ..
theorem chkS_end {n : Int} {l : List Int} {k : Nat} (hk : ¬ k < l.length) : chkS n (pvS l k) (l.drop k) = 0 := by
 rw [List.drop_eq_nil_of_le (by omega)]; rfl
theorem chkS_ok {n : Int} : ∀ {l : List Int} {p : Option Int}, chkS n p l = 0 → l.Pairwise (· < ·) ∧ (∀ x ∈ l, 0 ≤ x ∧ x < n) ∧ (∀ q, p = some q → ∀ x ∈ l, q < x)
 | [], _, _ => by simp
 | s :: l, p, h => by
  rw [chkS_cons] at h
  by_cases h1 : s < 0 ∨ n ≤ s
  ·rw [if_pos h1] at h; omega
  ·rw [if_neg h1] at h
   by_cases h2 : leP p s = true
   ·rw [if_pos h2] at h; omega
   ·rw [if_neg h2] at h
    obtain ⟨a, b, c⟩ := chkS_ok h
    have c := c s rfl
    refine ⟨List.pairwise_cons.2 ⟨c, a⟩, ?_, ?_⟩
    ·intro x hx
     rcases List.mem_cons.1 hx with e | hx
     ·subst e; omega
     ·exact b x hx
    ·intro q hq x hx
     subst hq
     have : ¬ s ≤ q := by simpa [leP] using h2
     rcases List.mem_cons.1 hx with e | hx
     ·subst e; omega
     ·have := c x hx; omega
def idxI (n : Int) (l : List Int) : Int := if n ∈ l then ((l.idxOf n : Nat) : Int) else -1
theorem idxI_hit {n : Int} {l : List Int} {k : Nat} (hk : k < l.length) (he : l[k] = n) (hb : ∀ j (h : j < l.length), j < k → l[j] ≠ n) : idxI n l = k := by
 unfold idxI
 rw [if_pos (by rw [← he]; exact List.getElem_mem _)]
 congr 1
 induction l generalizing k with
 | nil => simp at hk
 | cons y l ih =>
  rw [List.idxOf_cons]
  cases k with
  | zero => simp at he; simp [he]
  | succ k =>
   have h0 := hb 0 (by simp) (by omega)
   simp only [List.getElem_cons_zero] at h0
   rw [show (y == n) = false by simpa using h0]
   simp only [List.getElem_cons_succ] at he
   have := ih (k := k) (by simpa using hk) he (fun j h hj => by have := hb (j + 1) (by simpa using h) (by omega); simpa using this)
   simp [this]
theorem idxI_miss {n : Int} {l : List Int} (hb : ∀ j (h : j < l.length), l[j] ≠ n) : idxI n l = -1 := by
 unfold idxI
 rw [if_neg]
 intro hm
 obtain ⟨i, hi, e⟩ := List.mem_iff_getElem.1 hm
 exact hb i hi e
theorem countP_idxOf {n : Int} : ∀ {l : List Int}, l.Pairwise (· < ·) → n ∈ l → l.countP (· < n) = l.idxOf n
 | [], _, h => by simp at h
 | y :: l, hs, h => by
  obtain ⟨h1, h2⟩ := List.pairwise_cons.1 hs
  rw [List.idxOf_cons, List.countP_cons]
  by_cases e : y = n
  ·subst e
   have : l.countP (· < y) = 0 := List.countP_eq_zero.2 (fun x hx => by have := h1 x hx; simp; omega)
   simp [this]
  ·have hm : n ∈ l := by rcases List.mem_cons.1 h with e' | h
                         · exact absurd e'.symm e
                         · exact h
   have hlt := h1 n hm
   have ih := countP_idxOf h2 hm
   rw [show (y == n) = false by simpa using e]
   simp [ih, hlt]
def partE (st : List Int) (x : Ed) : Option Ed := if x.f ∈ st ∧ x.t ∈ st then some ⟨((st.idxOf x.f : Nat) : Int), x.l, ((st.idxOf x.t : Nat) : Int)⟩ else none
def partA (G : Gr) (st : List Int) : Gr := ⟨G.q, st.length, G.es.filterMap (partE st)⟩
theorem partE_snoc (st : List Int) (l : List Ed) (k : Nat) (h : k < l.length) : (l.take (k + 1)).filterMap (partE st) = (l.take k).filterMap (partE st) ++ (match partE st l[k] with | some y => [y] | none => []) := by
 rw [List.take_succ_eq_append_getElem h, List.filterMap_append]
 congr 1
 cases hp : partE st l[k] <;> simp [hp]
theorem partE_len (st : List Int) (l : List Ed) : (l.filterMap (partE st)).length ≤ l.length := List.length_filterMap_le _ _
end
section
open Go.RowKit Go.Sort Go.Shelf Go.Lib
set_option maxHeartbeats 400000 in
theorem rHas_q (l : List Int) (p : Option Addr) (c : Nat) (n : Int) (w : World) (hp : Sl w (Value.int .i64) p l) (hl : l.length ≤ 9223372036854775807) :
  Calls Tryz.prog 136 #[.slice p l.length c, .int .i64 n] w fun e w' => e = .returned (.bool (decide (n ∈ l))) ∧ w' = w := by
 go_enter Tryz.func136, Tryz.ntmps136
 go_wp2
 go_loop [5] (fun i => ∃ k : Nat, k ≤ l.length ∧ i = .int .i64 k ∧ Hid (∀ j (hj : j < l.length), j < k → l[j] ≠ n)) (fun i => l.length - (intOf i).toNat)
 case atStart => exact ⟨0, by omega, rfl, fun _ _ h => by omega⟩
 case round =>
  obtain ⟨k, hk, rfl, hj⟩ := hrel
  by_cases hlt : k < l.length
  ·obtain ⟨b1, o1, rfl, hb1, hc1⟩ := hp.get k hlt
   have e1 := hc1 k hlt
   clear hc1
   by_cases he : l[k] = n
   ·have HI : Hid (decide (n ∈ l) = true) := decide_eq_true (he ▸ List.getElem_mem hlt)
    have hb : (l[k] == n) = true := by simpa using he
    clear he
    go_wp2
    go_ret
    exact ⟨ret_bool HI.out.symm, rfl⟩
   ·have hb : (l[k] == n) = false := by simpa using he
    have HE := hidI he
    clear he
    go_wp2
    go_round
    case rel => exact ⟨k + 1, by omega, by go_num, fun j h1 h2 => by
     rcases Nat.lt_succ_iff_lt_or_eq.1 h2 with h3 | h3
     ·exact hj.out j h1 h3
     ·subst h3; exact HE.out⟩
    case measure => simp [intOf]; omega
  ·have HM : Hid (decide (n ∈ l) = false) := decide_eq_false (fun hm => by
    obtain ⟨i, hi, e⟩ := List.mem_iff_getElem.1 hm
    exact hj.out i hi (by omega) e)
   go_wp2
   go_ret
   exact ⟨ret_bool HM.out.symm, rfl⟩
set_option maxHeartbeats 400000 in
theorem rIndex_q (l : List Int) (p : Option Addr) (c : Nat) (n : Int) (w : World) (hp : Sl w (Value.int .i64) p l) (hl : l.length ≤ 9223372036854775807) :
  Calls Tryz.prog 137 #[.slice p l.length c, .int .i64 n] w fun e w' => e = .returned (.int .i64 (idxI n l)) ∧ w' = w := by
 go_enter Tryz.func137, Tryz.ntmps137
 go_wp2
 go_loop [5] (fun i => ∃ k : Nat, k ≤ l.length ∧ i = .int .i64 k ∧ Hid (∀ j (hj : j < l.length), j < k → l[j] ≠ n)) (fun i => l.length - (intOf i).toNat)
 case atStart => exact ⟨0, by omega, rfl, fun _ _ h => by omega⟩
 case round =>
  obtain ⟨k, hk, rfl, hj⟩ := hrel
  by_cases hlt : k < l.length
  ·obtain ⟨b1, o1, rfl, hb1, hc1⟩ := hp.get k hlt
   have e1 := hc1 k hlt
   clear hc1
   by_cases he : l[k] = n
   ·have HI : Hid (idxI n l = k) := idxI_hit hlt he hj.out
    have hb : (l[k] == n) = true := by simpa using he
    clear he
    go_wp2
    go_ret
    exact ⟨ret_int HI.out.symm, rfl⟩
   ·have hb : (l[k] == n) = false := by simpa using he
    have HE := hidI he
    clear he
    go_wp2
    go_round
    case rel => exact ⟨k + 1, by omega, by go_num, fun j h1 h2 => by
     rcases Nat.lt_succ_iff_lt_or_eq.1 h2 with h3 | h3
     ·exact hj.out j h1 h3
     ·subst h3; exact HE.out⟩
    case measure => simp [intOf]; omega
  ·have HM : Hid (idxI n l = -1) := idxI_miss (fun i hi => hj.out i hi (by omega))
   go_wp2
   go_ret
   exact ⟨ret_int HM.out.symm, rfl⟩
theorem rIndex_r (l : List Int) (p : Option Addr) (c : Nat) (n r : Int) (w : World) (hp : Sl w (Value.int .i64) p l) (hl : l.length ≤ 9223372036854775807) (hr : idxI n l = r) :
  Calls Tryz.prog 137 #[.slice p l.length c, .int .i64 n] w fun e w' => e = .returned (.int .i64 r) ∧ w' = w := by subst hr; exact rIndex_q l p c n w hp hl
set_option maxRecDepth 100000 in
set_option maxHeartbeats 1000000 in
theorem gCheckSet_any (G : Gr) (p : Option Addr) (c : Nat) (l : List Int) (q : Option Addr) (d : Nat) (w : World) (hin : Sl w (Value.int .i64) q l) (hl : l.length ≤ 9223372036854775807) :
  Calls Tryz.prog 100 #[(.agg #[.int .i64 G.q, .int .i64 G.n, .slice p G.es.length c]), .slice q l.length d] w fun e w' => e = .returned (.int .i64 (chkS G.n none l)) ∧ Below w.heap.size w w' := by
 have hB0 : Below w.heap.size w (w.alloc (.cells #[.int .i64 G.q, .int .i64 G.n, .slice p G.es.length c] 24)) := (Below.refl _ _).alloc (Nat.le_refl _) _
 have b0 : VRow (w.alloc (.cells #[.int .i64 G.q, .int .i64 G.n, .slice p G.es.length c] 24)) w.heap.size 24 [.int .i64 G.q, .int .i64 G.n, .slice p G.es.length c] := VRow.new w _ _
 have hin0 := hin.below hB0
 have f1 := b0.at 1 rfl
 clear hin
 go_enter Tryz.func100, Tryz.ntmps100
 go_wp2
 go_loop [9] (fun i => ∃ k : Nat, k ≤ l.length ∧ i = .int .i64 k ∧ Hid (chkS G.n (pvS l k) (l.drop k) = chkS G.n none l)) (fun i => l.length - (intOf i).toNat)
 case atStart => exact ⟨0, by omega, rfl, rfl⟩
 case round =>
  obtain ⟨k, hk, rfl, hj⟩ := hrel
  by_cases hlt : k < l.length
  ·obtain ⟨b1, o1, rfl, hb1, hc1⟩ := hin0.get k hlt
   have e1 := hc1 k hlt
   have HA := hidI (chkS_at (n := G.n) hlt)
   by_cases h0 : l[k] < 0
   ·have HI : Hid (chkS G.n none l = 25) := by rw [Hid, ← hj.out, HA.out, if_pos (.inl h0)]
    clear hc1
    go_wp2
    go_ret
    exact ⟨ret_int HI.out.symm, hB0⟩
   ·by_cases h1 : G.n ≤ l[k]
    ·have HI : Hid (chkS G.n none l = 25) := by rw [Hid, ← hj.out, HA.out, if_pos (.inr h1)]
     clear hc1
     go_wp2
     go_ret
     exact ⟨ret_int HI.out.symm, hB0⟩
    ·have HA2 := hidI (HA.out.trans (if_neg (by omega)))
     by_cases hk0 : k = 0
     ·subst hk0
      have HN : Hid (chkS G.n (pvS l (0 + 1)) (l.drop (0 + 1)) = chkS G.n none l) := by rw [Hid, ← hj.out, HA2.out]; simp [pvS, leP]
      clear hc1
      rw [Nat.add_zero] at e1
      go_wp2
      go_round
      case rel => exact ⟨0 + 1, by omega, by go_num, HN⟩
      case measure => simp [intOf]; omega
     ·obtain ⟨m, rfl⟩ : ∃ m, k = m + 1 := ⟨k - 1, by omega⟩
      have e2 := hc1 m (by omega)
      have q1 : IntKind.i64.wrap (m : Int) = (m : Int) := IntWalk.i64_in _ (by omega)
      have hpv : pvS l (m + 1) = some l[m] := by simp [pvS, show m < l.length by omega]
      by_cases h2 : l[m + 1] ≤ l[m]
      ·have HI : Hid (chkS G.n none l = 10) := by rw [Hid, ← hj.out, HA2.out, hpv]; simp [leP, h2]
       clear hc1 hpv
       go_wp2
       go_ret
       exact ⟨ret_int HI.out.symm, hB0⟩
      ·have HN : Hid (chkS G.n (pvS l (m + 1 + 1)) (l.drop (m + 1 + 1)) = chkS G.n none l) := by rw [Hid, ← hj.out, HA2.out, hpv]; simp [leP, h2]
       clear hc1 hpv
       go_wp2
       go_round
       case rel => exact ⟨m + 1 + 1, by omega, by go_num, HN⟩
       case measure => simp [intOf]; omega
  ·have HI : Hid (chkS G.n none l = 0) := by rw [Hid, ← hj.out, chkS_end hlt]
   go_wp2
   go_ret
   exact ⟨ret_int HI.out.symm, hB0⟩
end
section
open Go.RowKit Go.Sort Go.Shelf Go.Lib
def RetG (G : Gr) (w : World) (e : Ending) (w' : World) : Prop := ∃ p m c, e = .returned (.agg #[.int .i64 G.q, .int .i64 G.n, .slice p m c]) ∧ w'.ownsRow w.heap.size 44 3 (.slice p m c) G.es.length (cat G.es) ∧ RowKit.Below w.heap.size w w'
theorem cell_new3 (W : World) (y : Ed) (t n : Nat) (hn : W.heap.size = n) : ∀ (j : Nat) (u : Value), (cat [y])[j]? = some u → (W.alloc (.cells (edE y).toArray t)).cell? ((⟨n, 0, none⟩ : Addr).add j) = some u := by
 subst hn
 intro j u hu
 rw [show (⟨W.heap.size, 0, none⟩ : Addr).add j = ⟨W.heap.size, j, none⟩ by unfold Addr.add; split <;> simp_all, (VRow.new W t (edE y)).cell]
 simpa [cat] using hu
theorem own_shape {w : World} {B e n : Nat} {v : Value} {l : List Ed} (h : w.ownsRow B e 3 v n (cat l)) : ∃ p m c, v = .slice p m c := by
 obtain ⟨p, c, h, _⟩ := own_sg h; exact ⟨p, _, c, h⟩
theorem part_stop {st : List Int} {x : Ed} (h : ¬ (x.f ∈ st ∧ x.t ∈ st)) : partE st x = none := if_neg h
theorem part_go {st : List Int} {x : Ed} (h : x.f ∈ st ∧ x.t ∈ st) : partE st x = some ⟨((st.idxOf x.f : Nat) : Int), x.l, ((st.idxOf x.t : Nat) : Int)⟩ := if_pos h
theorem idxI_neg {n : Int} {l : List Int} (h : n ∉ l) : idxI n l = -1 := if_neg h
theorem idxI_pos {n : Int} {l : List Int} (h : n ∈ l) : idxI n l = ((l.idxOf n : Nat) : Int) := if_pos h
set_option maxRecDepth 100000 in
set_option maxHeartbeats 2000000 in
theorem rPart_any (G : Gr) (p : Option Addr) (c : Nat) (st : List Int) (q : Option Addr) (d : Nat) (w : World) (hin : Sg 3 w edE p G.es) (hst : Sl w (Value.int .i64) q st) (hl : G.es.length ≤ 10000) (hs : st.length ≤ 100000) :
  Calls Tryz.prog 65 #[(.agg #[.int .i64 G.q, .int .i64 G.n, .slice p G.es.length c]), .slice q st.length d] w (RetG (partA G st) w) := by
 have HIN := hidI hin; have HST := hidI hst
 obtain ⟨i0, hi0, hz0, hz1, hz2⟩ := info_parts infoE
 clear hin hst
 obtain ⟨w0, hw0⟩ : ∃ w0, w0 = ((w.alloc (.cells #[.int .i64 G.q, .int .i64 G.n, .slice p G.es.length c] 24)).alloc (.cells #[.int .i64 0, .int .i64 0, .slice none 0 0] 24)).alloc (.cells #[.int .i64 G.q, .int .i64 st.length, .slice none 0 0] 24) := ⟨_, rfl⟩
 have b0 : VRow w0 w.heap.size 24 [.int .i64 G.q, .int .i64 G.n, .slice p G.es.length c] := by subst hw0; exact ((VRow.new w _ _).alloc _).alloc _
 have b1 : VRow w0 (w.heap.size + 1) 24 [.int .i64 0, .int .i64 0, .slice none 0 0] := by subst hw0; exact (VRow.new1 w _ _ _).alloc _
 have b2 : VRow w0 (w.heap.size + 1 + 1) 24 [.int .i64 G.q, .int .i64 st.length, .slice none 0 0] := by subst hw0; exact VRow.new2 w _ _ _ _
 have hB0 : Below w.heap.size w w0 := by subst hw0; exact (((Below.refl _ _).alloc (Nat.le_refl _) _).alloc (by simp) _).alloc (by simp; omega) _
 have hsz0 : w0.heap.size = w.heap.size + 1 + 1 + 1 := by subst hw0; simp
 go_enter Tryz.func65, Tryz.ntmps65
 go_wp2
 rw [← hw0]
 clear hw0
 go_loopw [6] (fun iv wr => ∃ (k : Nat) (v : Value), k ≤ G.es.length ∧ iv = .int .i64 k ∧ VRow wr w.heap.size 24 [.int .i64 G.q, .int .i64 G.n, .slice p G.es.length c] ∧ VRow wr (w.heap.size + 1) 24 [.int .i64 0, .int .i64 0, .slice none 0 0] ∧ VRow wr (w.heap.size + 1 + 1) 24 [.int .i64 G.q, .int .i64 st.length, v] ∧
   wr.ownsRow (w.heap.size + 1 + 1 + 1) 44 3 v ((G.es.take k).filterMap (partE st)).length (cat ((G.es.take k).filterMap (partE st))) ∧ Below w.heap.size w wr ∧ w.heap.size + 1 + 1 + 1 ≤ wr.heap.size) (fun iv _ => G.es.length - (intOf iv).toNat)
 case atStart => exact ⟨0, _, by omega, rfl, b0, b1, b2, World.ownsRow_nil _ _ _ _, hB0, by omega⟩
 case round =>
  obtain ⟨k, v, hk, rfl, c0, c1, c2, hown, hB, hge⟩ := hrel
  have f2 := c0.at 2 rfl
  by_cases hlt : k < G.es.length
  ·obtain ⟨b3, o3, rfl, hb3, e0, e1, e2⟩ := (HIN.out.below hB).get3 k hlt rfl
   have hSN := hidI (partE_snoc st G.es k hlt)
   have hML : ((G.es.take k).filterMap (partE st)).length ≤ k := Nat.le_trans (List.length_filterMap_le _ _) (by rw [List.length_take]; omega)
   generalize (G.es.take k).filterMap (partE st) = M at *
   generalize hx : G.es[k] = x at *
   have HS1 : Sl (wr.alloc (.cells #[.int .i64 x.f, .int .i64 x.l, .int .i64 x.t] 44)) (Value.int .i64) q st := HST.out.below (hB.alloc hB.size _)
   have y0 : VRow (wr.alloc (.cells #[.int .i64 x.f, .int .i64 x.l, .int .i64 x.t] 44)) wr.heap.size 44 (edE x) := VRow.new wr _ _
   have hown1 := hown.alloc (.cells #[.int .i64 x.f, .int .i64 x.l, .int .i64 x.t] 44)
   have d0 := c0.alloc (.cells #[.int .i64 x.f, .int .i64 x.l, .int .i64 x.t] 44)
   have d1 := c1.alloc (.cells #[.int .i64 x.f, .int .i64 x.l, .int .i64 x.t] 44)
   have d2 := c2.alloc (.cells #[.int .i64 x.f, .int .i64 x.l, .int .i64 x.t] 44)
   have hB1 := hB.alloc hB.size (.cells #[.int .i64 x.f, .int .i64 x.l, .int .i64 x.t] 44)
   have hsz1 : (wr.alloc (.cells #[.int .i64 x.f, .int .i64 x.l, .int .i64 x.t] 44)).heap.size = wr.heap.size + 1 := World.size_alloc _ _
   go_wp2_with fail
   generalize (wr.alloc (.cells #[.int .i64 x.f, .int .i64 x.l, .int .i64 x.t] 44)) = W1 at *
   have g0 := y0.at 0 rfl; have g1 := y0.at 1 rfl; have g2 := y0.at 2 rfl
   have k0 := d2.at 0 rfl; have k1 := d2.at 1 rfl; have k2 := d2.at 2 rfl; have kf := d2.frozen 2
   clear e0 e1 e2 f2
   by_cases hm : x.f ∈ st ∧ x.t ∈ st
   ·have HPE := hidI (part_go hm)
    have HF := hidI (idxI_pos hm.1); have HT := hidI (idxI_pos hm.2)
    generalize st.idxOf x.f = a at *
    generalize st.idxOf x.t = b at *
    clear hm
    have HC1 := fun (n : Nat) => Calls.quiet_of_same (rIndex_r st q d x.f a (W1.drewN n) HS1 (by omega) HF.out)
    have HC2 := fun (n : Nat) => Calls.quiet_of_same (rIndex_r st q d x.t b (W1.drewN n) HS1 (by omega) HT.out)
    (refine wp_region_quiet_lit (by kernel_rfl) (by kernel_rfl) ?_; (repeat (first | go_big_quiet_step (first | (go_at_call 137; with_reducible exact HC1 _) | (go_at_call 137; with_reducible exact HC2 _)) | quiet_step (first | (go_at_call 137; with_reducible exact HC1 _) | (go_at_call 137; with_reducible exact HC2 _)))); refine wpQuiet_nil ?_; intro _ hwq; obtain ⟨nq, hwq2⟩ := hwq; subst hwq2)
    clear g0 g2 HC1 HC2
    have HSN : Hid (List.filterMap (partE st) (G.es.take (k + 1)) = M ++ [⟨(a : Int), x.l, (b : Int)⟩]) := by rw [Hid, hSN.out, HPE.out]
    clear hSN HPE HF HT
    have hq2 : VRow (W1.drewN nq) (w.heap.size + 1 + 1) 24 [.int .i64 G.q, .int .i64 st.length, v] := d2
    have hownq : (W1.drewN nq).ownsRow (w.heap.size + 1 + 1 + 1) 44 3 v M.length (cat M) := hown1
    have hq0 : VRow (W1.drewN nq) w.heap.size 24 [.int .i64 G.q, .int .i64 G.n, .slice (some ⟨b3, o3, none⟩) G.es.length c] := d0
    have hq1 : VRow (W1.drewN nq) (w.heap.size + 1) 24 [.int .i64 0, .int .i64 0, .slice none 0 0] := d1
    have hBq : Below w.heap.size w (W1.drewN nq) := below_dN hB1 nq
    have hszq : (W1.drewN nq).heap.size = wr.heap.size + 1 := hsz1
    have g1' : (W1.drewN nq).cell? ⟨wr.heap.size, 1, none⟩ = some (.int .i64 x.l) := g1
    have k2' : (W1.drewN nq).cell? ⟨w.heap.size + 1 + 1, 2, none⟩ = some v := k2
    have a0 : (0 : Int) ≤ (a : Int) := by omega
    have a1 : (0 : Int) ≤ (b : Int) := by omega
    clear d0 d1 d2 hown1 hB1 hsz1 g1 k0 k1 k2 kf HS1 y0
    generalize W1.drewN nq = W2 at *
    have hnew := cell_new3 W2 ⟨(a : Int), x.l, (b : Int)⟩ 44 (wr.heap.size + 1) hszq
    have hownA := hownq.alloc (.cells (edE ⟨(a : Int), x.l, (b : Int)⟩).toArray 44)
    have hBA := hBq.alloc hBq.size (.cells (edE ⟨(a : Int), x.l, (b : Int)⟩).toArray 44)
    have p0 := hq0.alloc (.cells (edE ⟨(a : Int), x.l, (b : Int)⟩).toArray 44)
    have p1 := hq1.alloc (.cells (edE ⟨(a : Int), x.l, (b : Int)⟩).toArray 44)
    have p2 := hq2.alloc (.cells (edE ⟨(a : Int), x.l, (b : Int)⟩).toArray 44)
    have hne : ∀ j, v.ownBlock = some j → w.heap.size + 1 + 1 + 1 ≤ j := fun j e => (hownq.lt j e).1
    go_wp2_with (at_builtin; refine wpList_append_own _ rfl _ _ 22 rfl (w.heap.size + 1 + 1 + 1) 44 i0 _ 3 24 Tryz.underlying22 hi0 hz0 hz1 hz2 rfl (by decide) _ _ _ rfl hownA ⟨wr.heap.size + 1, 0, none⟩ 1 1 (cat [⟨(a : Int), x.l, (b : Int)⟩]) rfl rfl hnew (cat_one _) (by simp [maxLen]; omega) (by omega) (by rw [World.size_alloc, hszq]; omega) ?_; intro v' w1 hown' hgrow _; rw [← cat_app] at hown'; obtain ⟨pv, mv, cv, rfl⟩ := own_shape hown'; have r2 := VRow.grown p2 hgrow (fun e => by have := hne _ e.symm; omega); have z2 := r2.frozen 2; have s2 := r2.at 2 rfl)
    have hr0 := VRow.other (i := 2) (.slice pv mv cv) (p0.grown hgrow (fun e => by have := hne _ e.symm; omega)) (C := w.heap.size + 1 + 1) (by omega)
    have hr1 := VRow.other (i := 2) (.slice pv mv cv) (p1.grown hgrow (fun e => by have := hne _ e.symm; omega)) (C := w.heap.size + 1 + 1) (by omega)
    have hBf : RowKit.Below w.heap.size w (w1.setCell (⟨w.heap.size + 1 + 1, 2, none⟩ : Addr) (.slice pv mv cv)) := (hBA.grown hgrow (Nat.le_trans hBq.size (by simp)) (fun j e => by have := hne _ e; omega)).setCell (show w.heap.size ≤ w.heap.size + 1 + 1 by omega) _
    go_roundw
    case rel =>
     refine ⟨k + 1, _, by omega, by go_num, hr0, hr1, VRow.set (i := 2) _ r2, ?_, hBf, ?_⟩
     ·rw [HSN.out]
      exact ownsRow_setCell_below (a := (⟨w.heap.size + 1 + 1, 2, none⟩ : Addr)) (own_conv hown' rfl (Nat.le_refl _)) (show w.heap.size + 1 + 1 < w.heap.size + 1 + 1 + 1 by omega) _
     ·rw [World.size_setCell]; have := hgrow.size; rw [World.size_alloc] at this; omega
    case measure => simp [intOf]; omega
   ·obtain ⟨r1, hr1, r2, hr2, hor⟩ : ∃ r1, idxI x.f st = r1 ∧ ∃ r2, idxI x.t st = r2 ∧ (decide (0 ≤ r1) = false ∨ (0 ≤ r1 ∧ decide (0 ≤ r2) = false)) := by
     refine ⟨_, rfl, _, rfl, ?_⟩
     by_cases h1 : x.f ∈ st
     ·right
      rw [idxI_pos h1, idxI_neg (fun h2 => hm ⟨h1, h2⟩)]
      exact ⟨by omega, by decide⟩
     ·left; rw [idxI_neg h1]; decide
    have HSN : Hid (List.filterMap (partE st) (G.es.take (k + 1)) = M) := by rw [Hid, hSN.out, part_stop hm]; simp
    clear hSN hm
    have HC1 := fun (n : Nat) => Calls.quiet_of_same (rIndex_r st q d x.f r1 (W1.drewN n) HS1 (by omega) hr1)
    have HC2 := fun (n : Nat) => Calls.quiet_of_same (rIndex_r st q d x.t r2 (W1.drewN n) HS1 (by omega) hr2)
    clear hr1 hr2
    rcases hor with h1 | ⟨h1, h2⟩
    all_goals
     (refine wp_region_quiet_lit (by kernel_rfl) (by kernel_rfl) ?_; (repeat (first | go_big_quiet_step (first | (go_at_call 137; with_reducible exact HC1 _) | (go_at_call 137; with_reducible exact HC2 _)) | quiet_step (first | (go_at_call 137; with_reducible exact HC1 _) | (go_at_call 137; with_reducible exact HC2 _)))); refine wpQuiet_nil ?_; intro _ hwq; obtain ⟨nq, hwq2⟩ := hwq; subst hwq2)
     clear g0 g1 g2 HC1 HC2
     have hq2 : VRow (W1.drewN nq) (w.heap.size + 1 + 1) 24 [.int .i64 G.q, .int .i64 st.length, v] := d2
     have hownq : (W1.drewN nq).ownsRow (w.heap.size + 1 + 1 + 1) 44 3 v M.length (cat M) := hown1
     have hq0 : VRow (W1.drewN nq) w.heap.size 24 [.int .i64 G.q, .int .i64 G.n, .slice (some ⟨b3, o3, none⟩) G.es.length c] := d0
     have hq1 : VRow (W1.drewN nq) (w.heap.size + 1) 24 [.int .i64 0, .int .i64 0, .slice none 0 0] := d1
     have hBq : Below w.heap.size w (W1.drewN nq) := below_dN hB1 nq
     have hszq : (W1.drewN nq).heap.size = wr.heap.size + 1 := hsz1
     clear d0 d1 d2 hown1 hB1 hsz1 k0 k1 k2 kf HS1 y0
     go_wp2_with fail
     go_roundw
     case rel =>
      refine ⟨k + 1, v, by omega, by go_num, hq0, hq1, hq2, ?_, hBq, by omega⟩
      rw [HSN.out]; exact hownq
     case measure => simp [intOf]; omega
  ·obtain rfl : k = G.es.length := by omega
   rw [List.take_length] at hown
   have k0 := c2.at 0 rfl; have k1 := c2.at 1 rfl; have k2 := c2.at 2 rfl
   have j0 := c1.at 0 rfl; have j1 := c1.at 1 rfl; have j2 := c1.at 2 rfl
   have z0 := c1.frozen 0; have z1 := c1.frozen 1; have z2 := c1.frozen 2
   obtain ⟨pv, mv, cv, rfl⟩ := own_shape hown
   go_wp2
   have r6 := VRow.set (i := 2) (.slice pv mv cv) (VRow.set (i := 1) (.int .i64 st.length) (VRow.set (i := 0) (.int .i64 G.q) c1))
   have y0 := r6.at 0 rfl; have y1 := r6.at 1 rfl; have y2 := r6.at 2 rfl
   have hz0 : w.heap.size + 1 < w.heap.size + 1 + 1 + 1 := by omega
   have o6 := ownsRow_setCell_below (a := (⟨w.heap.size + 1, 2, none⟩ : Addr)) (ownsRow_setCell_below (a := (⟨w.heap.size + 1, 1, none⟩ : Addr)) (ownsRow_setCell_below (a := (⟨w.heap.size + 1, 0, none⟩ : Addr)) hown hz0 (.int .i64 G.q)) hz0 (.int .i64 st.length)) hz0 (.slice pv mv cv)
   have x6 : RowKit.Below w.heap.size w (((wr.setCell (⟨w.heap.size + 1, 0, none⟩ : Addr) (.int .i64 G.q)).setCell (⟨w.heap.size + 1, 1, none⟩ : Addr) (.int .i64 st.length)).setCell (⟨w.heap.size + 1, 2, none⟩ : Addr) (.slice pv mv cv)) :=
    ((hB.setCell (show w.heap.size ≤ w.heap.size + 1 by omega) _).setCell (show w.heap.size ≤ w.heap.size + 1 by omega) _).setCell (show w.heap.size ≤ w.heap.size + 1 by omega) _
   refine bodyPost_ret (v := .agg #[.int .i64 G.q, .int .i64 st.length, .slice pv mv cv]) (by simp [results, Tryz.results65, go_sem, y0, y1, y2]) rfl ?_
   exact ⟨_, _, _, rfl, own_conv o6 rfl (by omega), x6⟩
end
section
open Go.RowKit Go.Sort Go.Shelf Go.Lib
def RetGo (G : Gr) (k : Int) (w : World) (e : Ending) (w' : World) : Prop := ∃ p m c, e = .returned (.tuple #[.agg #[.int .i64 G.q, .int .i64 G.n, .slice p m c], .int .i64 k]) ∧ w'.ownsRow w.heap.size 44 3 (.slice p m c) G.es.length (cat G.es) ∧ RowKit.Below w.heap.size w w'
theorem RetGo.of {G' : Gr} {k' : Int} {x : Gr × Int} {w w' : World} {p : Option Addr} {m c : Nat} (hr : x = (G', k')) (hs : w'.ownsRow w.heap.size 44 3 (.slice p m c) G'.es.length (cat G'.es)) (hB : RowKit.Below w.heap.size w w') :
  RetGo x.1 x.2 w (.returned (.tuple #[.agg #[.int .i64 G'.q, .int .i64 G'.n, .slice p m c], .int .i64 k'])) w' := by subst hr; exact ⟨p, m, c, rfl, hs, hB⟩
set_option maxRecDepth 100000 in
set_option maxHeartbeats 1000000 in
theorem gMake_own (q n : Int) (l : List Ed) (p : Option Addr) (c : Nat) (w : World) (hin : Sg 3 w edE p l) (hl : l.length ≤ 100000) :
  Calls Tryz.prog 58 #[.int .i64 q, .int .i64 n, .slice p l.length c] w (RetGo (makeA q n l).1 (makeA q n l).2 w) := by
 have hB0 : Below w.heap.size w (w.alloc (.cells #[.int .i64 0, .int .i64 0, .slice none 0 0] 24)) := (Below.refl _ _).alloc (Nat.le_refl _) _
 have b0 : VRow (w.alloc (.cells #[.int .i64 0, .int .i64 0, .slice none 0 0] 24)) w.heap.size 24 [.int .i64 0, .int .i64 0, .slice none 0 0] := VRow.new w _ _
 go_enter Tryz.func58, Tryz.ntmps58
 go_wp2_with fail
 refine (cloneE_any l p c _ (hin.below hB0) hl).mono ?_
 rintro e w1 ⟨v1, rfl, hown1, hB1⟩
 have x1 := hB0.trans (hB1.mono hB0.size)
 have b1 := b0.below hB1 (by simp)
 go_wp2_with fail
 refine (gBy_any _).mono ?_
 rintro e w2 ⟨rfl, rfl⟩
 have hown2 := hown1.alloc (.cells #[.func (.func 124) #[] #[]] 142)
 have bf2 : VRow (w1.alloc (.cells #[.func (.func 124) #[] #[]] 142)) w1.heap.size 142 [.func (.func 124) #[] #[]] := VRow.new w1 _ _
 have b2 := b1.alloc (.cells #[.func (.func 124) #[] #[]] 142)
 have x2 := x1.alloc x1.size (.cells #[.func (.func 124) #[] #[]] 142)
 have hne : v1.ownBlock ≠ some w1.heap.size := fun e => by have := (hown1.lt _ e).2; omega
 have hz0 : w.heap.size < (w.alloc (.cells #[.int .i64 0, .int .i64 0, .slice none 0 0] 24)).heap.size := b0.lt
 have HS : Hid (compact (srtE l) = norm l) := norm_sort l
 have hBz := hB1.size
 clear hB1 hB0 b0
 generalize (w.alloc (.cells #[.int .i64 0, .int .i64 0, .slice none 0 0] 24)).heap.size = B at *
 go_wp2_with fail
 refine (sortE_any l B l.length w1.heap.size v1 _ hown2 (bf2.at 0 rfl) hne hl (Nat.le_trans hBz (by simp))).mono ?_
 rintro e w3 ⟨rfl, hown3, hB3⟩
 have x3 := x2.trans (hB3.mono (Nat.le_of_lt hz0))
 have b3 := b2.below hB3 hz0
 have hBz3 : B ≤ w3.heap.size := Nat.le_trans hBz (Nat.le_trans (by simp) hB3.size)
 clear hown2 bf2 b2 hne hown1
 go_wp2_with fail
 refine (compactE_any (srtE l) B l.length v1 _ hown3 hl hBz3).mono ?_
 rw [HS.out]
 rintro e w4 ⟨v4, rfl, hown4, hB4⟩
 have x4 := x3.trans (hB4.mono (Nat.le_of_lt hz0))
 have b4 := b3.below hB4 hz0
 obtain ⟨p4, c4, rfl, hs4, hc4, _⟩ := own_sg hown4
 have f0 := b4.at 0 rfl; have f1 := b4.at 1 rfl; have f2 := b4.at 2 rfl
 have hfz := fun j => b4.frozen j
 have hz4 := b4.lt
 have hw5 : Sg 3 (w4.alloc (.cells #[.int .i64 (⟨q, n, norm l⟩ : Gr).q, .int .i64 (⟨q, n, norm l⟩ : Gr).n, .slice p4 (⟨q, n, norm l⟩ : Gr).es.length c4] 24)) edE p4 (norm l) := hs4.below ((Below.refl _ _).alloc (Nat.le_refl _) _)
 have hln : (norm l).length ≤ 100000 := by
  have := compact_len (srtE l); rw [HS.out, srtE_len] at this; omega
 obtain ⟨r, hr⟩ : ∃ r, chkG ⟨q, n, norm l⟩ = r := ⟨_, rfl⟩
 have b4' : VRow (w4.alloc (.cells #[.int .i64 (⟨q, n, norm l⟩ : Gr).q, .int .i64 (⟨q, n, norm l⟩ : Gr).n, .slice p4 (⟨q, n, norm l⟩ : Gr).es.length c4] 24)) w.heap.size 24 [.int .i64 0, .int .i64 0, .slice none 0 0] := b4.alloc _
 have c4' : VRow (w4.alloc (.cells #[.int .i64 (⟨q, n, norm l⟩ : Gr).q, .int .i64 (⟨q, n, norm l⟩ : Gr).n, .slice p4 (⟨q, n, norm l⟩ : Gr).es.length c4] 24)) w4.heap.size 24 [.int .i64 (⟨q, n, norm l⟩ : Gr).q, .int .i64 (⟨q, n, norm l⟩ : Gr).n, .slice p4 (⟨q, n, norm l⟩ : Gr).es.length c4] := VRow.new w4 _ _
 have x4' := x4.alloc x4.size (.cells #[.int .i64 (⟨q, n, norm l⟩ : Gr).q, .int .i64 (⟨q, n, norm l⟩ : Gr).n, .slice p4 (⟨q, n, norm l⟩ : Gr).es.length c4] 24)
 have hL : Hid ((norm l).length ≤ c4) := hc4
 by_cases hr0 : r = 0
 ·subst hr0
  have HR := hidI (makeA_ok hr)
  go_wp2_with fail
  refine (gCheck_r ⟨q, n, norm l⟩ p4 c4 _ 0 hr hw5 (by show (norm l).length ≤ _; omega)).mono ?_
  rintro e w5 ⟨rfl, hB5⟩
  have x5 := x4'.trans (hB5.mono x4'.size)
  have b5 := b4'.below hB5 b4'.lt
  have c5 := c4'.below hB5 c4'.lt
  have o5 := (hown4.alloc (.cells #[.int .i64 (⟨q, n, norm l⟩ : Gr).q, .int .i64 (⟨q, n, norm l⟩ : Gr).n, .slice p4 (⟨q, n, norm l⟩ : Gr).es.length c4] 24)).below hB5
  have g0 := c5.at 0 rfl; have g1 := c5.at 1 rfl; have g2 := c5.at 2 rfl
  have k0 := b5.at 0 rfl; have k1 := b5.at 1 rfl; have k2 := b5.at 2 rfl
  have z0 := b5.frozen 0; have z1 := b5.frozen 1; have z2 := b5.frozen 2
  clear f0 f1 f2 hfz hr
  go_wp2
  have r6 := VRow.set (i := 2) (.slice p4 (norm l).length c4) (VRow.set (i := 1) (.int .i64 n) (VRow.set (i := 0) (.int .i64 q) b5))
  have y0 := r6.at 0 rfl; have y1 := r6.at 1 rfl; have y2 := r6.at 2 rfl
  have o6 := ownsRow_setCell_below (a := ⟨w.heap.size, 2, none⟩) (ownsRow_setCell_below (a := ⟨w.heap.size, 1, none⟩) (ownsRow_setCell_below (a := ⟨w.heap.size, 0, none⟩) o5 hz0 (.int .i64 q)) hz0 (.int .i64 n)) hz0 (.slice p4 (norm l).length c4)
  have x6 : Below w.heap.size w (((w5.setCell ⟨w.heap.size, 0, none⟩ (.int .i64 q)).setCell ⟨w.heap.size, 1, none⟩ (.int .i64 n)).setCell ⟨w.heap.size, 2, none⟩ (.slice p4 (norm l).length c4)) := ((x5.setCell (Nat.le_refl _) _).setCell (Nat.le_refl _) _).setCell (Nat.le_refl _) _
  refine bodyPost_ret (v := .tuple #[.agg #[.int .i64 q, .int .i64 n, .slice p4 (norm l).length c4], .int .i64 0]) (by simp [results, Tryz.results58, go_sem, y0, y1, y2]) rfl ?_
  exact RetGo.of HR.out (own_conv o6 rfl (Nat.le_of_lt hz0)) x6
 ·have hrb : (r == 0) = false := by simpa using hr0
  have HR := hidI (makeA_bad (by rw [hr]; exact hr0))
  rw [hr] at HR
  go_wp2_with fail
  refine (gCheck_r ⟨q, n, norm l⟩ p4 c4 _ r hr hw5 (by show (norm l).length ≤ _; omega)).mono ?_
  rintro e w5 ⟨rfl, hB5⟩
  have x5 := x4'.trans (hB5.mono x4'.size)
  have b5 := b4'.below hB5 b4'.lt
  have o5 := (hown4.alloc (.cells #[.int .i64 (⟨q, n, norm l⟩ : Gr).q, .int .i64 (⟨q, n, norm l⟩ : Gr).n, .slice p4 (⟨q, n, norm l⟩ : Gr).es.length c4] 24)).below hB5
  have k0 := b5.at 0 rfl; have k1 := b5.at 1 rfl; have k2 := b5.at 2 rfl
  have z0 := b5.frozen 0; have z1 := b5.frozen 1; have z2 := b5.frozen 2
  clear f0 f1 f2 hfz hr
  go_wp2
  have r6 := VRow.set (i := 2) (.slice none 0 0) (VRow.set (i := 1) (.int .i64 0) (VRow.set (i := 0) (.int .i64 0) b5))
  have y0 := r6.at 0 rfl; have y1 := r6.at 1 rfl; have y2 := r6.at 2 rfl
  have o6 := ownsRow_setCell_below (a := ⟨w.heap.size, 2, none⟩) (ownsRow_setCell_below (a := ⟨w.heap.size, 1, none⟩) (ownsRow_setCell_below (a := ⟨w.heap.size, 0, none⟩) o5 hz0 (.int .i64 0)) hz0 (.int .i64 0)) hz0 (.slice none 0 0)
  have x6 : Below w.heap.size w (((w5.setCell ⟨w.heap.size, 0, none⟩ (.int .i64 0)).setCell ⟨w.heap.size, 1, none⟩ (.int .i64 0)).setCell ⟨w.heap.size, 2, none⟩ (.slice none 0 0)) := ((x5.setCell (Nat.le_refl _) _).setCell (Nat.le_refl _) _).setCell (Nat.le_refl _) _
  refine bodyPost_ret (v := .tuple #[.agg #[.int .i64 0, .int .i64 0, .slice none 0 0], .int .i64 r]) (by simp [results, Tryz.results58, go_sem, y0, y1, y2]) rfl ?_
  exact RetGo.of (G' := ⟨0, 0, []⟩) HR.out (World.ownsRow_nil _ _ _ _) x6
end
section
open Go.RowKit Go.Sort Go.Shelf Go.Lib
theorem sg_len {w : World} {p : Option Addr} {l : List Ed} {B e n : Nat} {p' : Option Addr} {m c : Nat} (h : w.ownsRow B e 3 (.slice p m c) n (cat l)) : m = l.length ∧ Sg 3 w edE p l := by
 obtain ⟨q, d, hv, hs, _, _⟩ := own_sg h
 cases hv
 exact ⟨rfl, hs⟩
end
section
open Go.RowKit Go.Sort Go.Shelf Go.Lib
theorem infoIn : (Tryz.prog.info? 3).map (fun i => (i.zero, i.size, i.bytes)) = some (some (.int .i64 0), 1, 8) := by kernel_rfl
def RetLi (r : List Int) (k : Int) (w : World) (e : Ending) (w' : World) : Prop := ∃ p m c, e = .returned (.tuple #[.slice p m c, .int .i64 k]) ∧ w'.ownsRow w.heap.size 3 1 (.slice p m c) r.length (r.map (Value.int .i64)) ∧ RowKit.Below w.heap.size w w'
theorem RetLi.of {x : List Int × Int} {r : List Int} {k : Int} {w w' : World} {B m : Nat} {v : Value} (hx : x = (r, k)) (h : w'.ownsRow B 3 1 v r.length (r.map (Value.int .i64))) (hm : w.heap.size ≤ B) (hB : RowKit.Below w.heap.size w w') :
  RetLi x.1 x.2 w (.returned (.tuple #[v, .int .i64 k])) w' := by
 subst hx
 obtain ⟨p, c, rfl, _⟩ := own_sl h
 exact ⟨p, _, c, rfl, ⟨h.1, h.2.imp id (fun ⟨g, cap, cur, a, b, z⟩ => ⟨g, cap, cur, a, Nat.le_trans hm b, z⟩)⟩, hB⟩
theorem RetLi.nil {x : List Int × Int} {k : Int} {w w' : World} (hx : x = ([], k)) (hB : RowKit.Below w.heap.size w w') :
  RetLi x.1 x.2 w (.returned (.tuple #[.slice none 0 0, .int .i64 k])) w' := by
 subst hx; exact ⟨none, 0, 0, rfl, World.ownsRow_nil _ _ _ _, hB⟩
end
section
open Go.RowKit
theorem any_snoc {α : Type} (p : α → Bool) (l : List α) (k : Nat) (h : k < l.length) : (l.take (k + 1)).any p = ((l.take k).any p || p l[k]) := by
 rw [List.take_succ_eq_append_getElem h, List.any_append]; simp
def upto (n : Nat) : List Int := (List.range n).map (fun (i : Nat) => (i : Int))
theorem upto_succ (n : Nat) : upto (n + 1) = upto n ++ [(n : Int)] := by simp [upto, List.range_succ]
theorem upto_len (n : Nat) : (upto n).length = n := by simp [upto]
theorem upto_srt (n : Nat) : (upto n).Pairwise (· < ·) := by
 induction n with
 | zero => simp [upto]
 | succ n ih =>
  rw [upto_succ, List.pairwise_append]
  refine ⟨ih, by simp, fun a ha b hb => ?_⟩
  simp only [List.mem_singleton] at hb
  subst hb
  simp only [upto, List.mem_map, List.mem_range] at ha
  obtain ⟨i, hi, rfl⟩ := ha
  omega
end
section
open Go.RowKit Go.Sort Go.Shelf Go.Lib
def nxE (st : List Int) (b t : Int) (x : Ed) : Bool := decide (x.t = t) && (decide (x.l = b) && decide (x.f ∈ st))
def nxP (es : List Ed) (st : List Int) (b t : Int) : Bool := es.any (nxE st b t)
def nextA (G : Gr) (st : List Int) (b : Int) : List Int := (upto G.n.toNat).filter (nxP G.es st b)
theorem uptof_succ (f : Int → Bool) (k : Nat) : (upto (k + 1)).filter f = (upto k).filter f ++ (if f (k : Int) = true then [(k : Int)] else []) := by
 rw [upto_succ, List.filter_append]; congr 1; cases h : f (k : Int) <;> simp [h]
theorem uptof_len (f : Int → Bool) (k : Nat) : ((upto k).filter f).length ≤ k := Nat.le_trans (List.length_filter_le _ _) (by rw [upto_len]; omega)
set_option maxRecDepth 100000 in
set_option maxHeartbeats 4000000 in
theorem rNext_any (G : Gr) (p : Option Addr) (c : Nat) (st : List Int) (q : Option Addr) (d : Nat) (b : Int) (w : World) (hin : Sg 3 w edE p G.es) (hst : Sl w (Value.int .i64) q st) (hl : G.es.length ≤ 10000) (hs : st.length ≤ 100000) (hn0 : 0 ≤ G.n) (hn1 : G.n ≤ 100000) :
  Calls Tryz.prog 234 #[(.agg #[.int .i64 G.q, .int .i64 G.n, .slice p G.es.length c]), .slice q st.length d, .int .i64 b] w fun e w' => ∃ p m c, e = .returned (.slice p m c) ∧ w'.ownsRow w.heap.size 3 1 (.slice p m c) (nextA G st b).length ((nextA G st b).map (Value.int .i64)) ∧ RowKit.Below w.heap.size w w' := by
 have HIN := hidI hin; have HST := hidI hst
 clear hin hst
 obtain ⟨i0, hi0, hz0, hz1, hz3⟩ := info_parts infoIn
 obtain ⟨w1, hw1⟩ : ∃ w1, w1 = w.alloc (.cells #[.int .i64 G.q, .int .i64 G.n, .slice p G.es.length c] 24) := ⟨_, rfl⟩
 have c0 : VRow w1 w.heap.size 24 [.int .i64 G.q, .int .i64 G.n, .slice p G.es.length c] := by subst hw1; exact VRow.new w _ _
 have x1 : RowKit.Below w.heap.size w w1 := by subst hw1; exact (RowKit.Below.refl _ _).alloc (Nat.le_refl _) _
 have hsz := x1.size
 have hsz1 : w.heap.size < w1.heap.size := c0.lt
 go_enter Tryz.func234, Tryz.ntmps234
 go_wp2
 rw [← hw1]
 clear hw1
 go_loopw [7, 8] (fun ov iv wr => ∃ k : Nat, k ≤ G.n.toNat ∧ iv = .int .i64 k ∧ wr.ownsRow w1.heap.size 3 1 ov ((upto k).filter (nxP G.es st b)).length (((upto k).filter (nxP G.es st b)).map (Value.int .i64)) ∧ RowKit.Below w1.heap.size w1 wr) (fun _ iv _ => G.n.toNat - (intOf iv).toNat)
 case atStart => exact ⟨0, by omega, rfl, World.ownsRow_nil _ _ _ _, RowKit.Below.refl _ _⟩
 case round =>
  obtain ⟨k, hk, rfl, hown, hB⟩ := hrel
  have xr := x1.trans (hB.mono x1.size)
  have cr := c0.below hB hsz1
  have f1 := cr.at 1 rfl; have f2 := cr.at 2 rfl
  by_cases hlt : k < G.n.toNat
  ·have hlt' : (k : Int) < G.n := by omega
   have HN := hidI (uptof_succ (nxP G.es st b) k)
   have hML := uptof_len (nxP G.es st b) k
   generalize (upto k).filter (nxP G.es st b) = M at *
   have hszr := hB.size
   obtain ⟨wo, rfl⟩ : ∃ wo : World, wo = wr := ⟨_, rfl⟩
   go_wp2
   go_loopw [9, 10] (fun fv jv wr => ∃ j : Nat, j ≤ G.es.length ∧ jv = .int .i64 j ∧ fv = .bool ((G.es.take j).any (nxE st b k)) ∧ RowKit.Below wo.heap.size wo wr) (fun _ jv _ => G.es.length - (intOf jv).toNat)
   case atStart => exact ⟨0, by omega, rfl, by simp, RowKit.Below.refl _ _⟩
   case round =>
    obtain ⟨j, hj, rfl, rfl, hBt⟩ := hrel
    have xt := xr.trans (hBt.mono xr.size)
    have ct := cr.below hBt cr.lt
    clear f1 f2
    have f1 := ct.at 1 rfl; have f2 := ct.at 2 rfl
    by_cases hjl : j < G.es.length
    ·obtain ⟨b3, o3, rfl, hb3, e0, e1, e2⟩ := (HIN.out.below xt).get3 j hjl rfl
     have HA := hidI (any_snoc (nxE st b k) G.es j hjl)
     generalize (G.es.take j).any (nxE st b k) = fd at *
     generalize hx : G.es[j] = x at *
     have HS1 : Sl (wr.alloc (.cells #[.int .i64 x.f, .int .i64 x.l, .int .i64 x.t] 44)) (Value.int .i64) q st := HST.out.below (xt.alloc xt.size _)
     have hBn : RowKit.Below wo.heap.size wo (wr.alloc (.cells #[.int .i64 x.f, .int .i64 x.l, .int .i64 x.t] 44)) := hBt.alloc hBt.size _
     cases fd
     ·by_cases h1 : x.t = (k : Int)
      ·have d1 : (x.t == (k : Int)) = true := by simpa using h1
       by_cases h2 : x.l = b
       ·have d2 : (x.l == b) = true := by simpa using h2
        have HV : Hid ((G.es.take (j + 1)).any (nxE st b k) = decide (x.f ∈ st)) := by rw [Hid, HA.out]; simp [nxE, h1, h2]
        clear h1 h2
        go_wp2_with (go_at_call 136; refine (rHas_q st q d x.f _ HS1 (by omega)).mono ?_; rintro e w' ⟨rfl, rfl⟩)
        go_roundw
        case rel => exact ⟨j + 1, by omega, by go_num, by rw [HV.out], hBn⟩
        case measure => simp [intOf]; omega
       ·have d2 : (x.l == b) = false := by simpa using h2
        have HV : Hid ((G.es.take (j + 1)).any (nxE st b k) = false) := by rw [Hid, HA.out]; simp [nxE, h2]
        clear h1 h2
        go_wp2_with fail
        go_roundw
        case rel => exact ⟨j + 1, by omega, by go_num, by rw [HV.out], hBn⟩
        case measure => simp [intOf]; omega
      ·have d1 : (x.t == (k : Int)) = false := by simpa using h1
       have HV : Hid ((G.es.take (j + 1)).any (nxE st b k) = false) := by rw [Hid, HA.out]; simp [nxE, h1]
       clear h1
       go_wp2_with fail
       go_roundw
       case rel => exact ⟨j + 1, by omega, by go_num, by rw [HV.out], hBn⟩
       case measure => simp [intOf]; omega
     ·have HV : Hid ((G.es.take (j + 1)).any (nxE st b k) = true) := by rw [Hid, HA.out]; rfl
      go_wp2_with fail
      go_roundw
      case rel => exact ⟨j + 1, by omega, by go_num, by rw [HV.out], hBn⟩
      case measure => simp [intOf]; omega
    ·obtain rfl : j = G.es.length := by omega
     rw [List.take_length]
     have HV : Hid (G.es.any (nxE st b k) = nxP G.es st b k) := rfl
     have hownt := hown.below hBt
     have hBt2 := hB.trans (hBt.mono hB.size)
     generalize G.es.any (nxE st b k) = fd at *
     cases fd
     ·have HN : Hid (List.filter (nxP G.es st b) (upto (k + 1)) = M) := by rw [Hid, HN.out, ← HV.out]; simp
      go_wp2_with fail
      go_roundw
      case rel => exact ⟨k + 1, by omega, by go_num, by rw [HN.out]; exact hownt, hBt2⟩
      case measure => simp [intOf]; omega
     ·have HN : Hid (List.filter (nxP G.es st b) (upto (k + 1)) = M ++ [(k : Int)]) := by rw [Hid, HN.out, ← HV.out]; simp
      have hnew := cell_one_at wr (.int .i64 (k : Int)) 3 wr.heap.size rfl
      have hszt := hBt.size
      go_wp2_with (at_builtin; refine wpList_append_own _ rfl _ _ 30 rfl w1.heap.size 3 i0 (.int .i64 0) 1 8 Tryz.underlying30 hi0 hz0 hz1 hz3 rfl (by decide) _ _ _ rfl (hownt.alloc _) ⟨wr.heap.size, 0, none⟩ 1 1 [.int .i64 (k : Int)] rfl rfl hnew (by simp [Value.oneCell']) (by simp [maxLen]; omega) (by omega) (by rw [World.size_alloc]; omega) ?_; intro v' w2 hown' hgrow _)
      go_roundw
      case rel => exact ⟨k + 1, by omega, by go_num, by rw [HN.out, List.length_append, List.map_append]; exact hown', (hBt2.alloc hBt2.size _).grown hgrow (Nat.le_trans hBt2.size (by simp)) (fun j e => (hownt.lt j e).1)⟩
      case measure => simp [intOf]; omega
  ·obtain rfl : k = G.n.toNat := by omega
   have hlt' : ¬ ((G.n.toNat : Int) < G.n) := by omega
   go_wp2
   go_ret
   obtain ⟨p', c', rfl, _⟩ := own_sl hown
   exact ⟨_, _, _, rfl, ⟨hown.1, hown.2.imp id (fun ⟨g, cap, cur, a, b, z⟩ => ⟨g, cap, cur, a, Nat.le_trans hsz b, z⟩)⟩, xr⟩
end
section
open Go.RowKit Go.Sort Go.Lib
set_option maxRecDepth 100000 in
set_option maxHeartbeats 2000000 in
theorem rCheckSet_any (G : Gr) (p : Option Addr) (c : Nat) (l : List Int) (q : Option Addr) (d : Nat) (w : World) (hin : Sl w (Value.int .i64) q l) (hl : l.length ≤ 9223372036854775807) :
  Calls Tryz.prog 233 #[(.agg #[.int .i64 G.q, .int .i64 G.n, .slice p G.es.length c]), .slice q l.length d] w fun e w' => e = .returned (.int .i64 (chkS G.n none l)) ∧ Below w.heap.size w w' := by
 have hB0 : Below w.heap.size w (w.alloc (.cells #[.int .i64 G.q, .int .i64 G.n, .slice p G.es.length c] 24)) := (Below.refl _ _).alloc (Nat.le_refl _) _
 have b0 : VRow (w.alloc (.cells #[.int .i64 G.q, .int .i64 G.n, .slice p G.es.length c] 24)) w.heap.size 24 [.int .i64 G.q, .int .i64 G.n, .slice p G.es.length c] := VRow.new w _ _
 have hin0 := hin.below hB0
 clear hin
 go_enter Tryz.func233, Tryz.ntmps233
 go_wp2
 generalize (w.alloc (.cells #[.int .i64 G.q, .int .i64 G.n, .slice p G.es.length c] 24)) = w0 at *
 go_loopw [5] (fun i wr => ∃ k : Nat, k ≤ l.length ∧ i = .int .i64 k ∧ Hid (chkS G.n (pvS l k) (l.drop k) = chkS G.n none l) ∧ Dr w0 wr) (fun i _ => l.length - (intOf i).toNat)
 case atStart => exact ⟨0, by omega, rfl, rfl, Dr.refl _⟩
 case round =>
  obtain ⟨k, hk, rfl, hj, hD⟩ := hrel
  have f1 := (b0.dr hD).at 1 rfl
  have hBr := hB0.trans (hD.below _)
  by_cases hlt : k < l.length
  ·obtain ⟨b1, o1, rfl, hb1, hc1⟩ := (hin0.dr hD).get k hlt
   have e1 := hc1 k hlt
   have HA := hidI (chkS_at (n := G.n) hlt)
   by_cases h0 : l[k] < 0
   ·have HI : Hid (chkS G.n none l = 25) := by rw [Hid, ← hj.out, HA.out, if_pos (.inl h0)]
    clear hc1
    go_wp2_with fail
    (refine wp_region_quiet_lit (by kernel_rfl) (by kernel_rfl) ?_; (repeat (first | go_big_quiet_step (fail) | quiet_step (fail))); refine wpQuiet_nil ?_; intro _ hwq; obtain ⟨nq, hwq2⟩ := hwq; subst hwq2)
    go_wp2
    go_ret
    exact ⟨ret_int HI.out.symm, below_dN hBr nq⟩
   ·have d0 : decide (l[k] < 0) = false := decide_eq_false h0
    by_cases h1 : G.n ≤ l[k]
    ·have HI : Hid (chkS G.n none l = 25) := by rw [Hid, ← hj.out, HA.out, if_pos (.inr h1)]
     clear hc1
     go_wp2_with fail
     (refine wp_region_quiet_lit (by kernel_rfl) (by kernel_rfl) ?_; (repeat (first | go_big_quiet_step (fail) | quiet_step (fail))); refine wpQuiet_nil ?_; intro _ hwq; obtain ⟨nq, hwq2⟩ := hwq; subst hwq2)
     go_wp2
     go_ret
     exact ⟨ret_int HI.out.symm, below_dN hBr nq⟩
    ·have HA2 := hidI (HA.out.trans (if_neg (by omega)))
     have d1 : decide (G.n ≤ l[k]) = false := decide_eq_false h1
     by_cases hk0 : k = 0
     ·subst hk0
      have HN : Hid (chkS G.n (pvS l (0 + 1)) (l.drop (0 + 1)) = chkS G.n none l) := by rw [Hid, ← hj.out, HA2.out]; simp [pvS, leP]
      clear hc1
      rw [Nat.add_zero] at e1
      go_wp2_with fail
      (refine wp_region_quiet_lit (by kernel_rfl) (by kernel_rfl) ?_; (repeat (first | go_big_quiet_step (fail) | quiet_step (fail))); refine wpQuiet_nil ?_; intro _ hwq; obtain ⟨nq, hwq2⟩ := hwq; subst hwq2)
      go_wp2_with fail
      (refine wp_region_quiet_lit (by kernel_rfl) (by kernel_rfl) ?_; (repeat (first | go_big_quiet_step (fail) | quiet_step (fail))); refine wpQuiet_nil ?_; intro _ hwq; obtain ⟨nq, hwq2⟩ := hwq; subst hwq2)
      go_wp2
      go_roundw
      case rel => exact ⟨0 + 1, by omega, by go_num, HN, hD.one _⟩
      case measure => simp [intOf]; omega
     ·obtain ⟨m, rfl⟩ : ∃ m, k = m + 1 := ⟨k - 1, by omega⟩
      have e2 := hc1 m (by omega)
      have m0 : (0 : Int) ≤ (m : Int) := by omega
      have m1 : (m : Int) < (l.length : Int) := by omega
      have m2 : (m : Int) + 1 < (l.length : Int) := by omega
      have m3 : (0 : Int) ≤ (m : Int) + 1 := by omega
      have m4 : (0 : Int) < (m : Int) + 1 := by omega
      have q1 : IntKind.i64.wrap (m : Int) = (m : Int) := IntWalk.i64_in _ (by omega)
      have hpv : pvS l (m + 1) = some l[m] := by simp [pvS, show m < l.length by omega]
      by_cases h2 : l[m + 1] ≤ l[m]
      ·have HI : Hid (chkS G.n none l = 10) := by rw [Hid, ← hj.out, HA2.out, hpv]; simp [leP, h2]
       clear hc1 hpv
       go_wp2_with fail
       (refine wp_region_quiet_lit (by kernel_rfl) (by kernel_rfl) ?_; (repeat (first | go_big_quiet_step (fail) | quiet_step (fail))); refine wpQuiet_nil ?_; intro _ hwq; obtain ⟨nq, hwq2⟩ := hwq; subst hwq2)
       go_wp2_with fail
       (refine wp_region_quiet_lit (by kernel_rfl) (by kernel_rfl) ?_; (repeat (first | go_big_quiet_step (fail) | quiet_step (fail))); refine wpQuiet_nil ?_; intro _ hwq; obtain ⟨nq, hwq2⟩ := hwq; subst hwq2)
       go_wp2
       go_ret
       exact ⟨ret_int HI.out.symm, below_dN (below_dN hBr _) _⟩
      ·have HN : Hid (chkS G.n (pvS l (m + 1 + 1)) (l.drop (m + 1 + 1)) = chkS G.n none l) := by rw [Hid, ← hj.out, HA2.out, hpv]; simp [leP, h2]
       have d2 : decide (l[m + 1] ≤ l[m]) = false := decide_eq_false h2
       clear hc1 hpv
       go_wp2_with fail
       (refine wp_region_quiet_lit (by kernel_rfl) (by kernel_rfl) ?_; (repeat (first | go_big_quiet_step (fail) | quiet_step (fail))); refine wpQuiet_nil ?_; intro _ hwq; obtain ⟨nq, hwq2⟩ := hwq; subst hwq2)
       go_wp2_with fail
       (refine wp_region_quiet_lit (by kernel_rfl) (by kernel_rfl) ?_; (repeat (first | go_big_quiet_step (fail) | quiet_step (fail))); refine wpQuiet_nil ?_; intro _ hwq; obtain ⟨nq, hwq2⟩ := hwq; subst hwq2)
       go_wp2
       go_roundw
       case rel => exact ⟨m + 1 + 1, by omega, by go_num, HN, hD.one _⟩
       case measure => simp [intOf]; omega
  ·have HI : Hid (chkS G.n none l = 0) := by rw [Hid, ← hj.out, chkS_end hlt]
   go_wp2
   go_ret
   exact ⟨ret_int HI.out.symm, hBr⟩
end
section
open Go.RowKit Go.Sort Go.Shelf Go.Lib
def stepA (G : Gr) (st : List Int) (b : Int) : List Int × Int := if chkG G = 0 then (if chkS G.n none st = 0 then (if b < 0 ∨ G.q ≤ b then ([], 2) else (nextA G st b, 0)) else ([], chkS G.n none st)) else ([], 1)
set_option maxRecDepth 100000 in
set_option maxHeartbeats 2000000 in
theorem rStep_any (G : Gr) (p : Option Addr) (c : Nat) (st : List Int) (q : Option Addr) (d : Nat) (b : Int) (w : World) (hin : Sg 3 w edE p G.es) (hst : Sl w (Value.int .i64) q st) (hl : G.es.length ≤ 10000) (hs : st.length ≤ 100000) :
  Calls Tryz.prog 217 #[(.agg #[.int .i64 G.q, .int .i64 G.n, .slice p G.es.length c]), .slice q st.length d, .int .i64 b] w (RetLi (stepA G st b).1 (stepA G st b).2 w) := by
 have HIN := hidI hin; have HST := hidI hst
 clear hin hst
 have b0 : VRow (w.alloc (.cells #[.int .i64 G.q, .int .i64 G.n, .slice p G.es.length c] 24)) w.heap.size 24 [.int .i64 G.q, .int .i64 G.n, .slice p G.es.length c] := VRow.new w _ _
 have hB0 : RowKit.Below w.heap.size w (w.alloc (.cells #[.int .i64 G.q, .int .i64 G.n, .slice p G.es.length c] 24)) := (RowKit.Below.refl _ _).alloc (Nat.le_refl _) _
 obtain ⟨r, hr⟩ : ∃ r, chkG G = r := ⟨_, rfl⟩
 by_cases hr0 : r = 0
 ·subst hr0
  obtain ⟨r2, hr2⟩ : ∃ r2, chkS G.n none st = r2 := ⟨_, rfl⟩
  have HR := hidI hr; have HR2 := hidI hr2
  clear hr
  go_enter Tryz.func217, Tryz.ntmps217
  go_wp2_with fail
  refine (rCheck_r G p c _ 0 HR.out (HIN.out.below hB0) (by omega)).mono ?_
  rintro e w1 ⟨rfl, hB1⟩
  have x1 := hB0.trans (hB1.mono hB0.size)
  have c0 := b0.below hB1 b0.lt
  clear hB1 hB0 b0
  have f0 := c0.at 0 rfl; have f1 := c0.at 1 rfl; have f2 := c0.at 2 rfl
  go_wp2_with fail
  refine (rCheckSet_any G p c st q d _ (HST.out.below x1) (by omega)).mono ?_
  rw [hr2]
  rintro e w2 ⟨rfl, hB2⟩
  have x2 := x1.trans (hB2.mono x1.size)
  have d0 := c0.below hB2 c0.lt
  clear f0 f1 f2 hB2 c0
  have f0 := d0.at 0 rfl; have f1 := d0.at 1 rfl; have f2 := d0.at 2 rfl
  by_cases h2 : r2 = 0
  ·subst h2
   clear hr2
   by_cases h0 : b < 0
   ·have HK : Hid (stepA G st b = ([], 2)) := by unfold Hid stepA; rw [if_pos HR.out, if_pos HR2.out, if_pos (.inl h0)]
    go_wp2
    go_ret2
    exact RetLi.nil HK.out x2
   ·by_cases h1 : G.q ≤ b
    ·have HK : Hid (stepA G st b = ([], 2)) := by unfold Hid stepA; rw [if_pos HR.out, if_pos HR2.out, if_pos (.inr h1)]
     go_wp2
     go_ret2
     exact RetLi.nil HK.out x2
    ·have HK : Hid (stepA G st b = (nextA G st b, 0)) := by unfold Hid stepA; rw [if_pos HR.out, if_pos HR2.out, if_neg (by omega)]
     have hv := chkG_ok.1 HR.out
     have hn0 := hv.n1
     have hn1 := hv.n2
     have hx := x2.size
     go_wp2_with fail
     refine (rNext_any G p c st q d b _ (HIN.out.below x2) (HST.out.below x2) hl hs hn0 (by omega)).mono ?_
     rintro e w3 ⟨p3, m3, c3, rfl, hown3, hB3⟩
     go_wp2
     go_ret2
     exact RetLi.of (m := 0) HK.out hown3 hx (x2.trans (hB3.mono x2.size))
  ·have HK : Hid (stepA G st b = ([], r2)) := by unfold Hid stepA; rw [if_pos HR.out, HR2.out, if_neg h2]
   have hrb : (r2 == 0) = false := by simpa using h2
   clear hr2
   go_wp2
   go_ret2
   exact RetLi.nil HK.out x2
 ·have HK : Hid (stepA G st b = ([], 1)) := by unfold Hid stepA; rw [if_neg (by rw [hr]; exact hr0)]
  have hrb : (r == 0) = false := by simpa using hr0
  have HR := hidI hr
  clear hr
  go_enter Tryz.func217, Tryz.ntmps217
  go_wp2_with fail
  refine (rCheck_r G p c _ r HR.out (HIN.out.below hB0) (by omega)).mono ?_
  rintro e w1 ⟨rfl, hB1⟩
  have x1 := hB0.trans (hB1.mono hB0.size)
  go_wp2
  go_ret2
  exact RetLi.nil HK.out x1
end
end Go.Proofs.YtocbhlohcikapaaGreatDoor
