/-
  Words, plain lemmas and walks, merged: Gh, Gi, Gj, Gk, Gp, Gl, Gm.
-/
import Derived.Test.YtcfmpplhghkagaaDoorZka
import Derived.Maps.AppendAt
import Derived.Deep.CutBlock
set_option linter.unusedVariables false
set_option linter.unusedSimpArgs false
namespace Go.Proofs.YtcfmpplhghkagaaDoor
open Go.RowKit Go.Sort Go.Shelf Go.Lib

/-! ### Plain -/
def sameG (G H : Gr) : Bool := decide (G.q = H.q) && (decide (G.n = H.n) && decide (G.es = H.es))
theorem sameG_refl (G : Gr) : sameG G G = true := by simp [sameG]
theorem sameG_iff {G H : Gr} : sameG G H = true ↔ G = H := by
  cases G; cases H; simp [sameG]
theorem sameG_len {G H : Gr} (h : G.es.length ≠ H.es.length) : sameG G H = false := by
  simp [sameG]; intro _ _ e; exact h (by rw [e])
theorem es_ne {l m : List Ed} (k : Nat) (h1 : k < l.length) (h2 : k < m.length) (h : l[k] ≠ m[k]) : l ≠ m := by intro e; subst e; exact h rfl
def detB : List Ed → Bool
  | x :: y :: l => !(decide (x.f = y.f) && decide (x.l = y.l)) && detB (y :: l)
  | _ => true
theorem detB_t : ∀ {l : List Ed}, (∀ k (h : k + 1 < l.length), ¬ (l[k].f = l[k + 1].f ∧ l[k].l = l[k + 1].l)) → detB l = true
  | [], _ => rfl
  | [_], _ => rfl
  | x :: y :: l, h => by
    have h0 := h 0 (by simp)
    simp only [List.getElem_cons_zero, List.getElem_cons_succ] at h0
    rw [detB, detB_t (fun k hk => by have := h (k + 1) (by simpa using hk); simpa using this)]
    by_cases h1 : x.f = y.f
    · have : x.l ≠ y.l := fun e => h0 ⟨h1, e⟩
      simp [this]
    · simp [h1]
theorem detB_f : ∀ {l : List Ed} (k : Nat) (h : k + 1 < l.length), l[k].f = l[k + 1].f → l[k].l = l[k + 1].l → detB l = false
  | [], k, h, _, _ => by simp at h
  | [_], k, h, _, _ => by simp at h
  | x :: y :: l, 0, _, h1, h2 => by
    simp only [List.getElem_cons_zero, List.getElem_cons_succ] at h1 h2
    simp [detB, h1, h2]
  | x :: y :: l, k + 1, h, h1, h2 => by
    rw [detB, detB_f k (by simpa using h) (by simpa using h1) (by simpa using h2), Bool.and_false]
/-- Whether a graph is deterministic, and the error number. -/
def detA (G : Gr) : Bool × Int := if chkG G = 0 then (detB G.es, 0) else (false, 1)
theorem detA_bad {G : Gr} (h : chkG G ≠ 0) : detA G = (false, 1) := by unfold detA; rw [if_neg h]
theorem detA_ok {G : Gr} (h : chkG G = 0) : detA G = (detB G.es, 0) := by unfold detA; rw [if_pos h]
def greatG (G : Gr) : Bool := decide (30 < G.es.length) || (decide (10 < G.n) && decide (G.n ≤ 64))

/-! ### Walks -/
theorem rGreat_any (G : Gr) (p : Option Addr) (c : Nat) (w : World) (hl : G.es.length ≤ 9223372036854775807) :
    Calls Tryd.prog 4 #[(.agg #[.int .i64 G.q, .int .i64 G.n, .slice p G.es.length c])] w fun e w' => e = .returned (.bool (greatG G)) ∧ Below w.heap.size w w' := by
  go_enter Tryd.func4, Tryd.ntmps4
  go_wp2
  all_goals go_ret
  all_goals exact ⟨ret_bool (by unfold greatG; rw [Bool.eq_iff_iff]; simp; omega), (Below.refl _ _).alloc (Nat.le_refl _) _⟩
set_option maxHeartbeats 1000000 in
theorem equalE_any (l m : List Ed) (p p' : Option Addr) (c c' : Nat) (w : World) (hG : Sg 3 w edE p l) (hH : Sg 3 w edE p' m) (lG : l.length ≤ 9223372036854775807) (lH : m.length ≤ 9223372036854775807) :
    Calls Tryd.prog 24 #[.slice p l.length c, .slice p' m.length c'] w fun e w' => e = .returned (.bool (decide (l = m))) ∧ Dr w w' := by
  by_cases hlen : l.length = m.length
  · have d3 : ((l.length : Int) != (m.length : Int)) = false := by simp; omega
    have HL := hidI hlen
    clear hlen
    go_enter Tryd.func24, Tryd.ntmps24
    go_wp2
    go_loopw [13] (fun iv wr => ∃ k : Nat, k ≤ l.length ∧ iv = .int .i64 k ∧ Hid (l.take k = m.take k) ∧ Dr w wr) (fun iv _ => l.length - (intOf iv).toNat)
    case atStart => exact ⟨0, by omega, rfl, by simp [Hid], Dr.refl _⟩
    case round =>
      obtain ⟨k, hk, rfl, hj, hD⟩ := hrel
      by_cases hlt : k < l.length
      · have hlt2 : k < m.length := by have := HL.out; omega
        obtain ⟨b3, o3, rfl, _, e0, e1, e2⟩ := (hG.dr hD).get3 k hlt rfl
        obtain ⟨b4, o4, rfl, _, e3, e4, e5⟩ := (hH.dr hD).get3 k hlt2 rfl
        have hI : (k : Int) < (m.length : Int) := by omega
        have hq := neqE l[k] m[k]
        have hgd := guardE .neq
        by_cases heq : l[k] = m[k]
        · rw [decide_eq_true heq] at hq
          have HN : Hid (l.take (k + 1) = m.take (k + 1)) := by unfold Hid; rw [List.take_succ_eq_append_getElem hlt, List.take_succ_eq_append_getElem hlt2, hj.out, heq]
          clear heq
          go_wp2_with fail
          (refine wp_region_quiet_lit (by kernel_rfl) (by kernel_rfl) ?_; (repeat (first | go_big_quiet_step (fail) | quiet_step (fail))); refine wpQuiet_nil ?_; intro _ hwq; obtain ⟨nq, hwq2⟩ := hwq; subst hwq2)
          clear e0 e1 e2 e3 e4 e5 hq hgd
          go_wp2
          go_roundw
          case rel => exact ⟨k + 1, by omega, by go_num, HN, hD.one _⟩
          case measure => simp [intOf]; omega
        · rw [decide_eq_false heq] at hq
          have HF : Hid (decide (l = m) = false) := decide_eq_false (es_ne k hlt hlt2 heq)
          clear heq
          go_wp2_with fail
          (refine wp_region_quiet_lit (by kernel_rfl) (by kernel_rfl) ?_; (repeat (first | go_big_quiet_step (fail) | quiet_step (fail))); refine wpQuiet_nil ?_; intro _ hwq; obtain ⟨nq, hwq2⟩ := hwq; subst hwq2)
          clear e0 e1 e2 e3 e4 e5 hq hgd
          go_wp2
          go_ret
          exact ⟨ret_bool HF.out.symm, hD.one _⟩
      · have HT : Hid (decide (l = m) = true) := by
          refine decide_eq_true ?_
          have := hj.out
          rwa [List.take_of_length_le (by omega), List.take_of_length_le (by have := HL.out; omega)] at this
        go_wp2
        go_ret
        exact ⟨ret_bool HT.out.symm, hD⟩
  · have HF : Hid (decide (l = m) = false) := decide_eq_false (fun e => hlen (by rw [e]))
    have d3 : ((l.length : Int) != (m.length : Int)) = true := by simp; omega
    clear hlen
    go_enter Tryd.func24, Tryd.ntmps24
    go_wp2
    go_ret
    exact ⟨ret_bool HF.out.symm, Dr.refl _⟩
set_option maxHeartbeats 1000000 in
theorem gSame_any (G H : Gr) (p p' : Option Addr) (c c' : Nat) (w : World) (hG : Sg 3 w edE p G.es) (hH : Sg 3 w edE p' H.es) (lG : G.es.length ≤ 9223372036854775807) (lH : H.es.length ≤ 9223372036854775807) :
    Calls Tryd.prog 8 #[(.agg #[.int .i64 G.q, .int .i64 G.n, .slice p G.es.length c]), (.agg #[.int .i64 H.q, .int .i64 H.n, .slice p' H.es.length c'])] w fun e w' => e = .returned (.bool (sameG G H)) ∧ Below w.heap.size w w' := by
  have hB0 : Below w.heap.size w ((w.alloc (.cells #[.int .i64 G.q, .int .i64 G.n, .slice p G.es.length c] 24)).alloc (.cells #[.int .i64 H.q, .int .i64 H.n, .slice p' H.es.length c'] 24)) := ((Below.refl _ _).alloc (Nat.le_refl _) _).alloc (by simp) _
  by_cases hq : G.q = H.q
  · by_cases hn : G.n = H.n
    · have HS : Hid (sameG G H = decide (G.es = H.es)) := by unfold Hid sameG; rw [decide_eq_true hq, decide_eq_true hn]; rfl
      have d1 : (G.q == H.q) = true := by simpa using hq
      have d2 : (G.n == H.n) = true := by simpa using hn
      clear hq hn
      go_enter Tryd.func8, Tryd.ntmps8
      go_wp2_with fail
      refine (equalE_any G.es H.es p p' c c' _ (hG.below hB0) (hH.below hB0) lG lH).mono ?_
      rw [← HS.out]
      rintro e w1 ⟨rfl, hD⟩
      go_wp2
      go_ret
      exact ⟨rfl, hB0.trans (hD.below _)⟩
    · have HF : Hid (sameG G H = false) := by unfold Hid sameG; rw [decide_eq_false hn]; simp
      have d1 : (G.q == H.q) = true := by simpa using hq
      have d2 : (G.n == H.n) = false := by simpa using hn
      clear hq hn
      go_enter Tryd.func8, Tryd.ntmps8
      go_wp2
      go_ret
      exact ⟨ret_bool HF.out.symm, hB0⟩
  · have HF : Hid (sameG G H = false) := by unfold Hid sameG; rw [decide_eq_false hq]; rfl
    have d1 : (G.q == H.q) = false := by simpa using hq
    clear hq
    go_enter Tryd.func8, Tryd.ntmps8
    go_wp2
    go_ret
    exact ⟨ret_bool HF.out.symm, hB0⟩
end Go.Proofs.YtcfmpplhghkagaaDoor
namespace Go.Proofs.YtcfmpplhghkagaaDoor
open Go.RowKit Go.Sort Go.Shelf Go.Lib

theorem ret_bi' {a : Bool} {b : Int} {x : Bool × Int} (h : x = (a, b)) : Ending.returned (.tuple #[.bool a, .int .i64 b]) = .returned (.tuple #[.bool x.1, .int .i64 x.2]) := by subst h; rfl
def TwoEds (w : World) (a b : Ed) (u v : Value) (wx : World) : Prop :=
  ∃ g h, u = .pointer (some ⟨g, 0, none⟩) ∧ v = .pointer (some ⟨h, 0, none⟩) ∧ VRow wx g 40 (edE a) ∧ VRow wx h 40 (edE b) ∧ Below w.heap.size w wx
set_option maxRecDepth 100000 in
set_option maxHeartbeats 2000000 in
theorem gDet_any (G : Gr) (p : Option Addr) (c : Nat) (w : World) (hin : Sg 3 w edE p G.es) (hl : G.es.length ≤ 9223372036854775807) :
    Calls Tryd.prog 11 #[(.agg #[.int .i64 G.q, .int .i64 G.n, .slice p G.es.length c])] w fun e w' => e = .returned (.tuple #[.bool (detA G).1, .int .i64 (detA G).2]) ∧ Below w.heap.size w w' := by
  have hB0 : Below w.heap.size w (w.alloc (.cells #[.int .i64 G.q, .int .i64 G.n, .slice p G.es.length c] 24)) := (Below.refl _ _).alloc (Nat.le_refl _) _
  have b0 : VRow (w.alloc (.cells #[.int .i64 G.q, .int .i64 G.n, .slice p G.es.length c] 24)) w.heap.size 24 [.int .i64 G.q, .int .i64 G.n, .slice p G.es.length c] := VRow.new w _ _
  have HIN := hidI hin
  obtain ⟨r, hr⟩ : ∃ r, chkG G = r := ⟨_, rfl⟩
  by_cases hr0 : r = 0
  · subst hr0
    have HD := hidI (detA_ok hr)
    have HR := hidI hr
    have hlen : G.es.length ≤ 1024 := (chkG_ok.1 hr).len
    clear hr hin
    go_enter Tryd.func11, Tryd.ntmps11
    go_wp2_with fail
    refine (gCheck_r G p c _ 0 HR.out (HIN.out.below hB0) hl).mono ?_
    rintro e w1 ⟨rfl, hB1⟩
    have x1 := hB0.trans (hB1.mono hB0.size)
    have b1 := b0.below hB1 b0.lt
    have f2 := b1.at 2 rfl
    clear hB0 b0 hB1
    go_wp2
    go_loopw [4] (fun iv wr => ∃ k : Nat, 1 ≤ k ∧ (k ≤ G.es.length ∨ k = 1) ∧ iv = .int .i64 k ∧ Hid (∀ m (h : m + 1 < G.es.length), m + 1 < k → ¬ (G.es[m].f = G.es[m + 1].f ∧ G.es[m].l = G.es[m + 1].l)) ∧ Below w1.heap.size w1 wr) (fun iv _ => G.es.length - (intOf iv).toNat)
    case atStart => exact ⟨1, by omega, .inr rfl, rfl, fun m _ h => by omega, Below.refl _ _⟩
    case round =>
      obtain ⟨k, hk1, hk, rfl, hj, hB⟩ := hrel
      have xr := x1.trans (hB.mono x1.size)
      have br := b1.below hB b1.lt
      have f2 := br.at 2 rfl
      by_cases hlt : k < G.es.length
      · obtain ⟨m, rfl⟩ : ∃ m, k = m + 1 := ⟨k - 1, by omega⟩
        obtain ⟨b3, o3, rfl, hb3, e0, e1, e2⟩ := (HIN.out.below xr).get3 (m + 1) hlt rfl
        obtain ⟨b4, o4, he4, _, e3, e4, e5⟩ := (HIN.out.below xr).get3 m (by omega) rfl
        cases he4
        have hI : (m : Int) + 1 < (G.es.length : Int) := by omega
        have hI2 : (m : Int) < (G.es.length : Int) := by omega
        have HN : Hid (¬ (G.es[m].f = G.es[m + 1].f ∧ G.es[m].l = G.es[m + 1].l) → ∀ i (h : i + 1 < G.es.length), i + 1 < m + 1 + 1 → ¬ (G.es[i].f = G.es[i + 1].f ∧ G.es[i].l = G.es[i + 1].l)) := fun hn i hi h1 => by
          by_cases e : i = m
          · subst e; exact hn
          · exact hj.out i hi (by omega)
        have HF : Hid (G.es[m].f = G.es[m + 1].f → G.es[m].l = G.es[m + 1].l → detB G.es = false) := detB_f m hlt
        have q0 : IntKind.i64.wrap ((m : Int) + 1) = (m : Int) + 1 := IntWalk.i64_in _ (by omega)
        have q1 : IntKind.i64.wrap (m : Int) = (m : Int) := IntWalk.i64_in _ (by omega)
        have m0 : (0 : Int) ≤ (m : Int) := by omega
        have m2 : (0 : Int) ≤ (m : Int) + 1 := by omega
        go_upto_region 6 with fail
        go_cut [5, 6] (fun s5 s6 wx => TwoEds wr G.es[m] G.es[m + 1] s5 s6 wx)
        case first =>
          go_region_held3 (fun w' => w'.cell? ⟨w.heap.size, 2, none⟩ = some (.slice (some ⟨b3, o3, none⟩) G.es.length c) ∧ w'.cell? ⟨b3, o3 + (m + 1) * 3, none⟩ = some (.int .i64 G.es[m + 1].f) ∧ w'.cell? ⟨b3, o3 + (m + 1) * 3 + 1, none⟩ = some (.int .i64 G.es[m + 1].l) ∧ w'.cell? ⟨b3, o3 + (m + 1) * 3 + 2, none⟩ = some (.int .i64 G.es[m + 1].t) ∧
              w'.cell? ⟨b3, o3 + m * 3, none⟩ = some (.int .i64 G.es[m].f) ∧ w'.cell? ⟨b3, o3 + m * 3 + 1, none⟩ = some (.int .i64 G.es[m].l) ∧ w'.cell? ⟨b3, o3 + m * 3 + 2, none⟩ = some (.int .i64 G.es[m].t))
            (first | go_keep) (first | fail)
          all_goals (go_wp2_with fail; go_meet)
          all_goals first
            | exact ⟨_, _, rfl, rfl, ((VRow.new wr 40 (edE G.es[m])).alloc _).dr ⟨1, rfl⟩, (VRow.new1 wr _ 40 (edE G.es[m + 1])).dr ⟨1, rfl⟩, below_dN (((Below.refl _ _).alloc (Nat.le_refl _) _).alloc (by simp) _) 1⟩
            | exact ⟨_, _, rfl, rfl, (VRow.new1 wr _ 40 (edE G.es[m])).dr ⟨1, rfl⟩, ((VRow.new wr 40 (edE G.es[m + 1])).alloc _).dr ⟨1, rfl⟩, below_dN (((Below.refl _ _).alloc (Nat.le_refl _) _).alloc (by simp) _) 1⟩
        case rest =>
          obtain ⟨g, h, rfl, rfl, hra, hrb, hBc⟩ := hcut
          have g0 := hra.at 0 rfl; have g1 := hra.at 1 rfl
          have h0 := hrb.at 0 rfl; have h1 := hrb.at 1 rfl
          have hB2 := hB.trans (hBc.mono hB.size)
          clear e0 e1 e2 e3 e4 e5 f2
          by_cases h3 : G.es[m].f = G.es[m + 1].f
          · have d3 : (G.es[m].f == G.es[m + 1].f) = true := by simpa using h3
            by_cases h4 : G.es[m].l = G.es[m + 1].l
            · have d4 : (G.es[m].l == G.es[m + 1].l) = true := by simpa using h4
              have HX : Hid (detA G = (false, 0)) := HD.out.trans (by rw [HF.out h3 h4])
              clear h3 h4
              go_wp2
              go_ret2
              exact ⟨ret_bi' HX.out, x1.trans (hB2.mono x1.size)⟩
            · have d4 : (G.es[m].l == G.es[m + 1].l) = false := by simpa using h4
              have HX := hidI (HN.out (fun h => h4 h.2))
              clear h3 h4
              go_wp2
              go_roundw
              case rel => exact ⟨m + 1 + 1, by omega, by omega, by go_num, HX, hB2⟩
              case measure => simp [intOf]; omega
          · have d3 : (G.es[m].f == G.es[m + 1].f) = false := by simpa using h3
            have HX := hidI (HN.out (fun h => h3 h.1))
            clear h3
            go_wp2
            go_roundw
            case rel => exact ⟨m + 1 + 1, by omega, by omega, by go_num, HX, hB2⟩
            case measure => simp [intOf]; omega
      · have HX : Hid (detA G = (true, 0)) := HD.out.trans (by rw [detB_t (fun m hm => hj.out m hm (by omega))])
        have hI : ¬ ((k : Int) < (G.es.length : Int)) := by omega
        go_wp2
        go_ret2
        exact ⟨ret_bi' HX.out, xr⟩
  · have hrb : (r == 0) = false := by simpa using hr0
    have HD := hidI (detA_bad (G := G) (by rw [hr]; exact hr0))
    have HR := hidI hr
    clear hr hin hr0
    go_enter Tryd.func11, Tryd.ntmps11
    go_wp2_with fail
    refine (gCheck_r G p c _ r HR.out (HIN.out.below hB0) hl).mono ?_
    rintro e w1 ⟨rfl, hB1⟩
    go_wp2
    go_ret2
    exact ⟨ret_bi' HD.out, hB0.trans (hB1.mono hB0.size)⟩

end Go.Proofs.YtcfmpplhghkagaaDoor
namespace Go.Proofs.YtcfmpplhghkagaaDoor
open Go.RowKit Go.Sort Go.Shelf Go.Lib

/-! ### Appending -/
section
variable {P : Program} {w : World}
theorem run_append_sg (base : Nat) (t ty e : TypeId) (i : TypeInfo) (z : Value) (ht : P.underlying t = some (.slice e)) (hi : P.info? e = some i) (hz : i.zero = some z) (hs : i.size = 3) (hby : i.bytes = 24) (hzs : z.cells.size = 3)
    (v : Value) (xs : List Ed) (n : Nat) (hown : w.ownsRow base e 3 v n (cat xs)) (p : Option Addr) (c : Nat) (l : List Ed) (m : Nat) (hm : l.length = m) (hl : Sg 3 w edE p l) (h63 : n + m ≤ 100000) (hbase : base ≤ w.heap.size) :
    ∃ v' w', (Builtin.append_ #[t, t] ty #[v, .slice p m c]).run P w = .ok v' w' ∧ w'.ownsRow base e 3 v' (n + m) (cat (xs ++ l)) ∧ w.grownBy w' v.ownBlock := by
  subst hm
  cases p with
  | none =>
    rcases hl with h0 | ⟨_, _, hp, _⟩
    · subst h0
      refine ⟨v, w, ?_, by simpa using hown, World.grownBy.refl w _⟩
      rcases hown.2 with ⟨rfl, h0⟩ | ⟨g, cap, cur, rfl, _, _, hnc, _⟩
      · simp [Builtin.append_, run_underlying ht, sizeOf, typeInfo, hi, Builtin.lenOf, Builtin.firstCells]
      · simp [Builtin.append_, run_underlying ht, sizeOf, typeInfo, hi, Builtin.lenOf, Builtin.firstCells, hnc, storeCells]
    · cases hp
  | some ad =>
    have hn : ∀ j u, (cat l)[j]? = some u → w.cell? (ad.add j) = some u := by
      rcases hl with h0 | ⟨b, off, hp, _, hc⟩
      · subst h0; simp [cat]
      · cases hp
        intro j u hu
        rw [show (⟨b, off, none⟩ : Addr).add j = ⟨b, off + j, none⟩ by unfold Addr.add; split <;> simp_all]; exact sg_cells hc j u hu
    obtain ⟨v', w', h1, h2, h3, _, _⟩ := run_append_own_at w base t ty e i z 3 24 ht hi hz hs hby hzs (by decide) v n _ hown ad l.length c (cat l) (cat_len l) hn (cat_one l) (by simp only [maxLen]; omega) (by omega) hbase
    exact ⟨v', w', h1, by rw [cat_app]; exact h2, h3⟩
theorem step_append_run {ops : Array Oper} {o : Oper} {a : Act} {K : Act → World → Prop} {Q : Exit → Act → World → Prop} {E : Prop} (hgd : o.guard = none) (s x : Operand) (t : TypeId)
    (ho : o.op = .call { callee := .builtin .append, args := #[s, x], argTypes := #[t, t] }) (sv xv : Value) (hs : a.eval s = sv) (hx : a.eval x = xv) (v' : Value) (w' : World)
    (hrun : (Builtin.append_ #[t, t] o.type #[sv, xv]).run P w = .ok v' w') (h : K (a.put o.dst v') w') : if Region.wanted o (yielded ops a.tmps) = true then Oper.wp P o a w K Q else E := by
  have hw : Region.wanted o (yielded ops a.tmps) = true := by simp [Region.wanted, hgd]
  rw [if_pos hw]
  unfold Oper.wp execOp
  simp only [ho, resolve, invoke, builtin, Sem.run_bind, Sem.run_pure, Result.andThen_ok, List.map_toArray, List.map_cons, List.map_nil, hs, hx, hrun]
  exact h
end
theorem step_append_sg {P : Program} {w : World} {ops : Array Oper} {o : Oper} {a : Act} {K : Act → World → Prop} {Q : Exit → Act → World → Prop} {E : Prop} (hgd : o.guard = none) (s x : Operand) (t : TypeId)
    (ho : o.op = .call { callee := .builtin .append, args := #[s, x], argTypes := #[t, t] }) (sv : Value) (p : Option Addr) (m c : Nat) (hs : a.eval s = sv) (hx : a.eval x = .slice p m c)
    (base : Nat) (e : TypeId) (i : TypeInfo) (z : Value) (ht : P.underlying t = some (.slice e)) (hi : P.info? e = some i) (hz : i.zero = some z) (hsz : i.size = 3) (hby : i.bytes = 24) (hzs : z.cells.size = 3)
    (xs : List Ed) (n : Nat) (l : List Ed) (hm : l.length = m) (h63 : n + m ≤ 100000) (hown : w.ownsRow base e 3 sv n (cat xs)) (hl : Sg 3 w edE p l) (hbase : base ≤ w.heap.size)
    (h : ∀ v' w', w'.ownsRow base e 3 v' (n + m) (cat (xs ++ l)) → w.grownBy w' sv.ownBlock → K (a.put o.dst v') w') : if Region.wanted o (yielded ops a.tmps) = true then Oper.wp P o a w K Q else E := by
  obtain ⟨v', w', h1, h2, h3⟩ := run_append_sg base t o.type e i z ht hi hz hsz hby hzs sv xs n hown p c l m hm hl h63 hbase
  exact step_append_run hgd s x t ho sv _ hs hx v' w' h1 (h v' w' h2 h3)
theorem own_conv {w : World} {B B' e n : Nat} {v : Value} {xs ys : List Ed} (h : w.ownsRow B e 3 v n (cat xs)) (he : ys = xs) (hB : B' ≤ B) : w.ownsRow B' e 3 v ys.length (cat ys) := by
  subst he
  have hn : ys.length = n := by have := h.1; rw [cat_len] at this; omega
  subst hn
  refine ⟨h.1, ?_⟩
  rcases h.2 with h | ⟨g, cap, cur, a, b, r⟩
  · exact .inl h
  · exact .inr ⟨g, cap, cur, a, Nat.le_trans hB b, r⟩
theorem heap_old1 (w : World) (o o' : Obj) : ((w.alloc o).alloc o').heap[w.heap.size]? = some o := (Below.heap_alloc _ o' _ (by simp)).trans (heap_alloc_new w o)
theorem drB (B : Nat) (w : World) : RowKit.Below B w w.drew := ⟨rfl, rfl, rfl, Nat.le_refl _, fun _ _ => rfl⟩
theorem keep3 {W W' : World} {b o0 o1 o2 : Nat} {v0 v1 v2 : Value} (hb : b < W.heap.size) (h0 : W.cell? ⟨b, o0, none⟩ = some v0) (h1 : W.cell? ⟨b, o1, none⟩ = some v1) (h2 : W.cell? ⟨b, o2, none⟩ = some v2) (h : RowKit.Below W.heap.size W W') :
    W'.cell? ⟨b, o0, none⟩ = some v0 ∧ W'.cell? ⟨b, o1, none⟩ = some v1 ∧ W'.cell? ⟨b, o2, none⟩ = some v2 ∧ RowKit.Below W.heap.size W W' :=
  ⟨(h.cell (p := ⟨b, o0, none⟩) hb).trans h0, (h.cell (p := ⟨b, o1, none⟩) hb).trans h1, (h.cell (p := ⟨b, o2, none⟩) hb).trans h2, h⟩
theorem heap_new1 (w : World) (o o' : Obj) : ((w.alloc o).alloc o').heap[w.heap.size + 1]? = some o' := by
  have := heap_alloc_new (w.alloc o) o'; rwa [World.size_alloc] at this
theorem Sg.take {w : World} {p : Option Addr} {l : List Ed} (h : Sg 3 w edE p l) (k : Nat) : Sg 3 w edE p (l.take k) := by
  rcases h with h | ⟨b, off, hp, hb, hc⟩
  · subst h; exact .inl (by simp)
  · exact .inr ⟨b, off, hp, hb, fun i hi j hj => by rw [List.getElem_take]; exact hc i (by rw [List.length_take] at hi; omega) j hj⟩
theorem Sg.drop {w : World} {b off : Nat} {l : List Ed} (h : Sg 3 w edE (some ⟨b, off, none⟩) l) (k : Nat) : Sg 3 w edE (some ⟨b, off + k * 3, none⟩) (l.drop k) := by
  rcases h with h | ⟨b', off', hp, hb, hc⟩
  · subst h; exact .inl (by simp)
  · cases hp
    refine .inr ⟨b, off + k * 3, rfl, hb, fun i hi j hj => ?_⟩
    rw [List.length_drop] at hi
    have := hc (k + i) (by omega) j hj
    rw [List.getElem_drop, ← this]
    congr 2
    rw [Nat.add_mul]; omega
theorem own_empty {W : World} {g B : Nat} {e : TypeId} (h : W.heap[g]? = some (.cells #[] e (0, 0))) (hB : B ≤ g) : W.ownsRow B e 3 (.slice (some ⟨g, 0, none⟩) 0 0) 0 (cat []) :=
  ⟨rfl, .inr ⟨g, 0, #[], rfl, hB, h, Nat.le_refl _, by simp, rfl, rfl⟩⟩

/-! ### Insertion -/
/-- Where an edge belongs. -/
def posE (x : Ed) (l : List Ed) (k : Nat) : Prop := k ≤ l.length ∧ ∀ m (h : m < l.length), m < k → ltE l[m] x = true
theorem insE_at {x : Ed} : ∀ {l : List Ed} {k : Nat}, l.Pairwise (fun a b => ltE a b = true) → posE x l k → (∀ h : k < l.length, ltE l[k] x = false) → (∀ h : k < l.length, l[k] ≠ x) → insE x l = l.take k ++ x :: l.drop k
  | [], k, _, hp, _, _ => by have := hp.1; simp at this; subst this; rfl
  | y :: l, 0, _, _, h1, h2 => by
    have h1 := h1 (by simp); have h2 := h2 (by simp)
    simp only [List.getElem_cons_zero] at h1 h2
    unfold insE
    rw [if_pos]
    · rfl
    · cases hb : ltE x y
      · exact absurd (ltE_total h1 hb) h2
      · rfl
  | y :: l, k + 1, hs, hp, h1, h2 => by
    have hy := hp.2 0 (by simp) (by omega)
    simp only [List.getElem_cons_zero] at hy
    have ih := insE_at (x := x) (l := l) (k := k) (List.pairwise_cons.1 hs).2 ⟨by have := hp.1; simp at this; omega, fun m hm hk => by have := hp.2 (m + 1) (by simpa using hm) (by omega); simpa using this⟩
      (fun h => by have := h1 (by simpa using h); simpa using this) (fun h => by have := h2 (by simpa using h); simpa using this)
    unfold insE
    rw [if_neg (by rw [ltE_asymm hy]; decide), if_neg (fun e => by subst e; rw [ltE_irrefl] at hy; cases hy), ih]
    rfl
theorem insE_mem {x : Ed} {l : List Ed} (hs : l.Pairwise (fun a b => ltE a b = true)) (hm : x ∈ l) : insE x l = l :=
  norm_unique (insE_srt hs) hs (fun z => by rw [mem_insE]; exact ⟨fun h => h.elim (fun e => by subst e; exact hm) id, .inr⟩)
theorem norm_take_succ (l : List Ed) (k : Nat) (h : k < l.length) : norm (l.take (k + 1)) = insE l[k] (norm (l.take k)) := by
  rw [List.take_succ_eq_append_getElem h, norm_snoc]
theorem insE_len (x : Ed) : ∀ l : List Ed, (insE x l).length ≤ l.length + 1
  | [] => by simp [insE]
  | y :: l => by
    have := insE_len x l
    unfold insE; split
    · simp
    · split
      · simp
      · simp; omega
theorem norm_len (l : List Ed) : ∀ k, k ≤ l.length → (norm (l.take k)).length ≤ k := by
  intro k
  induction k with
  | zero => intro _; simp [norm]
  | succ k ih =>
    intro h
    rw [norm_take_succ l k (by omega)]
    have := insE_len l[k] (norm (l.take k)); have := ih (by omega); omega

end Go.Proofs.YtcfmpplhghkagaaDoor
namespace Go.Proofs.YtcfmpplhghkagaaDoor
open Go.RowKit Go.Sort Go.Shelf Go.Lib

end Go.Proofs.YtcfmpplhghkagaaDoor
namespace Go.Proofs.YtcfmpplhghkagaaDoor
open Go.RowKit

/-- Why a list is no set of states, behind the number before it. -/
def leP : Option Int → Int → Bool
  | some q, s => decide (s ≤ q)
  | none, _ => false
def chkS (n : Int) (p : Option Int) : List Int → Int
  | [] => 0
  | s :: l => if s < 0 ∨ n ≤ s then 25 else if leP p s = true then 10 else chkS n (some s) l
theorem chkS_cons (n : Int) (p : Option Int) (s : Int) (l : List Int) : chkS n p (s :: l) = if s < 0 ∨ n ≤ s then 25 else if leP p s = true then 10 else chkS n (some s) l := by rw [chkS]
/-- The number before place k. -/
def pvS (l : List Int) (k : Nat) : Option Int := if k = 0 then none else l[k - 1]?
theorem chkS_at {n : Int} {l : List Int} {k : Nat} (hk : k < l.length) : chkS n (pvS l k) (l.drop k) = if l[k] < 0 ∨ n ≤ l[k] then 25 else if leP (pvS l k) l[k] = true then 10 else chkS n (pvS l (k + 1)) (l.drop (k + 1)) := by
  rw [List.drop_eq_getElem_cons hk, show pvS l (k + 1) = some l[k] by simp [pvS, hk]]
  exact chkS_cons ..
theorem chkS_end {n : Int} {l : List Int} {k : Nat} (hk : ¬ k < l.length) : chkS n (pvS l k) (l.drop k) = 0 := by
  rw [List.drop_eq_nil_of_le (by omega)]; rfl
theorem chkS_ok {n : Int} : ∀ {l : List Int} {p : Option Int}, chkS n p l = 0 → l.Pairwise (· < ·) ∧ (∀ x ∈ l, 0 ≤ x ∧ x < n) ∧ (∀ q, p = some q → ∀ x ∈ l, q < x)
  | [], _, _ => by simp
  | s :: l, p, h => by
    rw [chkS_cons] at h
    by_cases h1 : s < 0 ∨ n ≤ s
    · rw [if_pos h1] at h; omega
    · rw [if_neg h1] at h
      by_cases h2 : leP p s = true
      · rw [if_pos h2] at h; omega
      · rw [if_neg h2] at h
        obtain ⟨a, b, c⟩ := chkS_ok h
        have c := c s rfl
        refine ⟨List.pairwise_cons.2 ⟨c, a⟩, ?_, ?_⟩
        · intro x hx
          rcases List.mem_cons.1 hx with e | hx
          · subst e; omega
          · exact b x hx
        · intro q hq x hx
          subst hq
          have : ¬ s ≤ q := by simpa [leP] using h2
          rcases List.mem_cons.1 hx with e | hx
          · subst e; omega
          · have := c x hx; omega
/-- Where a number stands in a list, or -1. -/
def idxI (n : Int) (l : List Int) : Int := if n ∈ l then ((l.idxOf n : Nat) : Int) else -1
theorem idxI_hit {n : Int} {l : List Int} {k : Nat} (hk : k < l.length) (he : l[k] = n) (hb : ∀ j (h : j < l.length), j < k → l[j] ≠ n) : idxI n l = k := by
  unfold idxI
  rw [if_pos (by rw [← he]; exact List.getElem_mem _)]
  congr 1
  induction l generalizing k with
  | nil => simp at hk
  | cons y l ih =>
    rw [List.idxOf_cons]
    cases k with
    | zero => simp at he; simp [he]
    | succ k =>
      have h0 := hb 0 (by simp) (by omega)
      simp only [List.getElem_cons_zero] at h0
      rw [show (y == n) = false by simpa using h0]
      simp only [List.getElem_cons_succ] at he
      have := ih (k := k) (by simpa using hk) he (fun j h hj => by have := hb (j + 1) (by simpa using h) (by omega); simpa using this)
      simp [this]
theorem idxI_miss {n : Int} {l : List Int} (hb : ∀ j (h : j < l.length), l[j] ≠ n) : idxI n l = -1 := by
  unfold idxI
  rw [if_neg]
  intro hm
  obtain ⟨i, hi, e⟩ := List.mem_iff_getElem.1 hm
  exact hb i hi e
theorem countP_idxOf {n : Int} : ∀ {l : List Int}, l.Pairwise (· < ·) → n ∈ l → l.countP (· < n) = l.idxOf n
  | [], _, h => by simp at h
  | y :: l, hs, h => by
    obtain ⟨h1, h2⟩ := List.pairwise_cons.1 hs
    rw [List.idxOf_cons, List.countP_cons]
    by_cases e : y = n
    · subst e
      have : l.countP (· < y) = 0 := List.countP_eq_zero.2 (fun x hx => by have := h1 x hx; simp; omega)
      simp [this]
    · have hm : n ∈ l := by rcases List.mem_cons.1 h with e' | h
                            · exact absurd e'.symm e
                            · exact h
      have hlt := h1 n hm
      have ih := countP_idxOf h2 hm
      rw [show (y == n) = false by simpa using e]
      simp [ih, hlt]
/-- An edge of the part on a set. -/
def partE (st : List Int) (x : Ed) : Option Ed := if x.f ∈ st ∧ x.t ∈ st then some ⟨((st.idxOf x.f : Nat) : Int), x.l, ((st.idxOf x.t : Nat) : Int)⟩ else none
/-- The part of a graph on a set. -/
def partA (G : Gr) (st : List Int) : Gr := ⟨G.q, st.length, G.es.filterMap (partE st)⟩
theorem partE_snoc (st : List Int) (l : List Ed) (k : Nat) (h : k < l.length) : (l.take (k + 1)).filterMap (partE st) = (l.take k).filterMap (partE st) ++ (match partE st l[k] with | some y => [y] | none => []) := by
  rw [List.take_succ_eq_append_getElem h, List.filterMap_append]
  congr 1
  cases hp : partE st l[k] <;> simp [hp]
theorem partE_len (st : List Int) (l : List Ed) : (l.filterMap (partE st)).length ≤ l.length := List.length_filterMap_le _ _
end Go.Proofs.YtcfmpplhghkagaaDoor
namespace Go.Proofs.YtcfmpplhghkagaaDoor
open Go.RowKit Go.Sort Go.Shelf Go.Lib

end Go.Proofs.YtcfmpplhghkagaaDoor
namespace Go.Proofs.YtcfmpplhghkagaaDoor
open Go.RowKit Go.Sort Go.Shelf Go.Lib

/-- One graph, its edges in memory that the call made. -/
def RetG (G : Gr) (w : World) (e : Ending) (w' : World) : Prop := ∃ p m c, e = .returned (.agg #[.int .i64 G.q, .int .i64 G.n, .slice p m c]) ∧ w'.ownsRow w.heap.size 40 3 (.slice p m c) G.es.length (cat G.es) ∧ RowKit.Below w.heap.size w w'
theorem cell_new3 (W : World) (y : Ed) (t n : Nat) (hn : W.heap.size = n) : ∀ (j : Nat) (u : Value), (cat [y])[j]? = some u → (W.alloc (.cells (edE y).toArray t)).cell? ((⟨n, 0, none⟩ : Addr).add j) = some u := by
  subst hn
  intro j u hu
  rw [show (⟨W.heap.size, 0, none⟩ : Addr).add j = ⟨W.heap.size, j, none⟩ by unfold Addr.add; split <;> simp_all, (VRow.new W t (edE y)).cell]
  simpa [cat] using hu
theorem own_shape {w : World} {B e n : Nat} {v : Value} {l : List Ed} (h : w.ownsRow B e 3 v n (cat l)) : ∃ p m c, v = .slice p m c := by
  obtain ⟨p, c, h, _⟩ := own_sg h; exact ⟨p, _, c, h⟩
theorem part_stop {st : List Int} {x : Ed} (h : ¬ (x.f ∈ st ∧ x.t ∈ st)) : partE st x = none := if_neg h
theorem part_go {st : List Int} {x : Ed} (h : x.f ∈ st ∧ x.t ∈ st) : partE st x = some ⟨((st.idxOf x.f : Nat) : Int), x.l, ((st.idxOf x.t : Nat) : Int)⟩ := if_pos h
theorem idxI_neg {n : Int} {l : List Int} (h : n ∉ l) : idxI n l = -1 := if_neg h
theorem idxI_pos {n : Int} {l : List Int} (h : n ∈ l) : idxI n l = ((l.idxOf n : Nat) : Int) := if_pos h

end Go.Proofs.YtcfmpplhghkagaaDoor
