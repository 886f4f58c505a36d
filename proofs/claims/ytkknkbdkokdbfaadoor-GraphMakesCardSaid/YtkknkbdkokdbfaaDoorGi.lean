/-
  Walks: whether a graph is deterministic.
-/
import Derived.Test.YtkknkbdkokdbfaaDoorGh
namespace Go.Proofs.YtkknkbdkokdbfaaDoor
open Go.RowKit Go.Sort Go.Shelf Go.Lib

theorem ret_bi' {a : Bool} {b : Int} {x : Bool × Int} (h : x = (a, b)) : Ending.returned (.tuple #[.bool a, .int .i64 b]) = .returned (.tuple #[.bool x.1, .int .i64 x.2]) := by subst h; rfl
def TwoEds (w : World) (a b : Ed) (u v : Value) (wx : World) : Prop :=
  ∃ g h, u = .pointer (some ⟨g, 0, none⟩) ∧ v = .pointer (some ⟨h, 0, none⟩) ∧ VRow wx g 34 (edE a) ∧ VRow wx h 34 (edE b) ∧ Below w.heap.size w wx
set_option maxRecDepth 100000 in
set_option maxHeartbeats 2000000 in
theorem gDet_any (G : Gr) (p : Option Addr) (c : Nat) (w : World) (hin : Sg 3 w edE p G.es) (hl : G.es.length ≤ 9223372036854775807) :
    Calls Tryd.prog 23 #[(.agg #[.int .i64 G.q, .int .i64 G.n, .slice p G.es.length c])] w fun e w' => e = .returned (.tuple #[.bool (detA G).1, .int .i64 (detA G).2]) ∧ Below w.heap.size w w' := by
  have hB0 : Below w.heap.size w (w.alloc (.cells #[.int .i64 G.q, .int .i64 G.n, .slice p G.es.length c] 24)) := (Below.refl _ _).alloc (Nat.le_refl _) _
  have b0 : VRow (w.alloc (.cells #[.int .i64 G.q, .int .i64 G.n, .slice p G.es.length c] 24)) w.heap.size 24 [.int .i64 G.q, .int .i64 G.n, .slice p G.es.length c] := VRow.new w _ _
  have HIN := hidI hin
  obtain ⟨r, hr⟩ : ∃ r, chkG G = r := ⟨_, rfl⟩
  by_cases hr0 : r = 0
  · subst hr0
    have HD := hidI (detA_ok hr)
    have HR := hidI hr
    have hlen : G.es.length ≤ 1024 := (chkG_ok.1 hr).len
    clear hr hin
    go_enter Tryd.func23, Tryd.ntmps23
    go_wp2_with fail
    refine (gCheck_r G p c _ 0 HR.out (HIN.out.below hB0) hl).mono ?_
    rintro e w1 ⟨rfl, hB1⟩
    have x1 := hB0.trans (hB1.mono hB0.size)
    have b1 := b0.below hB1 b0.lt
    have f2 := b1.at 2 rfl
    clear hB0 b0 hB1
    go_wp2
    go_loopw [4] (fun iv wr => ∃ k : Nat, 1 ≤ k ∧ (k ≤ G.es.length ∨ k = 1) ∧ iv = .int .i64 k ∧ Hid (∀ m (h : m + 1 < G.es.length), m + 1 < k → ¬ (G.es[m].f = G.es[m + 1].f ∧ G.es[m].l = G.es[m + 1].l)) ∧ Below w1.heap.size w1 wr) (fun iv _ => G.es.length - (intOf iv).toNat)
    case atStart => exact ⟨1, by omega, .inr rfl, rfl, fun m _ h => by omega, Below.refl _ _⟩
    case round =>
      obtain ⟨k, hk1, hk, rfl, hj, hB⟩ := hrel
      have xr := x1.trans (hB.mono x1.size)
      have br := b1.below hB b1.lt
      have f2 := br.at 2 rfl
      by_cases hlt : k < G.es.length
      · obtain ⟨m, rfl⟩ : ∃ m, k = m + 1 := ⟨k - 1, by omega⟩
        obtain ⟨b3, o3, rfl, hb3, e0, e1, e2⟩ := (HIN.out.below xr).get3 (m + 1) hlt rfl
        obtain ⟨b4, o4, he4, _, e3, e4, e5⟩ := (HIN.out.below xr).get3 m (by omega) rfl
        cases he4
        have hI : (m : Int) + 1 < (G.es.length : Int) := by omega
        have hI2 : (m : Int) < (G.es.length : Int) := by omega
        have HN : Hid (¬ (G.es[m].f = G.es[m + 1].f ∧ G.es[m].l = G.es[m + 1].l) → ∀ i (h : i + 1 < G.es.length), i + 1 < m + 1 + 1 → ¬ (G.es[i].f = G.es[i + 1].f ∧ G.es[i].l = G.es[i + 1].l)) := fun hn i hi h1 => by
          by_cases e : i = m
          · subst e; exact hn
          · exact hj.out i hi (by omega)
        have HF : Hid (G.es[m].f = G.es[m + 1].f → G.es[m].l = G.es[m + 1].l → detB G.es = false) := detB_f m hlt
        have q0 : IntKind.i64.wrap ((m : Int) + 1) = (m : Int) + 1 := IntWalk.i64_in _ (by omega)
        have q1 : IntKind.i64.wrap (m : Int) = (m : Int) := IntWalk.i64_in _ (by omega)
        have m0 : (0 : Int) ≤ (m : Int) := by omega
        have m2 : (0 : Int) ≤ (m : Int) + 1 := by omega
        go_upto_region 6 with fail
        go_cut [5, 6] (fun s5 s6 wx => TwoEds wr G.es[m] G.es[m + 1] s5 s6 wx)
        case first =>
          go_region_held3 (fun w' => w'.cell? ⟨w.heap.size, 2, none⟩ = some (.slice (some ⟨b3, o3, none⟩) G.es.length c) ∧ w'.cell? ⟨b3, o3 + (m + 1) * 3, none⟩ = some (.int .i64 G.es[m + 1].f) ∧ w'.cell? ⟨b3, o3 + (m + 1) * 3 + 1, none⟩ = some (.int .i64 G.es[m + 1].l) ∧ w'.cell? ⟨b3, o3 + (m + 1) * 3 + 2, none⟩ = some (.int .i64 G.es[m + 1].t) ∧
              w'.cell? ⟨b3, o3 + m * 3, none⟩ = some (.int .i64 G.es[m].f) ∧ w'.cell? ⟨b3, o3 + m * 3 + 1, none⟩ = some (.int .i64 G.es[m].l) ∧ w'.cell? ⟨b3, o3 + m * 3 + 2, none⟩ = some (.int .i64 G.es[m].t))
            (first | go_keep) (first | fail)
          all_goals (go_wp2_with fail; go_meet)
          all_goals first
            | exact ⟨_, _, rfl, rfl, ((VRow.new wr 34 (edE G.es[m])).alloc _).dr ⟨1, rfl⟩, (VRow.new1 wr _ 34 (edE G.es[m + 1])).dr ⟨1, rfl⟩, below_dN (((Below.refl _ _).alloc (Nat.le_refl _) _).alloc (by simp) _) 1⟩
            | exact ⟨_, _, rfl, rfl, (VRow.new1 wr _ 34 (edE G.es[m])).dr ⟨1, rfl⟩, ((VRow.new wr 34 (edE G.es[m + 1])).alloc _).dr ⟨1, rfl⟩, below_dN (((Below.refl _ _).alloc (Nat.le_refl _) _).alloc (by simp) _) 1⟩
        case rest =>
          obtain ⟨g, h, rfl, rfl, hra, hrb, hBc⟩ := hcut
          have g0 := hra.at 0 rfl; have g1 := hra.at 1 rfl
          have h0 := hrb.at 0 rfl; have h1 := hrb.at 1 rfl
          have hB2 := hB.trans (hBc.mono hB.size)
          clear e0 e1 e2 e3 e4 e5 f2
          by_cases h3 : G.es[m].f = G.es[m + 1].f
          · have d3 : (G.es[m].f == G.es[m + 1].f) = true := by simpa using h3
            by_cases h4 : G.es[m].l = G.es[m + 1].l
            · have d4 : (G.es[m].l == G.es[m + 1].l) = true := by simpa using h4
              have HX : Hid (detA G = (false, 0)) := HD.out.trans (by rw [HF.out h3 h4])
              clear h3 h4
              go_wp2
              go_ret2
              exact ⟨ret_bi' HX.out, x1.trans (hB2.mono x1.size)⟩
            · have d4 : (G.es[m].l == G.es[m + 1].l) = false := by simpa using h4
              have HX := hidI (HN.out (fun h => h4 h.2))
              clear h3 h4
              go_wp2
              go_roundw
              case rel => exact ⟨m + 1 + 1, by omega, by omega, by go_num, HX, hB2⟩
              case measure => simp [intOf]; omega
          · have d3 : (G.es[m].f == G.es[m + 1].f) = false := by simpa using h3
            have HX := hidI (HN.out (fun h => h3 h.1))
            clear h3
            go_wp2
            go_roundw
            case rel => exact ⟨m + 1 + 1, by omega, by omega, by go_num, HX, hB2⟩
            case measure => simp [intOf]; omega
      · have HX : Hid (detA G = (true, 0)) := HD.out.trans (by rw [detB_t (fun m hm => hj.out m hm (by omega))])
        have hI : ¬ ((k : Int) < (G.es.length : Int)) := by omega
        go_wp2
        go_ret2
        exact ⟨ret_bi' HX.out, xr⟩
  · have hrb : (r == 0) = false := by simpa using hr0
    have HD := hidI (detA_bad (G := G) (by rw [hr]; exact hr0))
    have HR := hidI hr
    clear hr hin hr0
    go_enter Tryd.func23, Tryd.ntmps23
    go_wp2_with fail
    refine (gCheck_r G p c _ r HR.out (HIN.out.below hB0) hl).mono ?_
    rintro e w1 ⟨rfl, hB1⟩
    go_wp2
    go_ret2
    exact ⟨ret_bi' HD.out, hB0.trans (hB1.mono hB0.size)⟩

set_option maxRecDepth 100000 in
set_option maxHeartbeats 2000000 in
theorem rDet_any (G : Gr) (p : Option Addr) (c : Nat) (w : World) (hin : Sg 3 w edE p G.es) (hl : G.es.length ≤ 9223372036854775807) :
    Calls Tryd.prog 24 #[(.agg #[.int .i64 G.q, .int .i64 G.n, .slice p G.es.length c])] w fun e w' => e = .returned (.tuple #[.bool (detA G).1, .int .i64 (detA G).2]) ∧ Below w.heap.size w w' := by
  have hB0 : Below w.heap.size w (w.alloc (.cells #[.int .i64 G.q, .int .i64 G.n, .slice p G.es.length c] 24)) := (Below.refl _ _).alloc (Nat.le_refl _) _
  have b0 : VRow (w.alloc (.cells #[.int .i64 G.q, .int .i64 G.n, .slice p G.es.length c] 24)) w.heap.size 24 [.int .i64 G.q, .int .i64 G.n, .slice p G.es.length c] := VRow.new w _ _
  have HIN := hidI hin
  obtain ⟨r, hr⟩ : ∃ r, chkG G = r := ⟨_, rfl⟩
  by_cases hr0 : r = 0
  · subst hr0
    have HD := hidI (detA_ok hr)
    have HR := hidI hr
    have hlen : G.es.length ≤ 1024 := (chkG_ok.1 hr).len
    clear hr hin
    go_enter Tryd.func24, Tryd.ntmps24
    go_wp2_with fail
    refine (rCheck_r G p c _ 0 HR.out (HIN.out.below hB0) hl).mono ?_
    rintro e w1 ⟨rfl, hB1⟩
    have x1 := hB0.trans (hB1.mono hB0.size)
    have b1 := b0.below hB1 b0.lt
    have f2 := b1.at 2 rfl
    clear hB0 b0 hB1
    go_wp2
    go_loopw [4] (fun iv wr => ∃ k : Nat, 1 ≤ k ∧ (k ≤ G.es.length ∨ k = 1) ∧ iv = .int .i64 k ∧ Hid (∀ m (h : m + 1 < G.es.length), m + 1 < k → ¬ (G.es[m].f = G.es[m + 1].f ∧ G.es[m].l = G.es[m + 1].l)) ∧ Below w1.heap.size w1 wr) (fun iv _ => G.es.length - (intOf iv).toNat)
    case atStart => exact ⟨1, by omega, .inr rfl, rfl, fun m _ h => by omega, Below.refl _ _⟩
    case round =>
      obtain ⟨k, hk1, hk, rfl, hj, hB⟩ := hrel
      have xr := x1.trans (hB.mono x1.size)
      have br := b1.below hB b1.lt
      have f2 := br.at 2 rfl
      by_cases hlt : k < G.es.length
      · obtain ⟨m, rfl⟩ : ∃ m, k = m + 1 := ⟨k - 1, by omega⟩
        obtain ⟨b3, o3, rfl, hb3, e0, e1, e2⟩ := (HIN.out.below xr).get3 (m + 1) hlt rfl
        obtain ⟨b4, o4, he4, _, e3, e4, e5⟩ := (HIN.out.below xr).get3 m (by omega) rfl
        cases he4
        have hI : (m : Int) + 1 < (G.es.length : Int) := by omega
        have hI2 : (m : Int) < (G.es.length : Int) := by omega
        have q1 : IntKind.i64.wrap (m : Int) = (m : Int) := IntWalk.i64_in _ (by omega)
        have m0 : (0 : Int) ≤ (m : Int) := by omega
        have HN : Hid (¬ (G.es[m].f = G.es[m + 1].f ∧ G.es[m].l = G.es[m + 1].l) → ∀ i (h : i + 1 < G.es.length), i + 1 < m + 1 + 1 → ¬ (G.es[i].f = G.es[i + 1].f ∧ G.es[i].l = G.es[i + 1].l)) := fun hn i hi h1 => by
          by_cases e : i = m
          · subst e; exact hn
          · exact hj.out i hi (by omega)
        have HF : Hid (G.es[m].f = G.es[m + 1].f → G.es[m].l = G.es[m + 1].l → detB G.es = false) := detB_f m hlt
        by_cases h3 : G.es[m].f = G.es[m + 1].f
        · have d3 : (G.es[m + 1].f == G.es[m].f) = true := by simpa using h3.symm
          by_cases h4 : G.es[m].l = G.es[m + 1].l
          · have d4 : (G.es[m + 1].l == G.es[m].l) = true := by simpa using h4.symm
            have HX : Hid (detA G = (false, 0)) := HD.out.trans (by rw [HF.out h3 h4])
            clear h3 h4
            go_wp2_with fail
            (refine wp_region_quiet_lit (by kernel_rfl) (by kernel_rfl) ?_; (repeat (first | go_big_quiet_step (fail) | quiet_step (fail))); refine wpQuiet_nil ?_; intro _ hwq; obtain ⟨nq, hwq2⟩ := hwq; subst hwq2)
            go_wp2
            go_ret2
            exact ⟨ret_bi' HX.out, below_dN xr nq⟩
          · have d4 : (G.es[m + 1].l == G.es[m].l) = false := by simpa using fun h : G.es[m + 1].l = G.es[m].l => h4 h.symm
            have HX := hidI (HN.out (fun h => h4 h.2))
            clear h3 h4
            go_wp2_with fail
            (refine wp_region_quiet_lit (by kernel_rfl) (by kernel_rfl) ?_; (repeat (first | go_big_quiet_step (fail) | quiet_step (fail))); refine wpQuiet_nil ?_; intro _ hwq; obtain ⟨nq, hwq2⟩ := hwq; subst hwq2)
            go_wp2
            go_roundw
            case rel => exact ⟨m + 1 + 1, by omega, by omega, by go_num, HX, below_dN hB nq⟩
            case measure => simp [intOf]; omega
        · have d3 : (G.es[m + 1].f == G.es[m].f) = false := by simpa using fun h : G.es[m + 1].f = G.es[m].f => h3 h.symm
          have HX := hidI (HN.out (fun h => h3 h.1))
          clear h3
          go_wp2_with fail
          (refine wp_region_quiet_lit (by kernel_rfl) (by kernel_rfl) ?_; (repeat (first | go_big_quiet_step (fail) | quiet_step (fail))); refine wpQuiet_nil ?_; intro _ hwq; obtain ⟨nq, hwq2⟩ := hwq; subst hwq2)
          go_wp2
          go_roundw
          case rel => exact ⟨m + 1 + 1, by omega, by omega, by go_num, HX, below_dN hB nq⟩
          case measure => simp [intOf]; omega
      · have HX : Hid (detA G = (true, 0)) := HD.out.trans (by rw [detB_t (fun m hm => hj.out m hm (by omega))])
        have hI : ¬ ((k : Int) < (G.es.length : Int)) := by omega
        go_wp2
        go_ret2
        exact ⟨ret_bi' HX.out, xr⟩
  · have hrb : (r == 0) = false := by simpa using hr0
    have HD := hidI (detA_bad (G := G) (by rw [hr]; exact hr0))
    have HR := hidI hr
    clear hr hin hr0
    go_enter Tryd.func24, Tryd.ntmps24
    go_wp2_with fail
    refine (rCheck_r G p c _ r HR.out (HIN.out.below hB0) hl).mono ?_
    rintro e w1 ⟨rfl, hB1⟩
    go_wp2
    go_ret2
    exact ⟨ret_bi' HD.out, hB0.trans (hB1.mono hB0.size)⟩
end Go.Proofs.YtkknkbdkokdbfaaDoor
