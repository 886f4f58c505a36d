/-
  Walks: equal graphs, deterministic graphs, graphs that are too large.
-/
import Derived.Test.YtlgjhmenjfmpfaaGd
import Derived.Test.YtlgjhmenjfmpfaaGg
namespace Go.Proofs.Ytlgjhmenjfmpfaa
open Go.RowKit Go.Sort Go.Shelf Go.Lib

/-! ### Plain -/
def sameG (G H : Gr) : Bool := decide (G.q = H.q) && (decide (G.n = H.n) && decide (G.es = H.es))
theorem sameG_refl (G : Gr) : sameG G G = true := by simp [sameG]
theorem sameG_iff {G H : Gr} : sameG G H = true ↔ G = H := by
  cases G; cases H; simp [sameG]
theorem sameG_len {G H : Gr} (h : G.es.length ≠ H.es.length) : sameG G H = false := by
  simp [sameG]; intro _ _ e; exact h (by rw [e])
theorem es_ne {l m : List Ed} (k : Nat) (h1 : k < l.length) (h2 : k < m.length) (h : l[k] ≠ m[k]) : l ≠ m := by intro e; subst e; exact h rfl
def detB : List Ed → Bool
  | x :: y :: l => !(decide (x.f = y.f) && decide (x.l = y.l)) && detB (y :: l)
  | _ => true
theorem detB_t : ∀ {l : List Ed}, (∀ k (h : k + 1 < l.length), ¬ (l[k].f = l[k + 1].f ∧ l[k].l = l[k + 1].l)) → detB l = true
  | [], _ => rfl
  | [_], _ => rfl
  | x :: y :: l, h => by
    have h0 := h 0 (by simp)
    simp only [List.getElem_cons_zero, List.getElem_cons_succ] at h0
    rw [detB, detB_t (fun k hk => by have := h (k + 1) (by simpa using hk); simpa using this)]
    by_cases h1 : x.f = y.f
    · have : x.l ≠ y.l := fun e => h0 ⟨h1, e⟩
      simp [this]
    · simp [h1]
theorem detB_f : ∀ {l : List Ed} (k : Nat) (h : k + 1 < l.length), l[k].f = l[k + 1].f → l[k].l = l[k + 1].l → detB l = false
  | [], k, h, _, _ => by simp at h
  | [_], k, h, _, _ => by simp at h
  | x :: y :: l, 0, _, h1, h2 => by
    simp only [List.getElem_cons_zero, List.getElem_cons_succ] at h1 h2
    simp [detB, h1, h2]
  | x :: y :: l, k + 1, h, h1, h2 => by
    rw [detB, detB_f k (by simpa using h) (by simpa using h1) (by simpa using h2), Bool.and_false]
/-- Whether a graph is deterministic, and the error number. -/
def detA (G : Gr) : Bool × Int := if chkG G = 0 then (detB G.es, 0) else (false, 1)
theorem detA_bad {G : Gr} (h : chkG G ≠ 0) : detA G = (false, 1) := by unfold detA; rw [if_neg h]
theorem detA_ok {G : Gr} (h : chkG G = 0) : detA G = (detB G.es, 0) := by unfold detA; rw [if_pos h]
def greatG (G : Gr) : Bool := decide (30 < G.es.length) || (decide (10 < G.n) && decide (G.n ≤ 64))

/-! ### Walks -/
set_option maxRecDepth 100000 in
set_option maxHeartbeats 1000000 in
theorem rSame_any (G H : Gr) (p p' : Option Addr) (c c' : Nat) (w : World) (hG : Sg 3 w edE p G.es) (hH : Sg 3 w edE p' H.es) (lG : G.es.length ≤ 9223372036854775807) (lH : H.es.length ≤ 9223372036854775807) :
    Calls Try.prog 13 #[(.agg #[.int .i64 G.q, .int .i64 G.n, .slice p G.es.length c]), (.agg #[.int .i64 H.q, .int .i64 H.n, .slice p' H.es.length c'])] w fun e w' => e = .returned (.bool (sameG G H)) ∧ Below w.heap.size w w' := by
  have hB0 : Below w.heap.size w ((w.alloc (.cells #[.int .i64 G.q, .int .i64 G.n, .slice p G.es.length c] 24)).alloc (.cells #[.int .i64 H.q, .int .i64 H.n, .slice p' H.es.length c'] 24)) := ((Below.refl _ _).alloc (Nat.le_refl _) _).alloc (by simp) _
  have b0 : VRow ((w.alloc (.cells #[.int .i64 G.q, .int .i64 G.n, .slice p G.es.length c] 24)).alloc (.cells #[.int .i64 H.q, .int .i64 H.n, .slice p' H.es.length c'] 24)) w.heap.size 24 [.int .i64 G.q, .int .i64 G.n, .slice p G.es.length c] := (VRow.new w _ _).alloc _
  have b1 : VRow ((w.alloc (.cells #[.int .i64 G.q, .int .i64 G.n, .slice p G.es.length c] 24)).alloc (.cells #[.int .i64 H.q, .int .i64 H.n, .slice p' H.es.length c'] 24)) (w.heap.size + 1) 24 [.int .i64 H.q, .int .i64 H.n, .slice p' H.es.length c'] := VRow.new1 w _ _ _
  have HG := hidI hG; have HH := hidI hH
  clear hG hH
  by_cases hq : G.q = H.q
  · by_cases hn : G.n = H.n
    · by_cases hlen : G.es.length = H.es.length
      · have HS : Hid (sameG G H = decide (G.es = H.es)) := by unfold Hid sameG; rw [decide_eq_true hq, decide_eq_true hn]; rfl
        have d1 : (G.q != H.q) = false := by simpa using hq
        have d2 : (G.n != H.n) = false := by simpa using hn
        have d3 : ((G.es.length : Int) != (H.es.length : Int)) = false := by simp; omega
        have HL := hidI hlen
        clear hq hn hlen
        go_enter Try.func13, Try.ntmps13
        go_wp2
        clear d1 d2 d3
        generalize ((w.alloc (.cells #[.int .i64 G.q, .int .i64 G.n, .slice p G.es.length c] 24)).alloc (.cells #[.int .i64 H.q, .int .i64 H.n, .slice p' H.es.length c'] 24)) = w0 at *
        go_loopw [5] (fun iv wr => ∃ k : Nat, k ≤ G.es.length ∧ iv = .int .i64 k ∧ Hid (G.es.take k = H.es.take k) ∧ Dr w0 wr) (fun iv _ => G.es.length - (intOf iv).toNat)
        case atStart => exact ⟨0, by omega, rfl, by simp [Hid], Dr.refl _⟩
        case round =>
          obtain ⟨k, hk, rfl, hj, hD⟩ := hrel
          have g2 := (b0.dr hD).at 2 rfl
          have h2 := (b1.dr hD).at 2 rfl
          have hBr := hB0.trans (hD.below _)
          by_cases hlt : k < G.es.length
          · have hlt2 : k < H.es.length := by have := HL.out; omega
            obtain ⟨b3, o3, rfl, _, e0, e1, e2⟩ := (HG.out.below hBr).get3 k hlt rfl
            obtain ⟨b4, o4, rfl, _, e3, e4, e5⟩ := (HH.out.below hBr).get3 k hlt2 rfl
            have hI : (k : Int) < (H.es.length : Int) := by omega
            have hq := neqE G.es[k] H.es[k]
            have hgd := guardE .neq
            by_cases heq : G.es[k] = H.es[k]
            · rw [decide_eq_true heq] at hq
              have HN : Hid (G.es.take (k + 1) = H.es.take (k + 1)) := by unfold Hid; rw [List.take_succ_eq_append_getElem hlt, List.take_succ_eq_append_getElem hlt2, hj.out, heq]
              clear heq
              go_wp2_with fail
              (refine wp_region_quiet_lit (by kernel_rfl) (by kernel_rfl) ?_; (repeat (first | go_big_quiet_step (fail) | quiet_step (fail))); refine wpQuiet_nil ?_; intro _ hwq; obtain ⟨nq, hwq2⟩ := hwq; subst hwq2)
              clear e0 e1 e2 e3 e4 e5 hq hgd g2 h2
              go_wp2
              go_roundw
              case rel => exact ⟨k + 1, by omega, by go_num, HN, hD.one _⟩
              case measure => simp [intOf]; omega
            · rw [decide_eq_false heq] at hq
              have HF : Hid (sameG G H = false) := HS.out.trans (decide_eq_false (es_ne k hlt hlt2 heq))
              clear heq
              go_wp2_with fail
              (refine wp_region_quiet_lit (by kernel_rfl) (by kernel_rfl) ?_; (repeat (first | go_big_quiet_step (fail) | quiet_step (fail))); refine wpQuiet_nil ?_; intro _ hwq; obtain ⟨nq, hwq2⟩ := hwq; subst hwq2)
              clear e0 e1 e2 e3 e4 e5 hq hgd g2 h2
              go_wp2
              go_ret
              exact ⟨ret_bool HF.out.symm, hB0.trans ((hD.one _).below _)⟩
          · have HT : Hid (sameG G H = true) := by
              refine HS.out.trans (decide_eq_true ?_)
              have := hj.out
              rwa [List.take_of_length_le (by omega), List.take_of_length_le (by have := HL.out; omega)] at this
            go_wp2
            go_ret
            exact ⟨ret_bool HT.out.symm, hBr⟩
      · have HF := hidI (sameG_len hlen)
        have d1 : (G.q != H.q) = false := by simpa using hq
        have d2 : (G.n != H.n) = false := by simpa using hn
        have d3 : ((G.es.length : Int) != (H.es.length : Int)) = true := by simp; omega
        clear hq hn hlen
        go_enter Try.func13, Try.ntmps13
        go_wp2
        go_ret
        exact ⟨ret_bool HF.out.symm, hB0⟩
    · have HF : Hid (sameG G H = false) := by unfold Hid sameG; rw [decide_eq_false hn]; simp
      have d1 : (G.q != H.q) = false := by simpa using hq
      have d2 : (G.n != H.n) = true := by simpa using hn
      clear hq hn
      go_enter Try.func13, Try.ntmps13
      go_wp2
      go_ret
      exact ⟨ret_bool HF.out.symm, hB0⟩
  · have HF : Hid (sameG G H = false) := by unfold Hid sameG; rw [decide_eq_false hq]; rfl
    have d1 : (G.q != H.q) = true := by simpa using hq
    clear hq
    go_enter Try.func13, Try.ntmps13
    go_wp2
    go_ret
    exact ⟨ret_bool HF.out.symm, hB0⟩

end Go.Proofs.Ytlgjhmenjfmpfaa
