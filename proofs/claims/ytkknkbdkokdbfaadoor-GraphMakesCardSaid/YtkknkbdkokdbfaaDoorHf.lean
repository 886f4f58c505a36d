/-
  Walks: what the statements of layer 9 examine, and whether a list has a number (door seat).
-/
import Derived.Test.YtkknkbdkokdbfaaDoorLb
namespace Go.Proofs.YtkknkbdkokdbfaaDoor
open Go.RowKit Go.Sort Go.Shelf Go.Lib

theorem u8_bd {n : Int} (h : (Lit.int .u8 n).wf = true) : 0 ≤ n ∧ n ≤ 255 := by
  simp [Lit.wf, IntKind.min, IntKind.max, IntKind.signed, IntKind.bits] at h
  omega
theorem retLi_open {r : List Int} {k : Int} {w w' : World} {e : Ending} (h : RetLi r k w e w') : ∃ p c, e = .returned (.tuple #[.slice p r.length c, .int .i64 k]) ∧ Sl w' (Value.int .i64) p r ∧ RowKit.Below w.heap.size w w' := by
  obtain ⟨p, m, c, rfl, ho, hB⟩ := h
  obtain ⟨p', c', hv, hs⟩ := own_sl ho
  cases hv
  exact ⟨p, c, rfl, hs, hB⟩
theorem run_mx4 (w : World) : (Builtin.max_ #[27, 27, 27, 27] 27 #[.int .i64 0, .int .i64 0, .int .i64 0, .int .i64 0]).run Tryd.prog w = .ok (.int .i64 0) w := by kernel_rfl
/-- A graph is valid, and not larger than the statements examine. -/
def fineB (G : Gr) : Bool := !greatG G && decide (chkG G = 0)
set_option maxRecDepth 100000 in
theorem fine_any (G : Gr) (p : Option Addr) (c : Nat) (w : World) (hin : Sg 3 w edE p G.es) (hl : G.es.length ≤ 9223372036854775807) :
    Calls Tryd.prog 28 #[(.agg #[.int .i64 G.q, .int .i64 G.n, .slice p G.es.length c])] w fun e w' => e = .returned (.bool (fineB G)) ∧ RowKit.Below w.heap.size w w' := by
  have HIN := hidI hin
  clear hin
  have b0 : VRow (w.alloc (.cells #[.int .i64 G.q, .int .i64 G.n, .slice p G.es.length c] 24)) w.heap.size 24 [.int .i64 G.q, .int .i64 G.n, .slice p G.es.length c] := VRow.new w _ _
  have x0 : RowKit.Below w.heap.size w (w.alloc (.cells #[.int .i64 G.q, .int .i64 G.n, .slice p G.es.length c] 24)) := (RowKit.Below.refl _ _).alloc (Nat.le_refl _) _
  cases hg : greatG G
  · obtain ⟨r, hr⟩ : ∃ r, chkG G = r := ⟨_, rfl⟩
    have HF : Hid (fineB G = (r == 0)) := by
      unfold Hid fineB; rw [hg, hr]
      by_cases e : r = 0 <;> simp [e]
    have HG := hidI hg; have HR := hidI hr
    clear hg hr
    go_enter Tryd.func28, Tryd.ntmps28
    go_wp2_with fail
    refine (rGreat_any G p c _ hl).mono ?_
    rw [HG.out]
    rintro e w1 ⟨rfl, hB1⟩
    have b1 := b0.below hB1 b0.lt
    have x1 := x0.trans (hB1.mono x0.size)
    have f0 := b1.at 0 rfl; have f1 := b1.at 1 rfl; have f2 := b1.at 2 rfl
    go_wp2_with fail
    refine (rCheck_r G p c w1 r HR.out (HIN.out.below x1) hl).mono ?_
    rintro e w2 ⟨rfl, hB2⟩
    clear f0 f1 f2
    go_wp2
    go_ret
    exact ⟨by rw [HF.out]; rfl, x1.trans (hB2.mono x1.size)⟩
  · have HF : Hid (fineB G = false) := by unfold Hid fineB; rw [hg]; rfl
    have HG := hidI hg
    clear hg
    go_enter Tryd.func28, Tryd.ntmps28
    go_wp2_with fail
    refine (rGreat_any G p c _ hl).mono ?_
    rw [HG.out]
    rintro e w1 ⟨rfl, hB1⟩
    go_wp2
    go_ret
    exact ⟨by rw [HF.out]; rfl, x0.trans (hB1.mono x0.size)⟩
theorem fine_ok {G : Gr} (h : fineB G = true) : Vg G ∧ G.es.length ≤ 30 ∧ G.n ≤ 10 := by
  unfold fineB at h
  rw [Bool.and_eq_true, Bool.not_eq_true', decide_eq_true_eq] at h
  have hv := chkG_ok.1 h.2
  have h1 := great_small h.1
  have h2 := hv.n2
  exact ⟨hv, h1.1, by omega⟩
theorem containsIn_any (l : List Int) (p : Option Addr) (c : Nat) (x : Int) (w : World) (hl : Sl w (Value.int .i64) p l) (hb : l.length ≤ 9223372036854775807) :
    Calls Tryd.prog 31 #[.slice p l.length c, .int .i64 x] w fun e w' => e = .returned (.bool (decide (x ∈ l))) ∧ w' = w := by
  rcases Nat.eq_zero_or_pos l.length with h0 | h0
  · have : l = [] := List.length_eq_zero_iff.1 h0
    subst this
    refine (Tryd.slices_Contains_int_empty p c x w).mono ?_
    rintro e w' ⟨rfl, rfl⟩
    exact ⟨by simp, rfl⟩
  · obtain ⟨b, off, rfl, _, hc⟩ := hl.get 0 h0
    refine (Tryd.slices_Contains_int b off l.length c l x w (Nat.le_refl _) hb (fun j hj => by rw [hc j hj, List.getD_eq_getElem?_getD, List.getElem?_eq_getElem hj]; rfl)).mono ?_
    rintro e w' ⟨rfl, rfl⟩
    rw [List.take_length]
    exact ⟨by rw [show l.contains x = decide (x ∈ l) by rw [Bool.eq_iff_iff]; simp], rfl⟩

end Go.Proofs.YtkknkbdkokdbfaaDoor
