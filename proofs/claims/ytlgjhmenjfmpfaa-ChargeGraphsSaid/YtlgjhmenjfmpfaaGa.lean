/-
  Walks: how numbers, lists of numbers and edges are compared.
-/
import Derived.Test.YtlgjhmenjfmpfaaProg
import Derived.Test.YtlgjhmenjfmpfaaGr
import Derived.Outline
import Derived.BigQuiet
import Derived.Deep.RegionHeld3
import Derived.Deep.DeepCutAuto
import Derived.Sort.Grow
import Derived.Sort.Row
namespace Go.Proofs.Ytlgjhmenjfmpfaa
open Go.RowKit Go.Sort

theorem below_dN {B : Nat} {a w : World} (h : Below B a w) (n : Nat) : Below B a (w.drewN n) := h.trans (Dr.below ⟨n, rfl⟩ B)
theorem isNaNI_any (x : Int) (w : World) : Calls Try.prog 92 #[.int .i64 x] w fun e w' => e = .returned (.bool false) ∧ w = w' := by
  go_enter Try.func92, Try.ntmps92
  go_wp2
  go_ret
  exact ⟨by simp, rfl⟩
theorem cmpc_any (x y : Int) (w : World) : Calls Try.prog 91 #[.int .i64 x, .int .i64 y] w fun e w' => e = .returned (.int .i64 (c3 x y)) ∧ w = w' := by
  by_cases h1 : x < y
  · have HR : Hid (c3 x y = -1) := by unfold Hid c3; rw [if_pos h1]
    go_enter Try.func91, Try.ntmps91
    go_wp2_with (go_at_call 92; refine (isNaNI_any _ _).mono ?_; rintro e w' ⟨rfl, rfl⟩)
    go_ret
    exact ⟨ret_int HR.out.symm, rfl⟩
  · by_cases h2 : y < x
    · have HR : Hid (c3 x y = 1) := by unfold Hid c3; rw [if_neg h1, if_pos h2]
      go_enter Try.func91, Try.ntmps91
      go_wp2_with (go_at_call 92; refine (isNaNI_any _ _).mono ?_; rintro e w' ⟨rfl, rfl⟩)
      go_ret
      exact ⟨ret_int HR.out.symm, rfl⟩
    · have HR : Hid (c3 x y = 0) := by unfold Hid c3; rw [if_neg h1, if_neg h2]
      go_enter Try.func91, Try.ntmps91
      go_wp2_with (go_at_call 92; refine (isNaNI_any _ _).mono ?_; rintro e w' ⟨rfl, rfl⟩)
      go_ret
      exact ⟨ret_int HR.out.symm, rfl⟩

theorem cmpL_same {a b : List Int} (k : Nat) (ha : k < a.length) (hb : k < b.length) (h : a[k] = b[k]) : cmpL (a.drop k) (b.drop k) = cmpL (a.drop (k + 1)) (b.drop (k + 1)) := by
  rw [List.drop_eq_getElem_cons ha, List.drop_eq_getElem_cons hb, cmpL, if_pos (c3_zero.2 h)]
theorem cmpL_diff {a b : List Int} (k : Nat) (ha : k < a.length) (hb : k < b.length) (h : c3 a[k] b[k] ≠ 0) : cmpL (a.drop k) (b.drop k) = c3 a[k] b[k] := by
  rw [List.drop_eq_getElem_cons ha, List.drop_eq_getElem_cons hb, cmpL, if_neg h]
theorem cmpL_longer {a b : List Int} (k : Nat) (ha : k < a.length) (hb : b.length ≤ k) : cmpL (a.drop k) (b.drop k) = 1 := by
  rw [List.drop_eq_getElem_cons ha, List.drop_eq_nil_of_le hb, cmpL]
theorem cmpL_shorter {a b : List Int} (k : Nat) (ha : a.length ≤ k) (hb : k < b.length) : cmpL (a.drop k) (b.drop k) = -1 := by
  rw [List.drop_eq_getElem_cons hb, List.drop_eq_nil_of_le ha, cmpL]
theorem cmpL_ends {a b : List Int} (k : Nat) (ha : a.length ≤ k) (hb : b.length ≤ k) : cmpL (a.drop k) (b.drop k) = 0 := by
  rw [List.drop_eq_nil_of_le hb, List.drop_eq_nil_of_le ha, cmpL]
set_option maxHeartbeats 400000 in
/-- slices.Compare of two lists of numbers. -/
theorem compareI_any (a b : List Int) (p q : Option Addr) (c d : Nat) (w : World) (hp : Sl w (Value.int .i64) p a) (hq : Sl w (Value.int .i64) q b) (ha : a.length ≤ 9223372036854775807) (hb : b.length ≤ 9223372036854775807) :
    Calls Try.prog 72 #[.slice p a.length c, .slice q b.length d] w fun e w' => e = .returned (.int .i64 (cmpL a b)) ∧ w = w' := by
  go_enter Try.func72, Try.ntmps72
  go_wp2
  go_loop [11] (fun i => ∃ k : Nat, k ≤ a.length ∧ k ≤ b.length ∧ i = .int .i64 k ∧ Hid (cmpL a b = cmpL (a.drop k) (b.drop k))) (fun i => a.length - (intOf i).toNat)
  case atStart => exact ⟨0, by omega, by omega, rfl, rfl⟩
  case round =>
    obtain ⟨k, hk, hk2, rfl, hj⟩ := hrel
    by_cases hlt : k < a.length
    · obtain ⟨b1, o1, rfl, hb1, hc1⟩ := hp.get k hlt
      have e1 := hc1 k hlt
      clear hc1
      by_cases hlt2 : k < b.length
      · obtain ⟨b2, o2, rfl, hb2, hc2⟩ := hq.get k hlt2
        have e2 := hc2 k hlt2
        have h2' : (k : Int) < (b.length : Int) := by omega
        clear hc2
        by_cases he : a[k] = b[k]
        · have HE : Hid (cmpL a b = cmpL (a.drop (k + 1)) (b.drop (k + 1))) := hj.out.trans (cmpL_same k hlt hlt2 he)
          have hz : c3 a[k] b[k] = 0 := c3_zero.2 he
          have hzb : (c3 a[k] b[k] != 0) = false := by simpa using hz
          clear he hz
          go_wp2_with (go_at_call 91; refine (cmpc_any _ _ _).mono ?_; rintro e w' ⟨rfl, rfl⟩)
          go_round
          case rel => exact ⟨k + 1, by omega, by omega, by go_num, HE⟩
          case measure => simp [intOf]; omega
        · have hz : c3 a[k] b[k] ≠ 0 := fun h => he (c3_zero.1 h)
          have HE : Hid (cmpL a b = c3 a[k] b[k]) := hj.out.trans (cmpL_diff k hlt hlt2 hz)
          have hzb : (c3 a[k] b[k] != 0) = true := by simpa using hz
          clear he hz
          go_wp2_with (go_at_call 91; refine (cmpc_any _ _ _).mono ?_; rintro e w' ⟨rfl, rfl⟩)
          go_ret
          exact ⟨ret_int HE.out.symm, rfl⟩
      · have HE : Hid (cmpL a b = 1) := hj.out.trans (cmpL_longer k hlt (by omega))
        have h2' : ¬ ((k : Int) < (b.length : Int)) := by omega
        go_wp2
        go_ret
        exact ⟨ret_int HE.out.symm, rfl⟩
    · obtain rfl : k = a.length := by omega
      by_cases hlt2 : a.length < b.length
      · have HE : Hid (cmpL a b = -1) := hj.out.trans (cmpL_shorter _ (Nat.le_refl _) hlt2)
        have h2' : (a.length : Int) < (b.length : Int) := by omega
        go_wp2
        go_ret
        exact ⟨ret_int HE.out.symm, rfl⟩
      · have HE : Hid (cmpL a b = 0) := hj.out.trans (cmpL_ends _ (Nat.le_refl _) (by omega))
        have h2' : ¬ ((a.length : Int) < (b.length : Int)) := by omega
        go_wp2
        go_ret
        exact ⟨ret_int HE.out.symm, rfl⟩

/-- The numbers of an edge. -/
theorem gList_any (x : Ed) (w : World) :
    Calls Try.prog 58 #[(.agg #[.int .i64 x.f, .int .i64 x.l, .int .i64 x.t])] w fun e w' => e = .returned (.slice (some ⟨w.heap.size + 1, 0, none⟩) 3 3) ∧ (w.alloc (.cells #[.int .i64 x.f, .int .i64 x.l, .int .i64 x.t] 47)).alloc (.cells #[.int .i64 x.f, .int .i64 x.l, .int .i64 x.t] 3) = w' := by
  go_enter Try.func58, Try.ntmps58
  go_wp2
  go_ret
  exact ⟨rfl, rfl⟩

/-- Nothing but draws and new blocks. -/
def Up (w w' : World) : Prop := ∃ q os, w' = grow (w.drewN q) os
theorem Up.refl (w : World) : Up w w := ⟨0, #[], by simp [World.drewN]⟩
theorem Up.of_dr {w w' : World} (h : Dr w w') : Up w w' := by obtain ⟨k, rfl⟩ := h; exact ⟨k, #[], by simp⟩
theorem Up.drew (w : World) : Up w w.drew := Up.of_dr ⟨1, rfl⟩
theorem Up.alloc (w : World) (o : Obj) : Up w (w.alloc o) := ⟨0, #[o], by rw [alloc_eq_grow]; simp [World.drewN]⟩
theorem Up.trans {a b c : World} (h : Up a b) (k : Up b c) : Up a c := by
  obtain ⟨q, os, rfl⟩ := h
  obtain ⟨q', os', rfl⟩ := k
  refine ⟨q + q', os ++ os', ?_⟩
  simp [grow, World.drewN, Nat.add_assoc, Array.append_assoc]
theorem Up.below {w w' : World} (h : Up w w') : Below w.heap.size w w' := by
  obtain ⟨q, os, rfl⟩ := h
  refine ⟨rfl, rfl, rfl, by simp [grow, World.drewN], fun k hk => ?_⟩
  simp [grow, World.drewN, Array.getElem?_append, hk]
theorem Up.cell {w w' : World} (h : Up w w') {b o : Nat} {v : Value} (hc : w.cell? ⟨b, o, none⟩ = some v) : w'.cell? ⟨b, o, none⟩ = some v :=
  (h.below.cell (p := ⟨b, o, none⟩) (World.block_lt_of_cell? w _ hc)).trans hc
theorem Up.vrow {w w' : World} (h : Up w w') {B t : Nat} {l : List Value} (hr : VRow w B t l) : VRow w' B t l := hr.below h.below hr.lt
/-- The numbers of an edge, in memory of the call's own. -/
def RetList (x : Ed) (w : World) (e : Ending) (w' : World) : Prop := ∃ g, e = .returned (.slice (some ⟨g, 0, none⟩) 3 3) ∧ VRow w' g 3 ((edL x).map (Value.int .i64)) ∧ Up w w'
theorem gList_up (x : Ed) (w : World) : Calls Try.prog 58 #[(.agg #[.int .i64 x.f, .int .i64 x.l, .int .i64 x.t])] w (RetList x w) :=
  (gList_any x w).mono fun e w' ⟨he, hw⟩ => by
    subst hw
    exact ⟨_, he, VRow.new1 w _ 3 [.int .i64 x.f, .int .i64 x.l, .int .i64 x.t], (Up.alloc w _).trans (Up.alloc _ _)⟩
theorem compare_edges (a b : Ed) (g h : Nat) (w : World) (ha : VRow w g 3 ((edL a).map (Value.int .i64))) (hb : VRow w h 3 ((edL b).map (Value.int .i64))) :
    Calls Try.prog 72 #[.slice (some ⟨g, 0, none⟩) 3 3, .slice (some ⟨h, 0, none⟩) 3 3] w fun e w' => e = .returned (.int .i64 (cmpE a b)) ∧ w = w' :=
  compareI_any (edL a) (edL b) (some ⟨g, 0, none⟩) (some ⟨h, 0, none⟩) 3 3 w (Sl.of_vrow ha) (Sl.of_vrow hb) (by simp [edL]) (by simp [edL])

set_option maxRecDepth 100000 in
set_option maxHeartbeats 1000000 in
/-- The comparison that `by` makes of `list`. -/
theorem gByc_up (a b : Ed) (bf : Nat) (w : World) (hf : w.cell? ⟨bf, 0, none⟩ = some (.func (.func 58) #[] #[])) :
    Calls Try.prog 71 #[(.agg #[.int .i64 a.f, .int .i64 a.l, .int .i64 a.t]), (.agg #[.int .i64 b.f, .int .i64 b.l, .int .i64 b.t]), .pointer (some ⟨bf, 0, none⟩)] w fun e w' => e = .returned (.int .i64 (cmpE a b)) ∧ Up w w' := by
  have hU0 : Up w ((w.alloc (.cells #[.int .i64 a.f, .int .i64 a.l, .int .i64 a.t] 47)).alloc (.cells #[.int .i64 b.f, .int .i64 b.l, .int .i64 b.t] 47)) := (Up.alloc w _).trans (Up.alloc _ _)
  have ha0 : VRow ((w.alloc (.cells #[.int .i64 a.f, .int .i64 a.l, .int .i64 a.t] 47)).alloc (.cells #[.int .i64 b.f, .int .i64 b.l, .int .i64 b.t] 47)) w.heap.size 47 [.int .i64 a.f, .int .i64 a.l, .int .i64 a.t] := (VRow.new w 47 _).alloc _
  have hb0 : VRow ((w.alloc (.cells #[.int .i64 a.f, .int .i64 a.l, .int .i64 a.t] 47)).alloc (.cells #[.int .i64 b.f, .int .i64 b.l, .int .i64 b.t] 47)) (w.heap.size + 1) 47 [.int .i64 b.f, .int .i64 b.l, .int .i64 b.t] := VRow.new1 w _ 47 [.int .i64 b.f, .int .i64 b.l, .int .i64 b.t]
  go_enter Try.func71, Try.ntmps71
  go_wp2_with fail
  have hf0 := hU0.cell hf
  generalize (w.alloc (.cells #[.int .i64 a.f, .int .i64 a.l, .int .i64 a.t] 47)).alloc (.cells #[.int .i64 b.f, .int .i64 b.l, .int .i64 b.t] 47) = w0 at *
  have a0 := ha0.at 0 rfl; have a1 := ha0.at 1 rfl; have a2 := ha0.at 2 rfl
  have b0 := hb0.at 0 rfl; have b1 := hb0.at 1 rfl; have b2 := hb0.at 2 rfl
  go_region_held3 (fun w' => w'.cell? ⟨bf, 0, none⟩ = some (.func (.func 58) #[] #[]) ∧ w'.cell? ⟨w.heap.size, 0, none⟩ = some (.int .i64 a.f) ∧ w'.cell? ⟨w.heap.size, 1, none⟩ = some (.int .i64 a.l) ∧ w'.cell? ⟨w.heap.size, 2, none⟩ = some (.int .i64 a.t) ∧
      w'.cell? ⟨w.heap.size + 1, 0, none⟩ = some (.int .i64 b.f) ∧ w'.cell? ⟨w.heap.size + 1, 1, none⟩ = some (.int .i64 b.l) ∧ w'.cell? ⟨w.heap.size + 1, 2, none⟩ = some (.int .i64 b.t) ∧ Up w0 w')
    (first | (go_split_ands; refine ⟨?_, ?_, ?_, ?_, ?_, ?_, ?_, ?_⟩ <;> first | assumption | (go_keep; done) | exact Up.drew _ | exact hUA.cell (by assumption) | exact hUB.cell (by assumption) | exact Up.trans (by assumption) hUA | exact Up.trans (by assumption) hUB))
    (first
      | (go_at_call_of 58 (Value.agg #[.int .i64 a.f, .int .i64 a.l, .int .i64 a.t]); refine (gList_up a _).mono ?_; rintro e wA ⟨ga, rfl, hra, hUA⟩)
      | (go_at_call_of 58 (Value.agg #[.int .i64 b.f, .int .i64 b.l, .int .i64 b.t]); refine (gList_up b _).mono ?_; rintro e wB ⟨gb, rfl, hrb, hUB⟩)
      | (go_at_call 72; refine (compare_edges a b ga gb _ (hUB.vrow hra) hrb).mono ?_; rintro e wC ⟨rfl, rfl⟩))
  go_split_ands
  have hUZ : Up w0 wB := by assumption
  go_wp2
  go_ret
  exact ⟨rfl, hU0.trans hUZ⟩
end Go.Proofs.Ytlgjhmenjfmpfaa
