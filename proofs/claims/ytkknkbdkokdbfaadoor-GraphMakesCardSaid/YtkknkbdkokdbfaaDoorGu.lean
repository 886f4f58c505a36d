/-
  Walks: the edges that leave a state, of the reference (door seat).
-/
import Derived.Test.YtkknkbdkokdbfaaDoorGk
import Derived.Test.YtkknkbdkokdbfaaDoorGp
namespace Go.Proofs.YtkknkbdkokdbfaaDoor
open Go.RowKit Go.Sort Go.Shelf Go.Lib

theorem infoIn : (Tryd.prog.info? 3).map (fun i => (i.zero, i.size, i.bytes)) = some (some (.int .i64 0), 1, 8) := by kernel_rfl
/-- Where edges that leave a state stand, among the first k. -/
def outI (es : List Ed) (s : Int) (k : Nat) : List Int := ((List.range k).filter (fun i => decide (es[i]?.map Ed.f = some s))).map (fun (i : Nat) => (i : Int))
theorem outI_zero (es : List Ed) (s : Int) : outI es s 0 = [] := rfl
theorem outI_succ {es : List Ed} {s : Int} {k : Nat} (h : k < es.length) : outI es s (k + 1) = outI es s k ++ (if es[k].f = s then [(k : Int)] else []) := by
  unfold outI
  rw [List.range_succ, List.filter_append, List.map_append]
  congr 1
  by_cases hs : es[k].f = s <;> simp [h, hs]
theorem outI_len (es : List Ed) (s : Int) (k : Nat) : (outI es s k).length ≤ k := by
  unfold outI
  rw [List.length_map]
  exact Nat.le_trans (List.length_filter_le _ _) (by simp)
/-- Where edges that leave a state stand, and the error. -/
def outA (G : Gr) (s : Int) : List Int × Int := if chkG G = 0 then (if s < 0 ∨ G.n ≤ s then ([], 25) else (outI G.es s G.es.length, 0)) else ([], 1)
/-- A list of numbers in memory of the call's own, and an error. -/
def RetLi (r : List Int) (k : Int) (w : World) (e : Ending) (w' : World) : Prop := ∃ p m c, e = .returned (.tuple #[.slice p m c, .int .i64 k]) ∧ w'.ownsRow w.heap.size 3 1 (.slice p m c) r.length (r.map (Value.int .i64)) ∧ RowKit.Below w.heap.size w w'
theorem RetLi.of {x : List Int × Int} {r : List Int} {k : Int} {w w' : World} {B m : Nat} {v : Value} (hx : x = (r, k)) (h : w'.ownsRow B 3 1 v r.length (r.map (Value.int .i64))) (hm : w.heap.size ≤ B) (hB : RowKit.Below w.heap.size w w') :
    RetLi x.1 x.2 w (.returned (.tuple #[v, .int .i64 k])) w' := by
  subst hx
  obtain ⟨p, c, rfl, _⟩ := own_sl h
  exact ⟨p, _, c, rfl, ⟨h.1, h.2.imp id (fun ⟨g, cap, cur, a, b, z⟩ => ⟨g, cap, cur, a, Nat.le_trans hm b, z⟩)⟩, hB⟩
theorem RetLi.nil {x : List Int × Int} {k : Int} {w w' : World} (hx : x = ([], k)) (hB : RowKit.Below w.heap.size w w') :
    RetLi x.1 x.2 w (.returned (.tuple #[.slice none 0 0, .int .i64 k])) w' := by
  subst hx; exact ⟨none, 0, 0, rfl, World.ownsRow_nil _ _ _ _, hB⟩

set_option maxRecDepth 100000 in
set_option maxHeartbeats 2000000 in
theorem rOut_any (G : Gr) (p : Option Addr) (c : Nat) (s : Int) (w : World) (hin : Sg 3 w edE p G.es) (hl : G.es.length ≤ 10000) :
    Calls Tryd.prog 20 #[(.agg #[.int .i64 G.q, .int .i64 G.n, .slice p G.es.length c]), .int .i64 s] w (RetLi (outA G s).1 (outA G s).2 w) := by
  have HIN := hidI hin
  clear hin
  obtain ⟨i0, hi0, hz0, hz1, hz3⟩ := info_parts infoIn
  have b0 : VRow (w.alloc (.cells #[.int .i64 G.q, .int .i64 G.n, .slice p G.es.length c] 24)) w.heap.size 24 [.int .i64 G.q, .int .i64 G.n, .slice p G.es.length c] := VRow.new w _ _
  have hB0 : RowKit.Below w.heap.size w (w.alloc (.cells #[.int .i64 G.q, .int .i64 G.n, .slice p G.es.length c] 24)) := (RowKit.Below.refl _ _).alloc (Nat.le_refl _) _
  obtain ⟨r, hr⟩ : ∃ r, chkG G = r := ⟨_, rfl⟩
  by_cases hr0 : r = 0
  · subst hr0
    have HR := hidI hr
    clear hr
    go_enter Tryd.func20, Tryd.ntmps20
    go_wp2_with fail
    refine (rCheck_r G p c _ 0 HR.out (HIN.out.below hB0) (by omega)).mono ?_
    rintro e w1 ⟨rfl, hB1⟩
    have x1 := hB0.trans (hB1.mono hB0.size)
    have c0 := b0.below hB1 b0.lt
    clear hB1 hB0 b0
    have f1 := c0.at 1 rfl; have f2 := c0.at 2 rfl
    by_cases h0 : s < 0
    · have HK : Hid (outA G s = ([], 25)) := by unfold Hid outA; rw [if_pos HR.out, if_pos (.inl h0)]
      go_wp2
      go_ret2
      exact RetLi.nil HK.out x1
    · by_cases h1 : G.n ≤ s
      · have HK : Hid (outA G s = ([], 25)) := by unfold Hid outA; rw [if_pos HR.out, if_pos (.inr h1)]
        go_wp2
        go_ret2
        exact RetLi.nil HK.out x1
      · have HK : Hid (outA G s = (outI G.es s G.es.length, 0)) := by unfold Hid outA; rw [if_pos HR.out, if_neg (by omega)]
        go_wp2
        have hsz := x1.size
        go_loopw [6, 7] (fun ov iv wr => ∃ k : Nat, k ≤ G.es.length ∧ iv = .int .i64 k ∧ wr.ownsRow w1.heap.size 3 1 ov (outI G.es s k).length ((outI G.es s k).map (Value.int .i64)) ∧ RowKit.Below w1.heap.size w1 wr) (fun _ iv _ => G.es.length - (intOf iv).toNat)
        case atStart => exact ⟨0, by omega, rfl, World.ownsRow_nil _ _ _ _, RowKit.Below.refl _ _⟩
        case round =>
          obtain ⟨k, hk, rfl, hown, hB⟩ := hrel
          have xr := x1.trans (hB.mono x1.size)
          have cr := c0.below hB c0.lt
          have f2 := cr.at 2 rfl
          by_cases hlt : k < G.es.length
          · obtain ⟨b3, o3, rfl, hb3, e0, e1, e2⟩ := (HIN.out.below xr).get3 k hlt rfl
            have HN := hidI (outI_succ (s := s) hlt)
            have hML := outI_len G.es s k
            generalize outI G.es s k = M at *
            by_cases he : G.es[k].f = s
            · have hb : (G.es[k].f == s) = true := by simpa using he
              have HN : Hid (outI G.es s (k + 1) = M ++ [(k : Int)]) := by rw [Hid, HN.out, if_pos he]
              have hnew := cell_one_at wr (.int .i64 (k : Int)) 3 wr.heap.size rfl
              clear he
              go_wp2_with (at_builtin; refine wpList_append_own _ rfl _ _ 37 rfl w1.heap.size 3 i0 (.int .i64 0) 1 8 Tryd.underlying37 hi0 hz0 hz1 hz3 rfl (by decide) _ _ _ rfl (hown.alloc _) ⟨wr.heap.size, 0, none⟩ 1 1 [.int .i64 (k : Int)] rfl rfl hnew (by simp [Value.oneCell']) (by simp [maxLen]; omega) (by omega) (by rw [World.size_alloc]; have := hB.size; omega) ?_; intro v' w2 hown' hgrow _)
              go_roundw
              case rel => exact ⟨k + 1, by omega, by go_num, by rw [HN.out, List.length_append, List.map_append]; exact hown', (hB.alloc hB.size _).grown hgrow (Nat.le_trans hB.size (by simp)) (fun j e => (hown.lt j e).1)⟩
              case measure => simp [intOf]; omega
            · have hb : (G.es[k].f == s) = false := by simpa using he
              have HN : Hid (outI G.es s (k + 1) = M) := by rw [Hid, HN.out, if_neg he, List.append_nil]
              clear he
              go_wp2
              go_roundw
              case rel => exact ⟨k + 1, by omega, by go_num, by rw [HN.out]; exact hown, hB⟩
              case measure => simp [intOf]; omega
          · obtain rfl : k = G.es.length := by omega
            go_wp2
            go_ret2
            exact RetLi.of (m := 0) HK.out hown hsz xr
  · have HK : Hid (outA G s = ([], 1)) := by unfold Hid outA; rw [if_neg (by rw [hr]; exact hr0)]
    have hrb : (r == 0) = false := by simpa using hr0
    have HR := hidI hr
    clear hr
    go_enter Tryd.func20, Tryd.ntmps20
    go_wp2_with fail
    refine (rCheck_r G p c _ r HR.out (HIN.out.below hB0) (by omega)).mono ?_
    rintro e w1 ⟨rfl, hB1⟩
    have x1 := hB0.trans (hB1.mono hB0.size)
    go_wp2
    go_ret2
    exact RetLi.nil HK.out x1
end Go.Proofs.YtkknkbdkokdbfaaDoor
