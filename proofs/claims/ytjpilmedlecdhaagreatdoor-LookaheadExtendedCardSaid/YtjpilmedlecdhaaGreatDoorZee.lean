/-
  Words, plain lemmas and walks, merged: Ho, Hl, Ga, ShelfQ, Gc, Gd, Ge, Gb, Gf, Gg, Gh, Gi.
-/
import Derived.Test.YtjpilmedlecdhaaGreatDoorZed
import Derived.Test.YtjpilmedlecdhaaGreatDoorProg
import Derived.Outline
import Derived.BigQuiet
import Derived.Deep.RegionHeld3
import Derived.Deep.DeepCutAuto
import Derived.Sort.Grow
import Derived.Sort.Row
import Derived.Ground.SlgnProg
import Derived.Ground.SlsfProg
import Derived.Ground.SlgqProg
import Derived.Ground.SlgfProg
import Derived.Shelf.SlicesE.Clone
import Derived.Shelf.SlicesQ.Equal
import Derived.Shelf.SlicesQ.IndexFunc
import Derived.Shelf.SlSortCmp.NoneTotal
import Derived.Laws.StructEq
import Derived.Laws.CopyRow
import Derived.Shelf.SlicesE.Equal
set_option linter.unusedVariables false
set_option linter.unusedSimpArgs false
namespace Go.Proofs.YtjpilmedlecdhaaGreatDoor
open Go.RowKit Go.Shelf
attribute [local go_sem] Oper.semAt_some

/-- All blocks below m, and block B, are as they were. -/
def KS (m B : Nat) (W W' : World) : Prop := ∀ i, (i < m ∨ i = B) → W'.heap[i]? = W.heap[i]?
theorem KS.refl (m B : Nat) (W : World) : KS m B W W := fun _ _ => rfl
theorem KS.trans {m B : Nat} {X Y Z : World} (h : KS m B X Y) (k : KS m B Y Z) : KS m B X Z := fun i h1 => (k i h1).trans (h i h1)
theorem KS_b {m B n : Nat} (hm : m ≤ n) (hB : B < n) (W : World) (l : Nat) (o o' : Obj) (hl : n ≤ l) (_ : W.heap[l]? = some o) (_ : o.isCells = false) (_ : o.isWalk = false) : KS m B W (W.putObj l o') :=
  fun i h1 => World.putObj_heap_other (by omega)
theorem KS.boxed {m B : Nat} {t : TypeId} {v : Value} {W W' : World} (h : KS m B W W') (hb : Boxed W B t v) : Boxed W' B t v := (h B (.inr rfl)).trans hb
theorem KS.low {m B : Nat} {W W' : World} (h : KS m B W W') : ∀ i, i < m → W'.heap[i]? = W.heap[i]? := fun i hi => h i (.inl hi)

set_option maxRecDepth 100000 in
set_option maxHeartbeats 1000000 in
theorem leavingS_in (F : Fence) (n : Nat) (hf : F.fn 104) (hro : F.round = none) (hn : 1 ≤ n) (l m Bg Bs : Nat) (G : Gr) (s : Int) (p : Option Addr) (c : Nat) (hlen : G.es.length ≤ 1024) (J Jx : List (Nat × Ed) → World → Prop)
    (hA : ∀ pre W o, J pre W → J pre (W.alloc o))
    (hY : ∀ pre x W, J pre W → pre.length < G.es.length → YieldAt F (n - 1) Tryz.prog l (encL x) W fun e W' =>
      (e = .returned (.bool true) ∧ J (pre ++ [x]) W' ∧ KS m Bs W W') ∨ (e = .returned (.bool false) ∧ Jx (pre ++ [x]) W'))
    (W : World) (hmb : m ≤ Bs) (hg : VRow W Bg 30 [.int .i64 G.q, .int .i64 G.n, .slice p G.es.length c]) (hs : Boxed W Bs 3 (.int .i64 s)) (hin : SgB m W p G.es) (h0 : J [] W) :
    CallsIn F n Tryz.prog 104 #[.func (.yield l) #[] #[], .pointer (some ⟨Bg, 0, none⟩), .pointer (some ⟨Bs, 0, none⟩)] W fun e W' => (∃ v, e = .returned v) ∧
      ((∃ ys : List (Nat × Ed), ys = lvL G.es s G.es.length ∧ J ys W') ∨ (∃ pre : List (Nat × Ed), True ∧ Jx pre W')) := by
  refine callsIn_of_wp Tryz.func104 rfl hf ?_ hro
  simp only [Tryz.ntmps104, List.size_toArray, List.length_cons, List.length_nil, Nat.reduceAdd, Nat.reduceSub, Array.replicate_succ, Array.replicate_zero, List.push_toArray, List.append_toArray, List.nil_append, List.cons_append]
  have f2 := hg.at 2 rfl
  gi_wp2
  clear f2
  gi_loopw [9] (fun i wr => ∃ (k : Nat) (pre : List (Nat × Ed)), k ≤ G.es.length ∧ i = .int .i64 k ∧ Hid (pre = lvL G.es s k) ∧ J pre wr ∧ Boxed wr Bs 3 (.int .i64 s) ∧ SgB m wr p G.es) (fun i _ => G.es.length - (intOf i).toNat)
  case atStart => exact ⟨0, [], Nat.zero_le _, rfl, rfl, h0, hs, hin⟩
  case round =>
    obtain ⟨k, pre, hk, rfl, hp, hJs, hnx, hsg⟩ := hrel
    by_cases hlt : k < G.es.length
    · have hpl : pre.length < G.es.length := by rw [hp.out]; have := lvL_len G.es s k; omega
      obtain ⟨b3, o3, rfl, hb3, e0, e1, e2⟩ := hsg.sg.get3 k hlt rfl
      have HN := hidI (lvL_succ (s := s) hlt)
      have hnA := hnx.alloc (.cells #[.int .i64 G.es[k].f, .int .i64 G.es[k].l, .int .i64 G.es[k].t] 105)
      have hgA := hsg.alloc (by have := hnx.lt; omega) (.cells #[.int .i64 G.es[k].f, .int .i64 G.es[k].l, .int .i64 G.es[k].t] 105)
      have hJA := hA pre wr (.cells #[.int .i64 G.es[k].f, .int .i64 G.es[k].l, .int .i64 G.es[k].t] 105) hJs
      have HY := hidI (hY pre (k, G.es[k]) (wr.alloc (.cells #[.int .i64 G.es[k].f, .int .i64 G.es[k].l, .int .i64 G.es[k].t] 105)) hJA hpl)
      have hbs := hnA.cell
      generalize hx : G.es[k] = x at *
      by_cases he : x.f = s
      · have hb : (x.f == s) = true := by simpa using he
        have HN : Hid (lvL G.es s (k + 1) = lvL G.es s k ++ [(k, x)]) := by rw [Hid, HN.out, if_pos he]
        obtain ⟨fn, tmps, assign, body, hy, hR⟩ := HY.out
        unfold encL at hy
        simp only at hy
        clear he
        gi_wp2
        refine hR.mono ?_
        rintro e W3 (⟨rfl, hJ3, hk3⟩ | ⟨rfl, hJx3⟩)
        · gi_wp2
          go_roundw
          case rel => exact ⟨k + 1, _, by omega, by go_num, by unfold Hid; rw [HN.out, ← hp.out], hJ3, hk3.boxed hnA, hgA.kept hk3.low⟩
          case measure => simp [intOf]; omega
        · gi_wp2
          refine bodyPost_ret (results_none rfl _ _ _) rfl ?_
          exact ⟨⟨_, rfl⟩, .inr ⟨_, trivial, hJx3⟩⟩
      · have hb : (x.f == s) = false := by simpa using he
        have HN : Hid (lvL G.es s (k + 1) = lvL G.es s k) := by rw [Hid, HN.out, if_neg he, List.append_nil]
        clear he
        gi_wp2
        rename_i K1 hK1 x1 h1 w1 e1
        refine ⟨fun f hf => (by cases hf), hK1 _ _ ?_⟩
        clear e1
        gi_wp2
        go_roundw
        case rel => exact ⟨k + 1, _, by omega, by go_num, by unfold Hid; rw [HN.out, ← hp.out], hJA, hnA, hgA⟩
        case measure => simp [intOf]; omega
    · obtain rfl : k = G.es.length := by omega
      gi_wp2
      go_end0
      exact ⟨⟨_, rfl⟩, .inl ⟨_, hp.out, hJs⟩⟩

/-- The sequence, as the law of the loop takes it. -/
theorem leavingS_stops (F : Fence) (n : Nat) (hf : F.fn 104) (hro : F.round = none) (hn : 1 ≤ n) (m Bg Bs : Nat) (G : Gr) (s : Int) (p : Option Addr) (c : Nat) (hlen : G.es.length ≤ 1024) (w : World)
    (hmb : m ≤ Bs) (hg : VRow w Bg 30 [.int .i64 G.q, .int .i64 G.n, .slice p G.es.length c]) (hs : Boxed w Bs 3 (.int .i64 s)) (hin : SgB m w p G.es) :
    SeqStopsK F n Tryz.prog 104 #[.pointer (some ⟨Bg, 0, none⟩), .pointer (some ⟨Bs, 0, none⟩)] encL (KS m Bs) (fun ys => ys = lvL G.es s G.es.length) (fun _ => True) G.es.length w := fun l J Jx W hW hJ _ hY h0 =>
  leavingS_in F n hf hro hn l m Bg Bs G s p c hlen J Jx (fun pre W o h => hJ pre W _ none h (World.grownBy_alloc W o none) (fun r e => by cases e)) hY W hmb (hg.below hW hg.lt) ((KH.of_below hW hs.lt).boxed hs) (hin.kept (fun i hi => hW.block i (by have := hs.lt; omega))) h0
end Go.Proofs.YtjpilmedlecdhaaGreatDoor
namespace Go.Proofs.YtjpilmedlecdhaaGreatDoor
open Go.RowKit

set_option maxHeartbeats 1000000 in
theorem leaving_in (F : Fence) (n : Nat) (hf : F.fn 82) (hro : F.round = none) (g : Value) (s : Int) (q m : Int) (p : Option Addr) (k c : Nat) (hg : g = .agg #[.int .i64 q, .int .i64 m, .slice p k c]) (w : World) :
    CallsIn F n Tryz.prog 82 #[g, .int .i64 s] w fun e w' => e = .returned (.func (.func 104) #[] #[.pointer (some ⟨w.heap.size, 0, none⟩), .pointer (some ⟨w.heap.size + 1, 0, none⟩)]) ∧
      w' = (w.alloc (.cells #[.int .i64 q, .int .i64 m, .slice p k c] 30)).alloc (.cells #[.int .i64 s] 3) := by
  subst hg
  refine callsIn_of_wp Tryz.func82 rfl hf ?_ hro
  simp only [Tryz.ntmps82, List.size_toArray, List.length_cons, List.length_nil, Nat.reduceAdd, Nat.reduceSub, Array.replicate_succ, Array.replicate_zero, List.push_toArray, List.append_toArray, List.nil_append, List.cons_append]
  gi_wp2
  go_ret
  exact ⟨rfl, rfl⟩
end Go.Proofs.YtjpilmedlecdhaaGreatDoor
namespace Go.Proofs.YtjpilmedlecdhaaGreatDoor
open Go.RowKit Go.Sort

theorem below_dN {B : Nat} {a w : World} (h : Below B a w) (n : Nat) : Below B a (w.drewN n) := h.trans (Dr.below ⟨n, rfl⟩ B)
theorem isNaNI_any (x : Int) (w : World) : Calls Tryz.prog 107 #[.int .i64 x] w fun e w' => e = .returned (.bool false) ∧ w = w' := by
  go_enter Tryz.func107, Tryz.ntmps107
  go_wp2
  go_ret
  exact ⟨by simp, rfl⟩
theorem cmpc_any (x y : Int) (w : World) : Calls Tryz.prog 87 #[.int .i64 x, .int .i64 y] w fun e w' => e = .returned (.int .i64 (c3 x y)) ∧ w = w' := by
  by_cases h1 : x < y
  · have HR : Hid (c3 x y = -1) := by unfold Hid c3; rw [if_pos h1]
    go_enter Tryz.func87, Tryz.ntmps87
    go_wp2_with (go_at_call 107; refine (isNaNI_any _ _).mono ?_; rintro e w' ⟨rfl, rfl⟩)
    go_ret
    exact ⟨ret_int HR.out.symm, rfl⟩
  · by_cases h2 : y < x
    · have HR : Hid (c3 x y = 1) := by unfold Hid c3; rw [if_neg h1, if_pos h2]
      go_enter Tryz.func87, Tryz.ntmps87
      go_wp2_with (go_at_call 107; refine (isNaNI_any _ _).mono ?_; rintro e w' ⟨rfl, rfl⟩)
      go_ret
      exact ⟨ret_int HR.out.symm, rfl⟩
    · have HR : Hid (c3 x y = 0) := by unfold Hid c3; rw [if_neg h1, if_neg h2]
      go_enter Tryz.func87, Tryz.ntmps87
      go_wp2_with (go_at_call 107; refine (isNaNI_any _ _).mono ?_; rintro e w' ⟨rfl, rfl⟩)
      go_ret
      exact ⟨ret_int HR.out.symm, rfl⟩

theorem cmpL_same {a b : List Int} (k : Nat) (ha : k < a.length) (hb : k < b.length) (h : a[k] = b[k]) : cmpL (a.drop k) (b.drop k) = cmpL (a.drop (k + 1)) (b.drop (k + 1)) := by
  rw [List.drop_eq_getElem_cons ha, List.drop_eq_getElem_cons hb, cmpL, if_pos (c3_zero.2 h)]
theorem cmpL_diff {a b : List Int} (k : Nat) (ha : k < a.length) (hb : k < b.length) (h : c3 a[k] b[k] ≠ 0) : cmpL (a.drop k) (b.drop k) = c3 a[k] b[k] := by
  rw [List.drop_eq_getElem_cons ha, List.drop_eq_getElem_cons hb, cmpL, if_neg h]
theorem cmpL_longer {a b : List Int} (k : Nat) (ha : k < a.length) (hb : b.length ≤ k) : cmpL (a.drop k) (b.drop k) = 1 := by
  rw [List.drop_eq_getElem_cons ha, List.drop_eq_nil_of_le hb, cmpL]
theorem cmpL_shorter {a b : List Int} (k : Nat) (ha : a.length ≤ k) (hb : k < b.length) : cmpL (a.drop k) (b.drop k) = -1 := by
  rw [List.drop_eq_getElem_cons hb, List.drop_eq_nil_of_le ha, cmpL]
theorem cmpL_ends {a b : List Int} (k : Nat) (ha : a.length ≤ k) (hb : b.length ≤ k) : cmpL (a.drop k) (b.drop k) = 0 := by
  rw [List.drop_eq_nil_of_le hb, List.drop_eq_nil_of_le ha, cmpL]
set_option maxHeartbeats 400000 in
/-- slices.Compare of two lists of numbers. -/
theorem compareI_any (a b : List Int) (p q : Option Addr) (c d : Nat) (w : World) (hp : Sl w (Value.int .i64) p a) (hq : Sl w (Value.int .i64) q b) (ha : a.length ≤ 9223372036854775807) (hb : b.length ≤ 9223372036854775807) :
    Calls Tryz.prog 102 #[.slice p a.length c, .slice q b.length d] w fun e w' => e = .returned (.int .i64 (cmpL a b)) ∧ w = w' := by
  go_enter Tryz.func102, Tryz.ntmps102
  go_wp2
  go_loop [11] (fun i => ∃ k : Nat, k ≤ a.length ∧ k ≤ b.length ∧ i = .int .i64 k ∧ Hid (cmpL a b = cmpL (a.drop k) (b.drop k))) (fun i => a.length - (intOf i).toNat)
  case atStart => exact ⟨0, by omega, by omega, rfl, rfl⟩
  case round =>
    obtain ⟨k, hk, hk2, rfl, hj⟩ := hrel
    by_cases hlt : k < a.length
    · obtain ⟨b1, o1, rfl, hb1, hc1⟩ := hp.get k hlt
      have e1 := hc1 k hlt
      clear hc1
      by_cases hlt2 : k < b.length
      · obtain ⟨b2, o2, rfl, hb2, hc2⟩ := hq.get k hlt2
        have e2 := hc2 k hlt2
        have h2' : (k : Int) < (b.length : Int) := by omega
        clear hc2
        by_cases he : a[k] = b[k]
        · have HE : Hid (cmpL a b = cmpL (a.drop (k + 1)) (b.drop (k + 1))) := hj.out.trans (cmpL_same k hlt hlt2 he)
          have hz : c3 a[k] b[k] = 0 := c3_zero.2 he
          have hzb : (c3 a[k] b[k] != 0) = false := by simpa using hz
          clear he hz
          go_wp2_with (go_at_call 87; refine (cmpc_any _ _ _).mono ?_; rintro e w' ⟨rfl, rfl⟩)
          go_round
          case rel => exact ⟨k + 1, by omega, by omega, by go_num, HE⟩
          case measure => simp [intOf]; omega
        · have hz : c3 a[k] b[k] ≠ 0 := fun h => he (c3_zero.1 h)
          have HE : Hid (cmpL a b = c3 a[k] b[k]) := hj.out.trans (cmpL_diff k hlt hlt2 hz)
          have hzb : (c3 a[k] b[k] != 0) = true := by simpa using hz
          clear he hz
          go_wp2_with (go_at_call 87; refine (cmpc_any _ _ _).mono ?_; rintro e w' ⟨rfl, rfl⟩)
          go_ret
          exact ⟨ret_int HE.out.symm, rfl⟩
      · have HE : Hid (cmpL a b = 1) := hj.out.trans (cmpL_longer k hlt (by omega))
        have h2' : ¬ ((k : Int) < (b.length : Int)) := by omega
        go_wp2
        go_ret
        exact ⟨ret_int HE.out.symm, rfl⟩
    · obtain rfl : k = a.length := by omega
      by_cases hlt2 : a.length < b.length
      · have HE : Hid (cmpL a b = -1) := hj.out.trans (cmpL_shorter _ (Nat.le_refl _) hlt2)
        have h2' : (a.length : Int) < (b.length : Int) := by omega
        go_wp2
        go_ret
        exact ⟨ret_int HE.out.symm, rfl⟩
      · have HE : Hid (cmpL a b = 0) := hj.out.trans (cmpL_ends _ (Nat.le_refl _) (by omega))
        have h2' : ¬ ((a.length : Int) < (b.length : Int)) := by omega
        go_wp2
        go_ret
        exact ⟨ret_int HE.out.symm, rfl⟩

/-- The numbers of an edge. -/
theorem gList_any (x : Ed) (w : World) :
    Calls Tryz.prog 77 #[(.agg #[.int .i64 x.f, .int .i64 x.l, .int .i64 x.t])] w fun e w' => e = .returned (.slice (some ⟨w.heap.size + 1, 0, none⟩) 3 3) ∧ (w.alloc (.cells #[.int .i64 x.f, .int .i64 x.l, .int .i64 x.t] 105)).alloc (.cells #[.int .i64 x.f, .int .i64 x.l, .int .i64 x.t] 3) = w' := by
  go_enter Tryz.func77, Tryz.ntmps77
  go_wp2
  go_ret
  exact ⟨rfl, rfl⟩

/-- Nothing but draws and new blocks. -/
def Up (w w' : World) : Prop := ∃ q os, w' = grow (w.drewN q) os
theorem Up.refl (w : World) : Up w w := ⟨0, #[], by simp [World.drewN]⟩
theorem Up.of_dr {w w' : World} (h : Dr w w') : Up w w' := by obtain ⟨k, rfl⟩ := h; exact ⟨k, #[], by simp⟩
theorem Up.drew (w : World) : Up w w.drew := Up.of_dr ⟨1, rfl⟩
theorem Up.alloc (w : World) (o : Obj) : Up w (w.alloc o) := ⟨0, #[o], by rw [alloc_eq_grow]; simp [World.drewN]⟩
theorem Up.trans {a b c : World} (h : Up a b) (k : Up b c) : Up a c := by
  obtain ⟨q, os, rfl⟩ := h
  obtain ⟨q', os', rfl⟩ := k
  refine ⟨q + q', os ++ os', ?_⟩
  simp [grow, World.drewN, Nat.add_assoc, Array.append_assoc]
theorem Up.below {w w' : World} (h : Up w w') : Below w.heap.size w w' := by
  obtain ⟨q, os, rfl⟩ := h
  refine ⟨rfl, rfl, rfl, by simp [grow, World.drewN], fun k hk => ?_⟩
  simp [grow, World.drewN, Array.getElem?_append, hk]
theorem Up.cell {w w' : World} (h : Up w w') {b o : Nat} {v : Value} (hc : w.cell? ⟨b, o, none⟩ = some v) : w'.cell? ⟨b, o, none⟩ = some v :=
  (h.below.cell (p := ⟨b, o, none⟩) (World.block_lt_of_cell? w _ hc)).trans hc
theorem Up.vrow {w w' : World} (h : Up w w') {B t : Nat} {l : List Value} (hr : VRow w B t l) : VRow w' B t l := hr.below h.below hr.lt
/-- The numbers of an edge, in memory of the call's own. -/
def RetList (x : Ed) (w : World) (e : Ending) (w' : World) : Prop := ∃ g, e = .returned (.slice (some ⟨g, 0, none⟩) 3 3) ∧ VRow w' g 3 ((edL x).map (Value.int .i64)) ∧ Up w w'
theorem gList_up (x : Ed) (w : World) : Calls Tryz.prog 77 #[(.agg #[.int .i64 x.f, .int .i64 x.l, .int .i64 x.t])] w (RetList x w) :=
  (gList_any x w).mono fun e w' ⟨he, hw⟩ => by
    subst hw
    exact ⟨_, he, VRow.new1 w _ 3 [.int .i64 x.f, .int .i64 x.l, .int .i64 x.t], (Up.alloc w _).trans (Up.alloc _ _)⟩
theorem compare_edges (a b : Ed) (g h : Nat) (w : World) (ha : VRow w g 3 ((edL a).map (Value.int .i64))) (hb : VRow w h 3 ((edL b).map (Value.int .i64))) :
    Calls Tryz.prog 102 #[.slice (some ⟨g, 0, none⟩) 3 3, .slice (some ⟨h, 0, none⟩) 3 3] w fun e w' => e = .returned (.int .i64 (cmpE a b)) ∧ w = w' :=
  compareI_any (edL a) (edL b) (some ⟨g, 0, none⟩) (some ⟨h, 0, none⟩) 3 3 w (Sl.of_vrow ha) (Sl.of_vrow hb) (by simp [edL]) (by simp [edL])

set_option maxRecDepth 100000 in
set_option maxHeartbeats 1000000 in
/-- The comparison that `by` makes of `list`. -/
theorem gByc_up (a b : Ed) (bf : Nat) (w : World) (hf : w.cell? ⟨bf, 0, none⟩ = some (.func (.func 77) #[] #[])) :
    Calls Tryz.prog 101 #[(.agg #[.int .i64 a.f, .int .i64 a.l, .int .i64 a.t]), (.agg #[.int .i64 b.f, .int .i64 b.l, .int .i64 b.t]), .pointer (some ⟨bf, 0, none⟩)] w fun e w' => e = .returned (.int .i64 (cmpE a b)) ∧ Up w w' := by
  have hU0 : Up w ((w.alloc (.cells #[.int .i64 a.f, .int .i64 a.l, .int .i64 a.t] 105)).alloc (.cells #[.int .i64 b.f, .int .i64 b.l, .int .i64 b.t] 105)) := (Up.alloc w _).trans (Up.alloc _ _)
  have ha0 : VRow ((w.alloc (.cells #[.int .i64 a.f, .int .i64 a.l, .int .i64 a.t] 105)).alloc (.cells #[.int .i64 b.f, .int .i64 b.l, .int .i64 b.t] 105)) w.heap.size 105 [.int .i64 a.f, .int .i64 a.l, .int .i64 a.t] := (VRow.new w 105 _).alloc _
  have hb0 : VRow ((w.alloc (.cells #[.int .i64 a.f, .int .i64 a.l, .int .i64 a.t] 105)).alloc (.cells #[.int .i64 b.f, .int .i64 b.l, .int .i64 b.t] 105)) (w.heap.size + 1) 105 [.int .i64 b.f, .int .i64 b.l, .int .i64 b.t] := VRow.new1 w _ 105 [.int .i64 b.f, .int .i64 b.l, .int .i64 b.t]
  go_enter Tryz.func101, Tryz.ntmps101
  go_wp2_with fail
  have hf0 := hU0.cell hf
  generalize (w.alloc (.cells #[.int .i64 a.f, .int .i64 a.l, .int .i64 a.t] 105)).alloc (.cells #[.int .i64 b.f, .int .i64 b.l, .int .i64 b.t] 105) = w0 at *
  have a0 := ha0.at 0 rfl; have a1 := ha0.at 1 rfl; have a2 := ha0.at 2 rfl
  have b0 := hb0.at 0 rfl; have b1 := hb0.at 1 rfl; have b2 := hb0.at 2 rfl
  go_region_held3 (fun w' => w'.cell? ⟨bf, 0, none⟩ = some (.func (.func 77) #[] #[]) ∧ w'.cell? ⟨w.heap.size, 0, none⟩ = some (.int .i64 a.f) ∧ w'.cell? ⟨w.heap.size, 1, none⟩ = some (.int .i64 a.l) ∧ w'.cell? ⟨w.heap.size, 2, none⟩ = some (.int .i64 a.t) ∧
      w'.cell? ⟨w.heap.size + 1, 0, none⟩ = some (.int .i64 b.f) ∧ w'.cell? ⟨w.heap.size + 1, 1, none⟩ = some (.int .i64 b.l) ∧ w'.cell? ⟨w.heap.size + 1, 2, none⟩ = some (.int .i64 b.t) ∧ Up w0 w')
    (first | (go_split_ands; refine ⟨?_, ?_, ?_, ?_, ?_, ?_, ?_, ?_⟩ <;> first | assumption | (go_keep; done) | exact Up.drew _ | exact hUA.cell (by assumption) | exact hUB.cell (by assumption) | exact Up.trans (by assumption) hUA | exact Up.trans (by assumption) hUB))
    (first
      | (go_at_call_of 77 (Value.agg #[.int .i64 a.f, .int .i64 a.l, .int .i64 a.t]); refine (gList_up a _).mono ?_; rintro e wA ⟨ga, rfl, hra, hUA⟩)
      | (go_at_call_of 77 (Value.agg #[.int .i64 b.f, .int .i64 b.l, .int .i64 b.t]); refine (gList_up b _).mono ?_; rintro e wB ⟨gb, rfl, hrb, hUB⟩)
      | (go_at_call 102; refine (compare_edges a b ga gb _ (hUB.vrow hra) hrb).mono ?_; rintro e wC ⟨rfl, rfl⟩))
  go_split_ands
  have hUZ : Up w0 wB := by assumption
  go_wp2
  go_ret
  exact ⟨rfl, hU0.trans hUZ⟩
end Go.Proofs.YtjpilmedlecdhaaGreatDoor
namespace Go.Proofs
open Go.Shelf
def Tryz.laySortE_ren : Go.Shelf.Ren := ⟨fun | 6 => 75 | 15 => 100 | 14 => 99 | 28 => 124 | 29 => 125 | 20 => 116 | 21 => 117 | 22 => 118 | 23 => 119 | 24 => 120 | 25 => 121 | 26 => 122 | 27 => 123 | 46 => 141 | 47 => 142 | 48 => 143 | 49 => 144 | 50 => 145 | 57 => 153 | n => n, fun | 22 => 28 | 24 => 105 | 25 => 126 | 3 => 3 | 39 => 139 | 0 => 0 | 53 => 156 | 55 => 159 | 4 => 4 | 46 => 165 | 45 => 164 | 50 => 121 | 5 => 5 | 9 => 9 | 66 => 183 | 70 => 187 | 76 => 195 | 77 => 196 | n => n, fun | n => n⟩
theorem Tryz.laySortE : Go.Proofs.SlLaysF0.n6 Tryz.prog Tryz.laySortE_ren := {
  mixed := by kernel_rfl
  f6 := ⟨Tryz.f75.name, by decide, Tryz.func75.trans (congrArg some (by kernel_rfl))⟩
  f14 := ⟨Tryz.f99.name, by decide, Tryz.func99.trans (congrArg some (by kernel_rfl))⟩
  f15 := Tryz.func100.trans (congrArg some (by kernel_rfl))
  f20 := ⟨Tryz.f116.name, by decide, Tryz.func116.trans (congrArg some (by kernel_rfl))⟩
  f21 := ⟨Tryz.f117.name, by decide, Tryz.func117.trans (congrArg some (by kernel_rfl))⟩
  f22 := ⟨Tryz.f118.name, by decide, Tryz.func118.trans (congrArg some (by kernel_rfl))⟩
  f23 := ⟨Tryz.f119.name, by decide, Tryz.func119.trans (congrArg some (by kernel_rfl))⟩
  f24 := ⟨Tryz.f120.name, by decide, Tryz.func120.trans (congrArg some (by kernel_rfl))⟩
  f25 := ⟨Tryz.f121.name, by decide, Tryz.func121.trans (congrArg some (by kernel_rfl))⟩
  f26 := ⟨Tryz.f122.name, by decide, Tryz.func122.trans (congrArg some (by kernel_rfl))⟩
  f27 := ⟨Tryz.f123.name, by decide, Tryz.func123.trans (congrArg some (by kernel_rfl))⟩
  f28 := Tryz.func124.trans (congrArg some (by kernel_rfl))
  f29 := Tryz.func125.trans (congrArg some (by kernel_rfl))
  f46 := ⟨Tryz.f141.name, by decide, Tryz.func141.trans (congrArg some (by kernel_rfl))⟩
  f47 := Tryz.func142.trans (congrArg some (by kernel_rfl))
  f48 := Tryz.func143.trans (congrArg some (by kernel_rfl))
  f49 := ⟨Tryz.f144.name, by decide, Tryz.func144.trans (congrArg some (by kernel_rfl))⟩
  f50 := ⟨Tryz.f145.name, by decide, Tryz.func145.trans (congrArg some (by kernel_rfl))⟩
  f57 := ⟨Tryz.f153.name, by decide, Tryz.func153.trans (congrArg some (by kernel_rfl))⟩
  t0 := Tryz.underlying0
  a0 := Tryz.isAgg0
  z0 := Tryz.sizeOf0
  v0 := Tryz.zeroValue0
  t3 := Tryz.underlying3
  a3 := Tryz.isAgg3
  z3 := Tryz.sizeOf3
  v3 := Tryz.zeroValue3
  t4 := Tryz.underlying4
  a4 := Tryz.isAgg4
  z4 := Tryz.sizeOf4
  v4 := Tryz.zeroValue4
  t5 := Tryz.underlying5
  a5 := Tryz.isAgg5
  z5 := Tryz.sizeOf5
  v5 := Tryz.zeroValue5
  t9 := Tryz.underlying9
  a9 := Tryz.isAgg9
  z9 := Tryz.sizeOf9
  v9 := Tryz.zeroValue9
  t22 := Tryz.underlying28
  a22 := Tryz.isAgg28
  z22 := Tryz.sizeOf28
  v22 := Tryz.zeroValue28
  t25 := Tryz.underlying126
  a25 := Tryz.isAgg126
  z25 := Tryz.sizeOf126
  v25 := Tryz.zeroValue126
  t39 := Tryz.underlying139
  a39 := Tryz.isAgg139
  z39 := Tryz.sizeOf139
  v39 := Tryz.zeroValue139
  t45 := Tryz.underlying164
  a45 := Tryz.isAgg164
  z45 := Tryz.sizeOf164
  v45 := Tryz.zeroValue164
  t46 := Tryz.underlying165
  a46 := Tryz.isAgg165
  z46 := Tryz.sizeOf165
  v46 := Tryz.zeroValue165
  t50 := Tryz.underlying121
  a50 := Tryz.isAgg121
  z50 := Tryz.sizeOf121
  v50 := Tryz.zeroValue121
  t53 := Tryz.underlying156
  a53 := Tryz.isAgg156
  z53 := Tryz.sizeOf156
  v53 := Tryz.zeroValue156
  t55 := Tryz.underlying159
  a55 := Tryz.isAgg159
  z55 := Tryz.sizeOf159
  v55 := Tryz.zeroValue159
  t66 := Tryz.underlying183
  a66 := Tryz.isAgg183
  z66 := Tryz.sizeOf183
  v66 := Tryz.zeroValue183
  t70 := Tryz.underlying187
  a70 := Tryz.isAgg187
  z70 := Tryz.sizeOf187
  v70 := Tryz.zeroValue187
  t76 := Tryz.underlying195
  a76 := Tryz.isAgg195
  z76 := Tryz.sizeOf195
  v76 := Tryz.zeroValue195
  t77 := Tryz.underlying196
  a77 := Tryz.isAgg196
  z77 := Tryz.sizeOf196
  v77 := Tryz.zeroValue196 }
def Tryz.layCloneE_ren : Go.Shelf.Ren := ⟨fun | 41 => 74 | n => n, fun | 22 => 28 | 23 => 105 | 4 => 4 | n => n, fun | n => n⟩
theorem Tryz.layCloneE : Go.Proofs.SlLaysE0.n41 Tryz.prog Tryz.layCloneE_ren := {
  mixed := by kernel_rfl
  f41 := ⟨Tryz.f74.name, by decide, Tryz.func74.trans (congrArg some (by kernel_rfl))⟩
  t4 := Tryz.underlying4
  a4 := Tryz.isAgg4
  z4 := Tryz.sizeOf4
  v4 := Tryz.zeroValue4
  t22 := Tryz.underlying28
  a22 := Tryz.isAgg28
  z22 := Tryz.sizeOf28
  v22 := Tryz.zeroValue28 }
end Go.Proofs
namespace Go.Proofs.YtjpilmedlecdhaaGreatDoor
open Go.RowKit Go.Sort Go.Shelf Go.Lib

def cat (l : List Ed) : List Value := l.flatMap edE
theorem cat_len (l : List Ed) : (cat l).length = l.length * 3 := by
  induction l with
  | nil => rfl
  | cons x l ih => simp only [cat, List.flatMap_cons, List.length_append, List.length_cons] at *; rw [ih]; simp [edE]; omega
theorem flat_at {α β : Type} {enc : α → List β} {m : Nat} (hm : ∀ x, (enc x).length = m) : ∀ (l : List α) (i : Nat) (hi : i < l.length) (j : Nat), j < m → (l.flatMap enc)[i * m + j]? = (enc l[i])[j]?
  | [], i, hi, _, _ => by simp at hi
  | x :: l, 0, _, j, hj => by
    rw [List.flatMap_cons, Nat.zero_mul, Nat.zero_add, List.getElem?_append_left (by rw [hm]; exact hj)]; rfl
  | x :: l, i + 1, hi, j, hj => by
    rw [List.flatMap_cons, List.getElem?_append_right (by rw [hm, Nat.succ_mul]; omega), hm, show (i + 1) * m + j - m = i * m + j by rw [Nat.succ_mul]; omega]
    exact flat_at hm l i (by simpa using hi) j hj
theorem cat_get (l : List Ed) (i : Nat) (hi : i < l.length) (j : Nat) (hj : j < 3) : (cat l)[i * 3 + j]? = (edE l[i])[j]? := flat_at (enc := edE) (m := 3) (fun _ => rfl) l i hi j hj
theorem cat_app (l m : List Ed) : cat (l ++ m) = cat l ++ cat m := by simp [cat, List.flatMap_append]
theorem cat_one (l : List Ed) : ∀ u ∈ cat l, u.oneCell' = true := by
  intro u hu
  obtain ⟨x, _, hx⟩ := List.mem_flatMap.1 hu
  simp only [edE, List.mem_cons, List.not_mem_nil, or_false] at hx
  rcases hx with rfl | rfl | rfl <;> rfl
/-- Edges that lie in a whole row of a block. -/
theorem Sg.of_row {w : World} {B t : Nat} {l : List Ed} (h : VRow w B t (cat l)) : Sg 3 w edE (some ⟨B, 0, none⟩) l :=
  .inr ⟨B, 0, rfl, h.lt, fun i hi j hj => by rw [Nat.zero_add, h.cell, cat_get l i hi j hj]⟩
theorem own_sg {B e n : Nat} {w : World} {v : Value} {l : List Ed} (h : w.ownsRow B e 3 v n (cat l)) : ∃ p cap, v = .slice p l.length cap ∧ Sg 3 w edE p l ∧ l.length ≤ cap ∧ l.length = n := by
  have hn : l.length = n := by have := h.1; rw [cat_len] at this; omega
  rcases h.2 with ⟨rfl, h0⟩ | ⟨g, cap, cur, rfl, hg, hh, hc, hm, hs, ht⟩
  · subst h0
    have : l = [] := List.length_eq_zero_iff.1 hn
    subst this
    exact ⟨none, 0, rfl, Sg.nil _ _ _ _, by simp, rfl⟩
  · refine ⟨some ⟨g, 0, none⟩, cap, by rw [hn], .inr ⟨g, 0, rfl, (Array.getElem?_eq_some_iff.1 hh).1, fun i hi j hj => ?_⟩, by omega, hn⟩
    have hij : i * 3 + j < n * 3 := by omega
    rw [Nat.zero_add, ← cat_get l i hi j hj, ← ht, List.getElem?_take, if_pos hij]
    simp [World.cell?, hh]
/-! ### The sort's words -/
theorem flatK_cat (l : List Ed) : (flatK edE 3 l.toArray).toList = cat l := by
  apply List.ext_getElem?
  intro t
  by_cases h : t < l.length * 3
  · have h3 : t / 3 < l.length := by omega
    have e1 := cat_get l (t / 3) h3 (t % 3) (by omega)
    rw [show t / 3 * 3 + t % 3 = t by omega] at e1
    rw [e1, Array.getElem?_toList]
    have hlt : t < (flatK edE 3 l.toArray).size := by simp; omega
    rw [Array.getElem?_eq_getElem hlt, ← getElem!_pos (flatK edE 3 l.toArray) t hlt, get_flatK edE 3 l.toArray t (by simpa using h)]
    rw [getElem!_pos l.toArray (t / 3) (by simpa using h3)]
    have : t % 3 < (edE l.toArray[t / 3]).length := by simp [edE]; omega
    rw [getElem!_pos (edE l.toArray[t / 3]) (t % 3) this, ← List.getElem?_eq_getElem this]
    simp
  · rw [List.getElem?_eq_none (by simp; omega), List.getElem?_eq_none (by rw [cat_len]; omega)]
theorem holds_own {w : World} {B e g n cap : Nat} {l : List Ed} (h : w.ownsRow B e 3 (.slice (some ⟨g, 0, none⟩) n cap) n (cat l)) : HoldsK edE 3 w g 0 l.toArray ∧ g < w.heap.size ∧ B ≤ g ∧ l.length = n := by
  have hn : l.length = n := by have := h.1; rw [cat_len] at this; omega
  rcases h.2 with ⟨e0, _⟩ | ⟨g', cap', cur, e0, hg, hh, hc, hm, hs, ht⟩
  · cases e0
  · cases e0
    refine ⟨fun j hj => ?_, (Array.getElem?_eq_some_iff.1 hh).1, hg, hn⟩
    have hj' : j < n * 3 := by simp at hj; omega
    refine ⟨?_, by simp [World.frozen?, hh]⟩
    have e1 : (flatK edE 3 l.toArray).toList[j]? = cur.toList[j]? := by
      rw [flatK_cat, ← ht, List.getElem?_take, if_pos hj']
    rw [Array.getElem?_toList, Array.getElem?_eq_getElem hj] at e1
    rw [getElem!_pos (flatK edE 3 l.toArray) j hj]
    simp [World.cell?, hh]
    rw [Array.getElem?_toList] at e1; exact e1.symm
theorem own_sorted {w : World} {B e g n cap q : Nat} {os : Array Obj} {l m : List Ed} (h : w.ownsRow B e 3 (.slice (some ⟨g, 0, none⟩) n cap) n (cat l)) (hm : m.length = n) :
    (sortWorldK edE 3 w g 0 q m.toArray os).ownsRow B e 3 (.slice (some ⟨g, 0, none⟩) n cap) n (cat m) := by
  rcases h.2 with ⟨e0, _⟩ | ⟨g', cap', cur, e0, hg, hh, hc, hcm, hs, ht⟩
  · cases e0
  · cases e0
    have hlt : g < w.heap.size := (Array.getElem?_eq_some_iff.1 hh).1
    refine ⟨by rw [cat_len, hm], .inr ⟨g, cap, putCells id 0 (flatK edE 3 m.toArray) cur, rfl, hg, ?_, hc, hcm, by simpa [putCells] using hs, ?_⟩⟩
    · have hg' : w.heap[g] = .cells cur e (0, 0) := by have := Array.getElem?_eq_some_iff.1 hh; exact this.2
      simp [sortWorldK, grow, putRowK, putRow, mapBlock, Sort.ahead, Array.getElem?_append, hlt, Array.getElem_modify, hg', onCells]
    · apply List.ext_getElem?
      intro j
      rw [List.getElem?_take, Array.getElem?_toList]
      by_cases hj : j < n * 3
      · have hjc : j < cur.size := by
          have : n * 3 ≤ cap * 3 := Nat.mul_le_mul_right _ hc
          omega
        have hjf : j < (flatK edE 3 m.toArray).size := by simp; omega
        rw [if_pos hj, ← flatK_cat, Array.getElem?_toList, Array.getElem?_eq_getElem hjf]
        simp only [putCells, Array.getElem?_mapIdx, Array.getElem?_eq_getElem hjc, Option.map_some]
        rw [if_pos (by simp; omega)]
        simp only [Nat.sub_zero]
        rw [getElem!_pos (flatK edE 3 m.toArray) j hjf]; rfl
      · rw [if_neg hj, List.getElem?_eq_none (by rw [cat_len]; omega)]
theorem grown_sorted {w : World} {g q : Nat} {os : Array Obj} (d : Array Ed) : w.grownBy (sortWorldK edE 3 w g 0 q d os) (some g) := by
  refine ⟨rfl, rfl, rfl, by simp [sortWorldK, grow, putRowK, putRow, mapBlock, Sort.ahead], fun i hi hne => ?_⟩
  have hne' : g ≠ i := fun e => hne (by rw [e])
  simp [sortWorldK, grow, putRowK, putRow, mapBlock, Sort.ahead, Array.getElem?_append, hi, Array.getElem_modify, hne']

/-! ### Sorted -/
theorem swoE : SWO (ltOf cmpE) where
  irrefl x := by unfold ltOf; rw [cmpE_neg]; exact ltE_irrefl x
  trans x y z h1 h2 := by unfold ltOf at *; rw [cmpE_neg] at *; exact ltE_trans h1 h2
  ntrans x y z h1 h2 := by
    unfold ltOf at *; rw [cmpE_neg] at *
    cases h : ltE x z
    · rfl
    · cases hb : ltE y x
      · have := ltE_total h1 hb; subst this; rw [h2] at h; cases h
      · have := ltE_trans hb h; rw [h2] at this; cases this
theorem totE (x y : Ed) (h1 : ltOf cmpE x y = false) (h2 : ltOf cmpE y x = false) : x = y := by
  unfold ltOf at *; rw [cmpE_neg] at *; exact ltE_total h1 h2
theorem isAggE (w : World) : (isAgg 105).run Tryz.prog w = .ok true w := by kernel_rfl
theorem sizeOfE (w : World) : (Go.sizeOf 105).run Tryz.prog w = .ok 3 w := by kernel_rfl
theorem infoE : (Tryz.prog.info? 105).map (fun i => (i.zero, i.size, i.bytes)) = some (some (.agg #[.int .i64 0, .int .i64 0, .int .i64 0]), 3, 24) := by kernel_rfl
def srtE (l : List Ed) : List Ed := l.mergeSort (fun x y => !ltE y x)
theorem srtE_len (l : List Ed) : (srtE l).length = l.length := List.length_mergeSort l
theorem srtE_eq (l : List Ed) : l.mergeSort (fun x y => !(ltOf cmpE) y x) = srtE l := by
  unfold srtE; congr 1; funext x y; unfold ltOf; rw [cmpE_neg]
theorem sortE_own (l : List Ed) (B e g n cap bf : Nat) (w : World) (h : w.ownsRow B e 3 (.slice (some ⟨g, 0, none⟩) n cap) n (cat l)) (hf : w.cell? ⟨bf, 0, none⟩ = some (.func (.func 77) #[] #[])) (hne : bf ≠ g) (hn : n ≤ 100000) :
    Calls Tryz.prog 75 #[.slice (some ⟨g, 0, none⟩) n cap, .func (.func 101) #[] #[.pointer (some ⟨bf, 0, none⟩)]] w fun e' w' => e' = .returned (.tuple #[]) ∧ w'.ownsRow B e 3 (.slice (some ⟨g, 0, none⟩) n cap) n (cat (srtE l)) ∧ w.grownBy w' (some g) := by
  obtain ⟨hH, hlt, hBg, hl⟩ := holds_own h
  have eg : ∀ args w, (callFunc 101 args).run Tryz.prog w = .ok (.enter 101 args) w := enters_of Tryz.func101 (by kernel_rfl) rfl
  have hcmp : CmpLays Tryz.prog 101 #[.pointer (some ⟨bf, 0, none⟩)] edE 3 cmpE g 0 l.toArray.size w := fun m os dk hs x y => by
    have hc : (sortWorldK edE 3 w g 0 m dk os).cell? ⟨bf, 0, none⟩ = some (.func (.func 77) #[] #[]) := by
      have hb := World.block_lt_of_cell? w _ hf
      have := (grown_sorted (w := w) (g := g) (q := m) (os := os) dk).block bf hb (fun e => hne (Option.some.inj e))
      simp only [World.cell?] at hf ⊢
      rw [this]; exact hf
    exact gByc_up x y bf _ hc
  have hcon := AnyQ.slices_SortFunc_total Tryz.laySortE 3 isAggE sizeOfE edE (fun _ => rfl) (fun x v hv => cat_one [x] v (by simpa [cat] using hv)) cmpE swoE 101 #[.pointer (some ⟨bf, 0, none⟩)] g 0 cap l.toArray w eg hcmp hH hlt (by simp; omega) totE
  have hcon' : Calls Tryz.prog 75 #[.slice (some ⟨g, 0, none⟩) l.toArray.size cap, .func (.func 101) #[] #[.pointer (some ⟨bf, 0, none⟩)]] w _ := hcon
  rw [show l.toArray.size = n by simpa using hl] at hcon'
  refine hcon'.mono ?_
  rintro e' w' ⟨rfl, q, os, rfl⟩
  rw [srtE_eq]
  exact ⟨rfl, own_sorted h (by rw [srtE_len]; exact hl), grown_sorted _⟩

/-! ### Copies -/
/-- Edges in memory of the call's own. -/
def RetOwnE (l : List Ed) (w : World) (e : Ending) (w' : World) : Prop := ∃ v, e = .returned v ∧ w'.ownsRow w.heap.size 105 3 v l.length (cat l) ∧ Below w.heap.size w w'
theorem sg_cells {w : World} {b off : Nat} {l : List Ed} (hc : ∀ i (h : i < l.length) j, j < 3 → w.cell? ⟨b, off + i * 3 + j, none⟩ = (edE l[i])[j]?) : ∀ (j : Nat) (u : Value), (cat l)[j]? = some u → w.cell? ⟨b, off + j, none⟩ = some u := by
  intro j u hu
  have hj : j < (cat l).length := (List.getElem?_eq_some_iff.1 hu).1
  rw [cat_len] at hj
  have h1 := hc (j / 3) (by omega) (j % 3) (by omega)
  have h2 := cat_get l (j / 3) (by omega) (j % 3) (by omega)
  rw [show j / 3 * 3 + j % 3 = j by omega] at h2
  rw [show off + j / 3 * 3 + j % 3 = off + j by omega] at h1
  rw [h1, ← h2, hu]
set_option maxRecDepth 100000 in
theorem cloneE_any (l : List Ed) (p : Option Addr) (c : Nat) (w : World) (hin : Sg 3 w edE p l) (hl : l.length ≤ 100000) :
    Calls Tryz.prog 74 #[.slice p l.length c] w (RetOwnE l w) := by
  obtain ⟨i0, hi0, hz0, hz1, hz2⟩ := info_parts infoE
  rcases Nat.eq_zero_or_pos l.length with h0 | h0
  · have : l = [] := List.length_eq_zero_iff.1 h0
    subst this
    clear hin
    cases p with
    | none =>
      refine (AnyE.slices_Clone_nil Tryz.layCloneE 0 c w).mono ?_
      rintro e w' ⟨rfl, rfl⟩
      exact ⟨_, rfl, World.ownsRow_nil _ _ _ _, Below.refl _ _⟩
    | some ad =>
      have q22 : ∀ (w : World) (a : Option Addr) (n c n' c' : Nat), (binOp .eql 28 (.slice a n c) (.slice none n' c')).run Tryz.prog w = .ok (.bool a.isNone) w := fun w a n c n' c' => Lib.run_eql_slice_nil w _ _ a n c n' c' Tryz.underlying28
      have hown0 : (w.alloc (.cells #[] 105)).ownsRow w.heap.size 105 3 (.slice (some ⟨w.heap.size, 0, none⟩) 0 0) 0 [] := ⟨rfl, .inr ⟨w.heap.size, _, _, rfl, Nat.le_refl _, heap_alloc_new w _, Nat.le_refl _, by simp, rfl, rfl⟩⟩
      go_enter Tryz.func74, Tryz.ntmps74
      go_wp2_with (at_builtin; refine wpList_append_own _ rfl _ _ 28 rfl w.heap.size 105 i0 _ 3 24 Tryz.underlying28 hi0 hz0 hz1 hz2 rfl (by decide) _ _ _ rfl hown0 ad 0 c [] rfl rfl (by simp) (by simp) (by simp) (by simp) (by simp) ?_; intro v' w1 hown' hgrow _)
      go_ret
      exact ⟨_, rfl, hown', ((Below.refl _ _).alloc (Nat.le_refl _) _).grown hgrow (by simp) (fun j e => by cases e; exact Nat.le_refl _)⟩
  · obtain ⟨b, off, rfl, hb, hc⟩ := hin.get 0 h0
    have hcon := AnyE.slices_Clone Tryz.layCloneE i0 _ 3 24 hi0 hz0 hz1 hz2 rfl (by decide) sizeOfE b off l.length c (cat l) w (cat_len l) (by simp [maxLen]; omega) (by omega) (sg_cells hc) (cat_one l)
    refine Calls.mono hcon ?_
    rintro e w' ⟨v, rfl, hown, _, hB⟩
    exact ⟨v, rfl, hown, hB⟩
end Go.Proofs.YtjpilmedlecdhaaGreatDoor
namespace Go.Proofs.YtjpilmedlecdhaaGreatDoor
open Go.RowKit Go.Sort Go.Shelf Go.Lib

theorem own_setCell {w : World} {B e size g n cap i : Nat} {xs : List Value} (h : w.ownsRow B e size (.slice (some ⟨g, 0, none⟩) n cap) n xs) (u : Value) :
    (w.setCell ⟨g, i, none⟩ u).ownsRow B e size (.slice (some ⟨g, 0, none⟩) n cap) n (xs.set i u) := by
  rcases h.2 with ⟨e0, _⟩ | ⟨g', cap', cur, e0, hg, hh, hc, hm, hs, ht⟩
  · cases e0
  · cases e0
    have hlt : g < w.heap.size := (Array.getElem?_eq_some_iff.1 hh).1
    have hgv : w.heap[g] = .cells cur e (0, 0) := (Array.getElem?_eq_some_iff.1 hh).2
    refine ⟨by rw [List.length_set]; exact h.1, .inr ⟨g, cap, cur.setIfInBounds i u, rfl, hg, ?_, hc, hm, by simpa using hs, ?_⟩⟩
    · rw [setCell_eq]; simp [mapBlock, hlt, Array.getElem_modify, hgv, onCells]
    · rw [Array.toList_setIfInBounds, List.take_set, ht]
theorem cat_set (d : List Ed) (x : Ed) : ∀ k, (((cat d).set (k * 3) (.int .i64 x.f)).set (k * 3 + 1) (.int .i64 x.l)).set (k * 3 + 2) (.int .i64 x.t) = cat (d.set k x) := by
  induction d with
  | nil => intro k; rfl
  | cons y d ih =>
    intro k
    cases k with
    | zero => simp [cat, edE]
    | succ k =>
      have := ih k
      simp only [cat, List.flatMap_cons, List.set_cons_succ] at *
      rw [← this]
      simp [edE, Nat.succ_mul]
theorem own_set3 {w : World} {B e g n cap k : Nat} {d : List Ed} (h : w.ownsRow B e 3 (.slice (some ⟨g, 0, none⟩) n cap) n (cat d)) (x : Ed) :
    (((w.setCell ⟨g, k * 3, none⟩ (.int .i64 x.f)).setCell ⟨g, k * 3 + 1, none⟩ (.int .i64 x.l)).setCell ⟨g, k * 3 + 2, none⟩ (.int .i64 x.t)).ownsRow B e 3 (.slice (some ⟨g, 0, none⟩) n cap) n (cat (d.set k x)) := by
  rw [← cat_set]
  exact own_setCell (own_setCell (own_setCell h _) _) _
/-- How two edges are compared by the program. -/
theorem eqlE (a b : Ed) (w : World) : (binOp .eql 105 (.agg #[.int .i64 a.f, .int .i64 a.l, .int .i64 a.t]) (.agg #[.int .i64 b.f, .int .i64 b.l, .int .i64 b.t])).run Tryz.prog w = .ok (.bool (decide (a = b))) w := by
  have hS : Tryz.prog.underlying 105 = some (.struct (Tryz.prog.fieldsOf 105)) := by kernel_rfl
  have hp : Tryz.prog.stoodInHeld 105 = false := by kernel_rfl
  have hr : (Op.eqFields 9999 #[.int .i64 a.f, .int .i64 a.l, .int .i64 a.t] #[.int .i64 b.f, .int .i64 b.l, .int .i64 b.t] (Tryz.prog.fieldsOf 105).toList).run Tryz.prog w = .ok (decide (a = b)) w := by
    simp only [Program.fieldsOf, Tryz.underlying105]
    have u3 := Tryz.underlying3
    have a3 := Tryz.isAgg3
    have z3 := Tryz.sizeOf3
    go_simp
    have he : a = b ↔ a.f = b.f ∧ a.l = b.l ∧ a.t = b.t := ⟨fun h => by subst h; exact ⟨rfl, rfl, rfl⟩, fun ⟨h1, h2, h3⟩ => by cases a; cases b; simp_all⟩
    by_cases h1 : a.f = b.f <;> by_cases h2 : a.l = b.l <;> by_cases h3 : a.t = b.t <;> simp [he, h1, h2, h3]
  rw [run_eql_struct, show (10000 : Nat) = 9999 + 1 from rfl, run_equalIn_agg w 9999 105 _ _ hS hp, hr]
  rfl
theorem neqE (a b : Ed) (w : World) : (binOp .neq 105 (.agg #[.int .i64 a.f, .int .i64 a.l, .int .i64 a.t]) (.agg #[.int .i64 b.f, .int .i64 b.l, .int .i64 b.t])).run Tryz.prog w = .ok (.bool (!decide (a = b))) w := by
  have h := eqlE a b w
  rw [run_eql_struct] at h
  rw [run_neq_struct]
  cases hq : (Op.equalIn 10000 105 (.agg #[.int .i64 a.f, .int .i64 a.l, .int .i64 a.t]) (.agg #[.int .i64 b.f, .int .i64 b.l, .int .i64 b.t])).run Tryz.prog w with
  | ok v w' => rw [hq] at h; simp [Result.andThen] at h ⊢; exact ⟨h.1, h.2⟩
  | _ => rw [hq] at h; cases h
theorem guardE (op : BinOp) (a b : Operand) (x y : Ed) (w : World) : (eqGuard op 105 a b (.agg #[.int .i64 x.f, .int .i64 x.l, .int .i64 x.t]) (.agg #[.int .i64 y.f, .int .i64 y.l, .int .i64 y.t])).run Tryz.prog w = .ok () w :=
  GuardAt.agg (P := Tryz.prog) (T := 105) (fun x : Ed => #[.int .i64 x.f, .int .i64 x.l, .int .i64 x.t]) (by kernel_rfl) op a b x y w
theorem cat_take : ∀ (d : List Ed) (k : Nat), cat (d.take k) = (cat d).take (k * 3)
  | [], k => by simp [cat]
  | x :: d, 0 => by simp [cat]
  | x :: d, k + 1 => by
    have ih := cat_take d k
    simp only [cat, List.take_succ_cons, List.flatMap_cons] at *
    rw [ih]; simp [edE, Nat.succ_mul]
theorem own_clear {w : World} {B g n cap : Nat} {d : List Ed} (h : w.ownsRow B 105 3 (.slice (some ⟨g, 0, none⟩) n cap) n (cat d)) (kk : Nat) (hk : kk < n) :
    ∃ W', (∀ ty, (Builtin.clear_ #[28] ty #[.slice (some ⟨g, kk * 3, none⟩) (n - kk) (cap - kk)]).run Tryz.prog w = .ok (.tuple #[]) W') ∧
      W'.ownsRow B 105 3 (.slice (some ⟨g, 0, none⟩) kk cap) kk (cat (d.take kk)) ∧ w.grownBy W' (some g) := by
  have hn : d.length = n := by have := h.1; rw [cat_len] at this; omega
  rcases h.2 with ⟨e0, _⟩ | ⟨g', cap', cur, e0, hg, hh, hc, hm, hs, ht⟩
  · cases e0
  · cases e0
    have hlt : g < w.heap.size := (Array.getElem?_eq_some_iff.1 hh).1
    have hgv : w.heap[g] = .cells cur 105 (0, 0) := (Array.getElem?_eq_some_iff.1 hh).2
    obtain ⟨zs, hzs⟩ : ∃ zs, (Builtin.zeroCells #[.int .i64 0, .int .i64 0, .int .i64 0] (n - kk)).toList = zs := ⟨_, rfl⟩
    have hzl : zs.length = (n - kk) * 3 := by rw [← hzs]; simp [Builtin.zeroCells]
    have hz1 : ∀ v ∈ zs, v.oneCell' = true := by
      intro v hv
      rw [← hzs, Builtin.zeroCells] at hv
      simp at hv
      obtain ⟨i, _, rfl⟩ := hv
      have : i % 3 = 0 ∨ i % 3 = 1 ∨ i % 3 = 2 := by omega
      rcases this with e | e | e <;> simp [e, Value.oneCell']
    have hb : n * 3 ≤ cap * 3 := Nat.mul_le_mul_right _ hc
    have hst := run_storeCells_at (P := Tryz.prog) g (kk * 3) 105 zs 0 cur w hh (by rw [hzl, Nat.sub_mul, hs]; omega) hz1
    rw [Nat.add_zero] at hst
    refine ⟨w.setRow g (cur.toList.take (kk * 3) ++ zs ++ cur.toList.drop (kk * 3 + zs.length)).toArray, fun ty => ?_, ⟨by rw [cat_len, List.length_take]; omega, .inr ⟨g, cap, _, rfl, hg, setRow_heap w g cur _ 105 (0, 0) hh, by omega, hm, ?_, ?_⟩⟩, ?_⟩
    · obtain ⟨m, hm1⟩ : ∃ m, n - kk = m + 1 := ⟨n - kk - 1, by omega⟩
      have hv : (zeroValue 105).run Tryz.prog w = .ok (.agg #[.int .i64 0, .int .i64 0, .int .i64 0]) w := by kernel_rfl
      rw [hm1] at hzs ⊢
      simp [Builtin.clear_, run_underlying Tryz.underlying28, hv, Value.cells, hzs, hst]
    · simp [hzl, hs, Nat.sub_mul]; omega
    · simp only [List.take_append, List.length_take]
      have : kk * 3 ≤ cur.toList.length := by simp [hs]; omega
      rw [Nat.min_eq_left this, Nat.sub_self, List.take_zero, List.append_nil, List.take_take, Nat.min_self,
        show kk * 3 - (cur.toList.take (kk * 3) ++ zs).length = 0 by rw [List.length_append, List.length_take, Nat.min_eq_left this]; omega,
        List.take_zero, List.append_nil, cat_take, ← ht, List.take_take, Nat.min_eq_left (Nat.mul_le_mul_right 3 (Nat.le_of_lt hk))]
    · refine ⟨rfl, rfl, rfl, by simp [World.setRow], fun i hi hne => ?_⟩
      have hne' : g ≠ i := fun e => hne (by rw [e])
      simp [World.setRow, Array.getElem?_modify, hne']
theorem own_cell3 {w : World} {B e g n cap : Nat} {d : List Ed} (h : w.ownsRow B e 3 (.slice (some ⟨g, 0, none⟩) n cap) n (cat d)) (k : Nat) (hk : k < d.length) :
    w.cell? ⟨g, k * 3, none⟩ = some (.int .i64 d[k].f) ∧ w.cell? ⟨g, k * 3 + 1, none⟩ = some (.int .i64 d[k].l) ∧ w.cell? ⟨g, k * 3 + 2, none⟩ = some (.int .i64 d[k].t) ∧ (∀ j, w.frozen? ⟨g, j, none⟩ = false) ∧ g < w.heap.size := by
  obtain ⟨p, c, hv, hs, _, hn⟩ := own_sg h
  cases hv
  obtain ⟨b, off, hp, _, e0, e1, e2⟩ := hs.get3 k hk rfl
  cases hp
  simp only [Nat.zero_add] at e0 e1 e2
  refine ⟨e0, e1, e2, fun j => ?_, ?_⟩
  · rcases h.2 with ⟨e0, _⟩ | ⟨g', cap', cur, e0, hg, hh, hc, hm, hs, ht⟩
    · cases e0
    · cases e0; simp [World.frozen?, hh]
  · rcases h.2 with ⟨e0, _⟩ | ⟨g', cap', cur, e0, hg, hh, hc, hm, hs, ht⟩
    · cases e0
    · cases e0; exact (Array.getElem?_eq_some_iff.1 hh).1
end Go.Proofs.YtjpilmedlecdhaaGreatDoor
namespace Go.Proofs.YtjpilmedlecdhaaGreatDoor
open Go.RowKit Go.Sort Go.Shelf Go.Lib

theorem grown_set {w w1 : World} {g i : Nat} (h : w.grownBy w1 (some g)) (u : Value) : w.grownBy (w1.setCell ⟨g, i, none⟩ u) (some g) :=
  ⟨h.os, h.tape, h.output, by rw [setCell_eq]; simpa [mapBlock] using h.size, fun k hk hne => (Below.heap_setCell _ _ _ _ (fun e => hne (by rw [e]))).trans (h.block k hk hne)⟩
/-- Edges once each, in the memory that the call owned. -/
theorem grown_dr {w w1 w' : World} {r : Option Nat} (h : Dr w1 w') (k : w.grownBy w1 r) : w.grownBy w' r := by
  obtain ⟨q, rfl⟩ := h; exact ⟨k.os, k.tape, k.output, k.size, k.block⟩
def RetCmp (B g cap : Nat) (l : List Ed) (w : World) (e : Ending) (w' : World) : Prop := e = .returned (.slice (some ⟨g, 0, none⟩) l.length cap) ∧ w'.ownsRow B 105 3 (.slice (some ⟨g, 0, none⟩) l.length cap) l.length (cat l) ∧ w.grownBy w' (some g)
theorem RetCmp.of {B g cap : Nat} {x r : List Ed} {w w' : World} (hr : x = r) (ho : w'.ownsRow B 105 3 (.slice (some ⟨g, 0, none⟩) r.length cap) r.length (cat r)) (hg : w.grownBy w' (some g)) : RetCmp B g cap x w (.returned (.slice (some ⟨g, 0, none⟩) r.length cap)) w' := by
  subst hr; exact ⟨rfl, ho, hg⟩
theorem compactE_short (l : List Ed) (B g n cap : Nat) (w : World) (h : w.ownsRow B 105 3 (.slice (some ⟨g, 0, none⟩) n cap) n (cat l)) (h2 : n < 2) :
    Calls Tryz.prog 78 #[.slice (some ⟨g, 0, none⟩) n cap] w (RetCmp B g cap (compact l) w) := by
  have hl : l.length = n := by have := h.1; rw [cat_len] at this; omega
  have hc : compact l = l := by
    match l, hl with
    | [], _ => rfl
    | [_], _ => rfl
    | _ :: _ :: _, hl => simp at hl; omega
  rw [hc]
  have h2' : (n : Int) < 2 := by omega
  have HH := hidI h
  clear h hc
  go_enter Tryz.func78, Tryz.ntmps78
  go_wp2
  go_ret
  subst hl
  exact ⟨rfl, HH.out, World.grownBy.refl _ _⟩
set_option maxRecDepth 100000 in
set_option maxHeartbeats 2000000 in
theorem compactE_long (l : List Ed) (B g n cap : Nat) (w : World) (h : w.ownsRow B 105 3 (.slice (some ⟨g, 0, none⟩) n cap) n (cat l)) (h2 : 2 ≤ n) (hn : n ≤ 100000) :
    Calls Tryz.prog 78 #[.slice (some ⟨g, 0, none⟩) n cap] w (RetCmp B g cap (compact l) w) := by
  have hl : l.length = n := by have := h.1; rw [cat_len] at this; omega
  have hnc : n ≤ cap := own_cap h _ _ _ rfl
  have h2' : ¬ ((n : Int) < 2) := by omega
  have HH := hidI h
  clear h
  go_enter Tryz.func78, Tryz.ntmps78
  go_wp2
  go_loopw [3] (fun kv wr => ∃ k : Nat, 1 ≤ k ∧ k ≤ n ∧ kv = .int .i64 k ∧ Hid (∀ m (hm : m + 1 < l.length), m + 1 < k → l[m] ≠ l[m + 1]) ∧ Dr w wr) (fun kv _ => n - (intOf kv).toNat)
  case atStart => exact ⟨1, by omega, by omega, rfl, fun m _ h => by omega, Dr.refl _⟩
  case round =>
    obtain ⟨k, hk1, hk, rfl, hj, hD⟩ := hrel
    have hown := HH.out.dr hD
    by_cases hlt : k < n
    · obtain ⟨m, rfl⟩ : ∃ m, k = m + 1 := ⟨k - 1, by omega⟩
      obtain ⟨e0, e1, e2, _, hg⟩ := own_cell3 hown (m + 1) (by omega)
      obtain ⟨e3, e4, e5, _, _⟩ := own_cell3 hown m (by omega)
      have hI : (m : Int) + 1 < (n : Int) := by omega
      have hI2 : (m : Int) < (n : Int) := by omega
      have hq := eqlE l[m + 1] l[m]
      have hgd := guardE .eql
      by_cases heq : l[m + 1] = l[m]
      · rw [decide_eq_true heq] at hq
        have HQ := hidI heq
        clear heq
        have hk0 : ¬ cap = m + 1 := by omega
        have q0 : IntKind.i64.wrap ((m : Int) + 1) = (m : Int) + 1 := IntWalk.i64_in _ (by omega)
        have hI3 : (m : Int) + 1 ≤ (n : Int) := by omega
        have hI4 : (n : Int) ≤ (cap : Int) := by omega
        go_wp2_with fail
        (refine wp_region_quiet_lit (by kernel_rfl) (by kernel_rfl) ?_; (repeat (first | go_big_quiet_step (fail) | quiet_step (fail))); refine wpQuiet_nil ?_; intro _ hwq; obtain ⟨nq, hwq2⟩ := hwq; subst hwq2)
        clear e0 e1 e2 e3 e4 e5 hq hgd hI hI2
        go_wp2
        have HC0 : Hid (l.take (m + 1) = compact (l.take (m + 1 + 1))) := by
          unfold Hid
          rw [compact_succ l m (by omega), if_pos HQ.out.symm]
          exact (compact_same _ (fun i hi => by
            rw [List.length_take] at hi
            rw [List.getElem_take, List.getElem_take]
            exact hj.out i (by omega) (by omega))).symm
        have hgr : w.grownBy (wr.drewN nq) (some g) := grown_dr (hD.one nq) (World.grownBy.refl _ _)
        have hown1 : (wr.drewN nq).ownsRow B 105 3 (.slice (some ⟨g, 0, none⟩) n cap) n (cat l) := hown
        have HG := hidI hgr
        have HO := hidI hown1
        clear hgr hown1 hown hD
        generalize wr.drewN nq = w1 at HG HO ⊢
        go_loopw [3, 5] (fun kv jv wr => ∃ (kk i : Nat) (d : List Ed), 1 ≤ kk ∧ kk ≤ m + (i + 1) ∧ i + 1 ≤ n - (m + 1) ∧ kv = .int .i64 kk ∧ jv = .int .i64 (i + 1 : Nat) ∧ Hid (d.length = n ∧ d.take kk = compact (l.take (m + 1 + (i + 1))) ∧ d.drop (m + (i + 1)) = l.drop (m + (i + 1))) ∧
          wr.ownsRow B 105 3 (.slice (some ⟨g, 0, none⟩) n cap) n (cat d) ∧ w.grownBy wr (some g)) (fun _ jv _ => n - (intOf jv).toNat)
        case atStart => exact ⟨m + 1, 0, l, by omega, by omega, by omega, rfl, rfl, ⟨hl, HC0.out, rfl⟩, HO.out, HG.out⟩
        case round =>
          obtain ⟨kk, i, d, hkk1, hkk, hi, rfl, rfl, hd, hown, hgw⟩ := hrel
          obtain ⟨hdl, hdt, hdd⟩ := hd.out
          have hgets : ∀ x, m + (i + 1) ≤ x → ∀ (h1 : x < d.length) (h2 : x < l.length), d[x] = l[x] := fun x hx h1 h2 => by
            have e1 : d[x]? = (d.drop (m + (i + 1)))[x - (m + (i + 1))]? := by rw [List.getElem?_drop]; congr 1; omega
            have e2 : l[x]? = (l.drop (m + (i + 1)))[x - (m + (i + 1))]? := by rw [List.getElem?_drop]; congr 1; omega
            have : d[x]? = l[x]? := by rw [e1, e2, hdd]
            rw [List.getElem?_eq_getElem h1, List.getElem?_eq_getElem h2] at this
            exact Option.some.inj this
          by_cases hlt : i + 1 < n - (m + 1)
          · obtain ⟨e0, e1, e2, hfz, hg⟩ := own_cell3 hown (m + 1 + (i + 1)) (by omega)
            obtain ⟨e3, e4, e5, _, _⟩ := own_cell3 hown (m + 1 + i) (by omega)
            obtain ⟨k0, k1, k2, _, _⟩ := own_cell3 hown kk (by omega)
            have hx1 : d[m + 1 + (i + 1)] = l[m + 1 + (i + 1)] := hgets _ (by omega) _ (by omega)
            have hx0 : d[m + 1 + i] = l[m + 1 + i] := hgets _ (by omega) _ (by omega)
            rw [hx1] at e0 e1 e2
            rw [hx0] at e3 e4 e5
            rw [Nat.add_mul (m + 1) (i + 1) 3] at e0 e1 e2
            rw [Nat.add_mul (m + 1) i 3] at e3 e4 e5
            have HX1 := hidI hx1
            clear hx1 hx0 hgets
            have HD := hidI hdd; have HT := hidI hdt; have HL := hidI hdl
            clear hdd hdt
            have hz : (i : Int) + 1 < (n : Int) - ((m : Int) + 1) := by omega
            have hI1 : (i : Int) + 1 < ((n - (m + 1) : Nat) : Int) := by omega
            have hI2 : (i : Int) < ((n - (m + 1) : Nat) : Int) := by omega
            have hq := neqE l[m + 1 + (i + 1)] l[m + 1 + i]
            have hgd := guardE .neq
            have HCT := hidI (compact_succ l (m + 1 + i) (by omega))
            by_cases heq : l[m + 1 + (i + 1)] = l[m + 1 + i]
            · rw [decide_eq_true heq] at hq
              have HN : Hid (d.length = n ∧ d.take kk = compact (l.take (m + 1 + (i + 1 + 1))) ∧ d.drop (m + (i + 1 + 1)) = l.drop (m + (i + 1 + 1))) := ⟨HL.out, HT.out.trans (HCT.out.trans (if_pos heq.symm)).symm
                , by have := congrArg (List.drop 1) HD.out; rw [List.drop_drop, List.drop_drop] at this; exact this⟩
              clear heq HCT k0 k1 k2
              go_wp2_with fail
              (refine wp_region_quiet_lit (by kernel_rfl) (by kernel_rfl) ?_; (repeat (first | go_big_quiet_step (fail) | quiet_step (fail))); refine wpQuiet_nil ?_; intro _ hwq; obtain ⟨nq, hwq2⟩ := hwq; subst hwq2)
              clear e0 e1 e2 e3 e4 e5 hq hgd
              go_wp2
              go_roundw
              case rel => exact ⟨kk, i + 1, d, hkk1, by omega, by omega, rfl, by go_num, HN, hown, grown_dr ⟨nq, rfl⟩ hgw⟩
              case measure => simp [intOf]; omega
            · rw [decide_eq_false heq] at hq
              have HN : Hid ((d.set kk l[m + 1 + (i + 1)]).length = n ∧ (d.set kk l[m + 1 + (i + 1)]).take (kk + 1) = compact (l.take (m + 1 + (i + 1 + 1))) ∧ (d.set kk l[m + 1 + (i + 1)]).drop (m + (i + 1 + 1)) = l.drop (m + (i + 1 + 1))) := by
                refine ⟨by rw [List.length_set]; exact HL.out, ?_, ?_⟩
                · have h1 : compact (l.take (m + 1 + (i + 1 + 1))) = compact (l.take (m + 1 + (i + 1))) ++ [l[m + 1 + (i + 1)]] := HCT.out.trans (if_neg (fun e => heq e.symm))
                  rw [h1, ← HT.out, List.take_succ_eq_append_getElem (by rw [List.length_set]; omega), List.getElem_set_self, List.take_set_of_le (Nat.le_refl _)]
                · rw [List.drop_set_of_lt (by omega)]
                  have := congrArg (List.drop 1) HD.out; rw [List.drop_drop, List.drop_drop] at this; exact this
              have k3 := hfz (kk * 3); have k4 := hfz (kk * 3 + 1); have k5 := hfz (kk * 3 + 2)
              have hkI : (kk : Int) < (n : Int) := by omega
              have HX3 := fun (q : Nat) => own_set3 (w := wr.drewN q) (k := kk) (show (wr.drewN q).ownsRow B 105 3 (.slice (some ⟨g, 0, none⟩) n cap) n (cat d) from hown) l[m + 1 + (i + 1)]
              have HX := hidI HX3
              clear heq HCT HX3
              go_wp2_with fail
              (refine wp_region_quiet_lit (by kernel_rfl) (by kernel_rfl) ?_; (repeat (first | go_big_quiet_step (fail) | quiet_step (fail))); refine wpQuiet_nil ?_; intro _ hwq; obtain ⟨nq, hwq2⟩ := hwq; subst hwq2)
              clear hq hgd
              go_wp2
              go_roundw
              case rel => (repeat apply Exists.intro); exact ⟨⟨kk + 1, i + 1, d.set kk l[m + 1 + (i + 1)], by omega, by omega, by omega, by go_num, by go_num, HN, HX.out nq, grown_set (grown_set (grown_set (grown_dr ⟨nq, rfl⟩ hgw) _) _) _⟩, rfl⟩
              case measure => simp [intOf]; omega
          · have hie : i + 1 = n - (m + 1) := by omega
            have HCE : Hid (compact l = d.take kk) := by
              unfold Hid
              rw [hdt, show m + 1 + (i + 1) = l.length by omega, List.take_length]
            have hkn : kk < n := by omega
            have hkl : (d.take kk).length = kk := by rw [List.length_take]; omega
            obtain ⟨W', hcl, hownW, hgW⟩ := own_clear hown kk hkn
            have HL := hidI hkl
            have hkI : (kk : Int) ≤ (n : Int) := by omega
            have hkc : (kk : Int) ≤ (cap : Int) := by omega
            have hk00 : ¬ cap = kk := by omega
            have hni : ¬ ((i : Int) + 1 < ((n - (m + 1) : Nat) : Int)) := by omega
            have HGW := hidI (World.grownBy.trans hgw hgW)
            have HOW := hidI hownW
            clear hgets hdt hdd hkl hie hown hownW hgW
            go_wp2
            go_ret
            have := RetCmp.of (B := B) (cap := cap) HCE.out (by rw [HL.out]; exact HOW.out) HGW.out
            rw [HL.out] at this
            exact this
      · rw [decide_eq_false heq] at hq
        have HN : Hid (∀ i (hi : i + 1 < l.length), i + 1 < m + 1 + 1 → l[i] ≠ l[i + 1]) := fun i hi hlt => by
          by_cases e : i = m
          · subst e; exact fun e => heq e.symm
          · exact hj.out i hi (by omega)
        clear heq
        go_wp2_with fail
        (refine wp_region_quiet_lit (by kernel_rfl) (by kernel_rfl) ?_; (repeat (first | go_big_quiet_step (fail) | quiet_step (fail))); refine wpQuiet_nil ?_; intro _ hwq; obtain ⟨nq, hwq2⟩ := hwq; subst hwq2)
        go_wp2
        go_roundw
        case rel => exact ⟨m + 1 + 1, by omega, by omega, by go_num, HN, hD.one _⟩
        case measure => simp [intOf]; omega
    · obtain rfl : k = n := by omega
      have HC : Hid (compact l = l) := compact_same l (fun m hm => hj.out m hm (by omega))
      go_wp2
      go_ret
      subst hl
      exact RetCmp.of HC.out hown (grown_dr hD (World.grownBy.refl _ _))
theorem own_forms {w : World} {base size n : Nat} {e : TypeId} {v : Value} {xs : List Value} (h : w.ownsRow base e size v n xs) : (v = .slice none 0 0 ∧ n = 0) ∨ ∃ g cap, v = .slice (some ⟨g, 0, none⟩) n cap := by
  rcases h.2 with h | ⟨g, cap, _, hv, _⟩
  · exact .inl h
  · exact .inr ⟨g, cap, hv⟩
/-- Edges in memory of the call's own, from block B on. -/
def RetOwnB (B : Nat) (l : List Ed) (w : World) (e : Ending) (w' : World) : Prop := ∃ v, e = .returned v ∧ w'.ownsRow B 105 3 v l.length (cat l) ∧ Below B w w'
theorem compactE_any (l : List Ed) (B n : Nat) (v : Value) (w : World) (h : w.ownsRow B 105 3 v n (cat l)) (hn : n ≤ 100000) (hB : B ≤ w.heap.size) :
    Calls Tryz.prog 78 #[v] w (RetOwnB B (compact l) w) := by
  rcases own_forms h with ⟨rfl, rfl⟩ | ⟨g, cap, rfl⟩
  · have : l = [] := List.length_eq_zero_iff.1 (by have := h.1; rw [cat_len] at this; omega)
    subst this
    clear h
    go_enter Tryz.func78, Tryz.ntmps78
    go_wp2
    go_ret
    exact ⟨_, rfl, World.ownsRow_nil _ _ _ _, Below.refl _ _⟩
  · have hg : B ≤ g := (h.lt g rfl).1
    by_cases h2 : n < 2
    · refine (compactE_short l B g n cap w h h2).mono ?_
      rintro e w' ⟨rfl, ho, hgr⟩
      exact ⟨_, rfl, ho, (Below.refl _ _).grown hgr hB (fun j e => by cases e; exact hg)⟩
    · refine (compactE_long l B g n cap w h (by omega) hn).mono ?_
      rintro e w' ⟨rfl, ho, hgr⟩
      exact ⟨_, rfl, ho, (Below.refl _ _).grown hgr hB (fun j e => by cases e; exact hg)⟩
theorem sortE_any (l : List Ed) (B n bf : Nat) (v : Value) (w : World) (h : w.ownsRow B 105 3 v n (cat l)) (hf : w.cell? ⟨bf, 0, none⟩ = some (.func (.func 77) #[] #[])) (hne : v.ownBlock ≠ some bf) (hn : n ≤ 100000) (hB : B ≤ w.heap.size) :
    Calls Tryz.prog 75 #[v, .func (.func 101) #[] #[.pointer (some ⟨bf, 0, none⟩)]] w fun e w' => e = .returned (.tuple #[]) ∧ w'.ownsRow B 105 3 v n (cat (srtE l)) ∧ Below B w w' := by
  rcases own_forms h with ⟨rfl, rfl⟩ | ⟨g, cap, rfl⟩
  · have : l = [] := List.length_eq_zero_iff.1 (by have := h.1; rw [cat_len] at this; omega)
    subst this
    have hcon := AnyF.slices_SortFunc_none Tryz.laySortE none 0 (.func (.func 101) #[] #[.pointer (some ⟨bf, 0, none⟩)]) w
    refine Calls.mono hcon ?_
    rintro e w' ⟨rfl, rfl⟩
    exact ⟨rfl, by rw [show srtE [] = [] by simp [srtE]]; exact World.ownsRow_nil _ _ _ _, Below.refl _ _⟩
  · have hg : B ≤ g := (h.lt g rfl).1
    refine (sortE_own l B _ g n cap bf w h hf (fun e => hne (by rw [e]; rfl)) hn).mono ?_
    rintro e w' ⟨rfl, ho, hgr⟩
    exact ⟨rfl, ho, (Below.refl _ _).grown hgr hB (fun j e => by cases e; exact hg)⟩
end Go.Proofs.YtjpilmedlecdhaaGreatDoor
namespace Go.Proofs.YtjpilmedlecdhaaGreatDoor
open Go.RowKit Go.Sort

def mn3 (x y z : Int) : Int := if z < (if y < x then y else x) then z else (if y < x then y else x)
theorem mn3_neg {x y z : Int} : mn3 x y z < 0 ↔ x < 0 ∨ y < 0 ∨ z < 0 := by unfold mn3; split <;> split at * <;> omega
theorem run_mn3 (x y z : Int) (w : World) : (Builtin.min_ #[3, 3, 3] 3 #[.int .i64 x, .int .i64 y, .int .i64 z]).run Tryz.prog w = .ok (.int .i64 (mn3 x y z)) w := by kernel_rfl
def mx2 (x y : Int) : Int := if x < y then y else x
theorem mx2_ge {n x y : Int} : n ≤ mx2 x y ↔ n ≤ x ∨ n ≤ y := by unfold mx2; split <;> omega
theorem run_mx2 (x y : Int) (w : World) : (Builtin.max_ #[3, 3] 3 #[.int .i64 x, .int .i64 y]).run Tryz.prog w = .ok (.int .i64 (mx2 x y)) w := by kernel_rfl
theorem gBy_any (w : World) : Calls Tryz.prog 76 #[.func (.func 77) #[] #[]] w fun e w' => e = .returned (.func (.func 101) #[] #[.pointer (some ⟨w.heap.size, 0, none⟩)]) ∧ w.alloc (.cells #[.func (.func 77) #[] #[]] 128) = w' := by
  go_enter Tryz.func76, Tryz.ntmps76
  go_wp2
  go_ret
  exact ⟨rfl, rfl⟩
theorem gCheck_pre (G : Gr) (p : Option Addr) (c : Nat) (w : World) (hl : G.es.length ≤ 9223372036854775807) (h : ¬ (1 ≤ G.q ∧ G.q ≤ 256 ∧ 0 ≤ G.n ∧ G.n ≤ 64 ∧ G.es.length ≤ 1024)) :
    Calls Tryz.prog 59 #[(.agg #[.int .i64 G.q, .int .i64 G.n, .slice p G.es.length c])] w fun e w' => e = .returned (.int .i64 (chkG G)) ∧ Below w.heap.size w w' := by
  have hB0 : Below w.heap.size w (w.alloc (.cells #[.int .i64 G.q, .int .i64 G.n, .slice p G.es.length c] 30)) := (Below.refl _ _).alloc (Nat.le_refl _) _
  by_cases h1 : G.q < 1
  · have HR := hidI (chkG_q (G := G) (.inl h1))
    clear h
    go_enter Tryz.func59, Tryz.ntmps59
    go_wp2
    go_ret
    exact ⟨ret_int HR.out.symm, hB0⟩
  by_cases h2 : 256 < G.q
  · have HR := hidI (chkG_q (G := G) (.inr h2))
    clear h
    go_enter Tryz.func59, Tryz.ntmps59
    go_wp2
    go_ret
    exact ⟨ret_int HR.out.symm, hB0⟩
  by_cases h3 : G.n < 0
  · have HR := hidI (chkG_n (G := G) (by omega) (by omega) h3)
    clear h
    go_enter Tryz.func59, Tryz.ntmps59
    go_wp2
    go_ret
    exact ⟨ret_int HR.out.symm, hB0⟩
  have HR := hidI (chkG_l (G := G) (by omega) (by omega) (by omega) (by omega))
  by_cases h4 : 64 < G.n
  · clear h
    go_enter Tryz.func59, Tryz.ntmps59
    go_wp2
    go_ret
    exact ⟨ret_int HR.out.symm, hB0⟩
  · have h5 : (1024 : Int) < (G.es.length : Int) := by omega
    clear h
    go_enter Tryz.func59, Tryz.ntmps59
    go_wp2
    go_ret
    exact ⟨ret_int HR.out.symm, hB0⟩

set_option maxRecDepth 100000 in
set_option maxHeartbeats 2000000 in
theorem gCheck_ok (G : Gr) (p : Option Addr) (c : Nat) (w : World) (hin : Sg 3 w edE p G.es) (q1 : 1 ≤ G.q) (q2 : G.q ≤ 256) (n1 : 0 ≤ G.n) (n2 : G.n ≤ 64) (hl : G.es.length ≤ 1024) :
    Calls Tryz.prog 59 #[(.agg #[.int .i64 G.q, .int .i64 G.n, .slice p G.es.length c])] w fun e w' => e = .returned (.int .i64 (chkG G)) ∧ Below w.heap.size w w' := by
  have hB0 : Below w.heap.size w (w.alloc (.cells #[.int .i64 G.q, .int .i64 G.n, .slice p G.es.length c] 30)) := (Below.refl _ _).alloc (Nat.le_refl _) _
  have b0 : VRow (w.alloc (.cells #[.int .i64 G.q, .int .i64 G.n, .slice p G.es.length c] 30)) w.heap.size 30 [.int .i64 G.q, .int .i64 G.n, .slice p G.es.length c] := VRow.new w _ _
  have HE := hidI (chkG_e q1 q2 n1 n2 hl)
  have HIN := hidI hin
  have l1 : (G.es.length : Int) ≤ 1024 := by omega
  have d1 : decide (G.q < 1) = false := decide_eq_false (by omega)
  have d2 : decide (256 < G.q) = false := decide_eq_false (by omega)
  have d3 : decide (G.n < 0) = false := decide_eq_false (by omega)
  have d4 : decide (64 < G.n) = false := decide_eq_false (by omega)
  have d5 : decide ((1024 : Int) < (G.es.length : Int)) = false := decide_eq_false (by omega)
  clear hin
  go_enter Tryz.func59, Tryz.ntmps59
  go_wp2_with (go_at_call 76; refine (gBy_any _).mono ?_; rintro e w' ⟨rfl, rfl⟩)
  clear d1 d2 d3 d4 d5
  have hBa : Below w.heap.size w ((w.alloc (.cells #[.int .i64 G.q, .int .i64 G.n, .slice p G.es.length c] 30)).alloc (.cells #[.func (.func 77) #[] #[]] 128)) := hB0.alloc (by simp) _
  have ba : VRow ((w.alloc (.cells #[.int .i64 G.q, .int .i64 G.n, .slice p G.es.length c] 30)).alloc (.cells #[.func (.func 77) #[] #[]] 128)) w.heap.size 30 [.int .i64 G.q, .int .i64 G.n, .slice p G.es.length c] := b0.alloc _
  have bf : VRow ((w.alloc (.cells #[.int .i64 G.q, .int .i64 G.n, .slice p G.es.length c] 30)).alloc (.cells #[.func (.func 77) #[] #[]] 128)) (w.heap.size + 1) 128 [.func (.func 77) #[] #[]] := VRow.new1 w _ 128 [.func (.func 77) #[] #[]]
  generalize (w.alloc (.cells #[.int .i64 G.q, .int .i64 G.n, .slice p G.es.length c] 30)).alloc (.cells #[.func (.func 77) #[] #[]] 128) = w0 at *
  clear hB0 b0
  go_loopw [33] (fun iv wr => ∃ k : Nat, k ≤ G.es.length ∧ iv = .int .i64 k ∧ Hid (errTo G.q G.n G.es k = 0) ∧ Below w0.heap.size w0 wr) (fun iv _ => G.es.length - (intOf iv).toNat)
  case atStart => exact ⟨0, by omega, rfl, rfl, Below.refl _ _⟩
  case round =>
    obtain ⟨k, hk, rfl, hj, hB⟩ := hrel
    have hBr := hBa.trans (hB.mono hBa.size)
    have br := ba.below hB ba.lt
    have f0 := br.at 0 rfl; have f1 := br.at 1 rfl; have f2 := br.at 2 rfl
    have bfr := bf.below hB bf.lt
    by_cases hlt : k < G.es.length
    · obtain ⟨b1, o1, rfl, hb1, e0, e1, e2⟩ := (HIN.out.below hBr).get3 k hlt rfl
      cases ho : outE G.q G.n G.es[k]
      · obtain ⟨i1, i2, i3, i4, i5, i6⟩ := outE_no.1 ho
        have HO := hidI ho
        clear ho
        have m1 : decide (mn3 G.es[k].f G.es[k].l G.es[k].t < 0) = false := decide_eq_false (fun h => by rcases mn3_neg.1 h with h | h | h <;> omega)
        have m2 : decide (G.n ≤ mx2 G.es[k].f G.es[k].t) = false := decide_eq_false (fun h => by rcases mx2_ge.1 h with h | h <;> omega)
        have m3 : decide (G.q ≤ G.es[k].l) = false := decide_eq_false (by omega)
        have mm := run_mn3 G.es[k].f G.es[k].l G.es[k].t
        have mx := run_mx2 G.es[k].f G.es[k].t
        have hz := br.lt
        have hz2 := bfr.lt
        rcases Nat.eq_zero_or_pos k with hk0 | hk0
        · have hkd : decide ((0 : Int) < (k : Int)) = false := decide_eq_false (by omega)
          have hkd2 : decide (0 < k) = false := decide_eq_false (by omega)
          have HN : Hid (errTo G.q G.n G.es (k + 1) = 0) := errTo_next hj.out (by subst hk0; exact errAt_first hlt HO.out)
          clear hk0
          go_wp2_with fail
          (refine wp_region_quiet_lit (by kernel_rfl) (by kernel_rfl) ?_; (repeat (first | go_big_quiet_step (fail) | quiet_step (fail))); refine wpQuiet_nil ?_; intro _ hwq; obtain ⟨nq, hwq2⟩ := hwq; subst hwq2)
          clear m1 m2 m3 mm mx hkd hkd2
          go_wp2
          go_roundw
          case rel => exact ⟨k + 1, by omega, by go_num, HN, below_dN (hB.alloc hB.size _) nq⟩
          case measure => simp [intOf]; omega
        · obtain ⟨m, rfl⟩ : ∃ m, k = m + 1 := ⟨k - 1, by omega⟩
          have HS := hidI (errAt_succ hlt HO.out)
          go_wp2_with fail
          refine region_tail 11 (by kernel_rfl) (by kernel_rfl) fun W hD => ?_
          have hcW : VRow W wr.heap.size 105 [.int .i64 G.es[m + 1].f, .int .i64 G.es[m + 1].l, .int .i64 G.es[m + 1].t] := (VRow.new wr 105 _).dr hD
          have hbW : VRow W w.heap.size 30 [.int .i64 G.q, .int .i64 G.n, .slice (some ⟨b1, o1, none⟩) G.es.length c] := (br.alloc _).dr hD
          have hfW : VRow W (w.heap.size + 1) 128 [.func (.func 77) #[] #[]] := (bfr.alloc _).dr hD
          have hBW : Below w0.heap.size w0 W := (hB.alloc hB.size _).trans (hD.below _)
          have hBw : Below w.heap.size w W := hBa.trans (hBW.mono hBa.size)
          obtain ⟨b1', o1', he, _, e3, e4, e5⟩ := (HIN.out.below hBw).get3 m (by omega) rfl
          cases he
          clear e0 e1 e2 f0 f1 f2
          have f2 := hbW.at 2 rfl
          have e0 := hcW.at 0 rfl; have e1 := hcW.at 1 rfl; have e2 := hcW.at 2 rfl
          have g0 := hfW.at 0 rfl
          simp only [List.take_succ_cons, List.take_zero, List.drop_succ_cons, List.drop_zero]
          have n0 : (0 : Int) ≤ (m : Int) := by omega
          have n1 : (m : Int) < (G.es.length : Int) := by omega
          have q1' : IntKind.i64.wrap (m : Int) = (m : Int) := IntWalk.i64_in _ (by omega)
          iterate 11 still_step
          refine wpStill_nil ?_
          clear q1'
          go_wp2_with fail
          refine (gByc_up G.es[m] G.es[m + 1] (w.heap.size + 1) _ g0).mono ?_
          rintro e w1 ⟨rfl, hU1⟩
          have hB1 := hBW.trans (hU1.below.mono hBW.size)
          clear m1 m2 m3 mm mx e0 e1 e2 e3 e4 e5 f2 g0
          by_cases hcs : 0 ≤ cmpE G.es[m] G.es[m + 1]
          · have HF : Hid (chkG G = 10) := HE.out.trans ((errTo_hit hj.out (by rw [HS.out, if_pos hcs]; decide) hlt).trans (by rw [HS.out, if_pos hcs]))
            go_wp2
            go_ret
            exact ⟨ret_int HF.out.symm, hBa.trans (hB1.mono hBa.size)⟩
          · have HN : Hid (errTo G.q G.n G.es (m + 1 + 1) = 0) := errTo_next hj.out (by rw [HS.out, if_neg hcs])
            have hcs' : cmpE G.es[m] G.es[m + 1] < 0 := by omega
            go_wp2
            go_roundw
            case rel => exact ⟨m + 1 + 1, by omega, by go_num, HN, hB1⟩
            case measure => simp [intOf]; omega
      · have HO := hidI ho
        have HF : Hid (chkG G = 2) := HE.out.trans ((errTo_hit hj.out (by rw [errAt_out hlt ho]; decide) hlt).trans (errAt_out hlt ho))
        have mm := run_mn3 G.es[k].f G.es[k].l G.es[k].t
        have mx := run_mx2 G.es[k].f G.es[k].t
        have hz := br.lt
        have hz2 := bfr.lt
        have hBx := (hB.alloc hB.size (.cells #[.int .i64 G.es[k].f, .int .i64 G.es[k].l, .int .i64 G.es[k].t] 105))
        clear ho
        by_cases m1 : mn3 G.es[k].f G.es[k].l G.es[k].t < 0
        · have m1' := decide_eq_true m1
          clear m1
          go_wp2
          go_ret
          exact ⟨ret_int HF.out.symm, hBa.trans (hBx.mono hBa.size)⟩
        · have m1' := decide_eq_false m1
          have i : 0 ≤ G.es[k].f ∧ 0 ≤ G.es[k].l ∧ 0 ≤ G.es[k].t := ⟨by by_cases h : G.es[k].f < 0; exact absurd (mn3_neg.2 (.inl h)) m1; omega, by by_cases h : G.es[k].l < 0; exact absurd (mn3_neg.2 (.inr (.inl h))) m1; omega, by by_cases h : G.es[k].t < 0; exact absurd (mn3_neg.2 (.inr (.inr h))) m1; omega⟩
          by_cases m2 : G.n ≤ mx2 G.es[k].f G.es[k].t
          · have m2' := decide_eq_true m2
            clear m1 m2 i
            go_wp2
            go_ret
            exact ⟨ret_int HF.out.symm, hBa.trans (hBx.mono hBa.size)⟩
          · have m3 : G.q ≤ G.es[k].l := by
              have h1 := outE_iff.1 HO.out
              have h2 : ¬ (G.n ≤ G.es[k].f ∨ G.n ≤ G.es[k].t) := fun h => m2 (mx2_ge.2 h)
              omega
            have m2' := decide_eq_false m2
            have m3' := decide_eq_true m3
            clear m1 m2 m3 i
            go_wp2
            go_ret
            exact ⟨ret_int HF.out.symm, hBa.trans (hBx.mono hBa.size)⟩
    · obtain rfl : k = G.es.length := by omega
      have HF : Hid (chkG G = 0) := HE.out.trans hj.out
      go_wp2
      go_ret
      exact ⟨ret_int HF.out.symm, hBr⟩
theorem gCheck_any (G : Gr) (p : Option Addr) (c : Nat) (w : World) (hin : Sg 3 w edE p G.es) (hl : G.es.length ≤ 9223372036854775807) :
    Calls Tryz.prog 59 #[(.agg #[.int .i64 G.q, .int .i64 G.n, .slice p G.es.length c])] w fun e w' => e = .returned (.int .i64 (chkG G)) ∧ Below w.heap.size w w' := by
  by_cases h : 1 ≤ G.q ∧ G.q ≤ 256 ∧ 0 ≤ G.n ∧ G.n ≤ 64 ∧ G.es.length ≤ 1024
  · exact gCheck_ok G p c w hin h.1 h.2.1 h.2.2.1 h.2.2.2.1 h.2.2.2.2
  · exact gCheck_pre G p c w hl h
theorem gCheck_r (G : Gr) (p : Option Addr) (c : Nat) (w : World) (r : Int) (hr : chkG G = r) (hin : Sg 3 w edE p G.es) (hl : G.es.length ≤ 9223372036854775807) :
    Calls Tryz.prog 59 #[(.agg #[.int .i64 G.q, .int .i64 G.n, .slice p G.es.length c])] w fun e w' => e = .returned (.int .i64 r) ∧ Below w.heap.size w w' := by
  subst hr; exact gCheck_any G p c w hin hl
end Go.Proofs.YtjpilmedlecdhaaGreatDoor
namespace Go.Proofs.YtjpilmedlecdhaaGreatDoor
open Go.RowKit Go.Sort Go.Shelf Go.Lib

/-- A graph and an error number, the edges in memory of the call's own. -/
def RetGr (G : Gr) (k : Int) (w : World) (e : Ending) (w' : World) : Prop := ∃ p c, e = .returned (.tuple #[(.agg #[.int .i64 G.q, .int .i64 G.n, .slice p G.es.length c]), .int .i64 k]) ∧ Sg 3 w' edE p G.es ∧ G.es.length ≤ c ∧ Below w.heap.size w w'
theorem RetGr.of {G' : Gr} {k' : Int} {x : Gr × Int} {w w' : World} {p : Option Addr} {c : Nat} (hr : x = (G', k')) (hs : Sg 3 w' edE p G'.es) (hc : G'.es.length ≤ c) (hB : Below w.heap.size w w') :
    RetGr x.1 x.2 w (.returned (.tuple #[(.agg #[.int .i64 G'.q, .int .i64 G'.n, .slice p G'.es.length c]), .int .i64 k'])) w' := by subst hr; exact ⟨p, c, rfl, hs, hc, hB⟩

set_option maxRecDepth 100000 in
set_option maxHeartbeats 1000000 in
theorem gMake_any (q n : Int) (l : List Ed) (p : Option Addr) (c : Nat) (w : World) (hin : Sg 3 w edE p l) (hl : l.length ≤ 100000) :
    Calls Tryz.prog 58 #[.int .i64 q, .int .i64 n, .slice p l.length c] w (RetGr (makeA q n l).1 (makeA q n l).2 w) := by
  have hB0 : Below w.heap.size w (w.alloc (.cells #[.int .i64 0, .int .i64 0, .slice none 0 0] 30)) := (Below.refl _ _).alloc (Nat.le_refl _) _
  have b0 : VRow (w.alloc (.cells #[.int .i64 0, .int .i64 0, .slice none 0 0] 30)) w.heap.size 30 [.int .i64 0, .int .i64 0, .slice none 0 0] := VRow.new w _ _
  go_enter Tryz.func58, Tryz.ntmps58
  go_wp2_with fail
  refine (cloneE_any l p c _ (hin.below hB0) hl).mono ?_
  rintro e w1 ⟨v1, rfl, hown1, hB1⟩
  have x1 := hB0.trans (hB1.mono hB0.size)
  have b1 := b0.below hB1 (by simp)
  go_wp2_with fail
  refine (gBy_any _).mono ?_
  rintro e w2 ⟨rfl, rfl⟩
  have hown2 := hown1.alloc (.cells #[.func (.func 77) #[] #[]] 128)
  have bf2 : VRow (w1.alloc (.cells #[.func (.func 77) #[] #[]] 128)) w1.heap.size 128 [.func (.func 77) #[] #[]] := VRow.new w1 _ _
  have b2 := b1.alloc (.cells #[.func (.func 77) #[] #[]] 128)
  have x2 := x1.alloc x1.size (.cells #[.func (.func 77) #[] #[]] 128)
  have hne : v1.ownBlock ≠ some w1.heap.size := fun e => by have := (hown1.lt _ e).2; omega
  have hz0 : w.heap.size < (w.alloc (.cells #[.int .i64 0, .int .i64 0, .slice none 0 0] 30)).heap.size := b0.lt
  have HS : Hid (compact (srtE l) = norm l) := norm_sort l
  have hBz := hB1.size
  clear hB1 hB0 b0
  generalize (w.alloc (.cells #[.int .i64 0, .int .i64 0, .slice none 0 0] 30)).heap.size = B at *
  go_wp2_with fail
  refine (sortE_any l B l.length w1.heap.size v1 _ hown2 (bf2.at 0 rfl) hne hl (Nat.le_trans hBz (by simp))).mono ?_
  rintro e w3 ⟨rfl, hown3, hB3⟩
  have x3 := x2.trans (hB3.mono (Nat.le_of_lt hz0))
  have b3 := b2.below hB3 hz0
  have hBz3 : B ≤ w3.heap.size := Nat.le_trans hBz (Nat.le_trans (by simp) hB3.size)
  clear hown2 bf2 b2 hne hown1
  go_wp2_with fail
  refine (compactE_any (srtE l) B l.length v1 _ hown3 hl hBz3).mono ?_
  rw [HS.out]
  rintro e w4 ⟨v4, rfl, hown4, hB4⟩
  have x4 := x3.trans (hB4.mono (Nat.le_of_lt hz0))
  have b4 := b3.below hB4 hz0
  obtain ⟨p4, c4, rfl, hs4, hc4, _⟩ := own_sg hown4
  have f0 := b4.at 0 rfl; have f1 := b4.at 1 rfl; have f2 := b4.at 2 rfl
  have hfz := fun j => b4.frozen j
  have hz4 := b4.lt
  have hw5 : Sg 3 (w4.alloc (.cells #[.int .i64 (⟨q, n, norm l⟩ : Gr).q, .int .i64 (⟨q, n, norm l⟩ : Gr).n, .slice p4 (⟨q, n, norm l⟩ : Gr).es.length c4] 30)) edE p4 (norm l) := hs4.below ((Below.refl _ _).alloc (Nat.le_refl _) _)
  have hln : (norm l).length ≤ 100000 := by
    have := compact_len (srtE l); rw [HS.out, srtE_len] at this; omega
  obtain ⟨r, hr⟩ : ∃ r, chkG ⟨q, n, norm l⟩ = r := ⟨_, rfl⟩
  have b4' : VRow (w4.alloc (.cells #[.int .i64 (⟨q, n, norm l⟩ : Gr).q, .int .i64 (⟨q, n, norm l⟩ : Gr).n, .slice p4 (⟨q, n, norm l⟩ : Gr).es.length c4] 30)) w.heap.size 30 [.int .i64 0, .int .i64 0, .slice none 0 0] := b4.alloc _
  have c4' : VRow (w4.alloc (.cells #[.int .i64 (⟨q, n, norm l⟩ : Gr).q, .int .i64 (⟨q, n, norm l⟩ : Gr).n, .slice p4 (⟨q, n, norm l⟩ : Gr).es.length c4] 30)) w4.heap.size 30 [.int .i64 (⟨q, n, norm l⟩ : Gr).q, .int .i64 (⟨q, n, norm l⟩ : Gr).n, .slice p4 (⟨q, n, norm l⟩ : Gr).es.length c4] := VRow.new w4 _ _
  have x4' := x4.alloc x4.size (.cells #[.int .i64 (⟨q, n, norm l⟩ : Gr).q, .int .i64 (⟨q, n, norm l⟩ : Gr).n, .slice p4 (⟨q, n, norm l⟩ : Gr).es.length c4] 30)
  have hL : Hid ((norm l).length ≤ c4) := hc4
  by_cases hr0 : r = 0
  · subst hr0
    have HR := hidI (makeA_ok hr)
    go_wp2_with fail
    refine (gCheck_r ⟨q, n, norm l⟩ p4 c4 _ 0 hr hw5 (by show (norm l).length ≤ _; omega)).mono ?_
    rintro e w5 ⟨rfl, hB5⟩
    have x5 := x4'.trans (hB5.mono x4'.size)
    have b5 := b4'.below hB5 b4'.lt
    have c5 := c4'.below hB5 c4'.lt
    have o5 := (hown4.alloc (.cells #[.int .i64 (⟨q, n, norm l⟩ : Gr).q, .int .i64 (⟨q, n, norm l⟩ : Gr).n, .slice p4 (⟨q, n, norm l⟩ : Gr).es.length c4] 30)).below hB5
    have g0 := c5.at 0 rfl; have g1 := c5.at 1 rfl; have g2 := c5.at 2 rfl
    have k0 := b5.at 0 rfl; have k1 := b5.at 1 rfl; have k2 := b5.at 2 rfl
    have z0 := b5.frozen 0; have z1 := b5.frozen 1; have z2 := b5.frozen 2
    clear f0 f1 f2 hfz hr
    go_wp2
    have r6 := VRow.set (i := 2) (.slice p4 (norm l).length c4) (VRow.set (i := 1) (.int .i64 n) (VRow.set (i := 0) (.int .i64 q) b5))
    have y0 := r6.at 0 rfl; have y1 := r6.at 1 rfl; have y2 := r6.at 2 rfl
    have o6 := ownsRow_setCell_below (a := ⟨w.heap.size, 2, none⟩) (ownsRow_setCell_below (a := ⟨w.heap.size, 1, none⟩) (ownsRow_setCell_below (a := ⟨w.heap.size, 0, none⟩) o5 hz0 (.int .i64 q)) hz0 (.int .i64 n)) hz0 (.slice p4 (norm l).length c4)
    have x6 : Below w.heap.size w (((w5.setCell ⟨w.heap.size, 0, none⟩ (.int .i64 q)).setCell ⟨w.heap.size, 1, none⟩ (.int .i64 n)).setCell ⟨w.heap.size, 2, none⟩ (.slice p4 (norm l).length c4)) := ((x5.setCell (Nat.le_refl _) _).setCell (Nat.le_refl _) _).setCell (Nat.le_refl _) _
    refine bodyPost_ret (v := .tuple #[.agg #[.int .i64 q, .int .i64 n, .slice p4 (norm l).length c4], .int .i64 0]) (by simp [results, Tryz.results58, go_sem, y0, y1, y2]) rfl ?_
    obtain ⟨p6, c6, hv, hs6, _, _⟩ := own_sg o6
    cases hv
    exact RetGr.of HR.out hs6 hL.out x6
  · have hrb : (r == 0) = false := by simpa using hr0
    have HR := hidI (makeA_bad (by rw [hr]; exact hr0))
    rw [hr] at HR
    go_wp2_with fail
    refine (gCheck_r ⟨q, n, norm l⟩ p4 c4 _ r hr hw5 (by show (norm l).length ≤ _; omega)).mono ?_
    rintro e w5 ⟨rfl, hB5⟩
    have x5 := x4'.trans (hB5.mono x4'.size)
    have b5 := b4'.below hB5 b4'.lt
    have o5 := (hown4.alloc (.cells #[.int .i64 (⟨q, n, norm l⟩ : Gr).q, .int .i64 (⟨q, n, norm l⟩ : Gr).n, .slice p4 (⟨q, n, norm l⟩ : Gr).es.length c4] 30)).below hB5
    have k0 := b5.at 0 rfl; have k1 := b5.at 1 rfl; have k2 := b5.at 2 rfl
    have z0 := b5.frozen 0; have z1 := b5.frozen 1; have z2 := b5.frozen 2
    clear f0 f1 f2 hfz hr
    go_wp2
    have r6 := VRow.set (i := 2) (.slice none 0 0) (VRow.set (i := 1) (.int .i64 0) (VRow.set (i := 0) (.int .i64 0) b5))
    have y0 := r6.at 0 rfl; have y1 := r6.at 1 rfl; have y2 := r6.at 2 rfl
    have o6 := ownsRow_setCell_below (a := ⟨w.heap.size, 2, none⟩) (ownsRow_setCell_below (a := ⟨w.heap.size, 1, none⟩) (ownsRow_setCell_below (a := ⟨w.heap.size, 0, none⟩) o5 hz0 (.int .i64 0)) hz0 (.int .i64 0)) hz0 (.slice none 0 0)
    have x6 : Below w.heap.size w (((w5.setCell ⟨w.heap.size, 0, none⟩ (.int .i64 0)).setCell ⟨w.heap.size, 1, none⟩ (.int .i64 0)).setCell ⟨w.heap.size, 2, none⟩ (.slice none 0 0)) := ((x5.setCell (Nat.le_refl _) _).setCell (Nat.le_refl _) _).setCell (Nat.le_refl _) _
    refine bodyPost_ret (v := .tuple #[.agg #[.int .i64 0, .int .i64 0, .slice none 0 0], .int .i64 r]) (by simp [results, Tryz.results58, go_sem, y0, y1, y2]) rfl ?_
    exact RetGr.of (G' := ⟨0, 0, []⟩) HR.out (Sg.nil _ _ _ _) (by simp) x6
end Go.Proofs.YtjpilmedlecdhaaGreatDoor
namespace Go.Proofs.YtjpilmedlecdhaaGreatDoor
open Go.RowKit Go.Sort

def TwoRows (w : World) (a b : Ed) (u v : Value) (wx : World) : Prop :=
  ∃ g h, u = .slice (some ⟨g, 0, none⟩) 3 3 ∧ v = .slice (some ⟨h, 0, none⟩) 3 3 ∧ VRow wx g 3 ((edL a).map (Value.int .i64)) ∧ VRow wx h 3 ((edL b).map (Value.int .i64)) ∧ Up w wx
theorem edL_len (x : Ed) : (edL x).length = 3 := rfl
end Go.Proofs.YtjpilmedlecdhaaGreatDoor
namespace Go.Proofs.YtjpilmedlecdhaaGreatDoor
open Go.RowKit Go.Sort Go.Shelf Go.Lib

/-! ### Plain -/
def sameG (G H : Gr) : Bool := decide (G.q = H.q) && (decide (G.n = H.n) && decide (G.es = H.es))
theorem sameG_refl (G : Gr) : sameG G G = true := by simp [sameG]
theorem sameG_iff {G H : Gr} : sameG G H = true ↔ G = H := by
  cases G; cases H; simp [sameG]
theorem sameG_len {G H : Gr} (h : G.es.length ≠ H.es.length) : sameG G H = false := by
  simp [sameG]; intro _ _ e; exact h (by rw [e])
theorem es_ne {l m : List Ed} (k : Nat) (h1 : k < l.length) (h2 : k < m.length) (h : l[k] ≠ m[k]) : l ≠ m := by intro e; subst e; exact h rfl
def detB : List Ed → Bool
  | x :: y :: l => !(decide (x.f = y.f) && decide (x.l = y.l)) && detB (y :: l)
  | _ => true
theorem detB_t : ∀ {l : List Ed}, (∀ k (h : k + 1 < l.length), ¬ (l[k].f = l[k + 1].f ∧ l[k].l = l[k + 1].l)) → detB l = true
  | [], _ => rfl
  | [_], _ => rfl
  | x :: y :: l, h => by
    have h0 := h 0 (by simp)
    simp only [List.getElem_cons_zero, List.getElem_cons_succ] at h0
    rw [detB, detB_t (fun k hk => by have := h (k + 1) (by simpa using hk); simpa using this)]
    by_cases h1 : x.f = y.f
    · have : x.l ≠ y.l := fun e => h0 ⟨h1, e⟩
      simp [this]
    · simp [h1]
theorem detB_f : ∀ {l : List Ed} (k : Nat) (h : k + 1 < l.length), l[k].f = l[k + 1].f → l[k].l = l[k + 1].l → detB l = false
  | [], k, h, _, _ => by simp at h
  | [_], k, h, _, _ => by simp at h
  | x :: y :: l, 0, _, h1, h2 => by
    simp only [List.getElem_cons_zero, List.getElem_cons_succ] at h1 h2
    simp [detB, h1, h2]
  | x :: y :: l, k + 1, h, h1, h2 => by
    rw [detB, detB_f k (by simpa using h) (by simpa using h1) (by simpa using h2), Bool.and_false]
/-- Whether a graph is deterministic, and the error number. -/
def detA (G : Gr) : Bool × Int := if chkG G = 0 then (detB G.es, 0) else (false, 1)
theorem detA_bad {G : Gr} (h : chkG G ≠ 0) : detA G = (false, 1) := by unfold detA; rw [if_neg h]
theorem detA_ok {G : Gr} (h : chkG G = 0) : detA G = (detB G.es, 0) := by unfold detA; rw [if_pos h]
def greatG (G : Gr) : Bool := decide (30 < G.es.length) || (decide (10 < G.n) && decide (G.n ≤ 64))

/-! ### Walks -/
theorem rGreat_any (G : Gr) (p : Option Addr) (c : Nat) (w : World) (hl : G.es.length ≤ 9223372036854775807) :
    Calls Tryz.prog 15 #[(.agg #[.int .i64 G.q, .int .i64 G.n, .slice p G.es.length c])] w fun e w' => e = .returned (.bool (greatG G)) ∧ Below w.heap.size w w' := by
  go_enter Tryz.func15, Tryz.ntmps15
  go_wp2
  all_goals go_ret
  all_goals exact ⟨ret_bool (by unfold greatG; rw [Bool.eq_iff_iff]; simp; omega), (Below.refl _ _).alloc (Nat.le_refl _) _⟩
end Go.Proofs.YtjpilmedlecdhaaGreatDoor
namespace Go.Proofs.YtjpilmedlecdhaaGreatDoor
open Go.RowKit Go.Sort Go.Shelf Go.Lib

theorem ret_bi' {a : Bool} {b : Int} {x : Bool × Int} (h : x = (a, b)) : Ending.returned (.tuple #[.bool a, .int .i64 b]) = .returned (.tuple #[.bool x.1, .int .i64 x.2]) := by subst h; rfl
def TwoEds (w : World) (a b : Ed) (u v : Value) (wx : World) : Prop :=
  ∃ g h, u = .pointer (some ⟨g, 0, none⟩) ∧ v = .pointer (some ⟨h, 0, none⟩) ∧ VRow wx g 105 (edE a) ∧ VRow wx h 105 (edE b) ∧ Below w.heap.size w wx
end Go.Proofs.YtjpilmedlecdhaaGreatDoor
