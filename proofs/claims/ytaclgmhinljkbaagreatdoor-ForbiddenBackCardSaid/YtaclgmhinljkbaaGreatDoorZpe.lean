/-
  Words, plain lemmas and walks, merged: Gd, Ge, Gb, Gf, Gg, Gh, Gi, Gj, Gk, Gp, Gu, Hn, Hk, Gl, Gq, Gy, Hp.
-/
import Derived.Test.YtaclgmhinljkbaaGreatDoorZpd
import Derived.Laws.StructEq
import Derived.Laws.CopyRow
import Derived.Shelf.SlicesE.Equal
import Derived.Maps.AppendAt
import Derived.Deep.CutBlock
import Derived.Test.YtaclgmhinljkbaaGreatDoorZpb
import Derived.Sort.OwnSortedInts
set_option linter.unusedVariables false
set_option linter.unusedSimpArgs false
namespace Go.Proofs.YtaclgmhinljkbaaGreatDoor
open Go.RowKit Go.Sort Go.Shelf Go.Lib

theorem own_setCell {w : World} {B e size g n cap i : Nat} {xs : List Value} (h : w.ownsRow B e size (.slice (some ⟨g, 0, none⟩) n cap) n xs) (u : Value) :
    (w.setCell ⟨g, i, none⟩ u).ownsRow B e size (.slice (some ⟨g, 0, none⟩) n cap) n (xs.set i u) := by
  rcases h.2 with ⟨e0, _⟩ | ⟨g', cap', cur, e0, hg, hh, hc, hm, hs, ht⟩
  · cases e0
  · cases e0
    have hlt : g < w.heap.size := (Array.getElem?_eq_some_iff.1 hh).1
    have hgv : w.heap[g] = .cells cur e (0, 0) := (Array.getElem?_eq_some_iff.1 hh).2
    refine ⟨by rw [List.length_set]; exact h.1, .inr ⟨g, cap, cur.setIfInBounds i u, rfl, hg, ?_, hc, hm, by simpa using hs, ?_⟩⟩
    · rw [setCell_eq]; simp [mapBlock, hlt, Array.getElem_modify, hgv, onCells]
    · rw [Array.toList_setIfInBounds, List.take_set, ht]
theorem cat_set (d : List Ed) (x : Ed) : ∀ k, (((cat d).set (k * 3) (.int .i64 x.f)).set (k * 3 + 1) (.int .i64 x.l)).set (k * 3 + 2) (.int .i64 x.t) = cat (d.set k x) := by
  induction d with
  | nil => intro k; rfl
  | cons y d ih =>
    intro k
    cases k with
    | zero => simp [cat, edE]
    | succ k =>
      have := ih k
      simp only [cat, List.flatMap_cons, List.set_cons_succ] at *
      rw [← this]
      simp [edE, Nat.succ_mul]
theorem own_set3 {w : World} {B e g n cap k : Nat} {d : List Ed} (h : w.ownsRow B e 3 (.slice (some ⟨g, 0, none⟩) n cap) n (cat d)) (x : Ed) :
    (((w.setCell ⟨g, k * 3, none⟩ (.int .i64 x.f)).setCell ⟨g, k * 3 + 1, none⟩ (.int .i64 x.l)).setCell ⟨g, k * 3 + 2, none⟩ (.int .i64 x.t)).ownsRow B e 3 (.slice (some ⟨g, 0, none⟩) n cap) n (cat (d.set k x)) := by
  rw [← cat_set]
  exact own_setCell (own_setCell (own_setCell h _) _) _
/-- How two edges are compared by the program. -/
theorem eqlE (a b : Ed) (w : World) : (binOp .eql 42 (.agg #[.int .i64 a.f, .int .i64 a.l, .int .i64 a.t]) (.agg #[.int .i64 b.f, .int .i64 b.l, .int .i64 b.t])).run Tryz.prog w = .ok (.bool (decide (a = b))) w := by
  have hS : Tryz.prog.underlying 42 = some (.struct (Tryz.prog.fieldsOf 42)) := by kernel_rfl
  have hp : Tryz.prog.stoodInHeld 42 = false := by kernel_rfl
  have hr : (Op.eqFields 9999 #[.int .i64 a.f, .int .i64 a.l, .int .i64 a.t] #[.int .i64 b.f, .int .i64 b.l, .int .i64 b.t] (Tryz.prog.fieldsOf 42).toList).run Tryz.prog w = .ok (decide (a = b)) w := by
    simp only [Program.fieldsOf, Tryz.underlying42]
    have u3 := Tryz.underlying3
    have a3 := Tryz.isAgg3
    have z3 := Tryz.sizeOf3
    go_simp
    have he : a = b ↔ a.f = b.f ∧ a.l = b.l ∧ a.t = b.t := ⟨fun h => by subst h; exact ⟨rfl, rfl, rfl⟩, fun ⟨h1, h2, h3⟩ => by cases a; cases b; simp_all⟩
    by_cases h1 : a.f = b.f <;> by_cases h2 : a.l = b.l <;> by_cases h3 : a.t = b.t <;> simp [he, h1, h2, h3]
  rw [run_eql_struct, show (10000 : Nat) = 9999 + 1 from rfl, run_equalIn_agg w 9999 42 _ _ hS hp, hr]
  rfl
theorem neqE (a b : Ed) (w : World) : (binOp .neq 42 (.agg #[.int .i64 a.f, .int .i64 a.l, .int .i64 a.t]) (.agg #[.int .i64 b.f, .int .i64 b.l, .int .i64 b.t])).run Tryz.prog w = .ok (.bool (!decide (a = b))) w := by
  have h := eqlE a b w
  rw [run_eql_struct] at h
  rw [run_neq_struct]
  cases hq : (Op.equalIn 10000 42 (.agg #[.int .i64 a.f, .int .i64 a.l, .int .i64 a.t]) (.agg #[.int .i64 b.f, .int .i64 b.l, .int .i64 b.t])).run Tryz.prog w with
  | ok v w' => rw [hq] at h; simp [Result.andThen] at h ⊢; exact ⟨h.1, h.2⟩
  | _ => rw [hq] at h; cases h
theorem guardE (op : BinOp) (a b : Operand) (x y : Ed) (w : World) : (eqGuard op 42 a b (.agg #[.int .i64 x.f, .int .i64 x.l, .int .i64 x.t]) (.agg #[.int .i64 y.f, .int .i64 y.l, .int .i64 y.t])).run Tryz.prog w = .ok () w :=
  GuardAt.agg (P := Tryz.prog) (T := 42) (fun x : Ed => #[.int .i64 x.f, .int .i64 x.l, .int .i64 x.t]) (by kernel_rfl) op a b x y w
theorem cat_take : ∀ (d : List Ed) (k : Nat), cat (d.take k) = (cat d).take (k * 3)
  | [], k => by simp [cat]
  | x :: d, 0 => by simp [cat]
  | x :: d, k + 1 => by
    have ih := cat_take d k
    simp only [cat, List.take_succ_cons, List.flatMap_cons] at *
    rw [ih]; simp [edE, Nat.succ_mul]
theorem own_clear {w : World} {B g n cap : Nat} {d : List Ed} (h : w.ownsRow B 42 3 (.slice (some ⟨g, 0, none⟩) n cap) n (cat d)) (kk : Nat) (hk : kk < n) :
    ∃ W', (∀ ty, (Builtin.clear_ #[27] ty #[.slice (some ⟨g, kk * 3, none⟩) (n - kk) (cap - kk)]).run Tryz.prog w = .ok (.tuple #[]) W') ∧
      W'.ownsRow B 42 3 (.slice (some ⟨g, 0, none⟩) kk cap) kk (cat (d.take kk)) ∧ w.grownBy W' (some g) := by
  have hn : d.length = n := by have := h.1; rw [cat_len] at this; omega
  rcases h.2 with ⟨e0, _⟩ | ⟨g', cap', cur, e0, hg, hh, hc, hm, hs, ht⟩
  · cases e0
  · cases e0
    have hlt : g < w.heap.size := (Array.getElem?_eq_some_iff.1 hh).1
    have hgv : w.heap[g] = .cells cur 42 (0, 0) := (Array.getElem?_eq_some_iff.1 hh).2
    obtain ⟨zs, hzs⟩ : ∃ zs, (Builtin.zeroCells #[.int .i64 0, .int .i64 0, .int .i64 0] (n - kk)).toList = zs := ⟨_, rfl⟩
    have hzl : zs.length = (n - kk) * 3 := by rw [← hzs]; simp [Builtin.zeroCells]
    have hz1 : ∀ v ∈ zs, v.oneCell' = true := by
      intro v hv
      rw [← hzs, Builtin.zeroCells] at hv
      simp at hv
      obtain ⟨i, _, rfl⟩ := hv
      have : i % 3 = 0 ∨ i % 3 = 1 ∨ i % 3 = 2 := by omega
      rcases this with e | e | e <;> simp [e, Value.oneCell']
    have hb : n * 3 ≤ cap * 3 := Nat.mul_le_mul_right _ hc
    have hst := run_storeCells_at (P := Tryz.prog) g (kk * 3) 42 zs 0 cur w hh (by rw [hzl, Nat.sub_mul, hs]; omega) hz1
    rw [Nat.add_zero] at hst
    refine ⟨w.setRow g (cur.toList.take (kk * 3) ++ zs ++ cur.toList.drop (kk * 3 + zs.length)).toArray, fun ty => ?_, ⟨by rw [cat_len, List.length_take]; omega, .inr ⟨g, cap, _, rfl, hg, setRow_heap w g cur _ 42 (0, 0) hh, by omega, hm, ?_, ?_⟩⟩, ?_⟩
    · obtain ⟨m, hm1⟩ : ∃ m, n - kk = m + 1 := ⟨n - kk - 1, by omega⟩
      have hv : (zeroValue 42).run Tryz.prog w = .ok (.agg #[.int .i64 0, .int .i64 0, .int .i64 0]) w := by kernel_rfl
      rw [hm1] at hzs ⊢
      simp [Builtin.clear_, run_underlying Tryz.underlying27, hv, Value.cells, hzs, hst]
    · simp [hzl, hs, Nat.sub_mul]; omega
    · simp only [List.take_append, List.length_take]
      have : kk * 3 ≤ cur.toList.length := by simp [hs]; omega
      rw [Nat.min_eq_left this, Nat.sub_self, List.take_zero, List.append_nil, List.take_take, Nat.min_self,
        show kk * 3 - (cur.toList.take (kk * 3) ++ zs).length = 0 by rw [List.length_append, List.length_take, Nat.min_eq_left this]; omega,
        List.take_zero, List.append_nil, cat_take, ← ht, List.take_take, Nat.min_eq_left (Nat.mul_le_mul_right 3 (Nat.le_of_lt hk))]
    · refine ⟨rfl, rfl, rfl, by simp [World.setRow], fun i hi hne => ?_⟩
      have hne' : g ≠ i := fun e => hne (by rw [e])
      simp [World.setRow, Array.getElem?_modify, hne']
theorem own_cell3 {w : World} {B e g n cap : Nat} {d : List Ed} (h : w.ownsRow B e 3 (.slice (some ⟨g, 0, none⟩) n cap) n (cat d)) (k : Nat) (hk : k < d.length) :
    w.cell? ⟨g, k * 3, none⟩ = some (.int .i64 d[k].f) ∧ w.cell? ⟨g, k * 3 + 1, none⟩ = some (.int .i64 d[k].l) ∧ w.cell? ⟨g, k * 3 + 2, none⟩ = some (.int .i64 d[k].t) ∧ (∀ j, w.frozen? ⟨g, j, none⟩ = false) ∧ g < w.heap.size := by
  obtain ⟨p, c, hv, hs, _, hn⟩ := own_sg h
  cases hv
  obtain ⟨b, off, hp, _, e0, e1, e2⟩ := hs.get3 k hk rfl
  cases hp
  simp only [Nat.zero_add] at e0 e1 e2
  refine ⟨e0, e1, e2, fun j => ?_, ?_⟩
  · rcases h.2 with ⟨e0, _⟩ | ⟨g', cap', cur, e0, hg, hh, hc, hm, hs, ht⟩
    · cases e0
    · cases e0; simp [World.frozen?, hh]
  · rcases h.2 with ⟨e0, _⟩ | ⟨g', cap', cur, e0, hg, hh, hc, hm, hs, ht⟩
    · cases e0
    · cases e0; exact (Array.getElem?_eq_some_iff.1 hh).1
end Go.Proofs.YtaclgmhinljkbaaGreatDoor
namespace Go.Proofs.YtaclgmhinljkbaaGreatDoor
open Go.RowKit Go.Sort Go.Shelf Go.Lib

theorem grown_set {w w1 : World} {g i : Nat} (h : w.grownBy w1 (some g)) (u : Value) : w.grownBy (w1.setCell ⟨g, i, none⟩ u) (some g) :=
  ⟨h.os, h.tape, h.output, by rw [setCell_eq]; simpa [mapBlock] using h.size, fun k hk hne => (Below.heap_setCell _ _ _ _ (fun e => hne (by rw [e]))).trans (h.block k hk hne)⟩
/-- Edges once each, in the memory that the call owned. -/
theorem grown_dr {w w1 w' : World} {r : Option Nat} (h : Dr w1 w') (k : w.grownBy w1 r) : w.grownBy w' r := by
  obtain ⟨q, rfl⟩ := h; exact ⟨k.os, k.tape, k.output, k.size, k.block⟩
def RetCmp (B g cap : Nat) (l : List Ed) (w : World) (e : Ending) (w' : World) : Prop := e = .returned (.slice (some ⟨g, 0, none⟩) l.length cap) ∧ w'.ownsRow B 42 3 (.slice (some ⟨g, 0, none⟩) l.length cap) l.length (cat l) ∧ w.grownBy w' (some g)
theorem RetCmp.of {B g cap : Nat} {x r : List Ed} {w w' : World} (hr : x = r) (ho : w'.ownsRow B 42 3 (.slice (some ⟨g, 0, none⟩) r.length cap) r.length (cat r)) (hg : w.grownBy w' (some g)) : RetCmp B g cap x w (.returned (.slice (some ⟨g, 0, none⟩) r.length cap)) w' := by
  subst hr; exact ⟨rfl, ho, hg⟩
theorem compactE_short (l : List Ed) (B g n cap : Nat) (w : World) (h : w.ownsRow B 42 3 (.slice (some ⟨g, 0, none⟩) n cap) n (cat l)) (h2 : n < 2) :
    Calls Tryz.prog 44 #[.slice (some ⟨g, 0, none⟩) n cap] w (RetCmp B g cap (compact l) w) := by
  have hl : l.length = n := by have := h.1; rw [cat_len] at this; omega
  have hc : compact l = l := by
    match l, hl with
    | [], _ => rfl
    | [_], _ => rfl
    | _ :: _ :: _, hl => simp at hl; omega
  rw [hc]
  have h2' : (n : Int) < 2 := by omega
  have HH := hidI h
  clear h hc
  go_enter Tryz.func44, Tryz.ntmps44
  go_wp2
  go_ret
  subst hl
  exact ⟨rfl, HH.out, World.grownBy.refl _ _⟩
set_option maxRecDepth 100000 in
set_option maxHeartbeats 2000000 in
theorem compactE_long (l : List Ed) (B g n cap : Nat) (w : World) (h : w.ownsRow B 42 3 (.slice (some ⟨g, 0, none⟩) n cap) n (cat l)) (h2 : 2 ≤ n) (hn : n ≤ 100000) :
    Calls Tryz.prog 44 #[.slice (some ⟨g, 0, none⟩) n cap] w (RetCmp B g cap (compact l) w) := by
  have hl : l.length = n := by have := h.1; rw [cat_len] at this; omega
  have hnc : n ≤ cap := own_cap h _ _ _ rfl
  have h2' : ¬ ((n : Int) < 2) := by omega
  have HH := hidI h
  clear h
  go_enter Tryz.func44, Tryz.ntmps44
  go_wp2
  go_loopw [3] (fun kv wr => ∃ k : Nat, 1 ≤ k ∧ k ≤ n ∧ kv = .int .i64 k ∧ Hid (∀ m (hm : m + 1 < l.length), m + 1 < k → l[m] ≠ l[m + 1]) ∧ Dr w wr) (fun kv _ => n - (intOf kv).toNat)
  case atStart => exact ⟨1, by omega, by omega, rfl, fun m _ h => by omega, Dr.refl _⟩
  case round =>
    obtain ⟨k, hk1, hk, rfl, hj, hD⟩ := hrel
    have hown := HH.out.dr hD
    by_cases hlt : k < n
    · obtain ⟨m, rfl⟩ : ∃ m, k = m + 1 := ⟨k - 1, by omega⟩
      obtain ⟨e0, e1, e2, _, hg⟩ := own_cell3 hown (m + 1) (by omega)
      obtain ⟨e3, e4, e5, _, _⟩ := own_cell3 hown m (by omega)
      have hI : (m : Int) + 1 < (n : Int) := by omega
      have hI2 : (m : Int) < (n : Int) := by omega
      have hq := eqlE l[m + 1] l[m]
      have hgd := guardE .eql
      by_cases heq : l[m + 1] = l[m]
      · rw [decide_eq_true heq] at hq
        have HQ := hidI heq
        clear heq
        have hk0 : ¬ cap = m + 1 := by omega
        have q0 : IntKind.i64.wrap ((m : Int) + 1) = (m : Int) + 1 := IntWalk.i64_in _ (by omega)
        have hI3 : (m : Int) + 1 ≤ (n : Int) := by omega
        have hI4 : (n : Int) ≤ (cap : Int) := by omega
        go_wp2_with fail
        (refine wp_region_quiet_lit (by kernel_rfl) (by kernel_rfl) ?_; (repeat (first | go_big_quiet_step (fail) | quiet_step (fail))); refine wpQuiet_nil ?_; intro _ hwq; obtain ⟨nq, hwq2⟩ := hwq; subst hwq2)
        clear e0 e1 e2 e3 e4 e5 hq hgd hI hI2
        go_wp2
        have HC0 : Hid (l.take (m + 1) = compact (l.take (m + 1 + 1))) := by
          unfold Hid
          rw [compact_succ l m (by omega), if_pos HQ.out.symm]
          exact (compact_same _ (fun i hi => by
            rw [List.length_take] at hi
            rw [List.getElem_take, List.getElem_take]
            exact hj.out i (by omega) (by omega))).symm
        have hgr : w.grownBy (wr.drewN nq) (some g) := grown_dr (hD.one nq) (World.grownBy.refl _ _)
        have hown1 : (wr.drewN nq).ownsRow B 42 3 (.slice (some ⟨g, 0, none⟩) n cap) n (cat l) := hown
        have HG := hidI hgr
        have HO := hidI hown1
        clear hgr hown1 hown hD
        generalize wr.drewN nq = w1 at HG HO ⊢
        go_loopw [3, 5] (fun kv jv wr => ∃ (kk i : Nat) (d : List Ed), 1 ≤ kk ∧ kk ≤ m + (i + 1) ∧ i + 1 ≤ n - (m + 1) ∧ kv = .int .i64 kk ∧ jv = .int .i64 (i + 1 : Nat) ∧ Hid (d.length = n ∧ d.take kk = compact (l.take (m + 1 + (i + 1))) ∧ d.drop (m + (i + 1)) = l.drop (m + (i + 1))) ∧
          wr.ownsRow B 42 3 (.slice (some ⟨g, 0, none⟩) n cap) n (cat d) ∧ w.grownBy wr (some g)) (fun _ jv _ => n - (intOf jv).toNat)
        case atStart => exact ⟨m + 1, 0, l, by omega, by omega, by omega, rfl, rfl, ⟨hl, HC0.out, rfl⟩, HO.out, HG.out⟩
        case round =>
          obtain ⟨kk, i, d, hkk1, hkk, hi, rfl, rfl, hd, hown, hgw⟩ := hrel
          obtain ⟨hdl, hdt, hdd⟩ := hd.out
          have hgets : ∀ x, m + (i + 1) ≤ x → ∀ (h1 : x < d.length) (h2 : x < l.length), d[x] = l[x] := fun x hx h1 h2 => by
            have e1 : d[x]? = (d.drop (m + (i + 1)))[x - (m + (i + 1))]? := by rw [List.getElem?_drop]; congr 1; omega
            have e2 : l[x]? = (l.drop (m + (i + 1)))[x - (m + (i + 1))]? := by rw [List.getElem?_drop]; congr 1; omega
            have : d[x]? = l[x]? := by rw [e1, e2, hdd]
            rw [List.getElem?_eq_getElem h1, List.getElem?_eq_getElem h2] at this
            exact Option.some.inj this
          by_cases hlt : i + 1 < n - (m + 1)
          · obtain ⟨e0, e1, e2, hfz, hg⟩ := own_cell3 hown (m + 1 + (i + 1)) (by omega)
            obtain ⟨e3, e4, e5, _, _⟩ := own_cell3 hown (m + 1 + i) (by omega)
            obtain ⟨k0, k1, k2, _, _⟩ := own_cell3 hown kk (by omega)
            have hx1 : d[m + 1 + (i + 1)] = l[m + 1 + (i + 1)] := hgets _ (by omega) _ (by omega)
            have hx0 : d[m + 1 + i] = l[m + 1 + i] := hgets _ (by omega) _ (by omega)
            rw [hx1] at e0 e1 e2
            rw [hx0] at e3 e4 e5
            rw [Nat.add_mul (m + 1) (i + 1) 3] at e0 e1 e2
            rw [Nat.add_mul (m + 1) i 3] at e3 e4 e5
            have HX1 := hidI hx1
            clear hx1 hx0 hgets
            have HD := hidI hdd; have HT := hidI hdt; have HL := hidI hdl
            clear hdd hdt
            have hz : (i : Int) + 1 < (n : Int) - ((m : Int) + 1) := by omega
            have hI1 : (i : Int) + 1 < ((n - (m + 1) : Nat) : Int) := by omega
            have hI2 : (i : Int) < ((n - (m + 1) : Nat) : Int) := by omega
            have hq := neqE l[m + 1 + (i + 1)] l[m + 1 + i]
            have hgd := guardE .neq
            have HCT := hidI (compact_succ l (m + 1 + i) (by omega))
            by_cases heq : l[m + 1 + (i + 1)] = l[m + 1 + i]
            · rw [decide_eq_true heq] at hq
              have HN : Hid (d.length = n ∧ d.take kk = compact (l.take (m + 1 + (i + 1 + 1))) ∧ d.drop (m + (i + 1 + 1)) = l.drop (m + (i + 1 + 1))) := ⟨HL.out, HT.out.trans (HCT.out.trans (if_pos heq.symm)).symm
                , by have := congrArg (List.drop 1) HD.out; rw [List.drop_drop, List.drop_drop] at this; exact this⟩
              clear heq HCT k0 k1 k2
              go_wp2_with fail
              (refine wp_region_quiet_lit (by kernel_rfl) (by kernel_rfl) ?_; (repeat (first | go_big_quiet_step (fail) | quiet_step (fail))); refine wpQuiet_nil ?_; intro _ hwq; obtain ⟨nq, hwq2⟩ := hwq; subst hwq2)
              clear e0 e1 e2 e3 e4 e5 hq hgd
              go_wp2
              go_roundw
              case rel => exact ⟨kk, i + 1, d, hkk1, by omega, by omega, rfl, by go_num, HN, hown, grown_dr ⟨nq, rfl⟩ hgw⟩
              case measure => simp [intOf]; omega
            · rw [decide_eq_false heq] at hq
              have HN : Hid ((d.set kk l[m + 1 + (i + 1)]).length = n ∧ (d.set kk l[m + 1 + (i + 1)]).take (kk + 1) = compact (l.take (m + 1 + (i + 1 + 1))) ∧ (d.set kk l[m + 1 + (i + 1)]).drop (m + (i + 1 + 1)) = l.drop (m + (i + 1 + 1))) := by
                refine ⟨by rw [List.length_set]; exact HL.out, ?_, ?_⟩
                · have h1 : compact (l.take (m + 1 + (i + 1 + 1))) = compact (l.take (m + 1 + (i + 1))) ++ [l[m + 1 + (i + 1)]] := HCT.out.trans (if_neg (fun e => heq e.symm))
                  rw [h1, ← HT.out, List.take_succ_eq_append_getElem (by rw [List.length_set]; omega), List.getElem_set_self, List.take_set_of_le (Nat.le_refl _)]
                · rw [List.drop_set_of_lt (by omega)]
                  have := congrArg (List.drop 1) HD.out; rw [List.drop_drop, List.drop_drop] at this; exact this
              have k3 := hfz (kk * 3); have k4 := hfz (kk * 3 + 1); have k5 := hfz (kk * 3 + 2)
              have hkI : (kk : Int) < (n : Int) := by omega
              have HX3 := fun (q : Nat) => own_set3 (w := wr.drewN q) (k := kk) (show (wr.drewN q).ownsRow B 42 3 (.slice (some ⟨g, 0, none⟩) n cap) n (cat d) from hown) l[m + 1 + (i + 1)]
              have HX := hidI HX3
              clear heq HCT HX3
              go_wp2_with fail
              (refine wp_region_quiet_lit (by kernel_rfl) (by kernel_rfl) ?_; (repeat (first | go_big_quiet_step (fail) | quiet_step (fail))); refine wpQuiet_nil ?_; intro _ hwq; obtain ⟨nq, hwq2⟩ := hwq; subst hwq2)
              clear hq hgd
              go_wp2
              go_roundw
              case rel => (repeat apply Exists.intro); exact ⟨⟨kk + 1, i + 1, d.set kk l[m + 1 + (i + 1)], by omega, by omega, by omega, by go_num, by go_num, HN, HX.out nq, grown_set (grown_set (grown_set (grown_dr ⟨nq, rfl⟩ hgw) _) _) _⟩, rfl⟩
              case measure => simp [intOf]; omega
          · have hie : i + 1 = n - (m + 1) := by omega
            have HCE : Hid (compact l = d.take kk) := by
              unfold Hid
              rw [hdt, show m + 1 + (i + 1) = l.length by omega, List.take_length]
            have hkn : kk < n := by omega
            have hkl : (d.take kk).length = kk := by rw [List.length_take]; omega
            obtain ⟨W', hcl, hownW, hgW⟩ := own_clear hown kk hkn
            have HL := hidI hkl
            have hkI : (kk : Int) ≤ (n : Int) := by omega
            have hkc : (kk : Int) ≤ (cap : Int) := by omega
            have hk00 : ¬ cap = kk := by omega
            have hni : ¬ ((i : Int) + 1 < ((n - (m + 1) : Nat) : Int)) := by omega
            have HGW := hidI (World.grownBy.trans hgw hgW)
            have HOW := hidI hownW
            clear hgets hdt hdd hkl hie hown hownW hgW
            go_wp2
            go_ret
            have := RetCmp.of (B := B) (cap := cap) HCE.out (by rw [HL.out]; exact HOW.out) HGW.out
            rw [HL.out] at this
            exact this
      · rw [decide_eq_false heq] at hq
        have HN : Hid (∀ i (hi : i + 1 < l.length), i + 1 < m + 1 + 1 → l[i] ≠ l[i + 1]) := fun i hi hlt => by
          by_cases e : i = m
          · subst e; exact fun e => heq e.symm
          · exact hj.out i hi (by omega)
        clear heq
        go_wp2_with fail
        (refine wp_region_quiet_lit (by kernel_rfl) (by kernel_rfl) ?_; (repeat (first | go_big_quiet_step (fail) | quiet_step (fail))); refine wpQuiet_nil ?_; intro _ hwq; obtain ⟨nq, hwq2⟩ := hwq; subst hwq2)
        go_wp2
        go_roundw
        case rel => exact ⟨m + 1 + 1, by omega, by omega, by go_num, HN, hD.one _⟩
        case measure => simp [intOf]; omega
    · obtain rfl : k = n := by omega
      have HC : Hid (compact l = l) := compact_same l (fun m hm => hj.out m hm (by omega))
      go_wp2
      go_ret
      subst hl
      exact RetCmp.of HC.out hown (grown_dr hD (World.grownBy.refl _ _))
theorem own_forms {w : World} {base size n : Nat} {e : TypeId} {v : Value} {xs : List Value} (h : w.ownsRow base e size v n xs) : (v = .slice none 0 0 ∧ n = 0) ∨ ∃ g cap, v = .slice (some ⟨g, 0, none⟩) n cap := by
  rcases h.2 with h | ⟨g, cap, _, hv, _⟩
  · exact .inl h
  · exact .inr ⟨g, cap, hv⟩
/-- Edges in memory of the call's own, from block B on. -/
def RetOwnB (B : Nat) (l : List Ed) (w : World) (e : Ending) (w' : World) : Prop := ∃ v, e = .returned v ∧ w'.ownsRow B 42 3 v l.length (cat l) ∧ Below B w w'
theorem compactE_any (l : List Ed) (B n : Nat) (v : Value) (w : World) (h : w.ownsRow B 42 3 v n (cat l)) (hn : n ≤ 100000) (hB : B ≤ w.heap.size) :
    Calls Tryz.prog 44 #[v] w (RetOwnB B (compact l) w) := by
  rcases own_forms h with ⟨rfl, rfl⟩ | ⟨g, cap, rfl⟩
  · have : l = [] := List.length_eq_zero_iff.1 (by have := h.1; rw [cat_len] at this; omega)
    subst this
    clear h
    go_enter Tryz.func44, Tryz.ntmps44
    go_wp2
    go_ret
    exact ⟨_, rfl, World.ownsRow_nil _ _ _ _, Below.refl _ _⟩
  · have hg : B ≤ g := (h.lt g rfl).1
    by_cases h2 : n < 2
    · refine (compactE_short l B g n cap w h h2).mono ?_
      rintro e w' ⟨rfl, ho, hgr⟩
      exact ⟨_, rfl, ho, (Below.refl _ _).grown hgr hB (fun j e => by cases e; exact hg)⟩
    · refine (compactE_long l B g n cap w h (by omega) hn).mono ?_
      rintro e w' ⟨rfl, ho, hgr⟩
      exact ⟨_, rfl, ho, (Below.refl _ _).grown hgr hB (fun j e => by cases e; exact hg)⟩
theorem sortE_any (l : List Ed) (B n bf : Nat) (v : Value) (w : World) (h : w.ownsRow B 42 3 v n (cat l)) (hf : w.cell? ⟨bf, 0, none⟩ = some (.func (.func 43) #[] #[])) (hne : v.ownBlock ≠ some bf) (hn : n ≤ 100000) (hB : B ≤ w.heap.size) :
    Calls Tryz.prog 41 #[v, .func (.func 80) #[] #[.pointer (some ⟨bf, 0, none⟩)]] w fun e w' => e = .returned (.tuple #[]) ∧ w'.ownsRow B 42 3 v n (cat (srtE l)) ∧ Below B w w' := by
  rcases own_forms h with ⟨rfl, rfl⟩ | ⟨g, cap, rfl⟩
  · have : l = [] := List.length_eq_zero_iff.1 (by have := h.1; rw [cat_len] at this; omega)
    subst this
    have hcon := AnyF.slices_SortFunc_none Tryz.laySortE none 0 (.func (.func 80) #[] #[.pointer (some ⟨bf, 0, none⟩)]) w
    refine Calls.mono hcon ?_
    rintro e w' ⟨rfl, rfl⟩
    exact ⟨rfl, by rw [show srtE [] = [] by simp [srtE]]; exact World.ownsRow_nil _ _ _ _, Below.refl _ _⟩
  · have hg : B ≤ g := (h.lt g rfl).1
    refine (sortE_own l B _ g n cap bf w h hf (fun e => hne (by rw [e]; rfl)) hn).mono ?_
    rintro e w' ⟨rfl, ho, hgr⟩
    exact ⟨rfl, ho, (Below.refl _ _).grown hgr hB (fun j e => by cases e; exact hg)⟩
end Go.Proofs.YtaclgmhinljkbaaGreatDoor
namespace Go.Proofs.YtaclgmhinljkbaaGreatDoor
open Go.RowKit Go.Sort

def mn3 (x y z : Int) : Int := if z < (if y < x then y else x) then z else (if y < x then y else x)
theorem mn3_neg {x y z : Int} : mn3 x y z < 0 ↔ x < 0 ∨ y < 0 ∨ z < 0 := by unfold mn3; split <;> split at * <;> omega
theorem run_mn3 (x y z : Int) (w : World) : (Builtin.min_ #[3, 3, 3] 3 #[.int .i64 x, .int .i64 y, .int .i64 z]).run Tryz.prog w = .ok (.int .i64 (mn3 x y z)) w := by kernel_rfl
def mx2 (x y : Int) : Int := if x < y then y else x
theorem mx2_ge {n x y : Int} : n ≤ mx2 x y ↔ n ≤ x ∨ n ≤ y := by unfold mx2; split <;> omega
theorem run_mx2 (x y : Int) (w : World) : (Builtin.max_ #[3, 3] 3 #[.int .i64 x, .int .i64 y]).run Tryz.prog w = .ok (.int .i64 (mx2 x y)) w := by kernel_rfl
theorem gBy_any (w : World) : Calls Tryz.prog 42 #[.func (.func 43) #[] #[]] w fun e w' => e = .returned (.func (.func 80) #[] #[.pointer (some ⟨w.heap.size, 0, none⟩)]) ∧ w.alloc (.cells #[.func (.func 43) #[] #[]] 75) = w' := by
  go_enter Tryz.func42, Tryz.ntmps42
  go_wp2
  go_ret
  exact ⟨rfl, rfl⟩
theorem gCheck_pre (G : Gr) (p : Option Addr) (c : Nat) (w : World) (hl : G.es.length ≤ 9223372036854775807) (h : ¬ (1 ≤ G.q ∧ G.q ≤ 256 ∧ 0 ≤ G.n ∧ G.n ≤ 64 ∧ G.es.length ≤ 1024)) :
    Calls Tryz.prog 24 #[(.agg #[.int .i64 G.q, .int .i64 G.n, .slice p G.es.length c])] w fun e w' => e = .returned (.int .i64 (chkG G)) ∧ Below w.heap.size w w' := by
  have hB0 : Below w.heap.size w (w.alloc (.cells #[.int .i64 G.q, .int .i64 G.n, .slice p G.es.length c] 29)) := (Below.refl _ _).alloc (Nat.le_refl _) _
  by_cases h1 : G.q < 1
  · have HR := hidI (chkG_q (G := G) (.inl h1))
    clear h
    go_enter Tryz.func24, Tryz.ntmps24
    go_wp2
    go_ret
    exact ⟨ret_int HR.out.symm, hB0⟩
  by_cases h2 : 256 < G.q
  · have HR := hidI (chkG_q (G := G) (.inr h2))
    clear h
    go_enter Tryz.func24, Tryz.ntmps24
    go_wp2
    go_ret
    exact ⟨ret_int HR.out.symm, hB0⟩
  by_cases h3 : G.n < 0
  · have HR := hidI (chkG_n (G := G) (by omega) (by omega) h3)
    clear h
    go_enter Tryz.func24, Tryz.ntmps24
    go_wp2
    go_ret
    exact ⟨ret_int HR.out.symm, hB0⟩
  have HR := hidI (chkG_l (G := G) (by omega) (by omega) (by omega) (by omega))
  by_cases h4 : 64 < G.n
  · clear h
    go_enter Tryz.func24, Tryz.ntmps24
    go_wp2
    go_ret
    exact ⟨ret_int HR.out.symm, hB0⟩
  · have h5 : (1024 : Int) < (G.es.length : Int) := by omega
    clear h
    go_enter Tryz.func24, Tryz.ntmps24
    go_wp2
    go_ret
    exact ⟨ret_int HR.out.symm, hB0⟩

set_option maxRecDepth 100000 in
set_option maxHeartbeats 2000000 in
theorem gCheck_ok (G : Gr) (p : Option Addr) (c : Nat) (w : World) (hin : Sg 3 w edE p G.es) (q1 : 1 ≤ G.q) (q2 : G.q ≤ 256) (n1 : 0 ≤ G.n) (n2 : G.n ≤ 64) (hl : G.es.length ≤ 1024) :
    Calls Tryz.prog 24 #[(.agg #[.int .i64 G.q, .int .i64 G.n, .slice p G.es.length c])] w fun e w' => e = .returned (.int .i64 (chkG G)) ∧ Below w.heap.size w w' := by
  have hB0 : Below w.heap.size w (w.alloc (.cells #[.int .i64 G.q, .int .i64 G.n, .slice p G.es.length c] 29)) := (Below.refl _ _).alloc (Nat.le_refl _) _
  have b0 : VRow (w.alloc (.cells #[.int .i64 G.q, .int .i64 G.n, .slice p G.es.length c] 29)) w.heap.size 29 [.int .i64 G.q, .int .i64 G.n, .slice p G.es.length c] := VRow.new w _ _
  have HE := hidI (chkG_e q1 q2 n1 n2 hl)
  have HIN := hidI hin
  have l1 : (G.es.length : Int) ≤ 1024 := by omega
  have d1 : decide (G.q < 1) = false := decide_eq_false (by omega)
  have d2 : decide (256 < G.q) = false := decide_eq_false (by omega)
  have d3 : decide (G.n < 0) = false := decide_eq_false (by omega)
  have d4 : decide (64 < G.n) = false := decide_eq_false (by omega)
  have d5 : decide ((1024 : Int) < (G.es.length : Int)) = false := decide_eq_false (by omega)
  clear hin
  go_enter Tryz.func24, Tryz.ntmps24
  go_wp2_with (go_at_call 42; refine (gBy_any _).mono ?_; rintro e w' ⟨rfl, rfl⟩)
  clear d1 d2 d3 d4 d5
  have hBa : Below w.heap.size w ((w.alloc (.cells #[.int .i64 G.q, .int .i64 G.n, .slice p G.es.length c] 29)).alloc (.cells #[.func (.func 43) #[] #[]] 75)) := hB0.alloc (by simp) _
  have ba : VRow ((w.alloc (.cells #[.int .i64 G.q, .int .i64 G.n, .slice p G.es.length c] 29)).alloc (.cells #[.func (.func 43) #[] #[]] 75)) w.heap.size 29 [.int .i64 G.q, .int .i64 G.n, .slice p G.es.length c] := b0.alloc _
  have bf : VRow ((w.alloc (.cells #[.int .i64 G.q, .int .i64 G.n, .slice p G.es.length c] 29)).alloc (.cells #[.func (.func 43) #[] #[]] 75)) (w.heap.size + 1) 75 [.func (.func 43) #[] #[]] := VRow.new1 w _ 75 [.func (.func 43) #[] #[]]
  generalize (w.alloc (.cells #[.int .i64 G.q, .int .i64 G.n, .slice p G.es.length c] 29)).alloc (.cells #[.func (.func 43) #[] #[]] 75) = w0 at *
  clear hB0 b0
  go_loopw [33] (fun iv wr => ∃ k : Nat, k ≤ G.es.length ∧ iv = .int .i64 k ∧ Hid (errTo G.q G.n G.es k = 0) ∧ Below w0.heap.size w0 wr) (fun iv _ => G.es.length - (intOf iv).toNat)
  case atStart => exact ⟨0, by omega, rfl, rfl, Below.refl _ _⟩
  case round =>
    obtain ⟨k, hk, rfl, hj, hB⟩ := hrel
    have hBr := hBa.trans (hB.mono hBa.size)
    have br := ba.below hB ba.lt
    have f0 := br.at 0 rfl; have f1 := br.at 1 rfl; have f2 := br.at 2 rfl
    have bfr := bf.below hB bf.lt
    by_cases hlt : k < G.es.length
    · obtain ⟨b1, o1, rfl, hb1, e0, e1, e2⟩ := (HIN.out.below hBr).get3 k hlt rfl
      cases ho : outE G.q G.n G.es[k]
      · obtain ⟨i1, i2, i3, i4, i5, i6⟩ := outE_no.1 ho
        have HO := hidI ho
        clear ho
        have m1 : decide (mn3 G.es[k].f G.es[k].l G.es[k].t < 0) = false := decide_eq_false (fun h => by rcases mn3_neg.1 h with h | h | h <;> omega)
        have m2 : decide (G.n ≤ mx2 G.es[k].f G.es[k].t) = false := decide_eq_false (fun h => by rcases mx2_ge.1 h with h | h <;> omega)
        have m3 : decide (G.q ≤ G.es[k].l) = false := decide_eq_false (by omega)
        have mm := run_mn3 G.es[k].f G.es[k].l G.es[k].t
        have mx := run_mx2 G.es[k].f G.es[k].t
        have hz := br.lt
        have hz2 := bfr.lt
        rcases Nat.eq_zero_or_pos k with hk0 | hk0
        · have hkd : decide ((0 : Int) < (k : Int)) = false := decide_eq_false (by omega)
          have hkd2 : decide (0 < k) = false := decide_eq_false (by omega)
          have HN : Hid (errTo G.q G.n G.es (k + 1) = 0) := errTo_next hj.out (by subst hk0; exact errAt_first hlt HO.out)
          clear hk0
          go_wp2_with fail
          (refine wp_region_quiet_lit (by kernel_rfl) (by kernel_rfl) ?_; (repeat (first | go_big_quiet_step (fail) | quiet_step (fail))); refine wpQuiet_nil ?_; intro _ hwq; obtain ⟨nq, hwq2⟩ := hwq; subst hwq2)
          clear m1 m2 m3 mm mx hkd hkd2
          go_wp2
          go_roundw
          case rel => exact ⟨k + 1, by omega, by go_num, HN, below_dN (hB.alloc hB.size _) nq⟩
          case measure => simp [intOf]; omega
        · obtain ⟨m, rfl⟩ : ∃ m, k = m + 1 := ⟨k - 1, by omega⟩
          have HS := hidI (errAt_succ hlt HO.out)
          go_wp2_with fail
          refine region_tail 11 (by kernel_rfl) (by kernel_rfl) fun W hD => ?_
          have hcW : VRow W wr.heap.size 42 [.int .i64 G.es[m + 1].f, .int .i64 G.es[m + 1].l, .int .i64 G.es[m + 1].t] := (VRow.new wr 42 _).dr hD
          have hbW : VRow W w.heap.size 29 [.int .i64 G.q, .int .i64 G.n, .slice (some ⟨b1, o1, none⟩) G.es.length c] := (br.alloc _).dr hD
          have hfW : VRow W (w.heap.size + 1) 75 [.func (.func 43) #[] #[]] := (bfr.alloc _).dr hD
          have hBW : Below w0.heap.size w0 W := (hB.alloc hB.size _).trans (hD.below _)
          have hBw : Below w.heap.size w W := hBa.trans (hBW.mono hBa.size)
          obtain ⟨b1', o1', he, _, e3, e4, e5⟩ := (HIN.out.below hBw).get3 m (by omega) rfl
          cases he
          clear e0 e1 e2 f0 f1 f2
          have f2 := hbW.at 2 rfl
          have e0 := hcW.at 0 rfl; have e1 := hcW.at 1 rfl; have e2 := hcW.at 2 rfl
          have g0 := hfW.at 0 rfl
          simp only [List.take_succ_cons, List.take_zero, List.drop_succ_cons, List.drop_zero]
          have n0 : (0 : Int) ≤ (m : Int) := by omega
          have n1 : (m : Int) < (G.es.length : Int) := by omega
          have q1' : IntKind.i64.wrap (m : Int) = (m : Int) := IntWalk.i64_in _ (by omega)
          iterate 11 still_step
          refine wpStill_nil ?_
          clear q1'
          go_wp2_with fail
          refine (gByc_up G.es[m] G.es[m + 1] (w.heap.size + 1) _ g0).mono ?_
          rintro e w1 ⟨rfl, hU1⟩
          have hB1 := hBW.trans (hU1.below.mono hBW.size)
          clear m1 m2 m3 mm mx e0 e1 e2 e3 e4 e5 f2 g0
          by_cases hcs : 0 ≤ cmpE G.es[m] G.es[m + 1]
          · have HF : Hid (chkG G = 10) := HE.out.trans ((errTo_hit hj.out (by rw [HS.out, if_pos hcs]; decide) hlt).trans (by rw [HS.out, if_pos hcs]))
            go_wp2
            go_ret
            exact ⟨ret_int HF.out.symm, hBa.trans (hB1.mono hBa.size)⟩
          · have HN : Hid (errTo G.q G.n G.es (m + 1 + 1) = 0) := errTo_next hj.out (by rw [HS.out, if_neg hcs])
            have hcs' : cmpE G.es[m] G.es[m + 1] < 0 := by omega
            go_wp2
            go_roundw
            case rel => exact ⟨m + 1 + 1, by omega, by go_num, HN, hB1⟩
            case measure => simp [intOf]; omega
      · have HO := hidI ho
        have HF : Hid (chkG G = 2) := HE.out.trans ((errTo_hit hj.out (by rw [errAt_out hlt ho]; decide) hlt).trans (errAt_out hlt ho))
        have mm := run_mn3 G.es[k].f G.es[k].l G.es[k].t
        have mx := run_mx2 G.es[k].f G.es[k].t
        have hz := br.lt
        have hz2 := bfr.lt
        have hBx := (hB.alloc hB.size (.cells #[.int .i64 G.es[k].f, .int .i64 G.es[k].l, .int .i64 G.es[k].t] 42))
        clear ho
        by_cases m1 : mn3 G.es[k].f G.es[k].l G.es[k].t < 0
        · have m1' := decide_eq_true m1
          clear m1
          go_wp2
          go_ret
          exact ⟨ret_int HF.out.symm, hBa.trans (hBx.mono hBa.size)⟩
        · have m1' := decide_eq_false m1
          have i : 0 ≤ G.es[k].f ∧ 0 ≤ G.es[k].l ∧ 0 ≤ G.es[k].t := ⟨by by_cases h : G.es[k].f < 0; exact absurd (mn3_neg.2 (.inl h)) m1; omega, by by_cases h : G.es[k].l < 0; exact absurd (mn3_neg.2 (.inr (.inl h))) m1; omega, by by_cases h : G.es[k].t < 0; exact absurd (mn3_neg.2 (.inr (.inr h))) m1; omega⟩
          by_cases m2 : G.n ≤ mx2 G.es[k].f G.es[k].t
          · have m2' := decide_eq_true m2
            clear m1 m2 i
            go_wp2
            go_ret
            exact ⟨ret_int HF.out.symm, hBa.trans (hBx.mono hBa.size)⟩
          · have m3 : G.q ≤ G.es[k].l := by
              have h1 := outE_iff.1 HO.out
              have h2 : ¬ (G.n ≤ G.es[k].f ∨ G.n ≤ G.es[k].t) := fun h => m2 (mx2_ge.2 h)
              omega
            have m2' := decide_eq_false m2
            have m3' := decide_eq_true m3
            clear m1 m2 m3 i
            go_wp2
            go_ret
            exact ⟨ret_int HF.out.symm, hBa.trans (hBx.mono hBa.size)⟩
    · obtain rfl : k = G.es.length := by omega
      have HF : Hid (chkG G = 0) := HE.out.trans hj.out
      go_wp2
      go_ret
      exact ⟨ret_int HF.out.symm, hBr⟩
theorem gCheck_any (G : Gr) (p : Option Addr) (c : Nat) (w : World) (hin : Sg 3 w edE p G.es) (hl : G.es.length ≤ 9223372036854775807) :
    Calls Tryz.prog 24 #[(.agg #[.int .i64 G.q, .int .i64 G.n, .slice p G.es.length c])] w fun e w' => e = .returned (.int .i64 (chkG G)) ∧ Below w.heap.size w w' := by
  by_cases h : 1 ≤ G.q ∧ G.q ≤ 256 ∧ 0 ≤ G.n ∧ G.n ≤ 64 ∧ G.es.length ≤ 1024
  · exact gCheck_ok G p c w hin h.1 h.2.1 h.2.2.1 h.2.2.2.1 h.2.2.2.2
  · exact gCheck_pre G p c w hl h
theorem gCheck_r (G : Gr) (p : Option Addr) (c : Nat) (w : World) (r : Int) (hr : chkG G = r) (hin : Sg 3 w edE p G.es) (hl : G.es.length ≤ 9223372036854775807) :
    Calls Tryz.prog 24 #[(.agg #[.int .i64 G.q, .int .i64 G.n, .slice p G.es.length c])] w fun e w' => e = .returned (.int .i64 r) ∧ Below w.heap.size w w' := by
  subst hr; exact gCheck_any G p c w hin hl
end Go.Proofs.YtaclgmhinljkbaaGreatDoor
namespace Go.Proofs.YtaclgmhinljkbaaGreatDoor
open Go.RowKit Go.Sort Go.Shelf Go.Lib

/-- A graph and an error number, the edges in memory of the call's own. -/
def RetGr (G : Gr) (k : Int) (w : World) (e : Ending) (w' : World) : Prop := ∃ p c, e = .returned (.tuple #[(.agg #[.int .i64 G.q, .int .i64 G.n, .slice p G.es.length c]), .int .i64 k]) ∧ Sg 3 w' edE p G.es ∧ G.es.length ≤ c ∧ Below w.heap.size w w'
theorem RetGr.of {G' : Gr} {k' : Int} {x : Gr × Int} {w w' : World} {p : Option Addr} {c : Nat} (hr : x = (G', k')) (hs : Sg 3 w' edE p G'.es) (hc : G'.es.length ≤ c) (hB : Below w.heap.size w w') :
    RetGr x.1 x.2 w (.returned (.tuple #[(.agg #[.int .i64 G'.q, .int .i64 G'.n, .slice p G'.es.length c]), .int .i64 k'])) w' := by subst hr; exact ⟨p, c, rfl, hs, hc, hB⟩

set_option maxRecDepth 100000 in
set_option maxHeartbeats 1000000 in
theorem gMake_any (q n : Int) (l : List Ed) (p : Option Addr) (c : Nat) (w : World) (hin : Sg 3 w edE p l) (hl : l.length ≤ 100000) :
    Calls Tryz.prog 22 #[.int .i64 q, .int .i64 n, .slice p l.length c] w (RetGr (makeA q n l).1 (makeA q n l).2 w) := by
  have hB0 : Below w.heap.size w (w.alloc (.cells #[.int .i64 0, .int .i64 0, .slice none 0 0] 29)) := (Below.refl _ _).alloc (Nat.le_refl _) _
  have b0 : VRow (w.alloc (.cells #[.int .i64 0, .int .i64 0, .slice none 0 0] 29)) w.heap.size 29 [.int .i64 0, .int .i64 0, .slice none 0 0] := VRow.new w _ _
  go_enter Tryz.func22, Tryz.ntmps22
  go_wp2_with fail
  refine (cloneE_any l p c _ (hin.below hB0) hl).mono ?_
  rintro e w1 ⟨v1, rfl, hown1, hB1⟩
  have x1 := hB0.trans (hB1.mono hB0.size)
  have b1 := b0.below hB1 (by simp)
  go_wp2_with fail
  refine (gBy_any _).mono ?_
  rintro e w2 ⟨rfl, rfl⟩
  have hown2 := hown1.alloc (.cells #[.func (.func 43) #[] #[]] 75)
  have bf2 : VRow (w1.alloc (.cells #[.func (.func 43) #[] #[]] 75)) w1.heap.size 75 [.func (.func 43) #[] #[]] := VRow.new w1 _ _
  have b2 := b1.alloc (.cells #[.func (.func 43) #[] #[]] 75)
  have x2 := x1.alloc x1.size (.cells #[.func (.func 43) #[] #[]] 75)
  have hne : v1.ownBlock ≠ some w1.heap.size := fun e => by have := (hown1.lt _ e).2; omega
  have hz0 : w.heap.size < (w.alloc (.cells #[.int .i64 0, .int .i64 0, .slice none 0 0] 29)).heap.size := b0.lt
  have HS : Hid (compact (srtE l) = norm l) := norm_sort l
  have hBz := hB1.size
  clear hB1 hB0 b0
  generalize (w.alloc (.cells #[.int .i64 0, .int .i64 0, .slice none 0 0] 29)).heap.size = B at *
  go_wp2_with fail
  refine (sortE_any l B l.length w1.heap.size v1 _ hown2 (bf2.at 0 rfl) hne hl (Nat.le_trans hBz (by simp))).mono ?_
  rintro e w3 ⟨rfl, hown3, hB3⟩
  have x3 := x2.trans (hB3.mono (Nat.le_of_lt hz0))
  have b3 := b2.below hB3 hz0
  have hBz3 : B ≤ w3.heap.size := Nat.le_trans hBz (Nat.le_trans (by simp) hB3.size)
  clear hown2 bf2 b2 hne hown1
  go_wp2_with fail
  refine (compactE_any (srtE l) B l.length v1 _ hown3 hl hBz3).mono ?_
  rw [HS.out]
  rintro e w4 ⟨v4, rfl, hown4, hB4⟩
  have x4 := x3.trans (hB4.mono (Nat.le_of_lt hz0))
  have b4 := b3.below hB4 hz0
  obtain ⟨p4, c4, rfl, hs4, hc4, _⟩ := own_sg hown4
  have f0 := b4.at 0 rfl; have f1 := b4.at 1 rfl; have f2 := b4.at 2 rfl
  have hfz := fun j => b4.frozen j
  have hz4 := b4.lt
  have hw5 : Sg 3 (w4.alloc (.cells #[.int .i64 (⟨q, n, norm l⟩ : Gr).q, .int .i64 (⟨q, n, norm l⟩ : Gr).n, .slice p4 (⟨q, n, norm l⟩ : Gr).es.length c4] 29)) edE p4 (norm l) := hs4.below ((Below.refl _ _).alloc (Nat.le_refl _) _)
  have hln : (norm l).length ≤ 100000 := by
    have := compact_len (srtE l); rw [HS.out, srtE_len] at this; omega
  obtain ⟨r, hr⟩ : ∃ r, chkG ⟨q, n, norm l⟩ = r := ⟨_, rfl⟩
  have b4' : VRow (w4.alloc (.cells #[.int .i64 (⟨q, n, norm l⟩ : Gr).q, .int .i64 (⟨q, n, norm l⟩ : Gr).n, .slice p4 (⟨q, n, norm l⟩ : Gr).es.length c4] 29)) w.heap.size 29 [.int .i64 0, .int .i64 0, .slice none 0 0] := b4.alloc _
  have c4' : VRow (w4.alloc (.cells #[.int .i64 (⟨q, n, norm l⟩ : Gr).q, .int .i64 (⟨q, n, norm l⟩ : Gr).n, .slice p4 (⟨q, n, norm l⟩ : Gr).es.length c4] 29)) w4.heap.size 29 [.int .i64 (⟨q, n, norm l⟩ : Gr).q, .int .i64 (⟨q, n, norm l⟩ : Gr).n, .slice p4 (⟨q, n, norm l⟩ : Gr).es.length c4] := VRow.new w4 _ _
  have x4' := x4.alloc x4.size (.cells #[.int .i64 (⟨q, n, norm l⟩ : Gr).q, .int .i64 (⟨q, n, norm l⟩ : Gr).n, .slice p4 (⟨q, n, norm l⟩ : Gr).es.length c4] 29)
  have hL : Hid ((norm l).length ≤ c4) := hc4
  by_cases hr0 : r = 0
  · subst hr0
    have HR := hidI (makeA_ok hr)
    go_wp2_with fail
    refine (gCheck_r ⟨q, n, norm l⟩ p4 c4 _ 0 hr hw5 (by show (norm l).length ≤ _; omega)).mono ?_
    rintro e w5 ⟨rfl, hB5⟩
    have x5 := x4'.trans (hB5.mono x4'.size)
    have b5 := b4'.below hB5 b4'.lt
    have c5 := c4'.below hB5 c4'.lt
    have o5 := (hown4.alloc (.cells #[.int .i64 (⟨q, n, norm l⟩ : Gr).q, .int .i64 (⟨q, n, norm l⟩ : Gr).n, .slice p4 (⟨q, n, norm l⟩ : Gr).es.length c4] 29)).below hB5
    have g0 := c5.at 0 rfl; have g1 := c5.at 1 rfl; have g2 := c5.at 2 rfl
    have k0 := b5.at 0 rfl; have k1 := b5.at 1 rfl; have k2 := b5.at 2 rfl
    have z0 := b5.frozen 0; have z1 := b5.frozen 1; have z2 := b5.frozen 2
    clear f0 f1 f2 hfz hr
    go_wp2
    have r6 := VRow.set (i := 2) (.slice p4 (norm l).length c4) (VRow.set (i := 1) (.int .i64 n) (VRow.set (i := 0) (.int .i64 q) b5))
    have y0 := r6.at 0 rfl; have y1 := r6.at 1 rfl; have y2 := r6.at 2 rfl
    have o6 := ownsRow_setCell_below (a := ⟨w.heap.size, 2, none⟩) (ownsRow_setCell_below (a := ⟨w.heap.size, 1, none⟩) (ownsRow_setCell_below (a := ⟨w.heap.size, 0, none⟩) o5 hz0 (.int .i64 q)) hz0 (.int .i64 n)) hz0 (.slice p4 (norm l).length c4)
    have x6 : Below w.heap.size w (((w5.setCell ⟨w.heap.size, 0, none⟩ (.int .i64 q)).setCell ⟨w.heap.size, 1, none⟩ (.int .i64 n)).setCell ⟨w.heap.size, 2, none⟩ (.slice p4 (norm l).length c4)) := ((x5.setCell (Nat.le_refl _) _).setCell (Nat.le_refl _) _).setCell (Nat.le_refl _) _
    refine bodyPost_ret (v := .tuple #[.agg #[.int .i64 q, .int .i64 n, .slice p4 (norm l).length c4], .int .i64 0]) (by simp [results, Tryz.results22, go_sem, y0, y1, y2]) rfl ?_
    obtain ⟨p6, c6, hv, hs6, _, _⟩ := own_sg o6
    cases hv
    exact RetGr.of HR.out hs6 hL.out x6
  · have hrb : (r == 0) = false := by simpa using hr0
    have HR := hidI (makeA_bad (by rw [hr]; exact hr0))
    rw [hr] at HR
    go_wp2_with fail
    refine (gCheck_r ⟨q, n, norm l⟩ p4 c4 _ r hr hw5 (by show (norm l).length ≤ _; omega)).mono ?_
    rintro e w5 ⟨rfl, hB5⟩
    have x5 := x4'.trans (hB5.mono x4'.size)
    have b5 := b4'.below hB5 b4'.lt
    have o5 := (hown4.alloc (.cells #[.int .i64 (⟨q, n, norm l⟩ : Gr).q, .int .i64 (⟨q, n, norm l⟩ : Gr).n, .slice p4 (⟨q, n, norm l⟩ : Gr).es.length c4] 29)).below hB5
    have k0 := b5.at 0 rfl; have k1 := b5.at 1 rfl; have k2 := b5.at 2 rfl
    have z0 := b5.frozen 0; have z1 := b5.frozen 1; have z2 := b5.frozen 2
    clear f0 f1 f2 hfz hr
    go_wp2
    have r6 := VRow.set (i := 2) (.slice none 0 0) (VRow.set (i := 1) (.int .i64 0) (VRow.set (i := 0) (.int .i64 0) b5))
    have y0 := r6.at 0 rfl; have y1 := r6.at 1 rfl; have y2 := r6.at 2 rfl
    have o6 := ownsRow_setCell_below (a := ⟨w.heap.size, 2, none⟩) (ownsRow_setCell_below (a := ⟨w.heap.size, 1, none⟩) (ownsRow_setCell_below (a := ⟨w.heap.size, 0, none⟩) o5 hz0 (.int .i64 0)) hz0 (.int .i64 0)) hz0 (.slice none 0 0)
    have x6 : Below w.heap.size w (((w5.setCell ⟨w.heap.size, 0, none⟩ (.int .i64 0)).setCell ⟨w.heap.size, 1, none⟩ (.int .i64 0)).setCell ⟨w.heap.size, 2, none⟩ (.slice none 0 0)) := ((x5.setCell (Nat.le_refl _) _).setCell (Nat.le_refl _) _).setCell (Nat.le_refl _) _
    refine bodyPost_ret (v := .tuple #[.agg #[.int .i64 0, .int .i64 0, .slice none 0 0], .int .i64 r]) (by simp [results, Tryz.results22, go_sem, y0, y1, y2]) rfl ?_
    exact RetGr.of (G' := ⟨0, 0, []⟩) HR.out (Sg.nil _ _ _ _) (by simp) x6
end Go.Proofs.YtaclgmhinljkbaaGreatDoor
namespace Go.Proofs.YtaclgmhinljkbaaGreatDoor
open Go.RowKit Go.Sort

def TwoRows (w : World) (a b : Ed) (u v : Value) (wx : World) : Prop :=
  ∃ g h, u = .slice (some ⟨g, 0, none⟩) 3 3 ∧ v = .slice (some ⟨h, 0, none⟩) 3 3 ∧ VRow wx g 3 ((edL a).map (Value.int .i64)) ∧ VRow wx h 3 ((edL b).map (Value.int .i64)) ∧ Up w wx
theorem edL_len (x : Ed) : (edL x).length = 3 := rfl
end Go.Proofs.YtaclgmhinljkbaaGreatDoor
namespace Go.Proofs.YtaclgmhinljkbaaGreatDoor
open Go.RowKit Go.Sort Go.Shelf Go.Lib

/-! ### Plain -/
def sameG (G H : Gr) : Bool := decide (G.q = H.q) && (decide (G.n = H.n) && decide (G.es = H.es))
theorem sameG_refl (G : Gr) : sameG G G = true := by simp [sameG]
theorem sameG_iff {G H : Gr} : sameG G H = true ↔ G = H := by
  cases G; cases H; simp [sameG]
theorem sameG_len {G H : Gr} (h : G.es.length ≠ H.es.length) : sameG G H = false := by
  simp [sameG]; intro _ _ e; exact h (by rw [e])
theorem es_ne {l m : List Ed} (k : Nat) (h1 : k < l.length) (h2 : k < m.length) (h : l[k] ≠ m[k]) : l ≠ m := by intro e; subst e; exact h rfl
def detB : List Ed → Bool
  | x :: y :: l => !(decide (x.f = y.f) && decide (x.l = y.l)) && detB (y :: l)
  | _ => true
theorem detB_t : ∀ {l : List Ed}, (∀ k (h : k + 1 < l.length), ¬ (l[k].f = l[k + 1].f ∧ l[k].l = l[k + 1].l)) → detB l = true
  | [], _ => rfl
  | [_], _ => rfl
  | x :: y :: l, h => by
    have h0 := h 0 (by simp)
    simp only [List.getElem_cons_zero, List.getElem_cons_succ] at h0
    rw [detB, detB_t (fun k hk => by have := h (k + 1) (by simpa using hk); simpa using this)]
    by_cases h1 : x.f = y.f
    · have : x.l ≠ y.l := fun e => h0 ⟨h1, e⟩
      simp [this]
    · simp [h1]
theorem detB_f : ∀ {l : List Ed} (k : Nat) (h : k + 1 < l.length), l[k].f = l[k + 1].f → l[k].l = l[k + 1].l → detB l = false
  | [], k, h, _, _ => by simp at h
  | [_], k, h, _, _ => by simp at h
  | x :: y :: l, 0, _, h1, h2 => by
    simp only [List.getElem_cons_zero, List.getElem_cons_succ] at h1 h2
    simp [detB, h1, h2]
  | x :: y :: l, k + 1, h, h1, h2 => by
    rw [detB, detB_f k (by simpa using h) (by simpa using h1) (by simpa using h2), Bool.and_false]
/-- Whether a graph is deterministic, and the error number. -/
def detA (G : Gr) : Bool × Int := if chkG G = 0 then (detB G.es, 0) else (false, 1)
theorem detA_bad {G : Gr} (h : chkG G ≠ 0) : detA G = (false, 1) := by unfold detA; rw [if_neg h]
theorem detA_ok {G : Gr} (h : chkG G = 0) : detA G = (detB G.es, 0) := by unfold detA; rw [if_pos h]
def greatG (G : Gr) : Bool := decide (30 < G.es.length) || (decide (10 < G.n) && decide (G.n ≤ 64))

/-! ### Walks -/
set_option maxRecDepth 100000 in
set_option maxHeartbeats 1000000 in
theorem rSame_any (G H : Gr) (p p' : Option Addr) (c c' : Nat) (w : World) (hG : Sg 3 w edE p G.es) (hH : Sg 3 w edE p' H.es) (lG : G.es.length ≤ 9223372036854775807) (lH : H.es.length ≤ 9223372036854775807) :
    Calls Tryz.prog 14 #[(.agg #[.int .i64 G.q, .int .i64 G.n, .slice p G.es.length c]), (.agg #[.int .i64 H.q, .int .i64 H.n, .slice p' H.es.length c'])] w fun e w' => e = .returned (.bool (sameG G H)) ∧ Below w.heap.size w w' := by
  have hB0 : Below w.heap.size w ((w.alloc (.cells #[.int .i64 G.q, .int .i64 G.n, .slice p G.es.length c] 29)).alloc (.cells #[.int .i64 H.q, .int .i64 H.n, .slice p' H.es.length c'] 29)) := ((Below.refl _ _).alloc (Nat.le_refl _) _).alloc (by simp) _
  have b0 : VRow ((w.alloc (.cells #[.int .i64 G.q, .int .i64 G.n, .slice p G.es.length c] 29)).alloc (.cells #[.int .i64 H.q, .int .i64 H.n, .slice p' H.es.length c'] 29)) w.heap.size 29 [.int .i64 G.q, .int .i64 G.n, .slice p G.es.length c] := (VRow.new w _ _).alloc _
  have b1 : VRow ((w.alloc (.cells #[.int .i64 G.q, .int .i64 G.n, .slice p G.es.length c] 29)).alloc (.cells #[.int .i64 H.q, .int .i64 H.n, .slice p' H.es.length c'] 29)) (w.heap.size + 1) 29 [.int .i64 H.q, .int .i64 H.n, .slice p' H.es.length c'] := VRow.new1 w _ _ _
  have HG := hidI hG; have HH := hidI hH
  clear hG hH
  by_cases hq : G.q = H.q
  · by_cases hn : G.n = H.n
    · by_cases hlen : G.es.length = H.es.length
      · have HS : Hid (sameG G H = decide (G.es = H.es)) := by unfold Hid sameG; rw [decide_eq_true hq, decide_eq_true hn]; rfl
        have d1 : (G.q != H.q) = false := by simpa using hq
        have d2 : (G.n != H.n) = false := by simpa using hn
        have d3 : ((G.es.length : Int) != (H.es.length : Int)) = false := by simp; omega
        have HL := hidI hlen
        clear hq hn hlen
        go_enter Tryz.func14, Tryz.ntmps14
        go_wp2
        clear d1 d2 d3
        generalize ((w.alloc (.cells #[.int .i64 G.q, .int .i64 G.n, .slice p G.es.length c] 29)).alloc (.cells #[.int .i64 H.q, .int .i64 H.n, .slice p' H.es.length c'] 29)) = w0 at *
        go_loopw [5] (fun iv wr => ∃ k : Nat, k ≤ G.es.length ∧ iv = .int .i64 k ∧ Hid (G.es.take k = H.es.take k) ∧ Dr w0 wr) (fun iv _ => G.es.length - (intOf iv).toNat)
        case atStart => exact ⟨0, by omega, rfl, by simp [Hid], Dr.refl _⟩
        case round =>
          obtain ⟨k, hk, rfl, hj, hD⟩ := hrel
          have g2 := (b0.dr hD).at 2 rfl
          have h2 := (b1.dr hD).at 2 rfl
          have hBr := hB0.trans (hD.below _)
          by_cases hlt : k < G.es.length
          · have hlt2 : k < H.es.length := by have := HL.out; omega
            obtain ⟨b3, o3, rfl, _, e0, e1, e2⟩ := (HG.out.below hBr).get3 k hlt rfl
            obtain ⟨b4, o4, rfl, _, e3, e4, e5⟩ := (HH.out.below hBr).get3 k hlt2 rfl
            have hI : (k : Int) < (H.es.length : Int) := by omega
            have hq := neqE G.es[k] H.es[k]
            have hgd := guardE .neq
            by_cases heq : G.es[k] = H.es[k]
            · rw [decide_eq_true heq] at hq
              have HN : Hid (G.es.take (k + 1) = H.es.take (k + 1)) := by unfold Hid; rw [List.take_succ_eq_append_getElem hlt, List.take_succ_eq_append_getElem hlt2, hj.out, heq]
              clear heq
              go_wp2_with fail
              (refine wp_region_quiet_lit (by kernel_rfl) (by kernel_rfl) ?_; (repeat (first | go_big_quiet_step (fail) | quiet_step (fail))); refine wpQuiet_nil ?_; intro _ hwq; obtain ⟨nq, hwq2⟩ := hwq; subst hwq2)
              clear e0 e1 e2 e3 e4 e5 hq hgd g2 h2
              go_wp2
              go_roundw
              case rel => exact ⟨k + 1, by omega, by go_num, HN, hD.one _⟩
              case measure => simp [intOf]; omega
            · rw [decide_eq_false heq] at hq
              have HF : Hid (sameG G H = false) := HS.out.trans (decide_eq_false (es_ne k hlt hlt2 heq))
              clear heq
              go_wp2_with fail
              (refine wp_region_quiet_lit (by kernel_rfl) (by kernel_rfl) ?_; (repeat (first | go_big_quiet_step (fail) | quiet_step (fail))); refine wpQuiet_nil ?_; intro _ hwq; obtain ⟨nq, hwq2⟩ := hwq; subst hwq2)
              clear e0 e1 e2 e3 e4 e5 hq hgd g2 h2
              go_wp2
              go_ret
              exact ⟨ret_bool HF.out.symm, hB0.trans ((hD.one _).below _)⟩
          · have HT : Hid (sameG G H = true) := by
              refine HS.out.trans (decide_eq_true ?_)
              have := hj.out
              rwa [List.take_of_length_le (by omega), List.take_of_length_le (by have := HL.out; omega)] at this
            go_wp2
            go_ret
            exact ⟨ret_bool HT.out.symm, hBr⟩
      · have HF := hidI (sameG_len hlen)
        have d1 : (G.q != H.q) = false := by simpa using hq
        have d2 : (G.n != H.n) = false := by simpa using hn
        have d3 : ((G.es.length : Int) != (H.es.length : Int)) = true := by simp; omega
        clear hq hn hlen
        go_enter Tryz.func14, Tryz.ntmps14
        go_wp2
        go_ret
        exact ⟨ret_bool HF.out.symm, hB0⟩
    · have HF : Hid (sameG G H = false) := by unfold Hid sameG; rw [decide_eq_false hn]; simp
      have d1 : (G.q != H.q) = false := by simpa using hq
      have d2 : (G.n != H.n) = true := by simpa using hn
      clear hq hn
      go_enter Tryz.func14, Tryz.ntmps14
      go_wp2
      go_ret
      exact ⟨ret_bool HF.out.symm, hB0⟩
  · have HF : Hid (sameG G H = false) := by unfold Hid sameG; rw [decide_eq_false hq]; rfl
    have d1 : (G.q != H.q) = true := by simpa using hq
    clear hq
    go_enter Tryz.func14, Tryz.ntmps14
    go_wp2
    go_ret
    exact ⟨ret_bool HF.out.symm, hB0⟩

end Go.Proofs.YtaclgmhinljkbaaGreatDoor
namespace Go.Proofs.YtaclgmhinljkbaaGreatDoor
open Go.RowKit Go.Sort Go.Shelf Go.Lib

theorem ret_bi' {a : Bool} {b : Int} {x : Bool × Int} (h : x = (a, b)) : Ending.returned (.tuple #[.bool a, .int .i64 b]) = .returned (.tuple #[.bool x.1, .int .i64 x.2]) := by subst h; rfl
def TwoEds (w : World) (a b : Ed) (u v : Value) (wx : World) : Prop :=
  ∃ g h, u = .pointer (some ⟨g, 0, none⟩) ∧ v = .pointer (some ⟨h, 0, none⟩) ∧ VRow wx g 42 (edE a) ∧ VRow wx h 42 (edE b) ∧ Below w.heap.size w wx
end Go.Proofs.YtaclgmhinljkbaaGreatDoor
namespace Go.Proofs.YtaclgmhinljkbaaGreatDoor
open Go.RowKit Go.Sort Go.Shelf Go.Lib

/-! ### Appending -/
section
variable {P : Program} {w : World}
theorem run_append_sg (base : Nat) (t ty e : TypeId) (i : TypeInfo) (z : Value) (ht : P.underlying t = some (.slice e)) (hi : P.info? e = some i) (hz : i.zero = some z) (hs : i.size = 3) (hby : i.bytes = 24) (hzs : z.cells.size = 3)
    (v : Value) (xs : List Ed) (n : Nat) (hown : w.ownsRow base e 3 v n (cat xs)) (p : Option Addr) (c : Nat) (l : List Ed) (m : Nat) (hm : l.length = m) (hl : Sg 3 w edE p l) (h63 : n + m ≤ 100000) (hbase : base ≤ w.heap.size) :
    ∃ v' w', (Builtin.append_ #[t, t] ty #[v, .slice p m c]).run P w = .ok v' w' ∧ w'.ownsRow base e 3 v' (n + m) (cat (xs ++ l)) ∧ w.grownBy w' v.ownBlock := by
  subst hm
  cases p with
  | none =>
    rcases hl with h0 | ⟨_, _, hp, _⟩
    · subst h0
      refine ⟨v, w, ?_, by simpa using hown, World.grownBy.refl w _⟩
      rcases hown.2 with ⟨rfl, h0⟩ | ⟨g, cap, cur, rfl, _, _, hnc, _⟩
      · simp [Builtin.append_, run_underlying ht, sizeOf, typeInfo, hi, Builtin.lenOf, Builtin.firstCells]
      · simp [Builtin.append_, run_underlying ht, sizeOf, typeInfo, hi, Builtin.lenOf, Builtin.firstCells, hnc, storeCells]
    · cases hp
  | some ad =>
    have hn : ∀ j u, (cat l)[j]? = some u → w.cell? (ad.add j) = some u := by
      rcases hl with h0 | ⟨b, off, hp, _, hc⟩
      · subst h0; simp [cat]
      · cases hp
        intro j u hu
        rw [show (⟨b, off, none⟩ : Addr).add j = ⟨b, off + j, none⟩ by unfold Addr.add; split <;> simp_all]; exact sg_cells hc j u hu
    obtain ⟨v', w', h1, h2, h3, _, _⟩ := run_append_own_at w base t ty e i z 3 24 ht hi hz hs hby hzs (by decide) v n _ hown ad l.length c (cat l) (cat_len l) hn (cat_one l) (by simp only [maxLen]; omega) (by omega) hbase
    exact ⟨v', w', h1, by rw [cat_app]; exact h2, h3⟩
theorem step_append_run {ops : Array Oper} {o : Oper} {a : Act} {K : Act → World → Prop} {Q : Exit → Act → World → Prop} {E : Prop} (hgd : o.guard = none) (s x : Operand) (t : TypeId)
    (ho : o.op = .call { callee := .builtin .append, args := #[s, x], argTypes := #[t, t] }) (sv xv : Value) (hs : a.eval s = sv) (hx : a.eval x = xv) (v' : Value) (w' : World)
    (hrun : (Builtin.append_ #[t, t] o.type #[sv, xv]).run P w = .ok v' w') (h : K (a.put o.dst v') w') : if Region.wanted o (yielded ops a.tmps) = true then Oper.wp P o a w K Q else E := by
  have hw : Region.wanted o (yielded ops a.tmps) = true := by simp [Region.wanted, hgd]
  rw [if_pos hw]
  unfold Oper.wp execOp
  simp only [ho, resolve, invoke, builtin, Sem.run_bind, Sem.run_pure, Result.andThen_ok, List.map_toArray, List.map_cons, List.map_nil, hs, hx, hrun]
  exact h
end
theorem step_append_sg {P : Program} {w : World} {ops : Array Oper} {o : Oper} {a : Act} {K : Act → World → Prop} {Q : Exit → Act → World → Prop} {E : Prop} (hgd : o.guard = none) (s x : Operand) (t : TypeId)
    (ho : o.op = .call { callee := .builtin .append, args := #[s, x], argTypes := #[t, t] }) (sv : Value) (p : Option Addr) (m c : Nat) (hs : a.eval s = sv) (hx : a.eval x = .slice p m c)
    (base : Nat) (e : TypeId) (i : TypeInfo) (z : Value) (ht : P.underlying t = some (.slice e)) (hi : P.info? e = some i) (hz : i.zero = some z) (hsz : i.size = 3) (hby : i.bytes = 24) (hzs : z.cells.size = 3)
    (xs : List Ed) (n : Nat) (l : List Ed) (hm : l.length = m) (h63 : n + m ≤ 100000) (hown : w.ownsRow base e 3 sv n (cat xs)) (hl : Sg 3 w edE p l) (hbase : base ≤ w.heap.size)
    (h : ∀ v' w', w'.ownsRow base e 3 v' (n + m) (cat (xs ++ l)) → w.grownBy w' sv.ownBlock → K (a.put o.dst v') w') : if Region.wanted o (yielded ops a.tmps) = true then Oper.wp P o a w K Q else E := by
  obtain ⟨v', w', h1, h2, h3⟩ := run_append_sg base t o.type e i z ht hi hz hsz hby hzs sv xs n hown p c l m hm hl h63 hbase
  exact step_append_run hgd s x t ho sv _ hs hx v' w' h1 (h v' w' h2 h3)
theorem own_conv {w : World} {B B' e n : Nat} {v : Value} {xs ys : List Ed} (h : w.ownsRow B e 3 v n (cat xs)) (he : ys = xs) (hB : B' ≤ B) : w.ownsRow B' e 3 v ys.length (cat ys) := by
  subst he
  have hn : ys.length = n := by have := h.1; rw [cat_len] at this; omega
  subst hn
  refine ⟨h.1, ?_⟩
  rcases h.2 with h | ⟨g, cap, cur, a, b, r⟩
  · exact .inl h
  · exact .inr ⟨g, cap, cur, a, Nat.le_trans hB b, r⟩
theorem heap_old1 (w : World) (o o' : Obj) : ((w.alloc o).alloc o').heap[w.heap.size]? = some o := (Below.heap_alloc _ o' _ (by simp)).trans (heap_alloc_new w o)
theorem drB (B : Nat) (w : World) : RowKit.Below B w w.drew := ⟨rfl, rfl, rfl, Nat.le_refl _, fun _ _ => rfl⟩
theorem keep3 {W W' : World} {b o0 o1 o2 : Nat} {v0 v1 v2 : Value} (hb : b < W.heap.size) (h0 : W.cell? ⟨b, o0, none⟩ = some v0) (h1 : W.cell? ⟨b, o1, none⟩ = some v1) (h2 : W.cell? ⟨b, o2, none⟩ = some v2) (h : RowKit.Below W.heap.size W W') :
    W'.cell? ⟨b, o0, none⟩ = some v0 ∧ W'.cell? ⟨b, o1, none⟩ = some v1 ∧ W'.cell? ⟨b, o2, none⟩ = some v2 ∧ RowKit.Below W.heap.size W W' :=
  ⟨(h.cell (p := ⟨b, o0, none⟩) hb).trans h0, (h.cell (p := ⟨b, o1, none⟩) hb).trans h1, (h.cell (p := ⟨b, o2, none⟩) hb).trans h2, h⟩
theorem heap_new1 (w : World) (o o' : Obj) : ((w.alloc o).alloc o').heap[w.heap.size + 1]? = some o' := by
  have := heap_alloc_new (w.alloc o) o'; rwa [World.size_alloc] at this
theorem Sg.take {w : World} {p : Option Addr} {l : List Ed} (h : Sg 3 w edE p l) (k : Nat) : Sg 3 w edE p (l.take k) := by
  rcases h with h | ⟨b, off, hp, hb, hc⟩
  · subst h; exact .inl (by simp)
  · exact .inr ⟨b, off, hp, hb, fun i hi j hj => by rw [List.getElem_take]; exact hc i (by rw [List.length_take] at hi; omega) j hj⟩
theorem Sg.drop {w : World} {b off : Nat} {l : List Ed} (h : Sg 3 w edE (some ⟨b, off, none⟩) l) (k : Nat) : Sg 3 w edE (some ⟨b, off + k * 3, none⟩) (l.drop k) := by
  rcases h with h | ⟨b', off', hp, hb, hc⟩
  · subst h; exact .inl (by simp)
  · cases hp
    refine .inr ⟨b, off + k * 3, rfl, hb, fun i hi j hj => ?_⟩
    rw [List.length_drop] at hi
    have := hc (k + i) (by omega) j hj
    rw [List.getElem_drop, ← this]
    congr 2
    rw [Nat.add_mul]; omega
theorem own_empty {W : World} {g B : Nat} {e : TypeId} (h : W.heap[g]? = some (.cells #[] e (0, 0))) (hB : B ≤ g) : W.ownsRow B e 3 (.slice (some ⟨g, 0, none⟩) 0 0) 0 (cat []) :=
  ⟨rfl, .inr ⟨g, 0, #[], rfl, hB, h, Nat.le_refl _, by simp, rfl, rfl⟩⟩

/-! ### Insertion -/
/-- Where an edge belongs. -/
def posE (x : Ed) (l : List Ed) (k : Nat) : Prop := k ≤ l.length ∧ ∀ m (h : m < l.length), m < k → ltE l[m] x = true
theorem insE_at {x : Ed} : ∀ {l : List Ed} {k : Nat}, l.Pairwise (fun a b => ltE a b = true) → posE x l k → (∀ h : k < l.length, ltE l[k] x = false) → (∀ h : k < l.length, l[k] ≠ x) → insE x l = l.take k ++ x :: l.drop k
  | [], k, _, hp, _, _ => by have := hp.1; simp at this; subst this; rfl
  | y :: l, 0, _, _, h1, h2 => by
    have h1 := h1 (by simp); have h2 := h2 (by simp)
    simp only [List.getElem_cons_zero] at h1 h2
    unfold insE
    rw [if_pos]
    · rfl
    · cases hb : ltE x y
      · exact absurd (ltE_total h1 hb) h2
      · rfl
  | y :: l, k + 1, hs, hp, h1, h2 => by
    have hy := hp.2 0 (by simp) (by omega)
    simp only [List.getElem_cons_zero] at hy
    have ih := insE_at (x := x) (l := l) (k := k) (List.pairwise_cons.1 hs).2 ⟨by have := hp.1; simp at this; omega, fun m hm hk => by have := hp.2 (m + 1) (by simpa using hm) (by omega); simpa using this⟩
      (fun h => by have := h1 (by simpa using h); simpa using this) (fun h => by have := h2 (by simpa using h); simpa using this)
    unfold insE
    rw [if_neg (by rw [ltE_asymm hy]; decide), if_neg (fun e => by subst e; rw [ltE_irrefl] at hy; cases hy), ih]
    rfl
theorem insE_mem {x : Ed} {l : List Ed} (hs : l.Pairwise (fun a b => ltE a b = true)) (hm : x ∈ l) : insE x l = l :=
  norm_unique (insE_srt hs) hs (fun z => by rw [mem_insE]; exact ⟨fun h => h.elim (fun e => by subst e; exact hm) id, .inr⟩)
theorem norm_take_succ (l : List Ed) (k : Nat) (h : k < l.length) : norm (l.take (k + 1)) = insE l[k] (norm (l.take k)) := by
  rw [List.take_succ_eq_append_getElem h, norm_snoc]
theorem insE_len (x : Ed) : ∀ l : List Ed, (insE x l).length ≤ l.length + 1
  | [] => by simp [insE]
  | y :: l => by
    have := insE_len x l
    unfold insE; split
    · simp
    · split
      · simp
      · simp; omega
theorem norm_len (l : List Ed) : ∀ k, k ≤ l.length → (norm (l.take k)).length ≤ k := by
  intro k
  induction k with
  | zero => intro _; simp [norm]
  | succ k ih =>
    intro h
    rw [norm_take_succ l k (by omega)]
    have := insE_len l[k] (norm (l.take k)); have := ih (by omega); omega

end Go.Proofs.YtaclgmhinljkbaaGreatDoor
namespace Go.Proofs.YtaclgmhinljkbaaGreatDoor
open Go.RowKit Go.Sort Go.Shelf Go.Lib

end Go.Proofs.YtaclgmhinljkbaaGreatDoor
namespace Go.Proofs.YtaclgmhinljkbaaGreatDoor
open Go.RowKit

/-- Why a list is no set of states, behind the number before it. -/
def leP : Option Int → Int → Bool
  | some q, s => decide (s ≤ q)
  | none, _ => false
def chkS (n : Int) (p : Option Int) : List Int → Int
  | [] => 0
  | s :: l => if s < 0 ∨ n ≤ s then 25 else if leP p s = true then 10 else chkS n (some s) l
theorem chkS_cons (n : Int) (p : Option Int) (s : Int) (l : List Int) : chkS n p (s :: l) = if s < 0 ∨ n ≤ s then 25 else if leP p s = true then 10 else chkS n (some s) l := by rw [chkS]
/-- The number before place k. -/
def pvS (l : List Int) (k : Nat) : Option Int := if k = 0 then none else l[k - 1]?
theorem chkS_at {n : Int} {l : List Int} {k : Nat} (hk : k < l.length) : chkS n (pvS l k) (l.drop k) = if l[k] < 0 ∨ n ≤ l[k] then 25 else if leP (pvS l k) l[k] = true then 10 else chkS n (pvS l (k + 1)) (l.drop (k + 1)) := by
  rw [List.drop_eq_getElem_cons hk, show pvS l (k + 1) = some l[k] by simp [pvS, hk]]
  exact chkS_cons ..
theorem chkS_end {n : Int} {l : List Int} {k : Nat} (hk : ¬ k < l.length) : chkS n (pvS l k) (l.drop k) = 0 := by
  rw [List.drop_eq_nil_of_le (by omega)]; rfl
theorem chkS_ok {n : Int} : ∀ {l : List Int} {p : Option Int}, chkS n p l = 0 → l.Pairwise (· < ·) ∧ (∀ x ∈ l, 0 ≤ x ∧ x < n) ∧ (∀ q, p = some q → ∀ x ∈ l, q < x)
  | [], _, _ => by simp
  | s :: l, p, h => by
    rw [chkS_cons] at h
    by_cases h1 : s < 0 ∨ n ≤ s
    · rw [if_pos h1] at h; omega
    · rw [if_neg h1] at h
      by_cases h2 : leP p s = true
      · rw [if_pos h2] at h; omega
      · rw [if_neg h2] at h
        obtain ⟨a, b, c⟩ := chkS_ok h
        have c := c s rfl
        refine ⟨List.pairwise_cons.2 ⟨c, a⟩, ?_, ?_⟩
        · intro x hx
          rcases List.mem_cons.1 hx with e | hx
          · subst e; omega
          · exact b x hx
        · intro q hq x hx
          subst hq
          have : ¬ s ≤ q := by simpa [leP] using h2
          rcases List.mem_cons.1 hx with e | hx
          · subst e; omega
          · have := c x hx; omega
/-- Where a number stands in a list, or -1. -/
def idxI (n : Int) (l : List Int) : Int := if n ∈ l then ((l.idxOf n : Nat) : Int) else -1
theorem idxI_hit {n : Int} {l : List Int} {k : Nat} (hk : k < l.length) (he : l[k] = n) (hb : ∀ j (h : j < l.length), j < k → l[j] ≠ n) : idxI n l = k := by
  unfold idxI
  rw [if_pos (by rw [← he]; exact List.getElem_mem _)]
  congr 1
  induction l generalizing k with
  | nil => simp at hk
  | cons y l ih =>
    rw [List.idxOf_cons]
    cases k with
    | zero => simp at he; simp [he]
    | succ k =>
      have h0 := hb 0 (by simp) (by omega)
      simp only [List.getElem_cons_zero] at h0
      rw [show (y == n) = false by simpa using h0]
      simp only [List.getElem_cons_succ] at he
      have := ih (k := k) (by simpa using hk) he (fun j h hj => by have := hb (j + 1) (by simpa using h) (by omega); simpa using this)
      simp [this]
theorem idxI_miss {n : Int} {l : List Int} (hb : ∀ j (h : j < l.length), l[j] ≠ n) : idxI n l = -1 := by
  unfold idxI
  rw [if_neg]
  intro hm
  obtain ⟨i, hi, e⟩ := List.mem_iff_getElem.1 hm
  exact hb i hi e
theorem countP_idxOf {n : Int} : ∀ {l : List Int}, l.Pairwise (· < ·) → n ∈ l → l.countP (· < n) = l.idxOf n
  | [], _, h => by simp at h
  | y :: l, hs, h => by
    obtain ⟨h1, h2⟩ := List.pairwise_cons.1 hs
    rw [List.idxOf_cons, List.countP_cons]
    by_cases e : y = n
    · subst e
      have : l.countP (· < y) = 0 := List.countP_eq_zero.2 (fun x hx => by have := h1 x hx; simp; omega)
      simp [this]
    · have hm : n ∈ l := by rcases List.mem_cons.1 h with e' | h
                            · exact absurd e'.symm e
                            · exact h
      have hlt := h1 n hm
      have ih := countP_idxOf h2 hm
      rw [show (y == n) = false by simpa using e]
      simp [ih, hlt]
/-- An edge of the part on a set. -/
def partE (st : List Int) (x : Ed) : Option Ed := if x.f ∈ st ∧ x.t ∈ st then some ⟨((st.idxOf x.f : Nat) : Int), x.l, ((st.idxOf x.t : Nat) : Int)⟩ else none
/-- The part of a graph on a set. -/
def partA (G : Gr) (st : List Int) : Gr := ⟨G.q, st.length, G.es.filterMap (partE st)⟩
theorem partE_snoc (st : List Int) (l : List Ed) (k : Nat) (h : k < l.length) : (l.take (k + 1)).filterMap (partE st) = (l.take k).filterMap (partE st) ++ (match partE st l[k] with | some y => [y] | none => []) := by
  rw [List.take_succ_eq_append_getElem h, List.filterMap_append]
  congr 1
  cases hp : partE st l[k] <;> simp [hp]
theorem partE_len (st : List Int) (l : List Ed) : (l.filterMap (partE st)).length ≤ l.length := List.length_filterMap_le _ _
end Go.Proofs.YtaclgmhinljkbaaGreatDoor
namespace Go.Proofs.YtaclgmhinljkbaaGreatDoor
open Go.RowKit Go.Sort Go.Shelf Go.Lib

theorem infoIn : (Tryz.prog.info? 3).map (fun i => (i.zero, i.size, i.bytes)) = some (some (.int .i64 0), 1, 8) := by kernel_rfl
/-- Where edges that leave a state stand, among the first k. -/
def outI (es : List Ed) (s : Int) (k : Nat) : List Int := ((List.range k).filter (fun i => decide (es[i]?.map Ed.f = some s))).map (fun (i : Nat) => (i : Int))
theorem outI_zero (es : List Ed) (s : Int) : outI es s 0 = [] := rfl
theorem outI_succ {es : List Ed} {s : Int} {k : Nat} (h : k < es.length) : outI es s (k + 1) = outI es s k ++ (if es[k].f = s then [(k : Int)] else []) := by
  unfold outI
  rw [List.range_succ, List.filter_append, List.map_append]
  congr 1
  by_cases hs : es[k].f = s <;> simp [h, hs]
theorem outI_len (es : List Ed) (s : Int) (k : Nat) : (outI es s k).length ≤ k := by
  unfold outI
  rw [List.length_map]
  exact Nat.le_trans (List.length_filter_le _ _) (by simp)
/-- Where edges that leave a state stand, and the error. -/
def outA (G : Gr) (s : Int) : List Int × Int := if chkG G = 0 then (if s < 0 ∨ G.n ≤ s then ([], 25) else (outI G.es s G.es.length, 0)) else ([], 1)
/-- A list of numbers in memory of the call's own, and an error. -/
def RetLi (r : List Int) (k : Int) (w : World) (e : Ending) (w' : World) : Prop := ∃ p m c, e = .returned (.tuple #[.slice p m c, .int .i64 k]) ∧ w'.ownsRow w.heap.size 3 1 (.slice p m c) r.length (r.map (Value.int .i64)) ∧ RowKit.Below w.heap.size w w'
theorem RetLi.of {x : List Int × Int} {r : List Int} {k : Int} {w w' : World} {B m : Nat} {v : Value} (hx : x = (r, k)) (h : w'.ownsRow B 3 1 v r.length (r.map (Value.int .i64))) (hm : w.heap.size ≤ B) (hB : RowKit.Below w.heap.size w w') :
    RetLi x.1 x.2 w (.returned (.tuple #[v, .int .i64 k])) w' := by
  subst hx
  obtain ⟨p, c, rfl, _⟩ := own_sl h
  exact ⟨p, _, c, rfl, ⟨h.1, h.2.imp id (fun ⟨g, cap, cur, a, b, z⟩ => ⟨g, cap, cur, a, Nat.le_trans hm b, z⟩)⟩, hB⟩
theorem RetLi.nil {x : List Int × Int} {k : Int} {w w' : World} (hx : x = ([], k)) (hB : RowKit.Below w.heap.size w w') :
    RetLi x.1 x.2 w (.returned (.tuple #[.slice none 0 0, .int .i64 k])) w' := by
  subst hx; exact ⟨none, 0, 0, rfl, World.ownsRow_nil _ _ _ _, hB⟩

end Go.Proofs.YtaclgmhinljkbaaGreatDoor
namespace Go.Proofs.YtaclgmhinljkbaaGreatDoor
open Go.RowKit Go.Shelf
attribute [local go_sem] Oper.semAt_some

theorem lvL_out (es : List Ed) (s : Int) : ∀ k, k ≤ es.length → (lvL es s k).map (fun x => ((x.1 : Nat) : Int)) = outI es s k
  | 0, _ => rfl
  | k + 1, h => by
    rw [lvL_succ (by omega), outI_succ (by omega), List.map_append, lvL_out es s k (by omega)]
    split <;> rfl
theorem own_shI {w : World} {B e size n : Nat} {v : Value} {xs : List Value} (h : w.ownsRow B e size v n xs) : ∃ p m c, v = .slice p m c := by
  rcases h.2 with ⟨rfl, _⟩ | ⟨g, cap, cur, rfl, _⟩
  · exact ⟨_, _, _, rfl⟩
  · exact ⟨_, _, _, rfl⟩
theorem own_cells {w : World} {B e size n : Nat} {v : Value} {xs : List Value} (h : w.ownsRow B e size v n xs) {j : Nat} {o : Obj} (hj : v.ownBlock = some j) (ho : w.heap[j]? = some o) : o.isCells = true := by
  rcases h.2 with ⟨rfl, _⟩ | ⟨g, cap, cur, rfl, _, hh, _⟩
  · simp [Value.ownBlock] at hj
  · obtain rfl : g = j := by simpa [Value.ownBlock] using hj
    rw [hh] at ho; cases ho; rfl
theorem own_put {W : World} {B e size n D : Nat} {v : Value} {xs : List Value} {o : Obj} {ds : Option (List Deferred)} (hK : W.heap[D]? = some (.deferred ds)) (h : W.ownsRow B e size v n xs) : (W.putObj D o).ownsRow B e size v n xs := by
  refine h.kept (grownBy_putObj' W D o) ?_
  rcases h.2 with ⟨rfl, _⟩ | ⟨g, cap, cur, rfl, _, hh, _⟩
  · exact .inl rfl
  · refine .inr (fun e => ?_)
    obtain rfl : g = D := by simpa [Value.ownBlock] using e
    rw [hh] at hK; cases hK
theorem own_baseI {W : World} {B B' e size n : Nat} {v : Value} {xs : List Value} (h : W.ownsRow B e size v n xs) (hB : B' ≤ B) : W.ownsRow B' e size v n xs :=
  ⟨h.1, h.2.imp id (fun ⟨g, cap, cur, a, b, z⟩ => ⟨g, cap, cur, a, Nat.le_trans hB b, z⟩)⟩
/-- A row of numbers of the call's own, behind a variable's cell. -/
def OutI (B b : Nat) (l : List Int) (W : World) : Prop := ∃ v, VRow W b 34 [v] ∧ W.ownsRow B 3 1 v l.length (l.map (Value.int .i64)) ∧ v.ownBlock ≠ some b
theorem OutI.own {β : Type} (B b : Nat) (f : β → List Int) : Own (fun s W => OutI B b (f s) W) := by
  rintro s X Y row ⟨v, h1, h2, h3⟩ hg hrow
  refine ⟨v, VRow.own b 34 (fun _ : Unit => [v]) () X Y row h1 hg hrow, ?_, h3⟩
  refine h2.kept hg ?_
  rcases h2.2 with ⟨rfl, _⟩ | ⟨g, cap, cur, rfl, _, hh, _⟩
  · exact .inl rfl
  · refine .inr (fun e => ?_)
    obtain ⟨o, ho, hc⟩ := hrow g (by rw [← e]; rfl)
    rw [hh] at ho; cases ho; cases hc

end Go.Proofs.YtaclgmhinljkbaaGreatDoor
namespace Go.Proofs.YtaclgmhinljkbaaGreatDoor
open Go.RowKit Go.Sort Go.Shelf Go.Lib

theorem sortI_any (l : List Int) (B n : Nat) (v : Value) (w : World) (h : w.ownsRow B 3 1 v n (l.map (Value.int .i64))) (hn : n ≤ 100000) :
    Calls Tryz.prog 130 #[v] w fun e w' => e = .returned (.tuple #[]) ∧ w'.ownsRow B 3 1 v n ((l.mergeSort fun x y => decide (x ≤ y)).map (Value.int .i64)) ∧ w.grownBy w' v.ownBlock := by
  have hl : l.length = n := by have := h.1; simpa using this
  subst hl
  rcases h.2 with ⟨rfl, h0⟩ | ⟨g, cap, cur, rfl, hg, hh, hc, hm, hs, ht⟩
  · have : l = [] := List.length_eq_zero_iff.1 h0
    subst this
    refine (Tryz.slices_Sort_int_none none 0 w).mono ?_
    rintro e w' ⟨rfl, rfl⟩
    exact ⟨rfl, by simpa using h, rfl, rfl, rfl, Nat.le_refl _, fun _ _ _ => rfl⟩
  · refine (Tryz.slices_Sort_int g 0 cap l w (holds_of_blockI hh (by simpa using ht)) (Array.getElem?_eq_some_iff.1 hh).1 (by omega)).mono ?_
    rintro e w' ⟨rfl, q, os, rfl⟩
    exact ⟨rfl, ownsRow_sortedI (List.length_mergeSort _) hg hh hc hm hs, grownBy_sortedI _⟩
theorem compactI_any (l : List Int) (B n : Nat) (v : Value) (w : World) (h : w.ownsRow B 3 1 v n (l.map (Value.int .i64))) (hn : n ≤ 100000) (hk : (Lib.compact l).length ≤ l.length) :
    Calls Tryz.prog 131 #[v] w fun e w' => ∃ v', e = .returned v' ∧ w'.ownsRow B 3 1 v' (Lib.compact l).length ((Lib.compact l).map (Value.int .i64)) ∧ w.grownBy w' v.ownBlock := by
  have hl : l.length = n := by have := h.1; simpa using this
  subst hl
  rcases h.2 with ⟨rfl, h0⟩ | ⟨g, cap, cur, rfl, hg, hh, hc, hm, hs, ht⟩
  · have : l = [] := List.length_eq_zero_iff.1 h0
    subst this
    refine (Tryz.slices_Compact_int_empty none 0 w).mono ?_
    rintro e w' ⟨rfl, rfl⟩
    have e : Lib.compact ([] : List Int) = [] := rfl
    rw [e]
    exact ⟨_, rfl, by simpa using h, rfl, rfl, rfl, Nat.le_refl _, fun _ _ _ => rfl⟩
  · refine (Tryz.slices_Compact_int g 0 cap l w (holds_of_blockI hh (by simpa using ht)) (by omega) hc).mono ?_
    rintro e w' ⟨rfl, q, rfl⟩
    have hb := grownBy_sortedI (w := w) (g := g) (n := q) (os := #[]) (Lib.compact l ++ List.replicate (l.length - (Lib.compact l).length) 0).toArray
    have hp := heap_sortedI (g := g) (n := q) (os := #[]) (Lib.compact l ++ List.replicate (l.length - (Lib.compact l).length) 0).toArray hh
    rw [grow_empty] at hb hp
    refine ⟨_, rfl, ⟨by simp, .inr ⟨g, cap, _, rfl, hg, hp, by omega, hm, by simp [putCells, hs], ?_⟩⟩, hb⟩
    have h1 := take_putCellsI cur (Lib.compact l ++ List.replicate (l.length - (Lib.compact l).length) 0) (by simp; omega)
    have h2 := congrArg (List.take (Lib.compact l).length) h1
    rw [List.take_take, List.map_append, List.take_append_of_le_length (by simp), Nat.min_eq_left (by simp)] at h2
    rw [Nat.mul_one, h2, ← List.length_map (Value.int .i64), List.take_length]
end Go.Proofs.YtaclgmhinljkbaaGreatDoor
namespace Go.Proofs.YtaclgmhinljkbaaGreatDoor
open Go.RowKit Go.Sort Go.Shelf Go.Lib

set_option maxRecDepth 100000 in
set_option maxHeartbeats 1000000 in
theorem gCheckSet_any (G : Gr) (p : Option Addr) (c : Nat) (l : List Int) (q : Option Addr) (d : Nat) (w : World) (hin : Sl w (Value.int .i64) q l) (hl : l.length ≤ 9223372036854775807) :
    Calls Tryz.prog 128 #[(.agg #[.int .i64 G.q, .int .i64 G.n, .slice p G.es.length c]), .slice q l.length d] w fun e w' => e = .returned (.int .i64 (chkS G.n none l)) ∧ Below w.heap.size w w' := by
  have hB0 : Below w.heap.size w (w.alloc (.cells #[.int .i64 G.q, .int .i64 G.n, .slice p G.es.length c] 29)) := (Below.refl _ _).alloc (Nat.le_refl _) _
  have b0 : VRow (w.alloc (.cells #[.int .i64 G.q, .int .i64 G.n, .slice p G.es.length c] 29)) w.heap.size 29 [.int .i64 G.q, .int .i64 G.n, .slice p G.es.length c] := VRow.new w _ _
  have hin0 := hin.below hB0
  have f1 := b0.at 1 rfl
  clear hin
  go_enter Tryz.func128, Tryz.ntmps128
  go_wp2
  go_loop [9] (fun i => ∃ k : Nat, k ≤ l.length ∧ i = .int .i64 k ∧ Hid (chkS G.n (pvS l k) (l.drop k) = chkS G.n none l)) (fun i => l.length - (intOf i).toNat)
  case atStart => exact ⟨0, by omega, rfl, rfl⟩
  case round =>
    obtain ⟨k, hk, rfl, hj⟩ := hrel
    by_cases hlt : k < l.length
    · obtain ⟨b1, o1, rfl, hb1, hc1⟩ := hin0.get k hlt
      have e1 := hc1 k hlt
      have HA := hidI (chkS_at (n := G.n) hlt)
      by_cases h0 : l[k] < 0
      · have HI : Hid (chkS G.n none l = 25) := by rw [Hid, ← hj.out, HA.out, if_pos (.inl h0)]
        clear hc1
        go_wp2
        go_ret
        exact ⟨ret_int HI.out.symm, hB0⟩
      · by_cases h1 : G.n ≤ l[k]
        · have HI : Hid (chkS G.n none l = 25) := by rw [Hid, ← hj.out, HA.out, if_pos (.inr h1)]
          clear hc1
          go_wp2
          go_ret
          exact ⟨ret_int HI.out.symm, hB0⟩
        · have HA2 := hidI (HA.out.trans (if_neg (by omega)))
          by_cases hk0 : k = 0
          · subst hk0
            have HN : Hid (chkS G.n (pvS l (0 + 1)) (l.drop (0 + 1)) = chkS G.n none l) := by rw [Hid, ← hj.out, HA2.out]; simp [pvS, leP]
            clear hc1
            rw [Nat.add_zero] at e1
            go_wp2
            go_round
            case rel => exact ⟨0 + 1, by omega, by go_num, HN⟩
            case measure => simp [intOf]; omega
          · obtain ⟨m, rfl⟩ : ∃ m, k = m + 1 := ⟨k - 1, by omega⟩
            have e2 := hc1 m (by omega)
            have q1 : IntKind.i64.wrap (m : Int) = (m : Int) := IntWalk.i64_in _ (by omega)
            have hpv : pvS l (m + 1) = some l[m] := by simp [pvS, show m < l.length by omega]
            by_cases h2 : l[m + 1] ≤ l[m]
            · have HI : Hid (chkS G.n none l = 10) := by rw [Hid, ← hj.out, HA2.out, hpv]; simp [leP, h2]
              clear hc1 hpv
              go_wp2
              go_ret
              exact ⟨ret_int HI.out.symm, hB0⟩
            · have HN : Hid (chkS G.n (pvS l (m + 1 + 1)) (l.drop (m + 1 + 1)) = chkS G.n none l) := by rw [Hid, ← hj.out, HA2.out, hpv]; simp [leP, h2]
              clear hc1 hpv
              go_wp2
              go_round
              case rel => exact ⟨m + 1 + 1, by omega, by go_num, HN⟩
              case measure => simp [intOf]; omega
    · have HI : Hid (chkS G.n none l = 0) := by rw [Hid, ← hj.out, chkS_end hlt]
      go_wp2
      go_ret
      exact ⟨ret_int HI.out.symm, hB0⟩
end Go.Proofs.YtaclgmhinljkbaaGreatDoor
namespace Go.Proofs.YtaclgmhinljkbaaGreatDoor
open Go.RowKit

def cmsE (es : List Ed) (st : List Int) (s : Int) : Bool := es.any (fun x => decide (x.t = s) && decide (x.f ∈ st))
def goesE (es : List Ed) (st : List Int) (s : Int) : Bool := es.any (fun x => decide (x.f = s) && decide (x.t ∈ st))
/-- One round: states with an edge to them and one from them. -/
def essP (es : List Ed) (st : List Int) (s : Int) : Bool := cmsE es st s && goesE es st s
def essS (es : List Ed) (st : List Int) : List Int := st.filter (essP es st)
theorem essS_le (es : List Ed) (st : List Int) : (essS es st).length ≤ st.length := List.length_filter_le _ _
/-- The states of the essential part. -/
def ess (es : List Ed) (st : List Int) : List Int := if (essS es st).length = st.length then st else ess es (essS es st)
termination_by st.length
decreasing_by
  have := essS_le es st; omega
theorem ess_stop {es : List Ed} {st : List Int} (h : (essS es st).length = st.length) : ess es st = st := by rw [ess, if_pos h]
theorem ess_go {es : List Ed} {st : List Int} (h : ¬ (essS es st).length = st.length) : ess es st = ess es (essS es st) := by rw [ess, if_neg h]
theorem filter_all {p : Int → Bool} : ∀ {l : List Int}, (l.filter p).length = l.length → l.filter p = l := by
  intro l h
  exact List.filter_eq_self.2 (by
    intro a ha
    have := List.length_filter_eq_length_iff.1 h
    exact this a ha)
theorem essS_eq {es : List Ed} {st : List Int} (h : (essS es st).length = st.length) : essS es st = st := filter_all h
theorem essS_srt {es : List Ed} {st : List Int} (h : st.Pairwise (· < ·)) : (essS es st).Pairwise (· < ·) := h.filter _
theorem filter_snoc (p : Int → Bool) (l : List Int) (k : Nat) (h : k < l.length) : (l.take (k + 1)).filter p = (l.take k).filter p ++ (if p l[k] = true then [l[k]] else []) := by
  rw [List.take_succ_eq_append_getElem h, List.filter_append]
  congr 1
  cases hp : p l[k] <;> simp [hp]
theorem any_snoc {α : Type} (p : α → Bool) (l : List α) (k : Nat) (h : k < l.length) : (l.take (k + 1)).any p = ((l.take k).any p || p l[k]) := by
  rw [List.take_succ_eq_append_getElem h, List.any_append]; simp
/-- The numbers below n. -/
def upto (n : Nat) : List Int := (List.range n).map (fun (i : Nat) => (i : Int))
theorem upto_succ (n : Nat) : upto (n + 1) = upto n ++ [(n : Int)] := by simp [upto, List.range_succ]
theorem upto_len (n : Nat) : (upto n).length = n := by simp [upto]
theorem upto_srt (n : Nat) : (upto n).Pairwise (· < ·) := by
  induction n with
  | zero => simp [upto]
  | succ n ih =>
    rw [upto_succ, List.pairwise_append]
    refine ⟨ih, by simp, fun a ha b hb => ?_⟩
    simp only [List.mem_singleton] at hb
    subst hb
    simp only [upto, List.mem_map, List.mem_range] at ha
    obtain ⟨i, hi, rfl⟩ := ha
    omega
/-- The essential part, its states, and the error. -/
def essA (G : Gr) : Gr × List Int × Int := if chkG G = 0 then (partA G (ess G.es (upto G.n.toNat)), ess G.es (upto G.n.toNat), 0) else (⟨0, 0, []⟩, [], 1)
theorem essA_ok {G : Gr} (h : chkG G = 0) : essA G = (partA G (ess G.es (upto G.n.toNat)), ess G.es (upto G.n.toNat), 0) := if_pos h
theorem essA_bad {G : Gr} (h : ¬ chkG G = 0) : essA G = (⟨0, 0, []⟩, [], 1) := if_neg h
end Go.Proofs.YtaclgmhinljkbaaGreatDoor
namespace Go.Proofs.YtaclgmhinljkbaaGreatDoor
open Go.RowKit Go.Sort Go.Shelf Go.Lib

def nxE (st : List Int) (b t : Int) (x : Ed) : Bool := decide (x.t = t) && (decide (x.l = b) && decide (x.f ∈ st))
/-- A state that an edge with a label leads to, from a set. -/
def nxP (es : List Ed) (st : List Int) (b t : Int) : Bool := es.any (nxE st b t)
def nextA (G : Gr) (st : List Int) (b : Int) : List Int := (upto G.n.toNat).filter (nxP G.es st b)
theorem uptof_succ (f : Int → Bool) (k : Nat) : (upto (k + 1)).filter f = (upto k).filter f ++ (if f (k : Int) = true then [(k : Int)] else []) := by
  rw [upto_succ, List.filter_append]; congr 1; cases h : f (k : Int) <;> simp [h]
theorem uptof_len (f : Int → Bool) (k : Nat) : ((upto k).filter f).length ≤ k := Nat.le_trans (List.length_filter_le _ _) (by rw [upto_len]; omega)

end Go.Proofs.YtaclgmhinljkbaaGreatDoor
namespace Go.Proofs.YtaclgmhinljkbaaGreatDoor
open Go.RowKit

theorem srt_unique : ∀ {a b : List Int}, a.Pairwise (· < ·) → b.Pairwise (· < ·) → (∀ x, x ∈ a ↔ x ∈ b) → a = b
  | [], [], _, _, _ => rfl
  | [], y :: b, _, _, h => absurd ((h y).2 List.mem_cons_self) (by simp)
  | x :: a, [], _, _, h => absurd ((h x).1 List.mem_cons_self) (by simp)
  | x :: a, y :: b, ha, hb, h => by
    obtain ⟨ha1, ha2⟩ := List.pairwise_cons.1 ha
    obtain ⟨hb1, hb2⟩ := List.pairwise_cons.1 hb
    have e : x = y := by
      rcases List.mem_cons.1 ((h x).1 List.mem_cons_self) with e | hx
      · exact e
      · rcases List.mem_cons.1 ((h y).2 List.mem_cons_self) with e | hy
        · exact e.symm
        · have := ha1 y hy; have := hb1 x hx; omega
    subst e
    rw [srt_unique ha2 hb2 (fun z => ?_)]
    constructor
    · intro hz
      rcases List.mem_cons.1 ((h z).1 (List.mem_cons_of_mem _ hz)) with e | hz'
      · subst e; have := ha1 z hz; omega
      · exact hz'
    · intro hz
      rcases List.mem_cons.1 ((h z).2 (List.mem_cons_of_mem _ hz)) with e | hz'
      · subst e; have := hb1 z hz; omega
      · exact hz'
theorem mem_upto {n : Nat} {x : Int} : x ∈ upto n ↔ 0 ≤ x ∧ x < n := by
  unfold upto
  rw [List.mem_map]
  constructor
  · rintro ⟨i, hi, rfl⟩
    rw [List.mem_range] at hi
    omega
  · intro h
    exact ⟨x.toNat, by rw [List.mem_range]; omega, by omega⟩
theorem nextA_srt (G : Gr) (st : List Int) (b : Int) : (nextA G st b).Pairwise (· < ·) := (upto_srt _).filter _
theorem mem_nextA {G : Gr} {st : List Int} {b t : Int} (hv : Vg G) : t ∈ nextA G st b ↔ ∃ x ∈ G.es, x.t = t ∧ x.l = b ∧ x.f ∈ st := by
  unfold nextA nxP
  rw [List.mem_filter, mem_upto, List.any_eq_true]
  constructor
  · rintro ⟨_, x, hx, h⟩
    simp only [nxE, Bool.and_eq_true, decide_eq_true_eq] at h
    exact ⟨x, hx, h⟩
  · rintro ⟨x, hx, rfl, h1, h2⟩
    have := hv.ins x hx
    have := hv.n1
    exact ⟨⟨by omega, by omega⟩, x, hx, by simp [nxE, h1, h2]⟩
/-- What a step collects: for each state of the set, the ends of its edges with the label. -/
def stepL (es : List Ed) (st : List Int) (b : Int) : List Int := st.flatMap (fun s => (es.filter (fun x => decide (x.f = s) && decide (x.l = b))).map Ed.t)
theorem mem_stepL {es : List Ed} {st : List Int} {b t : Int} : t ∈ stepL es st b ↔ ∃ x ∈ es, x.t = t ∧ x.l = b ∧ x.f ∈ st := by
  unfold stepL
  rw [List.mem_flatMap]
  constructor
  · rintro ⟨s, hs, h⟩
    obtain ⟨x, hx, rfl⟩ := List.mem_map.1 h
    obtain ⟨hx, h⟩ := List.mem_filter.1 hx
    simp only [Bool.and_eq_true, decide_eq_true_eq] at h
    exact ⟨x, hx, rfl, h.2, h.1 ▸ hs⟩
  · rintro ⟨x, hx, rfl, h1, h2⟩
    exact ⟨x.f, h2, List.mem_map.2 ⟨x, List.mem_filter.2 ⟨hx, by simp [h1]⟩, rfl⟩⟩
/-- A list in order, each once, with the members that a step collects, is what the reference finds. -/
theorem step_law {G : Gr} {st l : List Int} {b : Int} (hv : Vg G) (hs : l.Pairwise (· < ·)) (hm : ∀ x, x ∈ l ↔ x ∈ stepL G.es st b) : l = nextA G st b :=
  srt_unique hs (nextA_srt G st b) (fun x => by rw [hm, mem_stepL, mem_nextA hv])
end Go.Proofs.YtaclgmhinljkbaaGreatDoor
