/-
  Walks: slices.Compact on edges of the call's own.
-/
import Derived.Test.YtlgjhmenjfmpfaaGc
import Derived.Laws.StructEq
import Derived.Laws.CopyRow
import Derived.Shelf.SlicesE.Equal
namespace Go.Proofs.Ytlgjhmenjfmpfaa
open Go.RowKit Go.Sort Go.Shelf Go.Lib

theorem own_setCell {w : World} {B e size g n cap i : Nat} {xs : List Value} (h : w.ownsRow B e size (.slice (some ⟨g, 0, none⟩) n cap) n xs) (u : Value) :
    (w.setCell ⟨g, i, none⟩ u).ownsRow B e size (.slice (some ⟨g, 0, none⟩) n cap) n (xs.set i u) := by
  rcases h.2 with ⟨e0, _⟩ | ⟨g', cap', cur, e0, hg, hh, hc, hm, hs, ht⟩
  · cases e0
  · cases e0
    have hlt : g < w.heap.size := (Array.getElem?_eq_some_iff.1 hh).1
    have hgv : w.heap[g] = .cells cur e (0, 0) := (Array.getElem?_eq_some_iff.1 hh).2
    refine ⟨by rw [List.length_set]; exact h.1, .inr ⟨g, cap, cur.setIfInBounds i u, rfl, hg, ?_, hc, hm, by simpa using hs, ?_⟩⟩
    · rw [setCell_eq]; simp [mapBlock, hlt, Array.getElem_modify, hgv, onCells]
    · rw [Array.toList_setIfInBounds, List.take_set, ht]
theorem cat_set (d : List Ed) (x : Ed) : ∀ k, (((cat d).set (k * 3) (.int .i64 x.f)).set (k * 3 + 1) (.int .i64 x.l)).set (k * 3 + 2) (.int .i64 x.t) = cat (d.set k x) := by
  induction d with
  | nil => intro k; rfl
  | cons y d ih =>
    intro k
    cases k with
    | zero => simp [cat, edE]
    | succ k =>
      have := ih k
      simp only [cat, List.flatMap_cons, List.set_cons_succ] at *
      rw [← this]
      simp [edE, Nat.succ_mul]
theorem own_set3 {w : World} {B e g n cap k : Nat} {d : List Ed} (h : w.ownsRow B e 3 (.slice (some ⟨g, 0, none⟩) n cap) n (cat d)) (x : Ed) :
    (((w.setCell ⟨g, k * 3, none⟩ (.int .i64 x.f)).setCell ⟨g, k * 3 + 1, none⟩ (.int .i64 x.l)).setCell ⟨g, k * 3 + 2, none⟩ (.int .i64 x.t)).ownsRow B e 3 (.slice (some ⟨g, 0, none⟩) n cap) n (cat (d.set k x)) := by
  rw [← cat_set]
  exact own_setCell (own_setCell (own_setCell h _) _) _
/-- How two edges are compared by the program. -/
theorem eqlE (a b : Ed) (w : World) : (binOp .eql 47 (.agg #[.int .i64 a.f, .int .i64 a.l, .int .i64 a.t]) (.agg #[.int .i64 b.f, .int .i64 b.l, .int .i64 b.t])).run Try.prog w = .ok (.bool (decide (a = b))) w := by
  have hS : Try.prog.underlying 47 = some (.struct (Try.prog.fieldsOf 47)) := by kernel_rfl
  have hp : Try.prog.stoodInHeld 47 = false := by kernel_rfl
  have hr : (Op.eqFields 9999 #[.int .i64 a.f, .int .i64 a.l, .int .i64 a.t] #[.int .i64 b.f, .int .i64 b.l, .int .i64 b.t] (Try.prog.fieldsOf 47).toList).run Try.prog w = .ok (decide (a = b)) w := by
    simp only [Program.fieldsOf, Try.underlying47]
    have u3 := Try.underlying3
    have a3 := Try.isAgg3
    have z3 := Try.sizeOf3
    go_simp
    have he : a = b ↔ a.f = b.f ∧ a.l = b.l ∧ a.t = b.t := ⟨fun h => by subst h; exact ⟨rfl, rfl, rfl⟩, fun ⟨h1, h2, h3⟩ => by cases a; cases b; simp_all⟩
    by_cases h1 : a.f = b.f <;> by_cases h2 : a.l = b.l <;> by_cases h3 : a.t = b.t <;> simp [he, h1, h2, h3]
  rw [run_eql_struct, show (10000 : Nat) = 9999 + 1 from rfl, run_equalIn_agg w 9999 47 _ _ hS hp, hr]
  rfl
theorem neqE (a b : Ed) (w : World) : (binOp .neq 47 (.agg #[.int .i64 a.f, .int .i64 a.l, .int .i64 a.t]) (.agg #[.int .i64 b.f, .int .i64 b.l, .int .i64 b.t])).run Try.prog w = .ok (.bool (!decide (a = b))) w := by
  have h := eqlE a b w
  rw [run_eql_struct] at h
  rw [run_neq_struct]
  cases hq : (Op.equalIn 10000 47 (.agg #[.int .i64 a.f, .int .i64 a.l, .int .i64 a.t]) (.agg #[.int .i64 b.f, .int .i64 b.l, .int .i64 b.t])).run Try.prog w with
  | ok v w' => rw [hq] at h; simp [Result.andThen] at h ⊢; exact ⟨h.1, h.2⟩
  | _ => rw [hq] at h; cases h
theorem guardE (op : BinOp) (a b : Operand) (x y : Ed) (w : World) : (eqGuard op 47 a b (.agg #[.int .i64 x.f, .int .i64 x.l, .int .i64 x.t]) (.agg #[.int .i64 y.f, .int .i64 y.l, .int .i64 y.t])).run Try.prog w = .ok () w :=
  GuardAt.agg (P := Try.prog) (T := 47) (fun x : Ed => #[.int .i64 x.f, .int .i64 x.l, .int .i64 x.t]) (by kernel_rfl) op a b x y w
theorem cat_take : ∀ (d : List Ed) (k : Nat), cat (d.take k) = (cat d).take (k * 3)
  | [], k => by simp [cat]
  | x :: d, 0 => by simp [cat]
  | x :: d, k + 1 => by
    have ih := cat_take d k
    simp only [cat, List.take_succ_cons, List.flatMap_cons] at *
    rw [ih]; simp [edE, Nat.succ_mul]
theorem own_clear {w : World} {B g n cap : Nat} {d : List Ed} (h : w.ownsRow B 47 3 (.slice (some ⟨g, 0, none⟩) n cap) n (cat d)) (kk : Nat) (hk : kk < n) :
    ∃ W', (∀ ty, (Builtin.clear_ #[22] ty #[.slice (some ⟨g, kk * 3, none⟩) (n - kk) (cap - kk)]).run Try.prog w = .ok (.tuple #[]) W') ∧
      W'.ownsRow B 47 3 (.slice (some ⟨g, 0, none⟩) kk cap) kk (cat (d.take kk)) ∧ w.grownBy W' (some g) := by
  have hn : d.length = n := by have := h.1; rw [cat_len] at this; omega
  rcases h.2 with ⟨e0, _⟩ | ⟨g', cap', cur, e0, hg, hh, hc, hm, hs, ht⟩
  · cases e0
  · cases e0
    have hlt : g < w.heap.size := (Array.getElem?_eq_some_iff.1 hh).1
    have hgv : w.heap[g] = .cells cur 47 (0, 0) := (Array.getElem?_eq_some_iff.1 hh).2
    obtain ⟨zs, hzs⟩ : ∃ zs, (Builtin.zeroCells #[.int .i64 0, .int .i64 0, .int .i64 0] (n - kk)).toList = zs := ⟨_, rfl⟩
    have hzl : zs.length = (n - kk) * 3 := by rw [← hzs]; simp [Builtin.zeroCells]
    have hz1 : ∀ v ∈ zs, v.oneCell' = true := by
      intro v hv
      rw [← hzs, Builtin.zeroCells] at hv
      simp at hv
      obtain ⟨i, _, rfl⟩ := hv
      have : i % 3 = 0 ∨ i % 3 = 1 ∨ i % 3 = 2 := by omega
      rcases this with e | e | e <;> simp [e, Value.oneCell']
    have hb : n * 3 ≤ cap * 3 := Nat.mul_le_mul_right _ hc
    have hst := run_storeCells_at (P := Try.prog) g (kk * 3) 47 zs 0 cur w hh (by rw [hzl, Nat.sub_mul, hs]; omega) hz1
    rw [Nat.add_zero] at hst
    refine ⟨w.setRow g (cur.toList.take (kk * 3) ++ zs ++ cur.toList.drop (kk * 3 + zs.length)).toArray, fun ty => ?_, ⟨by rw [cat_len, List.length_take]; omega, .inr ⟨g, cap, _, rfl, hg, setRow_heap w g cur _ 47 (0, 0) hh, by omega, hm, ?_, ?_⟩⟩, ?_⟩
    · obtain ⟨m, hm1⟩ : ∃ m, n - kk = m + 1 := ⟨n - kk - 1, by omega⟩
      have hv : (zeroValue 47).run Try.prog w = .ok (.agg #[.int .i64 0, .int .i64 0, .int .i64 0]) w := by kernel_rfl
      rw [hm1] at hzs ⊢
      simp [Builtin.clear_, run_underlying Try.underlying22, hv, Value.cells, hzs, hst]
    · simp [hzl, hs, Nat.sub_mul]; omega
    · simp only [List.take_append, List.length_take]
      have : kk * 3 ≤ cur.toList.length := by simp [hs]; omega
      rw [Nat.min_eq_left this, Nat.sub_self, List.take_zero, List.append_nil, List.take_take, Nat.min_self,
        show kk * 3 - (cur.toList.take (kk * 3) ++ zs).length = 0 by rw [List.length_append, List.length_take, Nat.min_eq_left this]; omega,
        List.take_zero, List.append_nil, cat_take, ← ht, List.take_take, Nat.min_eq_left (Nat.mul_le_mul_right 3 (Nat.le_of_lt hk))]
    · refine ⟨rfl, rfl, rfl, by simp [World.setRow], fun i hi hne => ?_⟩
      have hne' : g ≠ i := fun e => hne (by rw [e])
      simp [World.setRow, Array.getElem?_modify, hne']
theorem own_cell3 {w : World} {B e g n cap : Nat} {d : List Ed} (h : w.ownsRow B e 3 (.slice (some ⟨g, 0, none⟩) n cap) n (cat d)) (k : Nat) (hk : k < d.length) :
    w.cell? ⟨g, k * 3, none⟩ = some (.int .i64 d[k].f) ∧ w.cell? ⟨g, k * 3 + 1, none⟩ = some (.int .i64 d[k].l) ∧ w.cell? ⟨g, k * 3 + 2, none⟩ = some (.int .i64 d[k].t) ∧ (∀ j, w.frozen? ⟨g, j, none⟩ = false) ∧ g < w.heap.size := by
  obtain ⟨p, c, hv, hs, _, hn⟩ := own_sg h
  cases hv
  obtain ⟨b, off, hp, _, e0, e1, e2⟩ := hs.get3 k hk rfl
  cases hp
  simp only [Nat.zero_add] at e0 e1 e2
  refine ⟨e0, e1, e2, fun j => ?_, ?_⟩
  · rcases h.2 with ⟨e0, _⟩ | ⟨g', cap', cur, e0, hg, hh, hc, hm, hs, ht⟩
    · cases e0
    · cases e0; simp [World.frozen?, hh]
  · rcases h.2 with ⟨e0, _⟩ | ⟨g', cap', cur, e0, hg, hh, hc, hm, hs, ht⟩
    · cases e0
    · cases e0; exact (Array.getElem?_eq_some_iff.1 hh).1
end Go.Proofs.Ytlgjhmenjfmpfaa
