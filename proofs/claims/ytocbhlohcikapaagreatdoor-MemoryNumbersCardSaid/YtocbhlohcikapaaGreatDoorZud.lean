/-
  Words, plain lemmas and walks, merged: Map, Nl, Nm, Nc, Nf, Ng, Nn, Nh, Ni, Nq, No, Nr, Ns, Nj.
-/
import Derived.Maps.OwnIn
import Derived.DeepKeys4
import Derived.Test.YtocbhlohcikapaaGreatDoorZua
import Derived.Test.YtocbhlohcikapaaGreatDoorZuc
import Derived.Laws.StructEq
import Derived.Shelf.SlicesE.Equal
import Derived.Lib.SlBy
import Derived.Lib.OwnBridge
import Derived.Test.YtocbhlohcikapaaGreatDoorZub
import Derived.Laws.AppendOwnNone
import Derived.Lib.AppendZeros
set_option linter.unusedVariables false
set_option linter.unusedSimpArgs false
namespace Go.Proofs.YtocbhlohcikapaaGreatDoor
section
open Go.RowKit Go.ChangeMaps Go.MapKept Go.WideShapes Go.Maps
structure KeyBy {α : Type} (P : Program) (k : TypeId) (kv : α → Value) (ok : α → Prop) : Prop where
 law : Keyed P k
 reads : ∀ a, ok a → ∃ l, keyOf P k (kv a) = some l
 inj : ∀ a b, ok a → ok b → kv a = kv b → a = b
def Mp {α β : Type} (kv : α → Value) (ok : α → Prop) (vv : β → Value) (w : World) (b : Nat) (f : α → Option β) : Prop :=
 ∃ es clock, w.heap[b]? = some (.map es clock) ∧ es.toList.Pairwise (fun x y => x.key ≠ y.key) ∧
  (∀ e ∈ es.toList, ∃ a x, e.key = kv a ∧ ok a ∧ e.val = vv x ∧ f a = some x) ∧ (∀ a x, f a = some x → ∃ e ∈ es.toList, e.key = kv a)
section
variable {α β : Type} {kv : α → Value} {ok : α → Prop} {vv : β → Value} {w : World} {b : Nat} {f : α → Option β} {P : Program} {k : TypeId}
theorem Mp.lt (h : Mp kv ok vv w b f) : b < w.heap.size := by
 obtain ⟨es, clock, hb, _⟩ := h
 exact (Array.getElem?_eq_some_iff.1 hb).1
theorem Mp.same {w' : World} (h : Mp kv ok vv w b f) (hb : w'.heap[b]? = w.heap[b]?) : Mp kv ok vv w' b f := by
 obtain ⟨es, clock, hb', r⟩ := h
 exact ⟨es, clock, hb.trans hb', r⟩
theorem Mp.alloc (h : Mp kv ok vv w b f) (o : Obj) : Mp kv ok vv (w.alloc o) b f := h.same (Below.heap_alloc w o b h.lt)
theorem Mp.drewN (h : Mp kv ok vv w b f) (n : Nat) : Mp kv ok vv (w.drewN n) b f := h
theorem Mp.drew (h : Mp kv ok vv w b f) : Mp kv ok vv w.drew b f := h
theorem Mp.below {w' : World} {B : Nat} (h : Mp kv ok vv w b f) (hB : Below B w w') (hb : b < B) : Mp kv ok vv w' b f := h.same (hB.block b hb)
theorem Mp.kept {w' : World} {row : Option Nat} (h : Mp kv ok vv w b f) (hg : w.grownBy w' row) (hne : some b ≠ row) : Mp kv ok vv w' b f :=
 h.same (hg.block b h.lt hne)
theorem Mp.setCell (h : Mp kv ok vv w b f) {a : Addr} (ha : b ≠ a.block) (u : Value) : Mp kv ok vv (w.setCell a u) b f := h.same (Below.heap_setCell _ _ _ _ ha)
theorem Mp.made (w : World) : Mp kv ok vv (w.alloc (.map #[] 0)) w.heap.size (fun _ => none) :=
 ⟨#[], 0, heap_alloc_new w _, by simp, by simp, by simp⟩
theorem Mp.congr {g : α → Option β} (h : Mp kv ok vv w b f) (e : ∀ a, f a = g a) : Mp kv ok vv w b g := by
 have : f = g := funext e
 exact this ▸ h
theorem Mp.look {t e : TypeId} (h : Mp kv ok vv w b f) (K : KeyBy P k kv ok) (ht : P.underlying t = some (.map k e)) {z : Value} (hz : (zeroValue e).run P w = .ok z w) (a : α) (ha : ok a) (c : Bool) :
  (Instr.lookup t (.map (some b)) (kv a) c).run P w = .ok (match f a with | some x => if c then .tuple #[vv x, .bool true] else vv x | none => if c then .tuple #[z, .bool false] else z) w := by
 obtain ⟨es, clock, hb, hd, hr, hc⟩ := h
 obtain ⟨kl, hkey⟩ := K.reads a ha
 have hkeys : ∀ e ∈ es.toList, ∃ l, keyOf P k e.key = some l := fun e he => by
  obtain ⟨a', x, h1, h2, _⟩ := hr e he
  rw [h1]; exact K.reads a' h2
 rcases K.law.find w hkey es.toList hkeys with ⟨h1, h2⟩ | ⟨j, e0, h1, h2, h3⟩
 ·have hf : f a = none := by
   cases hfa : f a with
   | none => rfl
   | some x => obtain ⟨e, he, hk⟩ := hc a x hfa; exact absurd hk (h2 e he)
  rw [hf]
  simp [Instr.lookup, run_underlying ht, MapKept.run_getObj_map hb, K.law.check w _ hkey, h1, hz, Result.andThen]
 ·obtain ⟨a', x, g1, g2, g3, g4⟩ := hr e0 (List.mem_of_getElem? h2)
  obtain rfl := K.inj a' a g2 ha (g1.symm.trans h3)
  rw [g4]
  simp [Instr.lookup, run_underlying ht, MapKept.run_getObj_map hb, K.law.check w _ hkey, h1, g3, Result.andThen]
def mset [DecidableEq α] (f : α → Option β) (a : α) (x : β) : α → Option β := fun a' => if a' = a then some x else f a'
theorem mset_at [DecidableEq α] (f : α → Option β) (a : α) (x : β) : mset f a x a = some x := by simp [mset]
theorem mset_ne [DecidableEq α] (f : α → Option β) (a a' : α) (x : β) (h : a' ≠ a) : mset f a x a' = f a' := by simp [mset, h]
theorem Mp.store [DecidableEq α] {t e : TypeId} (h : Mp kv ok vv w b f) (K : KeyBy P k kv ok) (ht : P.underlying t = some (.map k e)) (a : α) (ha : ok a) (x : β) :
  ∃ w', (Instr.mapUpdate t (.map (some b)) (kv a) (vv x)).run P w = .ok () w' ∧ Mp kv ok vv w' b (mset f a x) ∧ w.mapTurned w' b := by
 obtain ⟨es, clock, hb, hd, hr, hc⟩ := h
 obtain ⟨kl, hkey⟩ := K.reads a ha
 have hkeys : ∀ e ∈ es.toList, ∃ l, keyOf P k e.key = some l := fun e he => by
  obtain ⟨a', x, h1, h2, _⟩ := hr e he
  rw [h1]; exact K.reads a' h2
 rcases K.law.find w hkey es.toList hkeys with ⟨h1, h2⟩ | ⟨j, e0, h1, h2, h3⟩
 ·refine ⟨_, ?_, ⟨es.push ⟨kv a, vv x, clock⟩, clock + 1, heap_setBlock_same hb _, ?_, ?_, ?_⟩, ⟨es, clock, _, _, hb, rfl⟩⟩
  ·simp [Instr.mapUpdate, run_underlying ht, MapKept.run_getObj_map hb, K.law.check w false hkey, h1, MapKept.run_setObj_map _ hb, Result.andThen, setBlock]
  ·rw [Array.toList_push, List.pairwise_append]
   refine ⟨hd, by simp, fun y hy z hz => ?_⟩
   simp only [List.mem_singleton] at hz; subst hz
   exact h2 y hy
  ·intro y hy
   rw [Array.toList_push, List.mem_append, List.mem_singleton] at hy
   rcases hy with hy | rfl
   ·obtain ⟨a', x', g1, g2, g3, g4⟩ := hr y hy
    refine ⟨a', x', g1, g2, g3, ?_⟩
    rw [mset_ne _ _ _ _ (fun e => h2 y hy (by rw [g1, e]))]; exact g4
   ·exact ⟨a, x, rfl, ha, rfl, mset_at _ _ _⟩
  ·intro a' x' hfa
   by_cases e : a' = a
   ·subst e; exact ⟨⟨kv a', vv x, clock⟩, by simp, rfl⟩
   ·rw [mset_ne _ _ _ _ e] at hfa
    obtain ⟨y, hy, hk⟩ := hc a' x' hfa
    exact ⟨y, by simp [Array.toList_push]; exact .inl (by simpa using hy), hk⟩
 ·have hj : es[j]? = some e0 := by simpa using h2
  have hjl : j < es.toList.length := (List.getElem?_eq_some_iff.1 h2).1
  have hlist : (es.modify j (fun e' => { e' with key := kv a, val := vv x })).toList = es.toList.set j { e0 with key := kv a, val := vv x } := by rw [Array.toList_modify, modify_eq_set _ _ _ _ h2]
  have hkm : (es.toList.set j { e0 with key := kv a, val := vv x }).map MapEntry.key = es.toList.map MapEntry.key := by
   rw [List.map_set]
   apply List.ext_getElem?
   intro i
   rw [List.getElem?_set]
   split
   ·rename_i hi; subst hi
    rw [if_pos (by simpa using hjl), List.getElem?_map, h2]
    simp [h3]
   ·rfl
  have hd' : (es.toList.set j { e0 with key := kv a, val := vv x }).Pairwise (fun x y => x.key ≠ y.key) := by
   have hn : (es.toList.map MapEntry.key).Pairwise (· ≠ ·) := List.pairwise_map.2 hd
   rw [← hkm] at hn
   exact List.pairwise_map.1 hn
  refine ⟨_, ?_, ⟨es.modify j (fun e' => { e' with key := kv a, val := vv x }), clock, heap_setBlock_same hb _, ?_, ?_, ?_⟩, ⟨es, clock, _, _, hb, rfl⟩⟩
  ·have hst := K.law.stays w hkey
   simp [Instr.mapUpdate, run_underlying ht, MapKept.run_getObj_map hb, K.law.check w false hkey, h1, hj, h3, hst, MapKept.run_setObj_map _ hb, Result.andThen, setBlock]
  ·rw [hlist]; exact hd'
  ·intro y hy
   rw [hlist] at hy
   obtain ⟨i, hi, hyi⟩ := List.mem_iff_getElem.1 hy
   rw [List.getElem_set] at hyi
   split at hyi
   ·subst hyi; exact ⟨a, x, rfl, ha, rfl, mset_at _ _ _⟩
   ·rename_i hne
    have hi' : i < es.toList.length := by simpa using hi
    have hym : y ∈ es.toList := by rw [← hyi]; exact List.getElem_mem _
    obtain ⟨a', x', g1, g2, g3, g4⟩ := hr y hym
    refine ⟨a', x', g1, g2, g3, ?_⟩
    rw [mset_ne]
    ·exact g4
    ·rintro rfl
     have e1 : es.toList[i].key = es.toList[j].key := by
      rw [hyi, g1]
      have : es.toList[j] = e0 := by have := List.getElem?_eq_getElem hjl; rw [h2] at this; exact (Option.some.inj this).symm
      rw [this, h3]
     rcases Nat.lt_or_gt_of_ne (fun e => hne e) with hlt | hlt
     ·exact (List.pairwise_iff_getElem.1 hd j i hjl hi' hlt) e1.symm
     ·exact (List.pairwise_iff_getElem.1 hd i j hi' hjl hlt) e1
  ·intro a' x' hfa
   rw [hlist]
   by_cases e : a' = a
   ·subst e
    exact ⟨_, List.mem_of_getElem? (by rw [List.getElem?_set_self hjl]), rfl⟩
   ·rw [mset_ne _ _ _ _ e] at hfa
    obtain ⟨y, hy, hk⟩ := hc a' x' hfa
    have : y.key ∈ (es.toList.set j { e0 with key := kv a, val := vv x }).map MapEntry.key := by rw [hkm]; exact List.mem_map_of_mem hy
    obtain ⟨y', hy', e'⟩ := List.mem_map.1 this
    exact ⟨y', hy', e'.trans hk⟩
variable {F : Fence} {nF : Nat}
end
end
section
open Go.RowKit Go.Sort
structure Fd where
 s : Int
 t : Int
 b : Int
 l : Int
def Lk (l : List Pw) (q : List Fd) : Prop :=
 q.length = l.length ∧ ∀ i (h : i < l.length) (h' : i < q.length), q[i].s = l[i].1.1 ∧ q[i].t = l[i].1.2 ∧ ((q[i].b = -1 ∧ l[i].2 = []) ∨ ∃ j, ∃ hj : j < i, q[i].b = j ∧ l[i].2 = (l[j]'(by omega)).2 ++ [q[i].l])
theorem Lk.first (s t : Int) : Lk [((s, t), [])] [⟨s, t, -1, -1⟩] := by
 refine ⟨rfl, fun i h h' => ?_⟩
 obtain rfl : i = 0 := by simp at h; exact h
 exact ⟨rfl, rfl, .inl ⟨rfl, rfl⟩⟩
theorem Lk.snoc {l : List Pw} {q : List Fd} (h : Lk l q) {i : Nat} (hi : i < l.length) (s t a : Int) : Lk (l ++ [((s, t), l[i].2 ++ [a])]) (q ++ [⟨s, t, i, a⟩]) := by
 obtain ⟨h1, h2⟩ := h
 refine ⟨by simp [h1], fun k hk hk' => ?_⟩
 by_cases e : k < l.length
 ·have e' : k < q.length := by omega
  obtain ⟨g1, g2, g3⟩ := h2 k e e'
  simp only [List.getElem_append_left e, List.getElem_append_left e']
  refine ⟨g1, g2, g3.imp id (fun ⟨j, hj, x, y⟩ => ⟨j, hj, x, ?_⟩)⟩
  rw [List.getElem_append_left (by omega)]; exact y
 ·have e2 : k = l.length := by simp at hk; omega
  subst e2
  have e3 : (q ++ [(⟨s, t, i, a⟩ : Fd)])[l.length]'hk' = ⟨s, t, i, a⟩ := by
   rw [List.getElem_append_right (by omega)]
   simp [h1]
  have e4 : (l ++ [((s, t), l[i].2 ++ [a])])[l.length]'hk = ((s, t), l[i].2 ++ [a]) := by
   rw [List.getElem_append_right (Nat.le_refl _)]
   simp
  rw [e3, e4]
  refine ⟨rfl, rfl, .inr ⟨i, hi, rfl, ?_⟩⟩
  simp only
  rw [List.getElem_append_left hi]
end
section
open Go.RowKit Go.Sort
theorem tgt_drop_hit {es : List Ed} {s a : Int} {k : Nat} (hk : k < es.length) (h1 : es[k].f = s) (h2 : es[k].l = a) : tgt (es.drop k) s a = es[k].t := by
 rw [List.drop_eq_getElem_cons hk]; unfold tgt; rw [List.find?_cons_of_pos (by simp [h1, h2])]
theorem tgt_drop_next {es : List Ed} {s a : Int} {k : Nat} (hk : k < es.length) (h : ¬ (es[k].f = s ∧ es[k].l = a)) : tgt (es.drop k) s a = tgt (es.drop (k + 1)) s a := by
 rw [List.drop_eq_getElem_cons hk]; unfold tgt
 rw [List.find?_cons_of_neg (by simpa using h)]
theorem tgt_drop_end {es : List Ed} {s a : Int} {k : Nat} (hk : es.length ≤ k) : tgt (es.drop k) s a = -1 := by
 rw [List.drop_eq_nil_of_le hk]; rfl
set_option maxRecDepth 100000 in
theorem rtarget_any (G : Gr) (p : Option Addr) (c : Nat) (s a : Int) (w : World) (hin : Sg 3 w edE p G.es) (hl : G.es.length ≤ 9223372036854775807) :
  Calls Tryz.prog 135 #[(.agg #[.int .i64 G.q, .int .i64 G.n, .slice p G.es.length c]), .int .i64 s, .int .i64 a] w fun e w' => e = .returned (.int .i64 (tgt G.es s a)) ∧ RowKit.Below w.heap.size w w' := by
 obtain ⟨w0, hw0⟩ : ∃ w0, w0 = w.alloc (.cells #[.int .i64 G.q, .int .i64 G.n, .slice p G.es.length c] 24) := ⟨_, rfl⟩
 have b0 : VRow w0 w.heap.size 24 [.int .i64 G.q, .int .i64 G.n, .slice p G.es.length c] := by subst hw0; exact VRow.new w _ _
 have hB0 : RowKit.Below w.heap.size w w0 := by subst hw0; exact (RowKit.Below.refl _ _).alloc (Nat.le_refl _) _
 have hin0 := hin.below hB0
 have g2 := b0.at 2 rfl
 have l1 : (G.es.length : Int) ≤ 9223372036854775807 := by omega
 clear hin b0
 go_enter Tryz.func135, Tryz.ntmps135
 go_wp2
 rw [← hw0]
 clear hw0
 go_loop [7] (fun i => ∃ k : Nat, k ≤ G.es.length ∧ i = .int .i64 k ∧ Hid (tgt (G.es.drop k) s a = tgt G.es s a)) (fun i => G.es.length - (intOf i).toNat)
 case atStart => exact ⟨0, by omega, rfl, rfl⟩
 case round =>
  obtain ⟨k, hk, rfl, hj⟩ := hrel
  by_cases hlt : k < G.es.length
  ·obtain ⟨b1, o1, rfl, hb1, e0, e1, e2⟩ := hin0.get3 k hlt rfl
   have hltk : (k : Int) < (G.es.length : Int) := by omega
   by_cases h1 : G.es[k].f = s
   ·have d1 : (G.es[k].f == s) = true := by simpa using h1
    by_cases h2 : G.es[k].l = a
    ·have d2 : (G.es[k].l == a) = true := by simpa using h2
     have HX := hidI (hj.out.symm.trans (tgt_drop_hit hlt h1 h2))
     clear h1 h2
     go_wp2
     go_ret
     exact ⟨ret_int HX.out.symm, hB0⟩
    ·have d2 : (G.es[k].l == a) = false := by simpa using h2
     have HX := hidI ((tgt_drop_next hlt (fun h => h2 h.2)).symm.trans hj.out)
     clear h1 h2
     go_wp2
     go_round
     case rel => exact ⟨k + 1, by omega, by go_num, HX⟩
     case measure => simp [intOf]; omega
   ·have d1 : (G.es[k].f == s) = false := by simpa using h1
    have HX := hidI ((tgt_drop_next hlt (fun h => h1 h.1)).symm.trans hj.out)
    clear h1
    go_wp2
    go_round
    case rel => exact ⟨k + 1, by omega, by go_num, HX⟩
    case measure => simp [intOf]; omega
  ·have hltk : ¬ (k : Int) < (G.es.length : Int) := by omega
   have HX := hidI (hj.out.symm.trans (tgt_drop_end (s := s) (a := a) (by omega)))
   go_wp2
   go_ret
   exact ⟨ret_int HX.out.symm, hB0⟩
def TwoI (w : World) (a b : Int) (u v : Value) (wx : World) : Prop := u = .int .i64 a ∧ v = .int .i64 b ∧ RowKit.Below w.heap.size w wx
theorem all_snoc {f : Nat → Bool} {k : Nat} (h1 : (List.range k).all f = true) (h2 : f k = true) : (List.range (k + 1)).all f = true := by
 rw [List.range_succ, List.all_append, h1, List.all_cons, h2]; rfl
theorem all_miss {f : Nat → Bool} {k n : Nat} (h : k < n) (h2 : f k = false) : (List.range n).all f = false := by
 rw [Bool.eq_false_iff]
 intro hc
 rw [List.all_eq_true.1 hc k (by simpa using h)] at h2; cases h2
set_option maxRecDepth 100000 in
set_option maxHeartbeats 1000000 in
theorem ralike_any (G : Gr) (p : Option Addr) (c : Nat) (C : List Int) (pc : Option Addr) (d : Nat) (r s : Nat) (w : World) (hin : Sg 3 w edE p G.es) (hC : Sl w (Value.int .i64) pc C) (hv : Vg G) (hn : (C.length : Int) = G.n) :
  Calls Tryz.prog 179 #[(.agg #[.int .i64 G.q, .int .i64 G.n, .slice p G.es.length c]), .slice pc C.length d, .int .i64 r, .int .i64 s] w fun e w' => e = .returned (.bool (alkA G.q.toNat G.es C r s)) ∧ RowKit.Below w.heap.size w w' := by
 obtain ⟨w0, hw0⟩ : ∃ w0, w0 = w.alloc (.cells #[.int .i64 G.q, .int .i64 G.n, .slice p G.es.length c] 24) := ⟨_, rfl⟩
 have b0 : VRow w0 w.heap.size 24 [.int .i64 G.q, .int .i64 G.n, .slice p G.es.length c] := by subst hw0; exact VRow.new w _ _
 have hB0 : RowKit.Below w.heap.size w w0 := by subst hw0; exact (RowKit.Below.refl _ _).alloc (Nat.le_refl _) _
 have HIN := hidI (hin.below hB0); have HC := hidI (hC.below hB0); have HV := hidI hv; have HN := hidI hn
 obtain ⟨Q, hQ⟩ : ∃ Q : Nat, G.q = Q := ⟨G.q.toNat, by have := hv.q1; omega⟩
 have HQ : Hid (G.q.toNat = Q) := by rw [Hid, hQ]; rfl
 have HQ2 := hidI hQ
 have hq2 : Q ≤ 256 := by have := hv.q2; omega
 have zb : w.heap.size < w0.heap.size := b0.lt
 have hlen := HV.out.len
 have hlenC : C.length ≤ 64 := by have := hv.n2; omega
 clear hin hC hv hn hQ
 rw [HQ.out]
 go_enter Tryz.func179, Tryz.ntmps179
 go_wp2
 rw [← hw0]
 clear hw0
 go_loopw [9] (fun iv wr => ∃ k : Nat, k ≤ Q ∧ iv = .int .i64 k ∧ Hid ((List.range k).all (alkB G.es C r s) = true) ∧ RowKit.Below w0.heap.size w0 wr) (fun iv _ => Q - (intOf iv).toNat)
 case atStart => exact ⟨0, by omega, rfl, rfl, RowKit.Below.refl _ _⟩
 case round =>
  obtain ⟨k, hk, rfl, hj, hB⟩ := hrel
  have g0 := (b0.below hB zb).at 0 rfl; have g1 := (b0.below hB zb).at 1 rfl; have g2 := (b0.below hB zb).at 2 rfl
  by_cases hlt : k < Q
  ·have hltk : (k : Int) < G.q := by rw [HQ2.out]; omega
   have hx := tgt_bd HV.out r k
   have hy := tgt_bd HV.out s k
   have HT1 := hidI (fun W h => rtarget_any G p c r k W (HIN.out.below h) (by omega))
   have HT2 := hidI (fun W h => rtarget_any G p c s k W (HIN.out.below h) (by omega))
   have HA : Hid (alkB G.es C r s k = (decide ((tgt G.es r k < 0) ↔ (tgt G.es s k < 0)) && (decide (tgt G.es r k < 0) || decide (cg C (tgt G.es r k) = cg C (tgt G.es s k))))) := rfl
   generalize tgt G.es r k = x at *
   generalize tgt G.es s k = y at *
   go_upto_region 4 with fail
   go_cut [10, 11] (fun u v wx => TwoI wr x y u v wx)
   case first =>
    go_region_held3 (fun w' => w'.cell? ⟨w.heap.size, 0, none⟩ = some (.int .i64 G.q) ∧ w'.cell? ⟨w.heap.size, 1, none⟩ = some (.int .i64 G.n) ∧ w'.cell? ⟨w.heap.size, 2, none⟩ = some (.slice p G.es.length c) ∧ RowKit.Below w0.heap.size w0 w' ∧ RowKit.Below wr.heap.size wr w')
     (first | (go_split_ands; refine ⟨?_, ?_, ?_, ?_, ?_⟩ <;> first | assumption | (go_keep; done) | exact below_dN hB 1 | exact below_dN (RowKit.Below.refl _ _) 1 | exact (hBa.cell (Nat.lt_of_lt_of_le zb (RowKit.Below.size (by assumption)))).trans (by assumption) | exact (hBb.cell (Nat.lt_of_lt_of_le zb (RowKit.Below.size (by assumption)))).trans (by assumption) | exact RowKit.Below.trans (by assumption) (hBa.mono (RowKit.Below.size (by assumption))) | exact RowKit.Below.trans (by assumption) (hBb.mono (RowKit.Below.size (by assumption)))))
     (first
      | (go_at_call 135; go_split_ands; with_reducible refine (HT1.out _ (by assumption)).mono ?_; rintro e wA ⟨rfl, hBa⟩)
      | (go_at_call 135; go_split_ands; with_reducible refine (HT2.out _ (by assumption)).mono ?_; rintro e wB ⟨rfl, hBb⟩))
    all_goals
     go_split_ands
     go_wp2_with fail
     go_meet
     exact ⟨rfl, rfl, by assumption⟩
   case rest =>
    obtain ⟨rfl, rfl, hBc⟩ := hcut
    have hB2 := hB.trans (hBc.mono hB.size)
    have hsz := hB.size
    clear g0 g1 g2 HT1 HT2
    by_cases h1 : x < 0
    ·have d1 : decide (x < 0) = true := decide_eq_true h1
     have d1' : decide (0 ≤ x) = false := decide_eq_false (by omega)
     by_cases h2 : y < 0
     ·have d2 : decide (y < 0) = true := decide_eq_true h2
      have HX : Hid ((List.range (k + 1)).all (alkB G.es C r s) = true) := all_snoc hj.out (by rw [HA.out]; simp [h1, h2])
      clear h1 h2
      go_upto_region 5 with fail
      (refine wp_region_quiet_lit (by kernel_rfl) (by kernel_rfl) ?_; (repeat (first | go_big_quiet_step (fail) | quiet_step (fail))); refine wpQuiet_nil ?_; intro _ hwq; obtain ⟨nq, hwq2⟩ := hwq; subst hwq2)
      go_wp2
      go_roundw
      case rel => exact ⟨k + 1, by omega, by go_num, HX, below_dN hB2 _⟩
      case measure => simp [intOf]; omega
     ·have d2 : decide (y < 0) = false := decide_eq_false h2
      have HX : Hid (alkA Q G.es C r s = false) := all_miss hlt (by rw [HA.out]; simp [h1, h2])
      clear h1 h2
      go_upto_region 5 with fail
      (refine wp_region_quiet_lit (by kernel_rfl) (by kernel_rfl) ?_; (repeat (first | go_big_quiet_step (fail) | quiet_step (fail))); refine wpQuiet_nil ?_; intro _ hwq; obtain ⟨nq, hwq2⟩ := hwq; subst hwq2)
      go_wp2
      go_ret
      exact ⟨ret_bool HX.out.symm, hB0.trans ((below_dN hB2 _).mono hB0.size)⟩
    ·have d1 : decide (x < 0) = false := decide_eq_false h1
     have d1' : decide (0 ≤ x) = true := decide_eq_true (by omega)
     by_cases h2 : y < 0
     ·have d2 : decide (y < 0) = true := decide_eq_true h2
      have HX : Hid (alkA Q G.es C r s = false) := all_miss hlt (by rw [HA.out]; simp [h1, h2])
      clear h1 h2
      go_upto_region 5 with fail
      (refine wp_region_quiet_lit (by kernel_rfl) (by kernel_rfl) ?_; (repeat (first | go_big_quiet_step (fail) | quiet_step (fail))); refine wpQuiet_nil ?_; intro _ hwq; obtain ⟨nq, hwq2⟩ := hwq; subst hwq2)
      go_wp2
      go_ret
      exact ⟨ret_bool HX.out.symm, hB0.trans ((below_dN hB2 _).mono hB0.size)⟩
     ·have d2 : decide (y < 0) = false := decide_eq_false h2
      obtain ⟨X, rfl⟩ : ∃ X : Nat, x = X := ⟨x.toNat, by omega⟩
      obtain ⟨Y, rfl⟩ : ∃ Y : Nat, y = Y := ⟨y.toNat, by omega⟩
      have hX : X < C.length := by have := HN.out; omega
      have hY : Y < C.length := by have := HN.out; omega
      obtain ⟨bc, oc, rfl, hbc, ec⟩ := (HC.out.below (hB2)).get X hX
      have e1 := ec X hX
      have e2 := ec Y hY
      have hXC : (X : Int) < (C.length : Int) := by omega
      have hYC : (Y : Int) < (C.length : Int) := by omega
      have hcx : cg C (X : Int) = C[X] := by unfold cg; rw [Int.toNat_natCast, List.getD_eq_getElem?_getD, List.getElem?_eq_getElem hX]; rfl
      have hcy : cg C (Y : Int) = C[Y] := by unfold cg; rw [Int.toNat_natCast, List.getD_eq_getElem?_getD, List.getElem?_eq_getElem hY]; rfl
      have HCX := hidI hcx; have HCY := hidI hcy
      clear ec hcx hcy
      by_cases h3 : C[X] = C[Y]
      ·have d3 : (C[X] != C[Y]) = false := by simpa using h3
       have HX : Hid ((List.range (k + 1)).all (alkB G.es C r s) = true) := all_snoc hj.out (by rw [HA.out, HCX.out, HCY.out]; simp [h1, h2, h3])
       generalize C[X] = u at *
       generalize C[Y] = v at *
       clear h1 h2 h3
       go_upto_region 5 with fail
       (refine wp_region_quiet_lit (by kernel_rfl) (by kernel_rfl) ?_; (repeat (first | go_big_quiet_step (fail) | quiet_step (fail))); refine wpQuiet_nil ?_; intro _ hwq; obtain ⟨nq, hwq2⟩ := hwq; subst hwq2)
       go_wp2
       go_roundw
       case rel => exact ⟨k + 1, by omega, by go_num, HX, below_dN hB2 _⟩
       case measure => simp [intOf]; omega
      ·have d3 : (C[X] != C[Y]) = true := by simpa using h3
       have HX : Hid (alkA Q G.es C r s = false) := all_miss hlt (by rw [HA.out, HCX.out, HCY.out]; simp [h1, h2, h3])
       generalize C[X] = u at *
       generalize C[Y] = v at *
       clear h1 h2
       go_upto_region 5 with fail
       (refine wp_region_quiet_lit (by kernel_rfl) (by kernel_rfl) ?_; (repeat (first | go_big_quiet_step (fail) | quiet_step (fail))); refine wpQuiet_nil ?_; intro _ hwq; obtain ⟨nq, hwq2⟩ := hwq; subst hwq2)
       go_wp2
       go_ret
       exact ⟨ret_bool HX.out.symm, hB0.trans ((below_dN hB2 _).mono hB0.size)⟩
  ·have hltk : ¬ (k : Int) < G.q := by rw [HQ2.out]; omega
   have HX : Hid (alkA Q G.es C r s = true) := by obtain rfl : k = Q := by omega
                                                  exact hj.out
   go_wp2
   go_ret
   exact ⟨ret_bool HX.out.symm, hB0.trans (hB.mono hB0.size)⟩
end
section
open Go.RowKit Go.Sort
theorem Tab.dr {w w' : World} {base B n q : Nat} {bs : Nat → Nat} {T : Nat → Nat → Int} (h : Tab w base B n q bs T) (hD : Dr w w') : Tab w' base B n q bs T := h.later (hD.below _)
theorem cg_get {C : List Int} {s : Nat} (h : s < C.length) : cg C s = C[s] := by unfold cg; rw [Int.toNat_natCast, List.getD_eq_getElem?_getD, List.getElem?_eq_getElem h]; rfl
theorem Sl.at {α : Type} {w : World} {enc : α → Value} {b off : Nat} {l : List α} (h : Sl w enc (some ⟨b, off, none⟩) l) (k : Nat) (hk : k < l.length) : w.cell? ⟨b, off + k, none⟩ = some (enc l[k]) := by
 obtain ⟨b', o', e, _, hc⟩ := h.get k hk
 cases e
 exact hc k hk
set_option maxRecDepth 100000 in
set_option maxHeartbeats 2000000 in
theorem mpartition1_any (Q n : Nat) (es : List Ed) (C : List Int) (r s bc b1 bg bt B base b2 o2 d : Nat) (bs : Nat → Nat) (w : World) (hn : C.length = n) (hn2 : n ≤ 64) (hq2 : Q ≤ 256) (hr : r < n) (hs : s < n) (ht : ∀ x a : Int, -1 ≤ tgt es x a ∧ (0 ≤ tgt es x a → tgt es x a < n))
  (hc : w.cell? ⟨bc, 0, none⟩ = some (.slice (some ⟨b2, o2, none⟩) n d)) (hC : Sl w (Value.int .i64) (some ⟨b2, o2, none⟩) C) (h1 : w.cell? ⟨b1, 0, none⟩ = some (.int .i64 s)) (hg : w.cell? ⟨bg, 0, none⟩ = some (.int .i64 Q))
  (htc : w.cell? ⟨bt, 0, none⟩ = some (.slice (some ⟨B, 0, none⟩) n n)) (hT : Tab w base B n Q bs (fun s a => tgt es s a)) :
  Calls Tryz.prog 170 #[.int .i64 r, .pointer (some ⟨bc, 0, none⟩), .pointer (some ⟨b1, 0, none⟩), .pointer (some ⟨bg, 0, none⟩), .pointer (some ⟨bt, 0, none⟩)] w fun e w' => e = .returned (.bool (relA Q es C r s)) ∧ Dr w w' := by
 have HT := hidI hT; have HB := hidI ht; have HC := hidI hC; have HN := hidI hn
 have hrl : r < C.length := by omega
 have hsl : s < C.length := by omega
 have er := hC.at r hrl
 have es' := hC.at s hsl
 have hrn : (r : Int) < (n : Int) := by omega
 have hsn : (s : Int) < (n : Int) := by omega
 have HR : Hid (relA Q es C r s = (decide (C[r]'hrl = C[s]'hsl) && alkA Q es C r s)) := by unfold relA; rw [cg_get hrl, cg_get hsl]; rfl
 clear hT ht hC hn
 by_cases h : C[r]'hrl = C[s]'hsl
 ·have d1 : (C[r]'hrl != C[s]'hsl) = false := by simpa using h
  have HR2 : Hid (relA Q es C r s = alkA Q es C r s) := by rw [Hid, HR.out, decide_eq_true h]; rfl
  generalize C[r]'hrl = cr at *
  generalize C[s]'hsl = cs at *
  clear h
  go_enter Tryz.func170, Tryz.ntmps170
  go_upto_region 1 with fail
  (refine wp_region_quiet_lit (by kernel_rfl) (by kernel_rfl) ?_; (repeat (first | go_big_quiet_step (fail) | quiet_step (fail))); refine wpQuiet_nil ?_; intro _ hwq; obtain ⟨nq, hwq2⟩ := hwq; subst hwq2)
  have hD0 : Dr w (w.drewN nq) := ⟨nq, rfl⟩
  go_wp2
  clear er es'
  go_loopw [21] (fun iv wr => ∃ k : Nat, k ≤ Q ∧ iv = .int .i64 k ∧ Hid ((List.range k).all (alkB es C r s) = true) ∧ Dr w wr) (fun iv _ => Q - (intOf iv).toNat)
  case atStart => exact ⟨0, by omega, rfl, rfl, hD0⟩
  case round =>
   clear hD0
   obtain ⟨k, hk, rfl, hj, hD⟩ := hrel
   by_cases hlt : k < Q
   ·have hltk : (k : Int) < (Q : Int) := by omega
    have hx := HB.out r k
    have hy := HB.out s k
    have tW := HT.out.dr hD
    have hh1 := tW.hd.at r (map_range_get hr)
    have hh2 := tW.hd.at s (map_range_get hs)
    have hr1 := (tW.row r hr).at k (map_range_get hlt)
    have hr2 := (tW.row s hs).at k (map_range_get hlt)
    unfold hdV at hh1 hh2
    simp only [rowV] at hr1 hr2
    have hc' := (hD.cell _).trans hc
    have h1' := (hD.cell _).trans h1
    have htc' := (hD.cell _).trans htc
    have hCW := HC.out.dr hD
    have HA : Hid (alkB es C r s k = (decide ((tgt es r k < 0) ↔ (tgt es s k < 0)) && (decide (tgt es r k < 0) || decide (cg C (tgt es r k) = cg C (tgt es s k))))) := rfl
    clear tW
    generalize tgt es r k = x at *
    generalize tgt es s k = y at *
    go_upto_region 6 with fail
    (refine wp_region_quiet_lit (by kernel_rfl) (by kernel_rfl) ?_; (repeat (first | go_big_quiet_step (fail) | quiet_step (fail))); refine wpQuiet_nil ?_; intro _ hwq; obtain ⟨nq, hwq2⟩ := hwq; subst hwq2)
    clear hh1 hh2 hr1 hr2 htc' h1'
    by_cases h1 : x < 0
    ·have ex : x = -1 := by omega
     subst ex
     by_cases h2 : y < 0
     ·have ey : y = -1 := by omega
      subst ey
      have HX : Hid ((List.range (k + 1)).all (alkB es C r s) = true) := all_snoc hj.out (by rw [HA.out]; simp)
      clear h1 h2
      go_upto_region 7 with fail
      (refine wp_region_quiet_lit (by kernel_rfl) (by kernel_rfl) ?_; (repeat (first | go_big_quiet_step (fail) | quiet_step (fail))); refine wpQuiet_nil ?_; intro _ hwq; obtain ⟨nq, hwq2⟩ := hwq; subst hwq2)
      go_wp2
      go_roundw
      case rel => exact ⟨k + 1, by omega, by go_num, HX, hD.one _⟩
      case measure => simp [intOf]; omega
     ·have d2 : (y == -1) = false := by simp; omega
      have HX : Hid (alkA Q es C r s = false) := all_miss hlt (by rw [HA.out]; simp [h2])
      clear h1 h2
      go_upto_region 7 with fail
      (refine wp_region_quiet_lit (by kernel_rfl) (by kernel_rfl) ?_; (repeat (first | go_big_quiet_step (fail) | quiet_step (fail))); refine wpQuiet_nil ?_; intro _ hwq; obtain ⟨nq, hwq2⟩ := hwq; subst hwq2)
      go_wp2
      go_ret
      exact ⟨ret_bool (HR2.out.trans HX.out).symm, (hD.one _).one _⟩
    ·have d1 : (x == -1) = false := by simp; omega
     have d1' : (x != -1) = true := by simp; omega
     by_cases h2 : y < 0
     ·have ey : y = -1 := by omega
      subst ey
      have HX : Hid (alkA Q es C r s = false) := all_miss hlt (by rw [HA.out]; simp [h1])
      clear h1 h2
      go_upto_region 7 with fail
      (refine wp_region_quiet_lit (by kernel_rfl) (by kernel_rfl) ?_; (repeat (first | go_big_quiet_step (fail) | quiet_step (fail))); refine wpQuiet_nil ?_; intro _ hwq; obtain ⟨nq, hwq2⟩ := hwq; subst hwq2)
      go_wp2
      go_ret
      exact ⟨ret_bool (HR2.out.trans HX.out).symm, (hD.one _).one _⟩
     ·have d2 : (y == -1) = false := by simp; omega
      obtain ⟨X, rfl⟩ : ∃ X : Nat, x = X := ⟨x.toNat, by omega⟩
      obtain ⟨Y, rfl⟩ : ∃ Y : Nat, y = Y := ⟨y.toNat, by omega⟩
      have hX : X < C.length := by have := HN.out; omega
      have hY : Y < C.length := by have := HN.out; omega
      have e1 := hCW.at X hX
      have e2 := hCW.at Y hY
      have hXC : (X : Int) < (n : Int) := by omega
      have hYC : (Y : Int) < (n : Int) := by omega
      have HCX := hidI (cg_get hX); have HCY := hidI (cg_get hY)
      by_cases h3 : C[X] = C[Y]
      ·have d3 : (C[X] != C[Y]) = false := by simpa using h3
       have HX : Hid ((List.range (k + 1)).all (alkB es C r s) = true) := all_snoc hj.out (by rw [HA.out, HCX.out, HCY.out]; simp [h1, h2, h3])
       generalize C[X] = u at *
       generalize C[Y] = v at *
       clear h1 h2 h3
       go_upto_region 7 with fail
       (refine wp_region_quiet_lit (by kernel_rfl) (by kernel_rfl) ?_; (repeat (first | go_big_quiet_step (fail) | quiet_step (fail))); refine wpQuiet_nil ?_; intro _ hwq; obtain ⟨nq, hwq2⟩ := hwq; subst hwq2)
       go_wp2
       go_roundw
       case rel => exact ⟨k + 1, by omega, by go_num, HX, hD.one _⟩
       case measure => simp [intOf]; omega
      ·have d3 : (C[X] != C[Y]) = true := by simpa using h3
       have HX : Hid (alkA Q es C r s = false) := all_miss hlt (by rw [HA.out, HCX.out, HCY.out]; simp [h1, h2, h3])
       generalize C[X] = u at *
       generalize C[Y] = v at *
       clear h1 h2
       go_upto_region 7 with fail
       (refine wp_region_quiet_lit (by kernel_rfl) (by kernel_rfl) ?_; (repeat (first | go_big_quiet_step (fail) | quiet_step (fail))); refine wpQuiet_nil ?_; intro _ hwq; obtain ⟨nq, hwq2⟩ := hwq; subst hwq2)
       go_wp2
       go_ret
       exact ⟨ret_bool (HR2.out.trans HX.out).symm, (hD.one _).one _⟩
   ·have hltk : ¬ (k : Int) < (Q : Int) := by omega
    have HX : Hid (alkA Q es C r s = true) := by obtain rfl : k = Q := by omega
                                                 exact hj.out
    go_wp2
    go_ret
    exact ⟨ret_bool (HR2.out.trans HX.out).symm, hD⟩
 ·have d1 : (C[r]'hrl != C[s]'hsl) = true := by simpa using h
  have HR2 : Hid (relA Q es C r s = false) := by rw [Hid, HR.out, decide_eq_false h]; rfl
  generalize C[r]'hrl = cr at *
  generalize C[s]'hsl = cs at *
  clear h
  go_enter Tryz.func170, Tryz.ntmps170
  go_upto_region 1 with fail
  (refine wp_region_quiet_lit (by kernel_rfl) (by kernel_rfl) ?_; (repeat (first | go_big_quiet_step (fail) | quiet_step (fail))); refine wpQuiet_nil ?_; intro _ hwq; obtain ⟨nq, hwq2⟩ := hwq; subst hwq2)
  go_wp2
  go_ret
  exact ⟨ret_bool HR2.out.symm, ⟨nq, rfl⟩⟩
end
section
open Go.RowKit Go.Sort
theorem idxFrom_or {α : Type} [Inhabited α] (p : α → Bool) (d : α) : ∀ (zs : List α) (i : Nat), (∃ k, ∃ h : k < zs.length, p zs[k] = true ∧ Lib.idxByFrom (fun _ y => p y) d zs i = ((i + k : Nat) : Int)) ∨ ((∀ k (h : k < zs.length), p zs[k] = false) ∧ Lib.idxByFrom (fun _ y => p y) d zs i = -1)
 | [], i => .inr ⟨fun k h => absurd h (by simp), rfl⟩
 | y :: zs, i => by
  cases h : p y
  ·rcases idxFrom_or p d zs (i + 1) with ⟨k, hk, h1, h2⟩ | ⟨h1, h2⟩
   ·refine .inl ⟨k + 1, by simpa using hk, by simpa using h1, ?_⟩
    rw [Lib.idxByFrom, h]
    simp only [Bool.false_eq_true, if_false]
    rw [h2]; congr 1; omega
   ·refine .inr ⟨fun k hk => ?_, ?_⟩
    ·cases k with
     | zero => exact h
     | succ k => simpa using h1 k (by simpa using hk)
    ·rw [Lib.idxByFrom, h]; simp only [Bool.false_eq_true, if_false]; exact h2
  ·refine .inl ⟨0, by simp, h, ?_⟩
   rw [Lib.idxByFrom, h]; simp
theorem idx_num {R : Nat → Nat → Bool} (hE : Eqv R) (s : Nat) (p : Nat → Bool) (hp : ∀ y ∈ frsR R s, p y = R y s) :
  (fstR R s = false ∧ Lib.idxBy (fun _ y => p y) (frsR R s) default = numR R s ∧ 0 ≤ numR R s) ∨ (fstR R s = true ∧ Lib.idxBy (fun _ y => p y) (frsR R s) default = -1 ∧ numR R s = ((frsR R s).length : Int)) := by
 rcases idxFrom_or p default (frsR R s) 0 with ⟨k, hk, h1, h2⟩ | ⟨h1, h2⟩
 ·rw [hp _ (List.getElem_mem hk)] at h1
  obtain ⟨h3, h4⟩ := numR_old hE hk h1
  exact .inl ⟨h3, by rw [h4]; unfold Lib.idxBy; rw [h2]; congr 1; omega, by rw [h4]; omega⟩
 ·obtain ⟨h3, h4⟩ := numR_none hE (fun k hk => by rw [← hp _ (List.getElem_mem hk)]; exact h1 k hk)
  exact .inr ⟨h3, h2, h4⟩
def nowV (R : Nat → Nat → Bool) (N s : Nat) : List Value := ((List.range s).map (numR R) ++ List.replicate (N - s) 0).map (Value.int .i64)
theorem nowV_zero (R : Nat → Nat → Bool) (N : Nat) : nowV R N 0 = List.replicate N (.int .i64 0) := by simp [nowV]
theorem nowV_get (R : Nat → Nat → Bool) {N s : Nat} (h : s < N) : (nowV R N s)[s]? = some (.int .i64 0) := by
 unfold nowV
 rw [List.getElem?_map, List.getElem?_append_right (by simp), List.getElem?_replicate]
 simp; omega
theorem nowV_set (R : Nat → Nat → Bool) {N s : Nat} (h : s < N) : (nowV R N s).set s (.int .i64 (numR R s)) = nowV R N (s + 1) := by
 unfold nowV
 obtain ⟨m, hm⟩ : ∃ m, N - s = m + 1 := ⟨N - s - 1, by omega⟩
 rw [hm, show N - (s + 1) = m by omega, List.range_succ, List.replicate_succ, List.map_append, List.set_append_right _ _ (by simp), List.length_map, List.length_map, List.length_range, Nat.sub_self]
 simp
theorem nowV_end (R : Nat → Nat → Bool) (N : Nat) : nowV R N N = ((List.range N).map (numR R)).map (Value.int .i64) := by simp [nowV]
structure Pcx (G : Gr) (p : Option Addr) (c : Nat) (gb bt bc B b2 base N Q : Nat) (bs : Nat → Nat) (C : List Int) (w : World) : Prop where
 g : VRow w gb 24 [.int .i64 Q, .int .i64 N, .slice p G.es.length c]
 t : VRow w bt 72 [.slice (some ⟨B, 0, none⟩) N N]
 T : Tab w base B N Q bs (fun s a => tgt G.es s a)
 c : VRow w bc 30 [.slice (some ⟨b2, 0, none⟩) N N]
 r : VRow w b2 3 (C.map (Value.int .i64))
 n1 : bc ≠ gb
 n2 : bc ≠ bt
 n3 : bc ≠ B
 n4 : ∀ s, s < N → bs s ≠ bc
 n5 : b2 ≠ bc
section
variable {G : Gr} {p : Option Addr} {c gb bt bc B b2 base N Q : Nat} {bs : Nat → Nat} {C : List Int} {w w' : World}
theorem Pcx.later (h : Pcx G p c gb bt bc B b2 base N Q bs C w) (hB : RowKit.Below w.heap.size w w') : Pcx G p c gb bt bc B b2 base N Q bs C w' :=
 ⟨h.g.below hB h.g.lt, h.t.below hB h.t.lt, h.T.later hB, h.c.below hB h.c.lt, h.r.below hB h.r.lt, h.n1, h.n2, h.n3, h.n4, h.n5⟩
theorem Pcx.turn {C' : List Int} {b3 : Nat} (h : Pcx G p c gb bt bc B b2 base N Q bs C w) (hr : VRow w b3 3 (C'.map (Value.int .i64))) (hn : b3 ≠ bc) :
  Pcx G p c gb bt bc B b3 base N Q bs C' (w.setCell ⟨bc, 0, none⟩ (.slice (some ⟨b3, 0, none⟩) N N)) :=
 ⟨h.g.other _ (Ne.symm h.n1), h.t.other _ (Ne.symm h.n2), ⟨h.T.hd.other _ (Ne.symm h.n3), fun s hs => (h.T.row s hs).other _ (h.n4 s hs), h.T.inj, h.T.lo, h.T.ne⟩, h.c.set (i := 0) _, hr.other _ hn, h.n1, h.n2, h.n3, h.n4, hn⟩
end
theorem cell_al {w : World} {b i : Nat} {v : Value} (o : Obj) (h : w.cell? ⟨b, i, none⟩ = some v) : (w.alloc o).cell? ⟨b, i, none⟩ = some v :=
 (((RowKit.Below.refl _ _).alloc (Nat.le_refl _) o).cell (p := ⟨b, i, none⟩) (World.block_lt_of_cell? w _ h)).trans h
theorem own_snoc {w : World} {B e n s : Nat} {v : Value} {R : Nat → Nat → Bool} (h : w.ownsRow B e 1 v (n + 1) ((frsR R s).map (fun (x : Nat) => Value.int .i64 (x : Int)) ++ [.int .i64 (s : Int)])) (hf : frsR R (s + 1) = frsR R s ++ [s]) :
  ∃ q d, v = .slice q (frsR R (s + 1)).length d ∧ w.ownsRow B e 1 (.slice q (frsR R (s + 1)).length d) (frsR R (s + 1)).length ((frsR R (s + 1)).map (fun (x : Nat) => Value.int .i64 (x : Int))) := by
 have e1 : (frsR R s).map (fun (x : Nat) => Value.int .i64 (x : Int)) ++ [.int .i64 (s : Int)] = (frsR R (s + 1)).map (fun (x : Nat) => Value.int .i64 (x : Int)) := by rw [hf, List.map_append]; rfl
 rw [e1] at h
 have hn : (frsR R (s + 1)).length = n + 1 := by have := h.1; simpa using this
 obtain ⟨q, d, rfl, _⟩ := own_sl (enc := fun (x : Nat) => Value.int .i64 (x : Int)) h
 refine ⟨q, d, rfl, ?_⟩
 rw [← hn] at h; exact h
def encM (N : Nat) (x : Nat) : Value := .int .i64 ((x % N : Nat) : Int)
def frsV (R : Nat → Nat → Bool) (s : Nat) : List Value := (frsR R s).map (fun (x : Nat) => Value.int .i64 (x : Int))
set_option maxHeartbeats 1000000 in
theorem indexI_frs {G : Gr} {p : Option Addr} {c gb bt bc B b2 base N Q : Nat} {bs : Nat → Nat} {C : List Int} {W : World} (hP : Pcx G p c gb bt bc B b2 base N Q bs C W) (hC : C.length = N) (hN : N ≤ 64) (hQ : Q ≤ 256) (ht : ∀ x a : Int, -1 ≤ tgt G.es x a ∧ (0 ≤ tgt G.es x a → tgt G.es x a < N))
  {s sb B1 : Nat} {fv : Value} (hs : s < N) (hb : W.cell? ⟨sb, 0, none⟩ = some (.int .i64 s)) (hown : W.ownsRow B1 3 1 fv (frsR (relA Q G.es C) s).length (frsV (relA Q G.es C) s)) :
  Calls Tryz.prog 169 #[fv, .func (.func 170) #[] #[.pointer (some ⟨bc, 0, none⟩), .pointer (some ⟨sb, 0, none⟩), .pointer (some ⟨gb, 0, none⟩), .pointer (some ⟨bt, 0, none⟩)]] W fun e w' =>
   e = .returned (.int .i64 (if fstR (relA Q G.es C) s = true then -1 else numR (relA Q G.es C) s)) ∧ Dr W w' := by
 have hE := relA_eqv Q G.es C
 have hmod : ∀ y ∈ frsR (relA Q G.es C) s, y % N = y := fun y hy => Nat.mod_eq_of_lt (by have := (mem_frsR.1 hy).1; omega)
 have hidx := idx_num hE s (fun y => relA Q G.es C (y % N) s) (fun y hy => by rw [hmod y hy])
 rcases hown.2 with ⟨rfl, h0⟩ | ⟨g, cap, cur, rfl, hg, hh, hc, hm, hsz, htk⟩
 ·have he : frsR (relA Q G.es C) s = [] := List.length_eq_zero_iff.1 h0
  rw [he] at hidx
  refine (Tryz.slices_IndexFunc_empty_f169 (α := Nat) none 0 _ W).mono ?_
  rintro e w' ⟨rfl, rfl⟩
  refine ⟨?_, Dr.refl _⟩
  rcases hidx with ⟨_, h2, h3⟩ | ⟨h1, _, _⟩
  ·exfalso
   have : Lib.idxBy (fun _ y => relA Q G.es C (y % N) s) ([] : List Nat) default = -1 := rfl
   omega
  ·rw [if_pos h1]
 ·have eg : ∀ args w, (callFunc 170 args).run Tryz.prog w = .ok (.enter 170 args) w := enters_of Tryz.func170 (by kernel_rfl) rfl
  have hcell : ∀ j, j < (frsR (relA Q G.es C) s).length → W.cell? ⟨g, 0 + j, none⟩ = some (encM N (frsR (relA Q G.es C) s)[j]!) := by
   intro j hj
   rw [Nat.zero_add, hown.cellAt j (by omega), getElem!_pos _ j hj]
   unfold encM
   rw [hmod _ (List.getElem_mem hj)]
   simp [frsV, hj]
  have hp : PredAt Tryz.prog 170 #[.pointer (some ⟨bc, 0, none⟩), .pointer (some ⟨sb, 0, none⟩), .pointer (some ⟨gb, 0, none⟩), .pointer (some ⟨bt, 0, none⟩)] (encM N) (fun y => relA Q G.es C (y % N) s) W := fun W' x hB => by
   have hP' := hP.later hB
   exact mpartition1_any Q N G.es C (x % N) s bc sb gb bt B base b2 0 N bs W' hC hN hQ (Nat.mod_lt _ (by omega)) hs ht (hP'.c.at 0 rfl) (Sl.of_vrow hP'.r) ((hB.cell (World.block_lt_of_cell? W _ hb)).trans hb) (hP'.g.at 0 rfl) (hP'.t.at 0 rfl) hP'.T
  have hlen := frsR_len (relA Q G.es C) s
  refine (Tryz.slices_IndexFunc_f169 (encM N) (fun y => relA Q G.es C (y % N) s) 170 _ eg g 0 (frsR (relA Q G.es C) s).length cap (frsR (relA Q G.es C) s) W hp (Nat.le_refl _) (by omega) hcell).mono ?_
  rintro e w' ⟨rfl, hq⟩
  refine ⟨?_, hq⟩
  rw [List.take_length]
  rcases hidx with ⟨h1, h2, h3⟩ | ⟨h1, h2, h3⟩
  ·rw [if_neg (by simp [h1]), h2]
  ·rw [if_pos h1, h2]
set_option maxRecDepth 100000 in
set_option maxHeartbeats 4000000 in
theorem mpartition_any (G : Gr) (p : Option Addr) (c : Nat) (w : World) (hin : Sg 3 w edE p G.es) (hv : Vg G) (hu : Uq G.es) :
  Calls Tryz.prog 114 #[(.agg #[.int .i64 G.q, .int .i64 G.n, .slice p G.es.length c])] w fun e w' => ∃ b, e = .returned (.slice (some ⟨b, 0, none⟩) (clA G).length (clA G).length) ∧ w.heap.size ≤ b ∧ VRow w' b 3 ((clA G).map (Value.int .i64)) ∧ RowKit.Below w.heap.size w w' := by
 obtain ⟨i0, hi0, hz0, hz1, hz3⟩ := info_parts infoJ
 have HV := hidI hv; have HU := hidI hu; have HIN0 := hidI hin
 obtain ⟨N, hN⟩ : ∃ N : Nat, G.n = N := ⟨G.n.toNat, by have := hv.n1; omega⟩
 obtain ⟨Q, hQ⟩ : ∃ Q : Nat, G.q = Q := ⟨G.q.toNat, by have := hv.q1; omega⟩
 have hN64 : N ≤ 64 := by have := hv.n2; omega
 have hQ256 : Q ≤ 256 := by have := hv.q2; omega
 have HCL : Hid (clA G = clsN Q N G.es N) := by unfold Hid clA; rw [hN, hQ]; rfl
 have hlcl : (clA G).length = N := by rw [HCL.out, clsN_len]
 have HTB : Hid (∀ x a : Int, -1 ≤ tgt G.es x a ∧ (0 ≤ tgt G.es x a → tgt G.es x a < N)) := fun x a => by have := tgt_bd hv x a; rw [hN] at this; exact this
 have HOF := hidI (fun W (hW : Sg 3 W edE p G.es) => mof_any G p c Q W hW hv hu (by omega) hQ256)
 rw [hN, hQ] at HOF
 have HOF : Hid (∀ W, Sg 3 W edE p G.es → Calls Tryz.prog 55 #[.agg #[.int .i64 (Q : Int), .int .i64 (N : Int), .slice p G.es.length c], .int .i64 Q] W (RetTab N Q (fun s a => tgt G.es s a) W)) := HOF
 rw [hlcl, hN, hQ]
 obtain ⟨w0, hw0⟩ : ∃ w0, w0 = w.alloc (.cells #[.int .i64 (Q : Int), .int .i64 (N : Int), .slice p G.es.length c] 24) := ⟨_, rfl⟩
 have b0 : VRow w0 w.heap.size 24 [.int .i64 (Q : Int), .int .i64 (N : Int), .slice p G.es.length c] := by subst hw0; exact VRow.new w _ _
 have hB0 : RowKit.Below w.heap.size w w0 := by subst hw0; exact (RowKit.Below.refl _ _).alloc (Nat.le_refl _) _
 have zb : w.heap.size < w0.heap.size := b0.lt
 clear hin hv hu hN hQ hlcl
 go_enter Tryz.func114, Tryz.ntmps114
 go_upto_region 1 with fail
 rw [← hw0]
 clear hw0
 have g0 := b0.at 0 rfl; have g1 := b0.at 1 rfl; have g2 := b0.at 2 rfl
 go_wp2_with fail
 refine (HOF.out w0 (HIN0.out.below hB0)).mono ?_
 rintro e w1 ⟨B, bs, rfl, hT, hB1⟩
 have r1 := b0.below hB1 zb
 clear g0 g1 g2 b0
 obtain ⟨w2, hw2⟩ : ∃ w2, w2 = w1.alloc (.cells #[.slice (some ⟨B, 0, none⟩) N N] 72) := ⟨_, rfl⟩
 have t2 : VRow w2 w1.heap.size 72 [.slice (some ⟨B, 0, none⟩) N N] := by subst hw2; exact VRow.new w1 _ _
 have hB2 : RowKit.Below w1.heap.size w1 w2 := by subst hw2; exact (RowKit.Below.refl _ _).alloc (Nat.le_refl _) _
 have hT2 := hT.later hB2
 have r2 := r1.below hB2 r1.lt
 have g1 := r2.at 1 rfl
 rw [hw2] at g1
 have hsz1 := hB1.size
 have hne1 : w.heap.size ≠ w1.heap.size := by omega
 have hTlt : B < w1.heap.size := hT.hd.lt
 have hTbs : ∀ s, s < N → bs s < w1.heap.size := fun s hs => (hT.row s hs).lt
 have y1 := hB0.trans (hB1.mono hB0.size)
 have y2 := y1.trans (hB2.mono y1.size)
 have hs2 : w2.heap.size = w1.heap.size + 1 := by subst hw2; simp
 go_wp2_with (at_make; refine wpList_make_full _ rfl _ _ 30 rfl w1.heap.size 3 i0 (.int .i64 0) 1 Tryz.underlying30 hi0 hz0 hz1 .i64 .i64 _ _ N rfl rfl (by omega) (by omega) (by rw [hz3]; omega) (by unfold maxLen; omega) (by simp) ?_; intro w3 hown hgrow; have gA := hgrow.cell g1 (by simp); have gB := cell_al (.cells #[.slice (some ⟨w1.heap.size + 1, 0, none⟩) N N] 30) gA)
 have hgr : w2.grownBy w3 none := by rw [hw2]; exact hgrow
 have hB3 : RowKit.Below w2.heap.size w2 w3 := (RowKit.Below.refl _ _).grown hgr (Nat.le_refl _) (by simp)
 have hr3 := made_rowJ hown
 rw [World.size_alloc] at hr3
 have hB4 : RowKit.Below w3.heap.size w3 (w3.alloc (.cells #[.slice (some ⟨w1.heap.size + 1, 0, none⟩) N N] 30)) := (RowKit.Below.refl _ _).alloc (Nat.le_refl _) _
 have c4 : VRow (w3.alloc (.cells #[.slice (some ⟨w1.heap.size + 1, 0, none⟩) N N] 30)) w3.heap.size 30 [.slice (some ⟨w1.heap.size + 1, 0, none⟩) N N] := VRow.new w3 _ _
 have hb3 : w1.heap.size + 1 < w3.heap.size := hr3.lt
 have hP : Pcx G p c w.heap.size w1.heap.size w3.heap.size B (w1.heap.size + 1) w0.heap.size N Q bs (clsN Q N G.es 0) (w3.alloc (.cells #[.slice (some ⟨w1.heap.size + 1, 0, none⟩) N N] 30)) :=
  ⟨(r2.below hB3 r2.lt).below hB4 (by omega), (t2.below hB3 t2.lt).below hB4 (by omega), (hT2.later hB3).later hB4, c4, by have := hr3.below hB4 hr3.lt; simpa [clsN] using this, by omega, by omega, by omega, fun s hs => by have := hTbs s hs; omega, by omega⟩
 have y3 := y2.trans (hB3.mono y2.size)
 have y4 := y3.trans (hB4.mono y3.size)
 generalize w3.alloc (.cells #[.slice (some ⟨w1.heap.size + 1, 0, none⟩) N N] 30) = w4 at *
 have hbase : w.heap.size ≤ w3.heap.size := y3.size
 have hb20 : w.heap.size ≤ w1.heap.size + 1 := by omega
 clear hown hgrow gA gB g1 hgr hB3 hr3 hB4 c4 hT2 r2 t2 hT r1 hB2 hw2 hs2 y1 y2 y3
 generalize w1.heap.size + 1 = b20 at *
 generalize w1.heap.size = bt at *
 generalize w3.heap.size = bc at *
 obtain ⟨gb, hgb⟩ : ∃ gb, gb = w.heap.size := ⟨_, rfl⟩
 rw [← hgb] at hP ⊢
 clear hgb
 go_loopw [5] (fun nv wr => ∃ (k b2 : Nat), nv = .int .i64 (mcA N (clsN Q N G.es k) : Nat) ∧ k ≤ mcA N (clsN Q N G.es k) ∧ Pcx G p c gb bt bc B b2 w0.heap.size N Q bs (clsN Q N G.es k) wr ∧ w.heap.size ≤ b2 ∧ RowKit.Below w.heap.size w wr) (fun nv _ => N - (intOf nv).toNat)
 case atStart => exact ⟨0, b20, by rw [mcA_zero]; congr 1; omega, Nat.zero_le _, hP, by omega, y4⟩
 case round =>
  clear hP y4
  obtain ⟨k, b2, rfl, hk, hP, hb2, hB⟩ := hrel
  have hmc := mcA_max (n := N) (clsN Q N G.es k)
  have HSM := hidI (@cls_same Q N G.es k)
  have HMS := hidI (@mcA_succ Q N G.es k)
  have HEND := hidI (fun h => @cls_end Q N G.es k hk h)
  have HMO := hidI (fun h => @cls_more Q N G.es k hk h)
  have hCl := @clsN_len Q N G.es k
  have HC1 : Hid (clsN Q N G.es (k + 1) = (List.range N).map (numR (relA Q G.es (clsN Q N G.es k)))) := rfl
  have gx := hP.g.at 1 rfl
  obtain ⟨wo, rfl⟩ : ∃ wo : World, wo = wr := ⟨_, rfl⟩
  go_wp2_with (at_make; refine wpList_make_full _ rfl _ _ 30 rfl wo.heap.size 3 i0 (.int .i64 0) 1 Tryz.underlying30 hi0 hz0 hz1 .i64 .i64 _ _ N rfl rfl (by omega) (by omega) (by rw [hz3]; omega) (by unfold maxLen; omega) (Nat.le_refl _) ?_; intro w5 hown hgrow)
  have hr5 := made_rowJ hown
  have hB5 : RowKit.Below wo.heap.size wo w5 := (RowKit.Below.refl _ _).grown hgrow (Nat.le_refl _) (by simp)
  have hlt5 := hr5.lt
  clear hown hgrow gx
  rw [← nowV_zero (relA Q G.es (clsN Q N G.es k)) N] at hr5
  generalize hCC : clsN Q N G.es k = C at *
  go_loopw [6, 25] (fun fv iv wx => ∃ (s : Nat) (q : Option Addr) (d : Nat), s ≤ N ∧ iv = .int .i64 s ∧ fv = .slice q (frsR (relA Q G.es C) s).length d ∧ wx.ownsRow w5.heap.size 3 1 (.slice q (frsR (relA Q G.es C) s).length d) (frsR (relA Q G.es C) s).length (frsV (relA Q G.es C) s) ∧ VRow wx wo.heap.size 3 (nowV (relA Q G.es C) N s) ∧ RowKit.Below wo.heap.size wo wx ∧ w5.heap.size ≤ wx.heap.size) (fun _ iv _ => N - (intOf iv).toNat)
  case atStart => exact ⟨0, none, 0, by omega, rfl, rfl, World.ownsRow_nil _ _ _ _, hr5, hB5, Nat.le_refl _⟩
  case round =>
   clear hr5 hB5
   obtain ⟨s, q, d, hs, rfl, rfl, hown, hrow, hBx, hsz⟩ := hrel
   by_cases hlt : s < N
   ·have hltI : (s : Int) < (N : Int) := by omega
    have hPx := hP.later hBx
    have hBY : RowKit.Below wr.heap.size wr (wr.alloc (.cells #[.int .i64 s] 3)) := (RowKit.Below.refl _ _).alloc (Nat.le_refl _) _
    have hbx : VRow (wr.alloc (.cells #[.int .i64 s] 3)) wr.heap.size 3 [.int .i64 s] := VRow.new wr _ _
    have HIF := hidI (indexI_frs (hPx.later hBY) hCl hN64 hQ256 HTB.out hlt (hbx.at 0 rfl) (hown.alloc (.cells #[.int .i64 s] 3)))
    have hownY := hown.alloc (.cells #[.int .i64 s] 3)
    have hrowY := hrow.alloc (.cells #[.int .i64 s] 3)
    have hBxY := hBx.trans (hBY.mono hBx.size)
    have hszY : w5.heap.size ≤ (wr.alloc (.cells #[.int .i64 s] 3)).heap.size := Nat.le_trans hsz hBY.size
    have hnb := numR_bd (relA_eqv Q G.es C) s N hlt
    have hfl := frsR_len (relA Q G.es C) N
    have hfs0 := frsR_len (relA Q G.es C) s
    have HGO := hidI (@frsR_go (relA Q G.es C) s)
    have HST := hidI (@frsR_stay (relA Q G.es C) s)
    have HSET := hidI (nowV_set (relA Q G.es C) hlt)
    have HGET := hidI (nowV_get (relA Q G.es C) hlt)
    have HNEW := hidI (@numR_new (relA Q G.es C) s)
    have hjl : ∀ j, (Value.slice q (frsR (relA Q G.es C) s).length d).ownBlock = some j → j < wr.heap.size := fun j e => (hown.lt j e).2
    obtain ⟨wy, hwy⟩ : ∃ wy, wy = wr.alloc (.cells #[.int .i64 s] 3) := ⟨_, rfl⟩
    obtain ⟨yb, hyb⟩ : ∃ yb, yb = wr.heap.size := ⟨_, rfl⟩
    rw [← hwy, ← hyb] at HIF hbx
    rw [← hyb] at hjl
    rw [← hwy] at hownY hrowY hBxY hszY
    clear hown hrow hBx hsz hPx hBY
    go_wp2_with fail
    rw [← hwy, ← hyb]
    clear hwy hyb
    refine HIF.out.mono ?_
    rintro e w7 ⟨rfl, hD⟩
    have hown7 := hownY.dr hD
    have hrow7 := hrowY.dr hD
    have hB7 := hBxY.trans (hD.below _)
    have hsz7 : w5.heap.size ≤ w7.heap.size := by rw [hD.size]; exact hszY
    have hbx7 := (hbx.dr hD).at 0 rfl
    have hlow : wo.heap.size < w5.heap.size := hlt5
    clear hownY hrowY hBxY hszY hbx hD HIF
    cases hfs : fstR (relA Q G.es C) s
    ·have HF2 := hidI (HST.out hfs)
     rw [if_neg (by simp)]
     generalize hm : numR (relA Q G.es C) s = m at *
     have hc7 := hrow7.at s HGET.out
     have hf7 := hrow7.frozen s
     have hm0 : ¬ m < 0 := by omega
     clear hfs hm
     go_wp2
     go_roundw
     case rel =>
      refine ⟨s + 1, q, d, by omega, by go_num, by rw [HF2.out], ?_, ?_, hB7.setCell (p := ⟨wo.heap.size, s, none⟩) (Nat.le_refl _) _, by rw [World.size_setCell]; exact hsz7⟩
      ·unfold frsV at hown7 ⊢
       rw [HF2.out]
       exact ownsRow_setCell_below (a := ⟨wo.heap.size, s, none⟩) hown7 hlow _
      ·rw [← HSET.out]; exact hrow7.set (i := s) _
     case measure => simp [intOf]; omega
    ·have HF2 := hidI (HGO.out hfs)
     have HNW := hidI (HNEW.out hfs)
     rw [if_pos rfl]
     have hnew := cell_one_new w7 (.int .i64 (s : Int)) 3
     have hown8 := hown7.alloc (.cells #[.int .i64 (s : Int)] 3)
     have hc7 := hrow7.at s HGET.out
     have hf7 := hrow7.frozen s
     have hal : RowKit.Below w7.heap.size w7 (w7.alloc (.cells #[.int .i64 (s : Int)] 3)) := (RowKit.Below.refl _ _).alloc (Nat.le_refl _) _
     have hrow8 := hrow7.alloc (.cells #[.int .i64 (s : Int)] 3)
     have hbx8 := cell_al (.cells #[.int .i64 (s : Int)] 3) hbx7
     have hB8 := hB7.trans (hal.mono hB7.size)
     clear hfs
     have HGR : Hid (∀ w9, (w7.alloc (.cells #[.int .i64 (s : Int)] 3)).grownBy w9 (Value.slice q (frsR (relA Q G.es C) s).length d).ownBlock → VRow w9 wo.heap.size 3 (nowV (relA Q G.es C) N s) ∧ RowKit.Below wo.heap.size wo w9 ∧ w5.heap.size ≤ w9.heap.size) := fun w9 hg => by
      have hne : some wo.heap.size ≠ (Value.slice q (frsR (relA Q G.es C) s).length d).ownBlock := fun h => by have := (hown8.lt _ h.symm).1; omega
      exact ⟨hrow8.grown hg hne, hB8.grown hg (by have := hB8.size; omega) (fun j e => by have := (hown8.lt j e).1; omega), by have := hg.size; have := hal.size; omega⟩
     have HBX : Hid (∀ w9, (w7.alloc (.cells #[.int .i64 (s : Int)] 3)).grownBy w9 (Value.slice q (frsR (relA Q G.es C) s).length d).ownBlock → w9.cell? ⟨yb, 0, none⟩ = some (.int .i64 s)) := fun w9 hg => hg.cell hbx8 (fun h => by have := hjl _ h.symm; simp at this)
     go_wp2_with (at_builtin; refine wpList_append_own _ rfl _ _ 30 rfl w5.heap.size 3 i0 (.int .i64 0) 1 8 Tryz.underlying30 hi0 hz0 hz1 hz3 rfl (by decide) _ _ _ rfl hown8 ⟨w7.heap.size, 0, none⟩ 1 1 [.int .i64 (s : Int)] rfl rfl hnew (by simp [Value.oneCell']) (by simp only [maxLen]; omega) (by omega) (by rw [World.size_alloc]; omega) ?_; intro v' w9 hown' hgrow _; have hb9 := HBX.out w9 hgrow; obtain ⟨hr9, hB9, hsz9⟩ := HGR.out w9 hgrow; have hc9 := hr9.at s HGET.out; have hf9 := hr9.frozen s)
     have hownS := own_snoc hown' HF2.out
     obtain ⟨q', d', rfl, hownF⟩ := hownS
     clear hown'
     go_roundw
     case rel =>
      refine ⟨s + 1, q', d', by omega, by go_num, rfl, ownsRow_setCell_below (a := ⟨wo.heap.size, s, none⟩) hownF hlow _, ?_, hB9.setCell (p := ⟨wo.heap.size, s, none⟩) (Nat.le_refl _) _, by rw [World.size_setCell]; exact hsz9⟩
      rw [← HSET.out, HNW.out]; exact hr9.set (i := s) _
     case measure => simp [intOf]; omega
   ·have hltI : ¬ (s : Int) < (N : Int) := by omega
    obtain rfl : N = s := by omega
    have hPx := hP.later hBx
    rw [nowV_end, ← HC1.out] at hrow
    have hblt := hP.c.lt
    have hPT := hPx.turn hrow (by omega)
    have hBw := (hB.trans (hBx.mono hB.size)).setCell (p := ⟨bc, 0, none⟩) hbase (.slice (some ⟨wo.heap.size, 0, none⟩) N N)
    have hcc := hPx.c.at 0 rfl
    have hcf := hPx.c.frozen 0
    have hct := hPT.c.at 0 rfl
    have hgw := hB.size
    clear hown hsz hP hPx hrow
    by_cases he : (frsR (relA Q G.es C) N).length = mcA N C
    ·have he1 : (((frsR (relA Q G.es C) N).length : Int) == (mcA N C : Int)) = true := by simp [he]
     have hsame := HSM.out.1 (HMS.out.trans he)
     have hfin : Hid (clA G = clsN Q N G.es (k + 1)) := by rw [Hid, HCL.out, HEND.out hsame, hsame]
     clear he
     go_wp2
     go_ret
     exact ⟨wo.heap.size, rfl, hgw, by rw [hfin.out]; exact hPT.r, hBw⟩
    ·have he1 : (((frsR (relA Q G.es C) N).length : Int) == (mcA N C : Int)) = false := by simp; omega
     have hne : clsN Q N G.es (k + 1) ≠ C := fun h => he (HMS.out.symm.trans (HSM.out.2 h))
     obtain ⟨m1, m2⟩ := HMO.out hne
     have hmm := mcA_max (n := N) (clsN Q N G.es (k + 1))
     have HMS2 := HMS.out
     clear he hne
     go_wp2
     go_roundw
     case rel => exact ⟨k + 1, wo.heap.size, by rw [HMS2], m1, hPT, hgw, hBw⟩
     case measure =>
      rw [HMS2] at m2 hmm
      simp only [intOf, Int.toNat_natCast]
      rw [hCC]
      omega
end
section
open Go.RowKit Go.Sort Go.Shelf Go.Lib
theorem own_downN {w : World} {B B' e n size : Nat} {v : Value} {xs : List Value} (h : w.ownsRow B' e size v n xs) (hB : B ≤ B') : w.ownsRow B e size v n xs := ⟨h.1, h.2.imp id (fun ⟨g, cap, cur, a, b, z⟩ => ⟨g, cap, cur, a, Nat.le_trans hB b, z⟩)⟩
theorem Mp.below' {α β : Type} {kv : α → Value} {ok : α → Prop} {vv : β → Value} {w w' : World} {b : Nat} {f : α → Option β} (h : Mp kv ok vv w b f) (hB : RowKit.Below w.heap.size w w') : Mp kv ok vv w' b f := h.below hB h.lt
end
section
open Go.RowKit Go.Sort
theorem list_ne {a b : List Int} {k : Nat} (h1 : k < a.length) (h2 : k < b.length) (h : a[k] ≠ b[k]) : a ≠ b := fun e => by subst e; exact h rfl
set_option maxRecDepth 100000 in
theorem rSameSet_any (a b : List Int) (p q : Option Addr) (c d : Nat) (w : World) (hp : Sl w (Value.int .i64) p a) (hq : Sl w (Value.int .i64) q b) (la : a.length ≤ 9223372036854775807) (lb : b.length ≤ 9223372036854775807) :
  Calls Tryz.prog 180 #[.slice p a.length c, .slice q b.length d] w fun e w' => e = .returned (.bool (decide (a = b))) ∧ Dr w w' := by
 by_cases hl : a.length = b.length
 ·have hle : ((a.length : Int) != (b.length : Int)) = false := by simp [hl]
  have HL := hidI hl
  clear hl
  go_enter Tryz.func180, Tryz.ntmps180
  go_wp2
  clear hle
  go_loopw [5] (fun iv wr => ∃ k : Nat, k ≤ a.length ∧ iv = .int .i64 k ∧ Hid (∀ j (h1 : j < a.length) (h2 : j < b.length), j < k → a[j] = b[j]) ∧ Dr w wr) (fun iv _ => a.length - (intOf iv).toNat)
  case atStart => exact ⟨0, by omega, rfl, fun j _ _ h => absurd h (by omega), Dr.refl _⟩
  case round =>
   obtain ⟨k, hk, rfl, hj, hD⟩ := hrel
   by_cases hlt : k < a.length
   ·have hltI : (k : Int) < (a.length : Int) := by omega
    have hlb : k < b.length := by rw [← HL.out]; exact hlt
    have hltJ : (k : Int) < (b.length : Int) := by omega
    obtain ⟨b1, o1, rfl, hb1, hc1⟩ := (hp.dr hD).get k hlt
    obtain ⟨b2, o2, rfl, hb2, hc2⟩ := (hq.dr hD).get k hlb
    have e1 := hc1 k hlt
    have e2 := hc2 k hlb
    clear hc1 hc2
    by_cases he : a[k] = b[k]
    ·have d1 : (a[k] != b[k]) = false := by simpa using he
     have HJ : Hid (∀ j (h1 : j < a.length) (h2 : j < b.length), j < k + 1 → a[j] = b[j]) := fun j h1 h2 h => by
      by_cases e : j = k
      ·subst e; exact he
      ·exact hj.out j h1 h2 (by omega)
     generalize a[k] = x at *
     generalize b[k] = y at *
     clear he
     go_upto_region 6 with fail
     (refine wp_region_quiet_lit (by kernel_rfl) (by kernel_rfl) ?_; (repeat (first | go_big_quiet_step (fail) | quiet_step (fail))); refine wpQuiet_nil ?_; intro _ hwq; obtain ⟨nq, hwq2⟩ := hwq; subst hwq2)
     go_wp2
     go_roundw
     case rel => exact ⟨k + 1, by omega, by go_num, HJ, hD.one _⟩
     case measure => simp [intOf]; omega
    ·have d1 : (a[k] != b[k]) = true := by simpa using he
     have HX : Hid (decide (a = b) = false) := decide_eq_false (list_ne hlt hlb he)
     generalize a[k] = x at *
     generalize b[k] = y at *
     clear he
     go_upto_region 6 with fail
     (refine wp_region_quiet_lit (by kernel_rfl) (by kernel_rfl) ?_; (repeat (first | go_big_quiet_step (fail) | quiet_step (fail))); refine wpQuiet_nil ?_; intro _ hwq; obtain ⟨nq, hwq2⟩ := hwq; subst hwq2)
     go_wp2
     go_ret
     exact ⟨ret_bool HX.out.symm, hD.one _⟩
   ·have hltI : ¬ (k : Int) < (a.length : Int) := by omega
    have HX : Hid (decide (a = b) = true) := decide_eq_true (List.ext_getElem HL.out (fun j h1 h2 => hj.out j h1 h2 (by omega)))
    go_wp2
    go_ret
    exact ⟨ret_bool HX.out.symm, hD⟩
 ·have hle : ((a.length : Int) != (b.length : Int)) = true := by simp; omega
  have HX : Hid (decide (a = b) = false) := decide_eq_false (fun h => hl (by rw [h]))
  clear hl
  go_enter Tryz.func180, Tryz.ntmps180
  go_wp2
  go_ret
  exact ⟨ret_bool HX.out.symm, Dr.refl _⟩
def CutS (R : Nat → Nat → Bool) (N s b3 : Nat) (wo wx : World) : Prop := ∃ v : Int, VRow wx b3 3 ((nowV R N s).set s (.int .i64 v)) ∧ ((fstR R s = false ∧ v = numR R s ∧ 0 ≤ v) ∨ (fstR R s = true ∧ v = -1)) ∧ RowKit.Below wo.heap.size wo wx
set_option maxRecDepth 100000 in
set_option maxHeartbeats 4000000 in
theorem rclasses_any (G : Gr) (p : Option Addr) (c : Nat) (w : World) (hin : Sg 3 w edE p G.es) (hv : Vg G) :
  Calls Tryz.prog 132 #[(.agg #[.int .i64 G.q, .int .i64 G.n, .slice p G.es.length c])] w fun e w' => ∃ b, e = .returned (.slice (some ⟨b, 0, none⟩) (clA G).length (clA G).length) ∧ w.heap.size ≤ b ∧ VRow w' b 3 ((clA G).map (Value.int .i64)) ∧ RowKit.Below w.heap.size w w' := by
 obtain ⟨i0, hi0, hz0, hz1, hz3⟩ := info_parts infoJ
 have HV := hidI hv; have HIN0 := hidI hin
 obtain ⟨N, hN⟩ : ∃ N : Nat, G.n = N := ⟨G.n.toNat, by have := hv.n1; omega⟩
 obtain ⟨Q, hQ⟩ : ∃ Q : Nat, G.q = Q := ⟨G.q.toNat, by have := hv.q1; omega⟩
 have hN64 : N ≤ 64 := by have := hv.n2; omega
 have HCL : Hid (clA G = clsN Q N G.es N) := by unfold Hid clA; rw [hN, hQ]; rfl
 have hlcl : (clA G).length = N := by rw [HCL.out, clsN_len]
 have HAL : Hid (∀ (C : List Int) (b2 : Nat) (s t : Nat) (W : World), C.length = N → Sg 3 W edE p G.es → VRow W b2 3 (C.map (Value.int .i64)) → Calls Tryz.prog 179 #[.agg #[.int .i64 (Q : Int), .int .i64 (N : Int), .slice p G.es.length c], .slice (some ⟨b2, 0, none⟩) N N, .int .i64 s, .int .i64 t] W fun e w' => e = .returned (.bool (alkA Q G.es C s t)) ∧ RowKit.Below W.heap.size W w') := fun C b2 s t W hC hW hr => by
  have h := ralike_any G p c C (some ⟨b2, 0, none⟩) N s t W hW (Sl.of_vrow hr) hv (by rw [hN, hC])
  rw [hC, hN, hQ] at h
  exact h
 rw [hlcl, hN, hQ]
 obtain ⟨w0, hw0⟩ : ∃ w0, w0 = w.alloc (.cells #[.int .i64 (Q : Int), .int .i64 (N : Int), .slice p G.es.length c] 24) := ⟨_, rfl⟩
 have b0 : VRow w0 w.heap.size 24 [.int .i64 (Q : Int), .int .i64 (N : Int), .slice p G.es.length c] := by subst hw0; exact VRow.new w _ _
 have hB0 : RowKit.Below w.heap.size w w0 := by subst hw0; exact (RowKit.Below.refl _ _).alloc (Nat.le_refl _) _
 have zb : w.heap.size < w0.heap.size := b0.lt
 have HIN := hidI (HIN0.out.below hB0)
 clear hin hv hN hQ hlcl
 go_enter Tryz.func132, Tryz.ntmps132
 go_upto_region 1 with fail
 rw [← hw0]
 clear hw0
 have g1 := b0.at 1 rfl
 go_wp2_with (at_make; refine wpList_make_full _ rfl _ _ 30 rfl w0.heap.size 3 i0 (.int .i64 0) 1 Tryz.underlying30 hi0 hz0 hz1 .i64 .i64 _ _ N rfl rfl (by omega) (by omega) (by rw [hz3]; omega) (by unfold maxLen; omega) (Nat.le_refl _) ?_; intro w3 hown hgrow)
 have hr3 := made_rowJ hown
 have hB3 : RowKit.Below w0.heap.size w0 w3 := (RowKit.Below.refl _ _).grown hgrow (Nat.le_refl _) (by simp)
 have hc3 : VRow w3 w0.heap.size 3 ((clsN Q N G.es 0).map (Value.int .i64)) := by simpa [clsN] using hr3
 clear hown hgrow g1 hr3
 obtain ⟨gb, hgb⟩ : ∃ gb, gb = w.heap.size := ⟨_, rfl⟩
 obtain ⟨b20, hb20⟩ : ∃ b20, b20 = w0.heap.size := ⟨_, rfl⟩
 rw [← hgb] at b0 zb ⊢
 rw [← hb20] at hc3
 have hle20 : w0.heap.size ≤ b20 := by omega
 have hle21 : w.heap.size ≤ w0.heap.size := hB0.size
 rw [← hb20]
 clear hgb hb20
 go_loopw [3, 5] (fun nv n5 wr => ∃ (k b2 : Nat), nv = .slice (some ⟨b2, 0, none⟩) N N ∧ ((k = 0 ∧ n5 = undef) ∨ n5 = .int .i64 (mcA N (clsN Q N G.es k) : Nat)) ∧ k ≤ mcA N (clsN Q N G.es k) ∧ VRow wr b2 3 ((clsN Q N G.es k).map (Value.int .i64)) ∧ w0.heap.size ≤ b2 ∧ RowKit.Below w0.heap.size w0 wr) (fun _ n5 _ => N + 1 - (intOf n5).toNat)
 case atStart => exact ⟨0, b20, rfl, .inl ⟨rfl, rfl⟩, Nat.zero_le _, hc3, hle20, hB3⟩
 case round =>
  clear hc3 hB3
  obtain ⟨k, b2, rfl, hn5, hk, hnow, hb2, hB⟩ := hrel
  have hmc := mcA_max (n := N) (clsN Q N G.es k)
  have HSM := hidI (@cls_same Q N G.es k)
  have HMS := hidI (@mcA_succ Q N G.es k)
  have HEND := hidI (fun h => @cls_end Q N G.es k hk h)
  have HMO := hidI (fun h => @cls_more Q N G.es k hk h)
  have hCl := @clsN_len Q N G.es k
  have HC1 : Hid (clsN Q N G.es (k + 1) = (List.range N).map (numR (relA Q G.es (clsN Q N G.es k)))) := rfl
  have hg := b0.below hB zb
  have gx := hg.at 1 rfl
  obtain ⟨wo, rfl⟩ : ∃ wo : World, wo = wr := ⟨_, rfl⟩
  go_wp2_with (at_make; refine wpList_make_full _ rfl _ _ 30 rfl wo.heap.size 3 i0 (.int .i64 0) 1 Tryz.underlying30 hi0 hz0 hz1 .i64 .i64 _ _ N rfl rfl (by omega) (by omega) (by rw [hz3]; omega) (by unfold maxLen; omega) (Nat.le_refl _) ?_; intro w5 hown hgrow)
  have hr5 := made_rowJ hown
  have hB5 : RowKit.Below wo.heap.size wo w5 := (RowKit.Below.refl _ _).grown hgrow (Nat.le_refl _) (by simp)
  clear hown hgrow gx
  rw [← nowV_zero (relA Q G.es (clsN Q N G.es k)) N] at hr5
  generalize hCC : clsN Q N G.es k = C at *
  obtain ⟨R, hRR⟩ : ∃ R, R = relA Q G.es C := ⟨_, rfl⟩
  have HRR := hidI hRR
  have HE : Hid (Eqv R) := by rw [Hid, hRR]; exact relA_eqv _ _ _
  rw [← hRR] at hr5 HC1 HMS
  clear hRR
  go_loopw [5, 6] (fun nv sv wx => ∃ s : Nat, s ≤ N ∧ nv = .int .i64 ((frsR R s).length : Nat) ∧ sv = .int .i64 s ∧ VRow wx wo.heap.size 3 (nowV R N s) ∧ RowKit.Below wo.heap.size wo wx) (fun _ sv _ => N - (intOf sv).toNat)
  case atStart => exact ⟨0, by omega, rfl, rfl, hr5, hB5⟩
  case round =>
   clear hr5 hB5
   obtain ⟨s, hs, rfl, rfl, hrow, hBx⟩ := hrel
   have hgx := hg.below hBx hg.lt
   have g1 := hgx.at 1 rfl
   by_cases hlt : s < N
   ·have hltI : (s : Int) < (N : Int) := by omega
    have HGET := hidI (nowV_get R hlt)
    have hc0 := hrow.at s HGET.out
    have hf0 := hrow.frozen s
    have hr1 : VRow (wr.setCell ⟨wo.heap.size, s, none⟩ (.int .i64 (-1))) wo.heap.size 3 ((nowV R N s).set s (.int .i64 (-1))) := hrow.set (i := s) _
    have hB1 : RowKit.Below wo.heap.size wo (wr.setCell ⟨wo.heap.size, s, none⟩ (.int .i64 (-1))) := hBx.setCell (p := ⟨wo.heap.size, s, none⟩) (Nat.le_refl _) _
    go_upto_region 7 with fail
    obtain ⟨ws, hws⟩ : ∃ ws, ws = wr.setCell ⟨wo.heap.size, s, none⟩ (.int .i64 (-1)) := ⟨_, rfl⟩
    rw [← hws] at hr1 hB1 ⊢
    have hblt : wo.heap.size < ws.heap.size := hr1.lt
    clear hws hrow hBx hc0 hf0 g1 hgx
    go_upto_block 4 with fail
    go_cut [7] (fun t7 wx => CutS R N s wo.heap.size wo wx)
    case first =>
     obtain ⟨wq, rfl⟩ : ∃ wq : World, wq = wr := ⟨_, rfl⟩
     go_wp2_with fail
     go_loopw [7] (fun tv wx => ∃ t : Nat, t ≤ s ∧ tv = .int .i64 t ∧ Hid (∀ u, u < t → R u s = false) ∧ RowKit.Below ws.heap.size ws wx) (fun tv _ => s - (intOf tv).toNat)
     case atStart => exact ⟨0, by omega, rfl, fun u hu => absurd hu (by omega), RowKit.Below.refl _ _⟩
     case round =>
      obtain ⟨t, ht, rfl, hj, hBt⟩ := hrel
      have hB2 := hB1.trans (hBt.mono hB1.size)
      have hB3 := hB.trans (hB2.mono hB.size)
      have hrow := hr1.below hBt hblt
      by_cases htl : t < s
      ·have htI : (t : Int) < (s : Int) := by omega
       have htN : (t : Int) < (N : Int) := by omega
       have hn2 := hnow.below hB2 hnow.lt
       have hsC : s < C.length := by omega
       have htC : t < C.length := by omega
       have e1 := hn2.at s (v := .int .i64 (C[s]'hsC)) (by simp [hsC])
       have e2 := hn2.at t (v := .int .i64 (C[t]'htC)) (by simp [htC])
       have hg2 := hg.below hB2 hg.lt
       have g0 := hg2.at 0 rfl; have g1 := hg2.at 1 rfl; have g2 := hg2.at 2 rfl
       have HSY : Hid (R t s = R s t) := by
        rw [Hid, Bool.eq_iff_iff]; exact ⟨HE.out.symm t s, HE.out.symm s t⟩
       have HRS : Hid (R s t = (decide (C[s]'hsC = C[t]'htC) && alkA Q G.es C s t)) := by
        rw [Hid, HRR.out]; unfold relA; rw [cg_get hsC, cg_get htC]
       have HCA := hidI (fun W (hW : RowKit.Below wr.heap.size wr W) => HAL.out C b2 s t W hCl (HIN.out.below (hB3.trans (hW.mono hB3.size))) (hn2.below hW hn2.lt))
       have hj2 := hj.out
       cases hst : R t s
       ·have HJ : Hid (∀ u, u < t + 1 → R u s = false) := fun u hu => by
         by_cases e : u = t
         ·subst e; exact hst
         ·exact hj2 u (by omega)
        clear hj2
        by_cases hcc : C[s]'hsC = C[t]'htC
        ·have HAK : Hid (alkA Q G.es C s t = false) := by rw [Hid, ← hst, HSY.out, HRS.out, decide_eq_true hcc]; rfl
         have d1 : (C[s]'hsC == C[t]'htC) = true := by simpa using hcc
         rw [HAK.out] at HCA
         clear hst
         generalize C[s]'hsC = cs at *
         generalize C[t]'htC = ct at *
         have z2 := Nat.lt_of_lt_of_le hnow.lt hB2.size
         have zg := hg2.lt
         clear hcc HAK HSY HRS
         go_upto_region 10 with fail
         go_cut [43] (fun v wx => v = .bool false ∧ RowKit.Below wr.heap.size wr wx)
         case first =>
          go_region_held3 (fun w' => w'.cell? ⟨b2, s, none⟩ = some (.int .i64 cs) ∧ w'.cell? ⟨b2, t, none⟩ = some (.int .i64 ct) ∧ w'.cell? ⟨gb, 0, none⟩ = some (.int .i64 Q) ∧ w'.cell? ⟨gb, 1, none⟩ = some (.int .i64 N) ∧ w'.cell? ⟨gb, 2, none⟩ = some (.slice p G.es.length c) ∧ RowKit.Below wr.heap.size wr w')
           (first | (go_split_ands; refine ⟨?_, ?_, ?_, ?_, ?_, ?_⟩ <;> first | assumption | (go_keep; done) | exact below_dN (RowKit.Below.refl _ _) 1 | exact (hBa.cell (Nat.lt_of_lt_of_le z2 (RowKit.Below.size (by assumption)))).trans (by assumption) | exact (hBa.cell (Nat.lt_of_lt_of_le zg (RowKit.Below.size (by assumption)))).trans (by assumption) | exact RowKit.Below.trans (by assumption) (hBa.mono (RowKit.Below.size (by assumption)))))
           (first
            | (go_at_call 179; go_split_ands; with_reducible refine (HCA.out _ (by assumption)).mono ?_; rintro e wA ⟨rfl, hBa⟩))
          all_goals
           go_split_ands
           go_wp2_with fail
           go_meet
           exact ⟨rfl, by assumption⟩
         case rest =>
          obtain ⟨rfl, hBr⟩ := hcut
          go_wp2
          go_roundw
          case rel => exact ⟨t + 1, by omega, by go_num, HJ, hBt.trans (hBr.mono hBt.size)⟩
          case measure => simp [intOf]; omega
        ·have d1 : (C[s]'hsC == C[t]'htC) = false := by simpa using hcc
         clear hst HCA HSY HRS
         generalize C[s]'hsC = cs at *
         generalize C[t]'htC = ct at *
         clear hcc
         go_upto_region 10 with fail
         (refine wp_region_quiet_lit (by kernel_rfl) (by kernel_rfl) ?_; (repeat (first | go_big_quiet_step (fail) | quiet_step (fail))); refine wpQuiet_nil ?_; intro _ hwq; obtain ⟨nq, hwq2⟩ := hwq; subst hwq2)
         go_wp2
         go_roundw
         case rel => exact ⟨t + 1, by omega, by go_num, HJ, below_dN hBt _⟩
         case measure => simp [intOf]; omega
       ·have hcc : C[s]'hsC = C[t]'htC := by
         have := HSY.out.symm.trans hst
         rw [HRS.out, Bool.and_eq_true, decide_eq_true_eq] at this
         exact this.1
        have HAK : Hid (alkA Q G.es C s t = true) := by
         have := HSY.out.symm.trans hst
         rw [HRS.out, Bool.and_eq_true] at this
         exact this.2
        have d1 : (C[s]'hsC == C[t]'htC) = true := by simpa using hcc
        rw [HAK.out] at HCA
        have HFS : Hid (fstR R s = false) := by
         rw [Hid, Bool.eq_false_iff]; intro h
         rw [fstR_iff.1 h t htl] at hst; cases hst
        have HNM : Hid (numR R s = numR R t) := numR_like HE.out hst
        have hnb := numR_bd HE.out t N (by omega)
        clear hst hj2
        generalize C[s]'hsC = cs at *
        generalize C[t]'htC = ct at *
        have z2 := Nat.lt_of_lt_of_le hnow.lt hB2.size
        have zg := hg2.lt
        clear hcc HAK HSY HRS
        go_upto_region 10 with fail
        go_cut [43] (fun v wx => v = .bool true ∧ RowKit.Below wr.heap.size wr wx)
        case first =>
         go_region_held3 (fun w' => w'.cell? ⟨b2, s, none⟩ = some (.int .i64 cs) ∧ w'.cell? ⟨b2, t, none⟩ = some (.int .i64 ct) ∧ w'.cell? ⟨gb, 0, none⟩ = some (.int .i64 Q) ∧ w'.cell? ⟨gb, 1, none⟩ = some (.int .i64 N) ∧ w'.cell? ⟨gb, 2, none⟩ = some (.slice p G.es.length c) ∧ RowKit.Below wr.heap.size wr w')
          (first | (go_split_ands; refine ⟨?_, ?_, ?_, ?_, ?_, ?_⟩ <;> first | assumption | (go_keep; done) | exact below_dN (RowKit.Below.refl _ _) 1 | exact (hBa.cell (Nat.lt_of_lt_of_le z2 (RowKit.Below.size (by assumption)))).trans (by assumption) | exact (hBa.cell (Nat.lt_of_lt_of_le zg (RowKit.Below.size (by assumption)))).trans (by assumption) | exact RowKit.Below.trans (by assumption) (hBa.mono (RowKit.Below.size (by assumption)))))
          (first
           | (go_at_call 179; go_split_ands; with_reducible refine (HCA.out _ (by assumption)).mono ?_; rintro e wA ⟨rfl, hBa⟩))
         all_goals
          go_split_ands
          go_wp2_with fail
          go_meet
          exact ⟨rfl, by assumption⟩
        case rest =>
         obtain ⟨rfl, hBr⟩ := hcut
         have hrow2 := hrow.below hBr (Nat.lt_of_lt_of_le hblt hBt.size)
         have hct := hrow2.at t (v := .int .i64 (numR R t)) (by rw [List.getElem?_set_ne (by omega)]; unfold nowV; rw [List.getElem?_map, List.getElem?_append_left (by simpa using htl)]; simp [htl])
         have hcs := hrow2.at s (v := .int .i64 (-1)) (by rw [List.getElem?_set_self]; unfold nowV; simp; omega)
         have hcf := hrow2.frozen s
         have hrow3 := hrow2.set (i := s) (.int .i64 (numR R t))
         rw [List.set_set] at hrow3
         have hBz := (hB2.trans (hBr.mono hB2.size)).setCell (p := ⟨wo.heap.size, s, none⟩) (Nat.le_refl _) (.int .i64 (numR R t))
         generalize numR R t = m at *
         go_wp2_with fail
         go_meet
         exact ⟨m, hrow3, .inl ⟨HFS.out, HNM.out.symm, hnb.1⟩, hBz⟩
      ·have htI : ¬ (t : Int) < (s : Int) := by omega
       have hfst : Hid (fstR R s = true) := fstR_iff.2 (fun u hu => hj.out u (by omega))
       go_wp2_with fail
       go_meet
       exact ⟨-1, hrow, .inr ⟨hfst.out, rfl⟩, hB2⟩
    case rest =>
     obtain ⟨v, hrow, hv, hBv⟩ := hcut
     have HSET := hidI (nowV_set R hlt)
     have hlen := frsR_len R s
     have hsl : s < (nowV R N s).length := by unfold nowV; simp; omega
     have hc1 := hrow.at s (v := .int .i64 v) (by rw [List.getElem?_set_self hsl])
     have hf1 := hrow.frozen s
     have hlow : wo.heap.size ≤ wo.heap.size := Nat.le_refl _
     rcases hv with ⟨hfs, rfl, hv0⟩ | ⟨hfs, rfl⟩
     ·have HF2 := hidI (frsR_stay hfs)
      rw [HSET.out] at hrow
      generalize numR R s = m at *
      have hm0 : ¬ m < 0 := by omega
      clear hfs
      go_wp2
      go_roundw
      case rel => exact ⟨s + 1, by omega, by rw [HF2.out], by go_num, hrow, hBv⟩
      case measure => simp [intOf]; omega
     ·have HF2 : Hid ((frsR R (s + 1)).length = (frsR R s).length + 1) := by rw [Hid, frsR_go hfs, List.length_append]; rfl
      have HNW := hidI (numR_new hfs)
      have hrow2 := hrow.set (i := s) (.int .i64 (numR R s))
      rw [List.set_set, HSET.out, HNW.out] at hrow2
      have hBz := hBv.setCell (p := ⟨wo.heap.size, s, none⟩) hlow (.int .i64 ((frsR R s).length : Nat))
      clear hfs
      go_wp2
      go_roundw
      case rel => exact ⟨s + 1, by omega, by rw [HF2.out]; rfl, by go_num, hrow2, hBz⟩
      case measure => simp [intOf]; omega
   ·have hltI : ¬ (s : Int) < (N : Int) := by omega
    obtain rfl : N = s := by omega
    rw [nowV_end, ← HC1.out] at hrow
    have hB2 := hB.trans (hBx.mono hB.size)
    have hn2 := hnow.below hBx hnow.lt
    have hlk := @clsN_len Q N G.es (k + 1)
    have HSS := hidI (fun W (hD : RowKit.Below wr.heap.size wr W) => rSameSet_any (clsN Q N G.es (k + 1)) C (some ⟨wo.heap.size, 0, none⟩) (some ⟨b2, 0, none⟩) N N W (Sl.of_vrow (hrow.below hD hrow.lt)) (Sl.of_vrow (hn2.below hD hn2.lt)) (by omega) (by omega))
    rw [hlk, hCl] at HSS
    have hgw := hB.size
    cases hd : decide (clsN Q N G.es (k + 1) = C)
    ·have hne := of_decide_eq_false hd
     obtain ⟨m1, m2⟩ := HMO.out hne
     have hmm := mcA_max (n := N) (clsN Q N G.es (k + 1))
     have HMS2 := HMS.out
     rw [hd] at HSS
     clear hd hne hlk hCl
     go_wp2_with fail
     refine (HSS.out wr (RowKit.Below.refl _ _)).mono ?_
     rintro e wz ⟨rfl, hD⟩
     have hrz := hrow.dr hD
     have hBz := hB2.trans (hD.below _)
     go_wp2
     go_roundw
     case rel => exact ⟨k + 1, wo.heap.size, rfl, .inr (by rw [HMS2]), m1, hrz, hgw, hBz⟩
     case measure =>
      rw [HMS2] at m2 hmm
      rcases hn5 with ⟨rfl, rfl⟩ | rfl
      ·simp only [intOf, Int.toNat_natCast]
       have : intOf undef = 0 := rfl
       simp [intOf, undef] at *
       omega
      ·simp only [intOf, Int.toNat_natCast]
       omega
    ·have hsame := of_decide_eq_true hd
     have hfin : Hid (clA G = C) := by rw [Hid, HCL.out, HEND.out hsame]
     rw [hd] at HSS
     clear hd hlk hCl
     go_wp2_with fail
     refine (HSS.out wr (RowKit.Below.refl _ _)).mono ?_
     rintro e wz ⟨rfl, hD⟩
     have hrz := hn2.dr hD
     have hBz := hB0.trans ((hB2.trans (hD.below _)).mono hB0.size)
     go_wp2
     go_ret
     exact ⟨b2, rfl, by omega, by rw [hfin.out]; exact hrz, hBz⟩
end
section
open Go.RowKit Go.Sort Go.Shelf Go.Lib
def chkD (G : Gr) : Int := if chkG G = 0 then (if detB G.es = true then 0 else 8) else 1
theorem chkD_bad {G : Gr} (h : chkG G ≠ 0) : chkD G = 1 := if_neg h
theorem chkD_two {G : Gr} (h : chkG G = 0) (h2 : detB G.es = false) : chkD G = 8 := by unfold chkD; rw [if_pos h, if_neg (by simp [h2])]
theorem chkD_ok {G : Gr} (h : chkG G = 0) (h2 : detB G.es = true) : chkD G = 0 := by unfold chkD; rw [if_pos h, if_pos h2]
theorem chkD_iff {G : Gr} : chkD G = 0 ↔ Vg G ∧ detB G.es = true := by
 unfold chkD
 constructor
 ·intro h
  split at h
  ·rename_i h1
   split at h
   ·rename_i h2; exact ⟨chkG_ok.1 h1, h2⟩
   ·omega
  ·omega
 ·rintro ⟨h1, h2⟩; rw [if_pos (chkG_ok.2 h1), if_pos h2]
set_option maxRecDepth 100000 in
theorem rmcheck_any (G : Gr) (p : Option Addr) (c : Nat) (w : World) (hin : Sg 3 w edE p G.es) (hl : G.es.length ≤ 9223372036854775807) :
  Calls Tryz.prog 131 #[(.agg #[.int .i64 G.q, .int .i64 G.n, .slice p G.es.length c])] w fun e w' => e = .returned (.int .i64 (chkD G)) ∧ RowKit.Below w.heap.size w w' := by
 obtain ⟨w0, hw0⟩ : ∃ w0, w0 = w.alloc (.cells #[.int .i64 G.q, .int .i64 G.n, .slice p G.es.length c] 24) := ⟨_, rfl⟩
 have b0 : VRow w0 w.heap.size 24 [.int .i64 G.q, .int .i64 G.n, .slice p G.es.length c] := by subst hw0; exact VRow.new w _ _
 have hB0 : RowKit.Below w.heap.size w w0 := by subst hw0; exact (RowKit.Below.refl _ _).alloc (Nat.le_refl _) _
 have HIN := hidI (hin.below hB0)
 have HC := hidI (rCheck_any G p c w0 HIN.out hl)
 clear hin
 obtain ⟨r, hr⟩ : ∃ r, chkG G = r := ⟨_, rfl⟩
 rw [hr] at HC
 by_cases h1 : r = 0
 ·subst h1
  have HD := hidI (fun W (hW : RowKit.Below w0.heap.size w0 W) => rDet_any G p c W (HIN.out.below hW) hl)
  rw [detA_ok hr] at HD
  cases h2 : detB G.es
  ·have HK := hidI (chkD_two hr h2)
   rw [h2] at HD
   clear hr h2
   go_enter Tryz.func131, Tryz.ntmps131
   go_wp2_with fail
   rw [← hw0]
   clear hw0
   refine HC.out.mono ?_
   rintro e w1 ⟨rfl, hB1⟩
   have c0 := b0.below hB1 b0.lt
   have f0 := c0.at 0 rfl; have f1 := c0.at 1 rfl; have f2 := c0.at 2 rfl
   go_wp2_with fail
   refine (HD.out w1 hB1).mono ?_
   rintro e w2 ⟨rfl, hB2⟩
   go_wp2
   go_ret
   exact ⟨ret_int HK.out.symm, (hB0.trans (hB1.mono hB0.size)).trans (hB2.mono (hB0.trans (hB1.mono hB0.size)).size)⟩
  ·have HK := hidI (chkD_ok hr h2)
   rw [h2] at HD
   clear hr h2
   go_enter Tryz.func131, Tryz.ntmps131
   go_wp2_with fail
   rw [← hw0]
   clear hw0
   refine HC.out.mono ?_
   rintro e w1 ⟨rfl, hB1⟩
   have c0 := b0.below hB1 b0.lt
   have f0 := c0.at 0 rfl; have f1 := c0.at 1 rfl; have f2 := c0.at 2 rfl
   go_wp2_with fail
   refine (HD.out w1 hB1).mono ?_
   rintro e w2 ⟨rfl, hB2⟩
   go_wp2
   go_ret
   exact ⟨ret_int HK.out.symm, (hB0.trans (hB1.mono hB0.size)).trans (hB2.mono (hB0.trans (hB1.mono hB0.size)).size)⟩
 ·have HK := hidI (chkD_bad (G := G) (by rw [hr]; exact h1))
  have hrb : (r == 0) = false := by simpa using h1
  have hrc : (r != 0) = true := by simpa using h1
  clear hr h1
  go_enter Tryz.func131, Tryz.ntmps131
  go_wp2_with fail
  rw [← hw0]
  clear hw0
  refine HC.out.mono ?_
  rintro e w1 ⟨rfl, hB1⟩
  go_wp2
  go_ret
  exact ⟨ret_int HK.out.symm, hB0.trans (hB1.mono hB0.size)⟩
end
section
open Go.RowKit Go.Sort Go.Shelf Go.Lib
structure Pd where
 s : Int
 t : Int
 q : Option Addr
 n : Nat
 c : Nat
section
variable {w w' : World} {B : Nat} {l : List Pw} {q : List Pd}
end
end
section
open Go.RowKit Go.Sort Go.Shelf Go.Lib
theorem own_oneI (w : World) (a : Int) : (w.alloc (.cells #[.int .i64 a] 3)).ownsRow w.heap.size 3 1 (.slice (some ⟨w.heap.size, 0, none⟩) 1 1) 1 ([a].map (Value.int .i64)) :=
 ⟨rfl, .inr ⟨w.heap.size, 1, _, rfl, Nat.le_refl _, heap_alloc_new w _, Nat.le_refl _, by simp [maxLen], rfl, rfl⟩⟩
end
section
open Go.RowKit Go.Sort Go.Shelf Go.Lib
def mxC (l : List Int) : Int := l.foldl (fun n x => max n (x + 1)) 0
theorem mxC_snoc (l : List Int) (x : Int) : mxC (l ++ [x]) = max (mxC l) (x + 1) := by simp [mxC]
theorem mxC_gen : ∀ (l : List Int) (a : Int), (∀ x ∈ l, -1 ≤ x ∧ x ≤ 1000) → 0 ≤ a → a ≤ 1001 → 0 ≤ l.foldl (fun n x => max n (x + 1)) a ∧ l.foldl (fun n x => max n (x + 1)) a ≤ 1001
 | [], a, _, h0, h1 => ⟨h0, h1⟩
 | x :: l, a, h, h0, h1 => by
  have hx := h x (by simp)
  exact mxC_gen l (max a (x + 1)) (fun y hy => h y (by simp [hy])) (by omega) (by omega)
def mgE (C : List Int) (x : Ed) : Ed := ⟨cg C x.f, x.l, cg C x.t⟩
def mgA (G : Gr) : Gr × Int := makeA G.q (mxC (clA G)) (G.es.map (mgE (clA G)))
def merA (G : Gr) : Gr × List Int × Int := if chkD G = 0 then ((mgA G).1, clA G, (mgA G).2) else (⟨0, 0, []⟩, [], chkD G)
theorem merA_ok {G : Gr} (h : chkD G = 0) : merA G = ((mgA G).1, clA G, (mgA G).2) := if_pos h
theorem merA_bad {G : Gr} (h : chkD G ≠ 0) : merA G = (⟨0, 0, []⟩, [], chkD G) := if_neg h
theorem cl_bd {G : Gr} (x : Int) (h : x ∈ clA G) : 0 ≤ x ∧ x < (G.n.toNat : Int) := by
 unfold clA at h
 cases hn : G.n.toNat with
 | zero => rw [hn] at h; simp [clsN] at h
 | succ n =>
  rw [hn] at h
  have h' : x ∈ (List.range (n + 1)).map (numR (relA G.q.toNat G.es (clsN G.q.toNat (n + 1) G.es n))) := h
  obtain ⟨s, hs, rfl⟩ := List.mem_map.1 h'
  have h1 := numR_bd (relA_eqv G.q.toNat G.es (clsN G.q.toNat (n + 1) G.es n)) s (n + 1) (by simpa using hs)
  have h2 := frsR_len (relA G.q.toNat G.es (clsN G.q.toNat (n + 1) G.es n)) (n + 1)
  omega
theorem cl_len (G : Gr) : (clA G).length = G.n.toNat := clsN_len _
theorem mg_snoc (C : List Int) (l : List Ed) (k : Nat) (h : k < l.length) : (l.take (k + 1)).map (mgE C) = (l.take k).map (mgE C) ++ [mgE C l[k]] := by
 rw [List.take_succ_eq_append_getElem h, List.map_append]; rfl
theorem cell_grown {w w' : World} {o : Obj} {row : Option Nat} {n b i : Nat} {v : Value} (hg : ((w.drewN n).alloc o).grownBy w' row) (hc : w.cell? ⟨b, i, none⟩ = some v) (hne : some b ≠ row) : w'.cell? ⟨b, i, none⟩ = some v :=
 hg.cell (cell_al o (show (w.drewN n).cell? ⟨b, i, none⟩ = some v from hc)) hne
def OwnL (n : Nat) (w' : World) (q : Option Addr) (l : List Int) : Prop := l = [] ∨ ∃ b, q = some ⟨b, 0, none⟩ ∧ n ≤ b ∧ VRow w' b 3 (l.map (Value.int .i64))
theorem OwnL.sl {n : Nat} {w' : World} {q : Option Addr} {l : List Int} (h : OwnL n w' q l) : Sl w' (Value.int .i64) q l := by
 rcases h with h | ⟨b, rfl, _, h⟩
 ·exact .inl h
 ·exact Sl.of_vrow h
theorem OwnL.mono {n m : Nat} {w' : World} {q : Option Addr} {l : List Int} (h : OwnL n w' q l) (hm : m ≤ n) : OwnL m w' q l := h.imp id (fun ⟨b, a, c, d⟩ => ⟨b, a, Nat.le_trans hm c, d⟩)
theorem OwnL.set {n B i : Nat} {w' : World} {q : Option Addr} {l : List Int} (h : OwnL n w' q l) (hB : B < n) (v : Value) : OwnL n (w'.setCell ⟨B, i, none⟩ v) q l := h.imp id (fun ⟨b, a, c, d⟩ => ⟨b, a, c, d.other _ (by omega)⟩)
theorem OwnL.below {n : Nat} {w w' : World} {q : Option Addr} {l : List Int} (h : OwnL n w q l) (hB : RowKit.Below w.heap.size w w') : OwnL n w' q l := h.imp id (fun ⟨b, a, c, d⟩ => ⟨b, a, c, d.below hB d.lt⟩)
theorem sg_boxN {w : World} {B : Nat} {x y : Int} {q : Option Addr} {n c : Nat} {p : Option Addr} {l : List Ed} (hb : VRow w B 24 [.int .i64 x, .int .i64 y, .slice q n c]) (h : Sg 3 w edE p l) (i : Nat) (v : Value) : Sg 3 (w.setCell ⟨B, i, none⟩ v) edE p l := by
 rcases h with h | ⟨b, off, hp, hlt, hc⟩
 ·exact .inl h
 ·rcases l with _ | ⟨e, l⟩
  ·exact .inl rfl
  ·have hne : B ≠ b := by
    intro he
    subst he
    have h2 := hc 0 (by simp) 2 (by omega)
    rw [hb.cell] at h2
    rcases off with _ | off
    ·simp [edE] at h2
    ·simp [edE] at h2
   exact .inr ⟨b, off, hp, by rw [World.size_setCell]; exact hlt, fun i hi j hj => (World.cell?_setCell_far _ _ _ _ hne).trans (hc i hi j hj)⟩
def set3N (w : World) (B : Nat) (u v x : Value) : World := ((w.setCell ⟨B, 0, none⟩ u).setCell ⟨B, 1, none⟩ v).setCell ⟨B, 2, none⟩ x
theorem box3N {w w4 : World} {B n : Nat} {G : Gr} {p q : Option Addr} {c : Nat} {l : List Int} (e : VRow w4 B 24 [.int .i64 0, .int .i64 0, .slice none 0 0]) (hs : Sg 3 w4 edE p G.es) (hl : OwnL n w4 q l) (hn : B < n) (hB : RowKit.Below w.heap.size w w4) (hw : w.heap.size ≤ B) :
  VRow (set3N w4 B (.int .i64 G.q) (.int .i64 G.n) (.slice p G.es.length c)) B 24 [.int .i64 G.q, .int .i64 G.n, .slice p G.es.length c] ∧ Sg 3 (set3N w4 B (.int .i64 G.q) (.int .i64 G.n) (.slice p G.es.length c)) edE p G.es ∧
   OwnL n (set3N w4 B (.int .i64 G.q) (.int .i64 G.n) (.slice p G.es.length c)) q l ∧ RowKit.Below w.heap.size w (set3N w4 B (.int .i64 G.q) (.int .i64 G.n) (.slice p G.es.length c)) := by
 unfold set3N
 have r1 := VRow.set (i := 0) (.int .i64 G.q) e
 have r2 := VRow.set (i := 1) (.int .i64 G.n) r1
 have r3 := VRow.set (i := 2) (.slice p G.es.length c) r2
 exact ⟨r3, sg_boxN r2 (sg_boxN r1 (sg_boxN e hs _ _) _ _) _ _, ((hl.set hn _).set hn _).set hn _, ((hB.setCell (show w.heap.size ≤ B from hw) _).setCell (show w.heap.size ≤ B from hw) _).setCell (show w.heap.size ≤ B from hw) _⟩
def RetMe (H : Gr) (l : List Int) (k : Int) (w : World) (e : Ending) (w' : World) : Prop :=
 ∃ p c q d, e = .returned (.tuple #[(.agg #[.int .i64 H.q, .int .i64 H.n, .slice p H.es.length c]), .slice q l.length d, .int .i64 k]) ∧ Sg 3 w' edE p H.es ∧ H.es.length ≤ c ∧ OwnL w.heap.size w' q l ∧ RowKit.Below w.heap.size w w'
theorem RetMe.of {x : Gr × List Int × Int} {H : Gr} {l : List Int} {k : Int} {w w' : World} {p q : Option Addr} {c d : Nat} (hx : x = (H, l, k)) (h1 : Sg 3 w' edE p H.es) (h2 : H.es.length ≤ c) (h3 : OwnL w.heap.size w' q l) (hB : RowKit.Below w.heap.size w w') :
  RetMe x.1 x.2.1 x.2.2 w (.returned (.tuple #[(.agg #[.int .i64 H.q, .int .i64 H.n, .slice p H.es.length c]), .slice q l.length d, .int .i64 k])) w' := by
 subst hx; exact ⟨p, c, q, d, rfl, h1, h2, h3, hB⟩
set_option maxRecDepth 100000 in
set_option maxHeartbeats 4000000 in
theorem mmerge_any (G : Gr) (p : Option Addr) (c : Nat) (w : World) (hin : Sg 3 w edE p G.es) (hv : Vg G) (hu : Uq G.es) :
  Calls Tryz.prog 52 #[(.agg #[.int .i64 G.q, .int .i64 G.n, .slice p G.es.length c])] w (RetMe (mgA G).1 (clA G) (mgA G).2 w) := by
 obtain ⟨i0, hi0, hz0, hz1, hz2⟩ := info_parts infoE
 have HIN := hidI hin; have HV := hidI hv
 obtain ⟨w0, hw0⟩ : ∃ w0, w0 = (w.alloc (.cells #[.int .i64 G.q, .int .i64 G.n, .slice p G.es.length c] 24)).alloc (.cells #[.int .i64 0, .int .i64 0, .slice none 0 0] 24) := ⟨_, rfl⟩
 have b0 : VRow w0 w.heap.size 24 [.int .i64 G.q, .int .i64 G.n, .slice p G.es.length c] := by subst hw0; exact (VRow.new w _ _).alloc _
 have b1 : VRow w0 (w.heap.size + 1) 24 [.int .i64 0, .int .i64 0, .slice none 0 0] := by subst hw0; exact VRow.new1 w _ _ _
 have hB0 : RowKit.Below w.heap.size w w0 := by subst hw0; exact ((RowKit.Below.refl _ _).alloc (Nat.le_refl _) _).alloc (by simp) _
 have HP := hidI (mpartition_any G p c w0 (HIN.out.below hB0) hv hu)
 have hs0 : w.heap.size + 2 ≤ w0.heap.size := by subst hw0; simp
 have HBD := hidI (@cl_bd G)
 have HCLN := hidI (cl_len G)
 have HMG : Hid (mgA G = makeA G.q (mxC (clA G)) (G.es.map (mgE (clA G)))) := rfl
 have hn64 : G.n.toNat ≤ 64 := by have := hv.n2; omega
 have hlen := hv.len
 generalize clA G = C at *
 clear hin hv hu
 go_enter Tryz.func52, Tryz.ntmps52
 go_wp2_with fail
 rw [← hw0]
 clear hw0
 refine HP.out.mono ?_
 rintro e w1 ⟨cb, rfl, hcb, hrC, hB1⟩
 have x1 := hB0.trans (hB1.mono hB0.size)
 have c0 := b0.below hB1 b0.lt
 have c1 := b1.below hB1 b1.lt
 have f2 := c0.at 2 rfl
 have hcl64 : C.length ≤ 64 := by have := HCLN.out; omega
 clear hB1 b0 b1 hB0 HP
 go_wp2
 go_loop [6, 18] (fun nv iv => ∃ k : Nat, k ≤ C.length ∧ iv = .int .i64 k ∧ nv = .int .i64 (mxC (C.take k))) (fun _ iv => C.length - (intOf iv).toNat)
 case atStart => exact ⟨0, by omega, rfl, rfl⟩
 case round =>
  obtain ⟨k, hk, rfl, rfl⟩ := hrel
  by_cases hlt : k < C.length
  ·have hltI : (k : Int) < (C.length : Int) := by omega
   have e1 := hrC.at k (v := .int .i64 C[k]) (by simp [hlt])
   have hb := HBD.out _ (List.getElem_mem hlt)
   have hm := mxC_gen (C.take k) 0 (fun x hx => by have := HBD.out x (List.mem_of_mem_take hx); omega) (by omega) (by omega)
   have HS : Hid (mxC (C.take (k + 1)) = max (mxC (C.take k)) (C[k] + 1)) := by rw [Hid, List.take_succ_eq_append_getElem hlt, mxC_snoc]
   change 0 ≤ mxC (C.take k) ∧ mxC (C.take k) ≤ 1001 at hm
   generalize mxC (C.take k) = m at *
   generalize C[k] = x at *
   go_wp2
   go_round
   case rel => exact ⟨k + 1, by omega, by go_num, by rw [HS.out]⟩
   case measure => simp [intOf]; omega
  ·have hltI : ¬ (k : Int) < (C.length : Int) := by omega
   obtain rfl : k = C.length := by omega
   rw [List.take_length]
   have hm := mxC_gen C 0 (fun x hx => by have := HBD.out x hx; omega) (by omega) (by omega)
   change 0 ≤ mxC C ∧ mxC C ≤ 1001 at hm
   generalize hmx : mxC C = m at *
   have hmx := hidI hmx
   go_wp2
   clear f2
   go_loopw [9, 30] (fun ov iv wr => ∃ k : Nat, k ≤ G.es.length ∧ iv = .int .i64 k ∧ wr.ownsRow w1.heap.size 44 3 ov k (cat ((G.es.take k).map (mgE C))) ∧ RowKit.Below w1.heap.size w1 wr) (fun _ iv _ => G.es.length - (intOf iv).toNat)
   case atStart => exact ⟨0, by omega, rfl, World.ownsRow_nil _ _ _ _, RowKit.Below.refl _ _⟩
   case round =>
    obtain ⟨k, hk, rfl, hown, hB⟩ := hrel
    have xr := x1.trans (hB.mono x1.size)
    have cr := c0.below hB c0.lt
    have cs := c1.below hB c1.lt
    have f0 := cr.at 0 rfl; have f1 := cr.at 1 rfl; have f2 := cr.at 2 rfl
    by_cases hlt : k < G.es.length
    ·have hltI : (k : Int) < (G.es.length : Int) := by omega
     obtain ⟨b3, o3, rfl, hb3, e0, e1, e2⟩ := (HIN.out.below xr).get3 k hlt rfl
     have hins := HV.out.ins _ (List.getElem_mem hlt)
     have HNN := hidI (mg_snoc C G.es k hlt)
     generalize (G.es.take k).map (mgE C) = M at *
     generalize hx : G.es[k] = x at *
     obtain ⟨xf, xl, xt⟩ := x
     have hins : 0 ≤ xf ∧ 0 ≤ xl ∧ 0 ≤ xt ∧ xf < G.n ∧ xt < G.n ∧ xl < G.q := hins
     have e0 : wr.cell? ⟨b3, o3 + k * 3, none⟩ = some (.int .i64 xf) := e0
     have e1 : wr.cell? ⟨b3, o3 + k * 3 + 1, none⟩ = some (.int .i64 xl) := e1
     have e2 : wr.cell? ⟨b3, o3 + k * 3 + 2, none⟩ = some (.int .i64 xt) := e2
     obtain ⟨F, rfl⟩ : ∃ F : Nat, xf = F := ⟨xf.toNat, by omega⟩
     obtain ⟨T, rfl⟩ : ∃ T : Nat, xt = T := ⟨xt.toNat, by omega⟩
     have hF : F < C.length := by have := HCLN.out; omega
     have hT : T < C.length := by have := HCLN.out; omega
     have hFI : (F : Int) < (C.length : Int) := by omega
     have hTI : (T : Int) < (C.length : Int) := by omega
     have hbF := HBD.out _ (List.getElem_mem hF)
     have hbT := HBD.out _ (List.getElem_mem hT)
     have HMX : Hid (mgE C ⟨(F : Int), xl, (T : Int)⟩ = ⟨C[F], xl, C[T]⟩) := by
      rw [Hid]; unfold mgE; simp only; rw [cg_get hF, cg_get hT]
     have hrCr := hrC.below hB hrC.lt
     obtain ⟨wb, hwb⟩ : ∃ wb, wb = wr.alloc (.cells #[.int .i64 (F : Int), .int .i64 xl, .int .i64 (T : Int)] 44) := ⟨_, rfl⟩
     have bx : VRow wb wr.heap.size 44 [.int .i64 (F : Int), .int .i64 xl, .int .i64 (T : Int)] := by subst hwb; exact VRow.new wr _ _
     have hBb : RowKit.Below wr.heap.size wr wb := by subst hwb; exact (RowKit.Below.refl _ _).alloc (Nat.le_refl _) _
     have hownb : wb.ownsRow w1.heap.size 44 3 u9 k (cat M) := by subst hwb; exact hown.alloc _
     have hBw := hB.trans (hBb.mono hB.size)
     have hrCb := hrCr.below hBb hrCr.lt
     have k0 := bx.at 0 rfl; have k1 := bx.at 1 rfl; have k2 := bx.at 2 rfl
     have k3 := hrCb.at F (v := .int .i64 (C[F]'hF)) (by simp [hF])
     have k4 := hrCb.at T (v := .int .i64 (C[T]'hT)) (by simp [hT])
     have hnx : some wr.heap.size ≠ u9.ownBlock := fun h => by have := (hown.lt _ h.symm).2; omega
     have hnc : some cb ≠ u9.ownBlock := fun h => by have := (hown.lt _ h.symm).1; have := hrC.lt; omega
     obtain ⟨xb, hxb⟩ : ∃ xb, xb = wr.heap.size := ⟨_, rfl⟩
     rw [← hxb] at hnx
     rw [← hxb] at k0 k1 k2
     generalize C[F]'hF = cf at *
     generalize C[T]'hT = ct at *
     have HBG : Hid (∀ (o : Obj) (wA : World), ((wb.alloc o).drew).grownBy wA u9.ownBlock → RowKit.Below w1.heap.size w1 wA) := fun o wA hg =>
      ((hBw.alloc hBw.size o).trans ((show Dr (wb.alloc o) (wb.alloc o).drew from ⟨1, rfl⟩).below _)).grown hg (by have := hBw.size; show w1.heap.size ≤ (wb.alloc o).heap.size; rw [World.size_alloc]; omega) (fun j e => (hown.lt j e).1)
     go_upto_region 12 with fail
     rw [← hwb, ← hxb]
     clear hwb hxb bx e0 e1 e2 f0 f1 f2
     go_region_held3 (fun w' => w'.cell? ⟨xb, 0, none⟩ = some (.int .i64 (F : Int)) ∧ w'.cell? ⟨xb, 1, none⟩ = some (.int .i64 xl) ∧ w'.cell? ⟨xb, 2, none⟩ = some (.int .i64 (T : Int)) ∧ w'.cell? ⟨cb, F, none⟩ = some (.int .i64 cf) ∧ w'.cell? ⟨cb, T, none⟩ = some (.int .i64 ct))
       (first | (go_split_ands; refine ⟨?_, ?_, ?_, ?_, ?_⟩ <;> first | assumption | (go_keep; done) | exact cell_grown (n := 1) hgA k0 hnx | exact cell_grown (n := 1) hgA k1 hnx | exact cell_grown (n := 1) hgA k2 hnx | exact cell_grown (n := 1) hgA k3 hnc | exact cell_grown (n := 1) hgA k4 hnc))
       (first
        | (go_split_ands; refine step_append_sg (by rfl) _ _ _ (by rfl) u9 (some ⟨_, 0, none⟩) 1 1 (by rfl) (by rfl) w1.heap.size 44 i0 _ Tryz.underlying22 hi0 hz0 hz1 hz2 rfl M k [⟨cf, xl, ct⟩] rfl (by omega) (by first | exact (hownb.dr ⟨1, rfl⟩).alloc _ | exact hownb.alloc _) (by first | exact Sg.of_row (l := [⟨cf, xl, ct⟩]) (VRow.new _ 44 (cat [⟨cf, xl, ct⟩]))) (by have := hBw.size; simp; omega) ?_; intro vA wA hoA hgA))
     all_goals
      have hBf := HBG.out _ _ hgA
      go_wp2
      go_roundw
      case rel => exact ⟨k + 1, by omega, by go_num, by rw [HNN.out, HMX.out]; exact hoA, hBf⟩
      case measure => simp [intOf]; omega
    ·have hltI : ¬ (k : Int) < (G.es.length : Int) := by omega
     obtain rfl : k = G.es.length := by omega
     rw [List.take_length] at hown
     obtain ⟨pv, mv, cv, rfl⟩ := own_shape hown
     obtain ⟨hmv, hsv⟩ := sg_len (p' := none) hown
     have hlm : (G.es.map (mgE C)).length ≤ 100000 := by rw [List.length_map]; omega
     have HM : Hid (Calls Tryz.prog 58 #[.int .i64 G.q, .int .i64 m, .slice pv mv cv] wr (RetGo (makeA G.q m (G.es.map (mgE C))).1 (makeA G.q m (G.es.map (mgE C))).2 wr)) := by
      subst hmv; exact gMake_own G.q m (G.es.map (mgE C)) pv cv wr hsv hlm
     rw [← HMG.out] at HM
     clear hmv HMG
     generalize mgA G = R at *
     have hrCr := hrC.below hB hrC.lt
     go_wp2_with fail
     refine HM.out.mono ?_
     rintro e w3 ⟨p3, m3, c3, rfl, hown3, hB3⟩
     have x3 := xr.trans (hB3.mono xr.size)
     have e1 := cs.below hB3 cs.lt
     have hz : w.heap.size + 1 < wr.heap.size := cs.lt
     have hr3 := hrCr.below hB3 hrCr.lt
     clear f0 f1 f2
     obtain ⟨w4, hw4⟩ : ∃ w4, w4 = w3.alloc (.cells #[.int .i64 R.1.q, .int .i64 R.1.n, .slice p3 m3 c3] 24) := ⟨_, rfl⟩
     have hB4 : RowKit.Below w3.heap.size w3 w4 := by subst hw4; exact (RowKit.Below.refl _ _).alloc (Nat.le_refl _) _
     have bn : VRow w4 w3.heap.size 24 [.int .i64 R.1.q, .int .i64 R.1.n, .slice p3 m3 c3] := by subst hw4; exact VRow.new w3 _ _
     obtain ⟨nb, hnb⟩ : ∃ nb, nb = w3.heap.size := ⟨_, rfl⟩
     rw [← hnb] at bn
     have x4 := x3.trans (hB4.mono x3.size)
     have e4 := e1.below hB4 e1.lt
     have hr4 := hr3.below hB4 hr3.lt
     have own4 := hown3.below hB4
     have n0 := bn.at 0 rfl; have n1 := bn.at 1 rfl; have n2 := bn.at 2 rfl
     have j0 := e4.at 0 rfl; have j1 := e4.at 1 rfl; have j2 := e4.at 2 rfl
     have z0 := e4.frozen 0; have z1 := e4.frozen 1; have z2 := e4.frozen 2
     have hne : nb ≠ w.heap.size + 1 := by have := e1.lt; omega
     have hcbn : cb ≠ w.heap.size + 1 := by omega
     go_upto_region 15 with fail
     rw [← hw4, ← hnb]
     clear hw4 hnb
     go_wp2
     have r6 := VRow.set (i := 2) (.slice p3 m3 c3) (VRow.set (i := 1) (.int .i64 R.1.n) (VRow.set (i := 0) (.int .i64 R.1.q) e4))
     have y0 := r6.at 0 rfl; have y1 := r6.at 1 rfl; have y2 := r6.at 2 rfl
     have o6 := ownsRow_setCell_below (a := (⟨w.heap.size + 1, 2, none⟩ : Addr)) (ownsRow_setCell_below (a := (⟨w.heap.size + 1, 1, none⟩ : Addr)) (ownsRow_setCell_below (a := (⟨w.heap.size + 1, 0, none⟩ : Addr)) own4 hz (.int .i64 R.1.q)) hz (.int .i64 R.1.n)) hz (.slice p3 m3 c3)
     have x6 : RowKit.Below w.heap.size w (((w4.setCell (⟨w.heap.size + 1, 0, none⟩ : Addr) (.int .i64 R.1.q)).setCell (⟨w.heap.size + 1, 1, none⟩ : Addr) (.int .i64 R.1.n)).setCell (⟨w.heap.size + 1, 2, none⟩ : Addr) (.slice p3 m3 c3)) :=
      ((x4.setCell (show w.heap.size ≤ w.heap.size + 1 by omega) _).setCell (show w.heap.size ≤ w.heap.size + 1 by omega) _).setCell (show w.heap.size ≤ w.heap.size + 1 by omega) _
     have hr6 := ((hr4.other (C := w.heap.size + 1) (i := 0) (.int .i64 R.1.q) hcbn).other (C := w.heap.size + 1) (i := 1) (.int .i64 R.1.n) hcbn).other (C := w.heap.size + 1) (i := 2) (.slice p3 m3 c3) hcbn
     refine bodyPost_ret (v := .tuple #[.agg #[.int .i64 R.1.q, .int .i64 R.1.n, .slice p3 m3 c3], .slice (some ⟨cb, 0, none⟩) C.length C.length, .int .i64 R.2]) (by simp [results, Tryz.results52, go_sem, y0, y1, y2]) rfl ?_
     obtain ⟨p6, c6, hv, hs6, hc6, _⟩ := own_sg o6
     cases hv
     exact ⟨p3, c3, _, _, rfl, hs6, hc6, .inr ⟨cb, rfl, by omega, hr6⟩, x6⟩
end
end Go.Proofs.YtocbhlohcikapaaGreatDoor
