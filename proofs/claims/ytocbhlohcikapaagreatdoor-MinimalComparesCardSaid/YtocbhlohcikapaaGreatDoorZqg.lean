/-
  Words, plain lemmas and walks, merged: Ne, Map, Nl, Nm, Nc, Nf, Ng.
-/
import Derived.Test.YtocbhlohcikapaaGreatDoorZqf
import Derived.Deep.Quiet
import Derived.Maps.OwnIn
import Derived.DeepKeys4
import Derived.Test.YtocbhlohcikapaaGreatDoorZqa
import Derived.Laws.StructEq
import Derived.Shelf.SlicesE.Equal
import Derived.Test.YtocbhlohcikapaaGreatDoorZqb
import Derived.Lib.SlBy
set_option linter.unusedVariables false
set_option linter.unusedSimpArgs false
namespace Go.Proofs.YtocbhlohcikapaaGreatDoor
open Go.RowKit Go.Sort

/-! ### Tables in memory -/
def hdV (bs : Nat → Nat) (q : Nat) (s : Nat) : Value := .slice (some ⟨bs s, 0, none⟩) q q
def rowV (T : Nat → Nat → Int) (s : Nat) (a : Nat) : Value := .int .i64 (T s a)
structure Tab (w : World) (base B n q : Nat) (bs : Nat → Nat) (T : Nat → Nat → Int) : Prop where
  hd : VRow w B 30 ((List.range n).map (hdV bs q))
  row : ∀ s, s < n → VRow w (bs s) 3 ((List.range q).map (rowV T s))
  inj : ∀ s t, s < n → t < n → bs s = bs t → s = t
  lo : base ≤ B ∧ ∀ s, s < n → base ≤ bs s
  ne : ∀ s, s < n → bs s ≠ B
theorem map_range_get {f : Nat → Value} {n i : Nat} (h : i < n) : ((List.range n).map f)[i]? = some (f i) := by simp [h]
theorem map_range_set {f g : Nat → Value} {n i : Nat} {v : Value} (hi : i < n) (hv : g i = v) (hg : ∀ j, j < n → j ≠ i → g j = f j) : ((List.range n).map f).set i v = (List.range n).map g := by
  apply List.ext_getElem
  · simp
  · intro j h1 h2
    rw [List.getElem_set]
    split
    · rename_i e; subst e; rw [List.getElem_map, List.getElem_range, hv]
    · rename_i e
      rw [List.getElem_map, List.getElem_map, List.getElem_range]
      rw [hg j (by simpa using h2) (fun h => e h.symm)]
section
variable {w : World} {base B n q : Nat} {bs : Nat → Nat} {T : Nat → Nat → Int}
theorem Tab.below {w' : World} {b : Nat} (h : Tab w base B n q bs T) (hB : RowKit.Below b w w') (h1 : B < b) (h2 : ∀ s, s < n → bs s < b) : Tab w' base B n q bs T :=
  ⟨h.hd.below hB h1, fun s hs => (h.row s hs).below hB (h2 s hs), h.inj, h.lo, h.ne⟩
theorem Tab.later {w' : World} (h : Tab w base B n q bs T) (hB : RowKit.Below w.heap.size w w') : Tab w' base B n q bs T :=
  h.below hB h.hd.lt (fun s hs => (h.row s hs).lt)
theorem Tab.congr {T' : Nat → Nat → Int} (h : Tab w base B n q bs T) (e : ∀ s a, s < n → a < q → T s a = T' s a) : Tab w base B n q bs T' :=
  ⟨h.hd, fun s hs => by
    have := h.row s hs
    have e2 : (List.range q).map (rowV T s) = (List.range q).map (rowV T' s) := by
      apply List.map_congr_left
      intro a ha
      unfold rowV; rw [e s a hs (by simpa using ha)]
    rw [e2] at this; exact this, h.inj, h.lo, h.ne⟩
theorem Tab.set (h : Tab w base B n q bs T) (f l : Nat) (t : Int) (hf : f < n) (hl : l < q) :
    Tab (w.setCell ⟨bs f, l, none⟩ (.int .i64 t)) base B n q bs (fun s a => if s = f ∧ a = l then t else T s a) := by
  refine ⟨h.hd.other _ (fun e => h.ne f hf e.symm), fun s hs => ?_, h.inj, h.lo, h.ne⟩
  by_cases e : s = f
  · subst e
    have := (h.row s hs).set (i := l) (.int .i64 t)
    rw [map_range_set (g := rowV (fun s' a => if s' = s ∧ a = l then t else T s' a) s) hl (by simp [rowV]) (fun j _ hj => by simp [rowV, hj])] at this
    exact this
  · have := (h.row s hs).other (C := bs f) (i := l) (.int .i64 t) (fun e2 => e (h.inj s f hs hf e2))
    have e2 : rowV (fun s' a => if s' = f ∧ a = l then t else T s' a) s = rowV T s := by funext a; simp [rowV, e]
    rw [e2]; exact this
theorem Tab.mono {base' : Nat} (h : Tab w base B n q bs T) (hb : base' ≤ base) : Tab w base' B n q bs T :=
  ⟨h.hd, h.row, h.inj, ⟨Nat.le_trans hb h.lo.1, fun s hs => Nat.le_trans hb (h.lo.2 s hs)⟩, h.ne⟩
end
theorem infoS : (Tryz.prog.info? 30).map (fun i => (i.zero, i.size, i.bytes)) = some (some (.slice none 0 0), 1, 24) := by kernel_rfl
theorem made_rowS {w : World} {B e g n : Nat} (h : w.ownsRow B e 1 (.slice (some ⟨g, 0, none⟩) n n) n (madeCells (Value.slice none 0 0).cells (n * 1)).toList) : VRow w g e (List.replicate n (.slice none 0 0)) := by
  have := own_vrowJ h
  rw [show (Value.slice none 0 0).cells = #[Value.slice none 0 0] from rfl, toList_madeCells_one, Nat.mul_one] at this
  exact this
/-- A table of k rows, the others not made yet. -/
structure TabP (w : World) (base B n q k : Nat) (bs : Nat → Nat) : Prop where
  hd : VRow w B 30 ((List.range k).map (hdV bs q) ++ List.replicate (n - k) (.slice none 0 0))
  row : ∀ s, s < k → VRow w (bs s) 3 (List.replicate q (.int .i64 (-1)))
  inj : ∀ s t, s < k → t < k → bs s = bs t → s = t
  lo : base ≤ B ∧ ∀ s, s < k → base ≤ bs s
  ne : ∀ s, s < k → bs s ≠ B
theorem TabP.next {w w2 : World} {base B n q k g : Nat} {bs : Nat → Nat} (h : TabP w base B n q k bs) (hk : k < n) (hB : RowKit.Below w.heap.size w w2) (hg : w.heap.size ≤ g) (hr : VRow w2 g 3 (List.replicate q (.int .i64 (-1)))) (hb : base ≤ w.heap.size) :
    TabP (w2.setCell ⟨B, k, none⟩ (.slice (some ⟨g, 0, none⟩) q q)) base B n q (k + 1) (fun s => if s = k then g else bs s) := by
  have hlt := h.hd.lt
  have hne : ∀ s, s < k → bs s < g := fun s hs => Nat.lt_of_lt_of_le (h.row s hs).lt hg
  refine ⟨?_, fun s hs => ?_, fun s t hs ht => ?_, ⟨h.lo.1, fun s hs => ?_⟩, fun s hs => ?_⟩
  · have h1 := (h.hd.below hB hlt).set (i := k) (.slice (some ⟨g, 0, none⟩) q q)
    obtain ⟨m, hm⟩ : ∃ m, n - k = m + 1 := ⟨n - k - 1, by omega⟩
    rw [hm, List.replicate_succ, List.set_append_right _ _ (by simp), List.length_map, List.length_range, Nat.sub_self, List.set_cons_zero] at h1
    rw [show n - (k + 1) = m by omega, List.range_succ, List.map_append, List.append_assoc]
    have e : (List.range k).map (hdV (fun s => if s = k then g else bs s) q) = (List.range k).map (hdV bs q) := by
      apply List.map_congr_left
      intro s hs
      have : s ≠ k := by have := List.mem_range.1 hs; omega
      simp [hdV, this]
    rw [e]
    simpa [hdV] using h1
  · by_cases e : s = k
    · subst e
      rw [if_pos rfl]
      exact hr.other _ (by omega)
    · have hs' : s < k := by omega
      rw [if_neg e]
      exact ((h.row s hs').below hB (h.row s hs').lt).other _ (h.ne s hs')
  · have := hne s; have := hne t
    split <;> split
    · intro _; omega
    · intro e; have := hne t (by omega); omega
    · intro e; have := hne s (by omega); omega
    · intro e; exact h.inj s t (by omega) (by omega) e
  · split
    · omega
    · exact h.lo.2 s (by omega)
  · split
    · omega
    · exact h.ne s (by omega)
theorem TabP.tab {w : World} {base B n q : Nat} {bs : Nat → Nat} (h : TabP w base B n q n bs) : Tab w base B n q bs (fun _ _ => -1) := by
  refine ⟨by have := h.hd; rwa [Nat.sub_self, List.replicate_zero, List.append_nil] at this, fun s hs => ?_, h.inj, h.lo, h.ne⟩
  have := h.row s hs
  have e : (List.range q).map (rowV (fun _ _ => -1) s) = List.replicate q (.int .i64 (-1)) := by
    rw [List.eq_replicate_iff]
    simp [rowV]
  rw [e]; exact this
/-- A table in memory of the call's own. -/
def RetTab (n q : Nat) (T : Nat → Nat → Int) (w : World) (e : Ending) (w' : World) : Prop :=
  ∃ B bs, e = .returned (.slice (some ⟨B, 0, none⟩) n n) ∧ Tab w' w.heap.size B n q bs T ∧ RowKit.Below w.heap.size w w'

set_option maxRecDepth 100000 in
set_option maxHeartbeats 2000000 in
theorem mof_any (G : Gr) (p : Option Addr) (c : Nat) (L : Nat) (w : World) (hin : Sg 3 w edE p G.es) (hv : Vg G) (hu : Uq G.es) (hL : G.q ≤ L) (hL2 : L ≤ 256) :
    Calls Tryz.prog 55 #[(.agg #[.int .i64 G.q, .int .i64 G.n, .slice p G.es.length c]), .int .i64 L] w (RetTab G.n.toNat L (fun s a => tgt G.es s a) w) := by
  obtain ⟨i1, hi1, hy0, hy1, hy3⟩ := info_parts infoS
  have HV := hidI hv; have HU := hidI hu
  obtain ⟨N, hN⟩ : ∃ N : Nat, G.n = N := ⟨G.n.toNat, by have := hv.n1; omega⟩
  have HN : Hid (G.n.toNat = N) := by rw [Hid, hN]; rfl
  have HN2 := hidI hN
  have hN64 : N ≤ 64 := by have := hv.n2; omega
  have hL1 : 1 ≤ L := by have := hv.q1; omega
  have HL := hidI hL
  have hlen := hv.len
  rw [HN.out, hN]
  obtain ⟨w0, hw0⟩ : ∃ w0, w0 = w.alloc (.cells #[.int .i64 G.q, .int .i64 (N : Int), .slice p G.es.length c] 24) := ⟨_, rfl⟩
  have b0 : VRow w0 w.heap.size 24 [.int .i64 G.q, .int .i64 (N : Int), .slice p G.es.length c] := by subst hw0; exact VRow.new w _ _
  have hB0 : RowKit.Below w.heap.size w w0 := by subst hw0; exact (RowKit.Below.refl _ _).alloc (Nat.le_refl _) _
  have zb : w.heap.size < w0.heap.size := b0.lt
  have HIN := hidI (hin.below hB0)
  clear hin hv hu hN hL
  go_enter Tryz.func55, Tryz.ntmps55
  go_upto_region 1 with fail
  rw [← hw0]
  clear hw0
  have g1 := b0.at 1 rfl
  go_wp2_with (at_make; refine wpList_make_full _ rfl _ _ 72 rfl w0.heap.size 30 i1 (.slice none 0 0) 1 Tryz.underlying72 hi1 hy0 hy1 .i64 .i64 _ _ N rfl rfl (by omega) (by omega) (by rw [hy3]; omega) (by unfold maxLen; omega) (Nat.le_refl _) ?_; intro w1 hown hgrow)
  have hP : ∃ bs, TabP w1 w0.heap.size w0.heap.size N L 0 bs := ⟨fun _ => 0, by have := made_rowS hown; simpa using this, fun s hs => absurd hs (by omega), fun s t hs => absurd hs (by omega), ⟨Nat.le_refl _, fun s hs => absurd hs (by omega)⟩, fun s hs => absurd hs (by omega)⟩
  have hB1 : RowKit.Below w0.heap.size w0 w1 := (RowKit.Below.refl _ _).grown hgrow (Nat.le_refl _) (by simp)
  have hs1 := hown
  clear hown hgrow g1
  go_loopw [14] (fun iv wr => ∃ (k : Nat) (bs : Nat → Nat), k ≤ N ∧ iv = .int .i64 k ∧ TabP wr w0.heap.size w0.heap.size N L k bs ∧ RowKit.Below w0.heap.size w0 wr) (fun iv _ => N - (intOf iv).toNat)
  case atStart =>
    obtain ⟨bs, hP⟩ := hP
    exact ⟨0, bs, by omega, rfl, hP, hB1⟩
  case round =>
    clear hP hB1 hs1
    obtain ⟨k, bs, hk, rfl, hP, hB⟩ := hrel
    by_cases hlt : k < N
    · have hltN : (k : Int) < (N : Int) := by omega
      have HC := hidI (repeatI_any (-1) wr.heap.size 0 1 L (wr.alloc (.cells #[.int .i64 (-1)] 3)) ((VRow.new wr 3 [.int .i64 (-1)]).at 0 rfl) hL1 (by omega))
      obtain ⟨wn, hwn⟩ : ∃ wn, wn = wr.alloc (.cells #[.int .i64 (-1)] 3) := ⟨_, rfl⟩
      have hBn : RowKit.Below wr.heap.size wr wn := by subst hwn; exact (RowKit.Below.refl _ _).alloc (Nat.le_refl _) _
      rw [← hwn] at HC
      go_wp2_with fail
      rw [← hwn]
      clear hwn
      refine HC.out.mono ?_
      rintro e w2 ⟨g, rfl, hg, hr, hB2⟩
      have hBB := hBn.trans (hB2.mono hBn.size)
      have hsz := hB.size
      have hP2 := hP.next hlt hBB (Nat.le_trans hBn.size hg) hr hsz
      have hc := (hP.hd.below hBB hP.hd.lt).at k (v := .slice none 0 0) (by rw [List.getElem?_append_right (by simp), List.getElem?_replicate]; simp; omega)
      have hf := (hP.hd.below hBB hP.hd.lt).frozen k
      have hB3 := hB.trans (hBB.mono hsz)
      clear hP hr hBB hB2
      go_wp2
      go_roundw
      case rel => exact ⟨k + 1, _, by omega, by go_num, hP2, hB3.setCell (p := ⟨w0.heap.size, k, none⟩) (Nat.le_refl _) _⟩
      case measure => simp [intOf]; omega
    · obtain rfl : N = k := by omega
      have hltN : ¬ (N : Int) < (N : Int) := by omega
      have hT := hP.tab
      have g2 := (b0.below hB zb).at 2 rfl
      clear hP
      go_wp2
      clear g2
      go_loopw [27] (fun iv wr => ∃ k : Nat, k ≤ G.es.length ∧ iv = .int .i64 k ∧ Tab wr w0.heap.size w0.heap.size N L bs (fun s a => tgt (G.es.take k) s a) ∧ RowKit.Below w0.heap.size w0 wr) (fun iv _ => G.es.length - (intOf iv).toNat)
      case atStart => exact ⟨0, by omega, rfl, hT, hB⟩
      case round =>
        clear hT hB
        obtain ⟨k, hk, rfl, hT, hB⟩ := hrel
        by_cases hlt : k < G.es.length
        · have hltI : (k : Int) < (G.es.length : Int) := by omega
          obtain ⟨b1, o1, rfl, hb1, e0, e1, e2⟩ := (HIN.out.below hB).get3 k hlt rfl
          have hins := HV.out.ins _ (List.getElem_mem hlt)
          have HTS : Hid (∀ s a, tgt (G.es.take (k + 1)) s a = if G.es[k].f = s ∧ G.es[k].l = a then G.es[k].t else tgt (G.es.take k) s a) := fun s a => by
            rw [List.take_succ_eq_append_getElem hlt]
            exact tgt_snoc (by rw [← List.take_succ_eq_append_getElem hlt]; exact List.Pairwise.sublist (List.take_sublist _ _) HU.out) s a
          generalize hx : G.es[k] = x at *
          obtain ⟨xf, xl, xt⟩ := x
          have hins : 0 ≤ xf ∧ 0 ≤ xl ∧ 0 ≤ xt ∧ xf < G.n ∧ xt < G.n ∧ xl < G.q := hins
          have e0 : wr.cell? ⟨b1, o1 + k * 3, none⟩ = some (.int .i64 xf) := e0
          have e1 : wr.cell? ⟨b1, o1 + k * 3 + 1, none⟩ = some (.int .i64 xl) := e1
          have e2 : wr.cell? ⟨b1, o1 + k * 3 + 2, none⟩ = some (.int .i64 xt) := e2
          obtain ⟨F, rfl⟩ : ∃ F : Nat, xf = F := ⟨xf.toNat, by omega⟩
          obtain ⟨A, rfl⟩ : ∃ A : Nat, xl = A := ⟨xl.toNat, by omega⟩
          have hF : F < N := by have := HN2.out; omega
          have hA : A < L := by have := HL.out; omega
          have hFN : (F : Int) < (N : Int) := by omega
          have hAL : (A : Int) < (L : Int) := by omega
          have g2 := (b0.below hB zb).at 2 rfl
          clear hx hins
          go_wp2_with fail
          refine region_tail 10 (by kernel_rfl) (by kernel_rfl) fun W hD => ?_
          have hBa : RowKit.Below wr.heap.size wr W := ((RowKit.Below.refl wr.heap.size wr).alloc (Nat.le_refl _) _).trans (hD.below _)
          have bx : VRow W wr.heap.size 44 [.int .i64 F, .int .i64 A, .int .i64 xt] := (VRow.new wr 44 [.int .i64 (F : Int), .int .i64 (A : Int), .int .i64 xt]).dr hD
          have x0 := bx.at 0 rfl; have x1 := bx.at 1 rfl; have x2 := bx.at 2 rfl
          have hTW := hT.later hBa
          have hBW := hB.trans (hBa.mono hB.size)
          have hh := hTW.hd.at F (map_range_get hF)
          have hrw := (hTW.row F hF).at A (map_range_get hA)
          have hrf := (hTW.row F hF).frozen A
          have hT2 := hTW.set F A xt hF hA
          have hlo := hTW.lo.2 F hF
          unfold hdV at hh
          unfold rowV at hrw
          clear hT hTW hB hBa bx e0 e1 e2 g2 hb1 hD
          simp only [List.take_succ_cons, List.take_zero, List.drop_succ_cons, List.drop_zero]
          iterate 10 still_step
          refine wpStill_nil ?_
          go_wp2
          go_roundw
          case rel =>
            refine ⟨k + 1, by omega, by go_num, hT2.congr (fun s a hs ha => ?_), hBW.setCell (p := ⟨bs F, A, none⟩) hlo _⟩
            rw [HTS.out s a]
            simp only [Int.natCast_inj, eq_comm]
          case measure => simp [intOf]; omega
        · have hltI : ¬ (k : Int) < (G.es.length : Int) := by omega
          have hTf := hT.mono hB0.size
          rw [List.take_of_length_le (by omega)] at hTf
          go_wp2
          go_ret
          exact ⟨w0.heap.size, bs, rfl, hTf, hB0.trans (hB.mono hB0.size)⟩
end Go.Proofs.YtocbhlohcikapaaGreatDoor
namespace Go.Proofs.YtocbhlohcikapaaGreatDoor
open Go.RowKit Go.ChangeMaps Go.MapKept Go.WideShapes Go.Maps

/-- The keys of a kind, as they lie in memory. -/
structure KeyBy {α : Type} (P : Program) (k : TypeId) (kv : α → Value) (ok : α → Prop) : Prop where
  law : Keyed P k
  reads : ∀ a, ok a → ∃ l, keyOf P k (kv a) = some l
  inj : ∀ a b, ok a → ok b → kv a = kv b → a = b

/-- Block b is a map that answers as f does. -/
def Mp {α β : Type} (kv : α → Value) (ok : α → Prop) (vv : β → Value) (w : World) (b : Nat) (f : α → Option β) : Prop :=
  ∃ es clock, w.heap[b]? = some (.map es clock) ∧ es.toList.Pairwise (fun x y => x.key ≠ y.key) ∧
    (∀ e ∈ es.toList, ∃ a x, e.key = kv a ∧ ok a ∧ e.val = vv x ∧ f a = some x) ∧ (∀ a x, f a = some x → ∃ e ∈ es.toList, e.key = kv a)

section
variable {α β : Type} {kv : α → Value} {ok : α → Prop} {vv : β → Value} {w : World} {b : Nat} {f : α → Option β} {P : Program} {k : TypeId}

theorem Mp.lt (h : Mp kv ok vv w b f) : b < w.heap.size := by
  obtain ⟨es, clock, hb, _⟩ := h
  exact (Array.getElem?_eq_some_iff.1 hb).1
theorem Mp.same {w' : World} (h : Mp kv ok vv w b f) (hb : w'.heap[b]? = w.heap[b]?) : Mp kv ok vv w' b f := by
  obtain ⟨es, clock, hb', r⟩ := h
  exact ⟨es, clock, hb.trans hb', r⟩
theorem Mp.alloc (h : Mp kv ok vv w b f) (o : Obj) : Mp kv ok vv (w.alloc o) b f := h.same (Below.heap_alloc w o b h.lt)
theorem Mp.drewN (h : Mp kv ok vv w b f) (n : Nat) : Mp kv ok vv (w.drewN n) b f := h
theorem Mp.drew (h : Mp kv ok vv w b f) : Mp kv ok vv w.drew b f := h
theorem Mp.below {w' : World} {B : Nat} (h : Mp kv ok vv w b f) (hB : Below B w w') (hb : b < B) : Mp kv ok vv w' b f := h.same (hB.block b hb)
theorem Mp.kept {w' : World} {row : Option Nat} (h : Mp kv ok vv w b f) (hg : w.grownBy w' row) (hne : some b ≠ row) : Mp kv ok vv w' b f :=
  h.same (hg.block b h.lt hne)
theorem Mp.setCell (h : Mp kv ok vv w b f) {a : Addr} (ha : b ≠ a.block) (u : Value) : Mp kv ok vv (w.setCell a u) b f := h.same (Below.heap_setCell _ _ _ _ ha)
theorem Mp.made (w : World) : Mp kv ok vv (w.alloc (.map #[] 0)) w.heap.size (fun _ => none) :=
  ⟨#[], 0, heap_alloc_new w _, by simp, by simp, by simp⟩
theorem Mp.congr {g : α → Option β} (h : Mp kv ok vv w b f) (e : ∀ a, f a = g a) : Mp kv ok vv w b g := by
  have : f = g := funext e
  exact this ▸ h

theorem Mp.look {t e : TypeId} (h : Mp kv ok vv w b f) (K : KeyBy P k kv ok) (ht : P.underlying t = some (.map k e)) {z : Value} (hz : (zeroValue e).run P w = .ok z w) (a : α) (ha : ok a) (c : Bool) :
    (Instr.lookup t (.map (some b)) (kv a) c).run P w = .ok (match f a with | some x => if c then .tuple #[vv x, .bool true] else vv x | none => if c then .tuple #[z, .bool false] else z) w := by
  obtain ⟨es, clock, hb, hd, hr, hc⟩ := h
  obtain ⟨kl, hkey⟩ := K.reads a ha
  have hkeys : ∀ e ∈ es.toList, ∃ l, keyOf P k e.key = some l := fun e he => by
    obtain ⟨a', x, h1, h2, _⟩ := hr e he
    rw [h1]; exact K.reads a' h2
  rcases K.law.find w hkey es.toList hkeys with ⟨h1, h2⟩ | ⟨j, e0, h1, h2, h3⟩
  · have hf : f a = none := by
      cases hfa : f a with
      | none => rfl
      | some x => obtain ⟨e, he, hk⟩ := hc a x hfa; exact absurd hk (h2 e he)
    rw [hf]
    simp [Instr.lookup, run_underlying ht, MapKept.run_getObj_map hb, K.law.check w _ hkey, h1, hz, Result.andThen]
  · obtain ⟨a', x, g1, g2, g3, g4⟩ := hr e0 (List.mem_of_getElem? h2)
    obtain rfl := K.inj a' a g2 ha (g1.symm.trans h3)
    rw [g4]
    simp [Instr.lookup, run_underlying ht, MapKept.run_getObj_map hb, K.law.check w _ hkey, h1, g3, Result.andThen]

/-- One key more, or another value at it. -/
def mset [DecidableEq α] (f : α → Option β) (a : α) (x : β) : α → Option β := fun a' => if a' = a then some x else f a'
theorem mset_at [DecidableEq α] (f : α → Option β) (a : α) (x : β) : mset f a x a = some x := by simp [mset]
theorem mset_ne [DecidableEq α] (f : α → Option β) (a a' : α) (x : β) (h : a' ≠ a) : mset f a x a' = f a' := by simp [mset, h]

theorem Mp.store [DecidableEq α] {t e : TypeId} (h : Mp kv ok vv w b f) (K : KeyBy P k kv ok) (ht : P.underlying t = some (.map k e)) (a : α) (ha : ok a) (x : β) :
    ∃ w', (Instr.mapUpdate t (.map (some b)) (kv a) (vv x)).run P w = .ok () w' ∧ Mp kv ok vv w' b (mset f a x) ∧ w.mapTurned w' b := by
  obtain ⟨es, clock, hb, hd, hr, hc⟩ := h
  obtain ⟨kl, hkey⟩ := K.reads a ha
  have hkeys : ∀ e ∈ es.toList, ∃ l, keyOf P k e.key = some l := fun e he => by
    obtain ⟨a', x, h1, h2, _⟩ := hr e he
    rw [h1]; exact K.reads a' h2
  rcases K.law.find w hkey es.toList hkeys with ⟨h1, h2⟩ | ⟨j, e0, h1, h2, h3⟩
  · refine ⟨_, ?_, ⟨es.push ⟨kv a, vv x, clock⟩, clock + 1, heap_setBlock_same hb _, ?_, ?_, ?_⟩, ⟨es, clock, _, _, hb, rfl⟩⟩
    · simp [Instr.mapUpdate, run_underlying ht, MapKept.run_getObj_map hb, K.law.check w false hkey, h1, MapKept.run_setObj_map _ hb, Result.andThen, setBlock]
    · rw [Array.toList_push, List.pairwise_append]
      refine ⟨hd, by simp, fun y hy z hz => ?_⟩
      simp only [List.mem_singleton] at hz; subst hz
      exact h2 y hy
    · intro y hy
      rw [Array.toList_push, List.mem_append, List.mem_singleton] at hy
      rcases hy with hy | rfl
      · obtain ⟨a', x', g1, g2, g3, g4⟩ := hr y hy
        refine ⟨a', x', g1, g2, g3, ?_⟩
        rw [mset_ne _ _ _ _ (fun e => h2 y hy (by rw [g1, e]))]; exact g4
      · exact ⟨a, x, rfl, ha, rfl, mset_at _ _ _⟩
    · intro a' x' hfa
      by_cases e : a' = a
      · subst e; exact ⟨⟨kv a', vv x, clock⟩, by simp, rfl⟩
      · rw [mset_ne _ _ _ _ e] at hfa
        obtain ⟨y, hy, hk⟩ := hc a' x' hfa
        exact ⟨y, by simp [Array.toList_push]; exact .inl (by simpa using hy), hk⟩
  · have hj : es[j]? = some e0 := by simpa using h2
    have hjl : j < es.toList.length := (List.getElem?_eq_some_iff.1 h2).1
    have hlist : (es.modify j (fun e' => { e' with key := kv a, val := vv x })).toList = es.toList.set j { e0 with key := kv a, val := vv x } := by rw [Array.toList_modify, modify_eq_set _ _ _ _ h2]
    have hkm : (es.toList.set j { e0 with key := kv a, val := vv x }).map MapEntry.key = es.toList.map MapEntry.key := by
      rw [List.map_set]
      apply List.ext_getElem?
      intro i
      rw [List.getElem?_set]
      split
      · rename_i hi; subst hi
        rw [if_pos (by simpa using hjl), List.getElem?_map, h2]
        simp [h3]
      · rfl
    have hd' : (es.toList.set j { e0 with key := kv a, val := vv x }).Pairwise (fun x y => x.key ≠ y.key) := by
      have hn : (es.toList.map MapEntry.key).Pairwise (· ≠ ·) := List.pairwise_map.2 hd
      rw [← hkm] at hn
      exact List.pairwise_map.1 hn
    refine ⟨_, ?_, ⟨es.modify j (fun e' => { e' with key := kv a, val := vv x }), clock, heap_setBlock_same hb _, ?_, ?_, ?_⟩, ⟨es, clock, _, _, hb, rfl⟩⟩
    · have hst := K.law.stays w hkey
      simp [Instr.mapUpdate, run_underlying ht, MapKept.run_getObj_map hb, K.law.check w false hkey, h1, hj, h3, hst, MapKept.run_setObj_map _ hb, Result.andThen, setBlock]
    · rw [hlist]; exact hd'
    · intro y hy
      rw [hlist] at hy
      obtain ⟨i, hi, hyi⟩ := List.mem_iff_getElem.1 hy
      rw [List.getElem_set] at hyi
      split at hyi
      · subst hyi; exact ⟨a, x, rfl, ha, rfl, mset_at _ _ _⟩
      · rename_i hne
        have hi' : i < es.toList.length := by simpa using hi
        have hym : y ∈ es.toList := by rw [← hyi]; exact List.getElem_mem _
        obtain ⟨a', x', g1, g2, g3, g4⟩ := hr y hym
        refine ⟨a', x', g1, g2, g3, ?_⟩
        rw [mset_ne]
        · exact g4
        · rintro rfl
          have e1 : es.toList[i].key = es.toList[j].key := by
            rw [hyi, g1]
            have : es.toList[j] = e0 := by have := List.getElem?_eq_getElem hjl; rw [h2] at this; exact (Option.some.inj this).symm
            rw [this, h3]
          rcases Nat.lt_or_gt_of_ne (fun e => hne e) with hlt | hlt
          · exact (List.pairwise_iff_getElem.1 hd j i hjl hi' hlt) e1.symm
          · exact (List.pairwise_iff_getElem.1 hd i j hi' hjl hlt) e1
    · intro a' x' hfa
      rw [hlist]
      by_cases e : a' = a
      · subst e
        exact ⟨_, List.mem_of_getElem? (by rw [List.getElem?_set_self hjl]), rfl⟩
      · rw [mset_ne _ _ _ _ e] at hfa
        obtain ⟨y, hy, hk⟩ := hc a' x' hfa
        have : y.key ∈ (es.toList.set j { e0 with key := kv a, val := vv x }).map MapEntry.key := by rw [hkm]; exact List.mem_map_of_mem hy
        obtain ⟨y', hy', e'⟩ := List.mem_map.1 this
        exact ⟨y', hy', e'.trans hk⟩

/-! ### at the operation, for the walk -/
theorem wpList_lookup_mp {ops : Array Oper} {rest : List Oper} {o : Oper} {a : Act} {Q : Exit → Act → World → Prop}
    (hg : o.guard = none) (m x : Operand) (t : TypeId) (c : Bool) (hop : o.op = Op.lookup t m x c) (e : TypeId) (K : KeyBy P k kv ok) (ht : P.underlying t = some (.map k e)) (z : Value) (hz : (zeroValue e).run P w = .ok z w)
    (b : Nat) (f : α → Option β) (hm : a.eval m = .map (some b)) (hown : Mp kv ok vv w b f) (key : α) (hx : a.eval x = kv key) (hkey : ok key) (r : Value)
    (hr : (match f key with | some x => if c then .tuple #[vv x, .bool true] else vv x | none => if c then .tuple #[z, .bool false] else z) = r)
    (hK : wpList P ops Q rest (a.put o.dst r) w) : wpList P ops Q (o :: rest) a w := by
  refine wpList_plain hg fun K' hK' => ?_
  have hrun := hown.look K ht hz key hkey c
  rw [hr] at hrun
  unfold Oper.wp
  simp [execOp, hop, hm, hx, hrun, Result.andThen]
  exact hK' _ _ hK
theorem wpList_update_mp [DecidableEq α] {ops : Array Oper} {rest : List Oper} {o : Oper} {a : Act} {Q : Exit → Act → World → Prop}
    (hg : o.guard = none) (m x v : Operand) (t : TypeId) (hop : o.op = Op.mapUpdate t m x v) (e : TypeId) (K : KeyBy P k kv ok) (ht : P.underlying t = some (.map k e))
    (b : Nat) (f : α → Option β) (hm : a.eval m = .map (some b)) (hown : Mp kv ok vv w b f) (key : α) (hx : a.eval x = kv key) (hkey : ok key) (val : β) (hv : a.eval v = vv val)
    (hK : ∀ w', Mp kv ok vv w' b (mset f key val) → w.mapTurned w' b → wpList P ops Q rest (a.put o.dst undef) w') : wpList P ops Q (o :: rest) a w := by
  refine wpList_plain hg fun K' hK' => ?_
  obtain ⟨w', hrun, r1, r2⟩ := hown.store K ht key hkey val
  unfold Oper.wp
  simp [execOp, hop, hm, hx, hv, hrun, Result.andThen]
  exact hK' _ _ (hK w' r1 r2)
variable {F : Fence} {nF : Nat}
theorem wpListIn_lookup_mp {ops : Array Oper} {rest : List Oper} {o : Oper} {a : Act} {Q : Exit → Act → World → Prop}
    (hg : o.guard = none) (m x : Operand) (t : TypeId) (c : Bool) (hop : o.op = Op.lookup t m x c) (e : TypeId) (K : KeyBy P k kv ok) (ht : P.underlying t = some (.map k e)) (z : Value) (hz : (zeroValue e).run P w = .ok z w)
    (b : Nat) (f : α → Option β) (hm : a.eval m = .map (some b)) (hown : Mp kv ok vv w b f) (key : α) (hx : a.eval x = kv key) (hkey : ok key) (r : Value)
    (hr : (match f key with | some x => if c then .tuple #[vv x, .bool true] else vv x | none => if c then .tuple #[z, .bool false] else z) = r)
    (hK : wpListIn F nF P ops Q rest (a.put o.dst r) w) : wpListIn F nF P ops Q (o :: rest) a w := by
  refine wpListIn_plain hg fun K' hK' => ?_
  have hrun := hown.look K ht hz key hkey c
  rw [hr] at hrun
  unfold Oper.wpIn
  refine ⟨by simp [Oper.about, hop], ?_⟩
  rw [Oper.semAt_plain F _ _ (by rw [hop]; intro c hc'; cases hc')]
  simp [execOp, hop, hm, hx, hrun, Result.andThen]
  exact hK' _ _ hK
theorem wpListIn_update_mp [DecidableEq α] {ops : Array Oper} {rest : List Oper} {o : Oper} {a : Act} {Q : Exit → Act → World → Prop}
    (hg : o.guard = none) (m x v : Operand) (t : TypeId) (hop : o.op = Op.mapUpdate t m x v) (e : TypeId) (K : KeyBy P k kv ok) (ht : P.underlying t = some (.map k e))
    (b : Nat) (f : α → Option β) (hm : a.eval m = .map (some b)) (hown : Mp kv ok vv w b f) (key : α) (hx : a.eval x = kv key) (hkey : ok key) (val : β) (hv : a.eval v = vv val)
    (hK : ∀ w', Mp kv ok vv w' b (mset f key val) → w.mapTurned w' b → wpListIn F nF P ops Q rest (a.put o.dst undef) w') : wpListIn F nF P ops Q (o :: rest) a w := by
  refine wpListIn_plain hg fun K' hK' => ?_
  obtain ⟨w', hrun, r1, r2⟩ := hown.store K ht key hkey val
  unfold Oper.wpIn
  refine ⟨by simp [Oper.about, hop], ?_⟩
  rw [Oper.semAt_plain F _ _ (by rw [hop]; intro c hc'; cases hc')]
  simp [execOp, hop, hm, hx, hv, hrun, Result.andThen]
  exact hK' _ _ (hK w' r1 r2)
end
end Go.Proofs.YtocbhlohcikapaaGreatDoor
namespace Go.Proofs.YtocbhlohcikapaaGreatDoor
open Go.RowKit Go.Sort

/-! ### Pairs as keys -/
def kP (x : Int × Int) : Value := .agg #[.int .i64 x.1, .int .i64 x.2]
def okP (x : Int × Int) : Prop := (Lit.int .i64 x.1).wf = true ∧ (Lit.int .i64 x.2).wf = true
theorem okP_of {x : Int × Int} (h1 : -1 ≤ x.1 ∧ x.1 ≤ 1000) (h2 : -1 ≤ x.2 ∧ x.2 ≤ 1000) : okP x := by
  unfold okP Lit.wf
  simp [IntKind.min, IntKind.max, IntKind.bits, IntKind.signed]
  omega
theorem pair_law : WideMaps.KeyLaw Tryz.prog 82 := deep_law (m := 5) (by decide) (by kernel_rfl) (by kernel_rfl) (by kernel_rfl)
theorem pair_reads {a b : Int} (wa : (Lit.int .i64 a).wf = true) (wb : (Lit.int .i64 b).wf = true) : ∃ l, keyOf Tryz.prog 82 (.agg #[.int .i64 a, .int .i64 b]) = some l := by
  obtain ⟨m, hm⟩ : ∃ m, Tryz.prog.types.size = m + 1 + 1 := ⟨Tryz.prog.types.size - 2, by kernel_rfl⟩
  have hk : Tryz.prog.keyType 82 = true := by kernel_rfl
  have hc : Tryz.prog.cellsOf 82 = 2 := by kernel_rfl
  have hci : Tryz.prog.cellsOf 3 = 1 := by kernel_rfl
  have hu := Tryz.underlying82
  have hi := Tryz.underlying3
  unfold keyOf
  simp only [hu]
  rw [if_pos (by simp [hk, Value.formed, hu, hc]), hm]
  unfold Program.keyLits
  simp only [hu, Value.cells]
  simp [hc, hci, Program.keyLits, hi, wa, wb]
theorem keyP : KeyBy Tryz.prog 82 kP okP where
  law := Maps.Keyed.of_law pair_law
  reads := fun a ha => pair_reads ha.1 ha.2
  inj := fun a b _ _ h => by
    obtain ⟨a1, a2⟩ := a; obtain ⟨b1, b2⟩ := b
    simp [kP] at h
    exact Prod.ext h.1 h.2

/-! ### Steps -/
set_option maxRecDepth 100000 in
theorem mnext_any (es : List Ed) (s : Int) (a base B n q : Nat) (bs : Nat → Nat) (w : World) (hT : Tab w base B n q bs (fun s a => tgt es s a)) (h0 : -1 ≤ s) (h1 : s < n) (ha : a < q) :
    Calls Tryz.prog 165 #[.slice (some ⟨B, 0, none⟩) n n, .int .i64 s, .int .i64 a] w fun e w' => e = .returned (.int .i64 (nxt es s a)) ∧ w = w' := by
  by_cases h : s < 0
  · have hs : s = -1 := by omega
    have HX : Hid (nxt es s a = -1) := nxt_neg h
    subst hs
    go_enter Tryz.func165, Tryz.ntmps165
    go_wp2
    go_ret
    exact ⟨ret_int HX.out.symm, rfl⟩
  · have HX : Hid (nxt es s a = tgt es s a) := nxt_pos h
    obtain ⟨S, rfl⟩ : ∃ S : Nat, s = S := ⟨s.toNat, by omega⟩
    have hS : S < n := by omega
    have d1 : ((S : Int) == -1) = false := by simp
    have hh := hT.hd.at S (map_range_get hS)
    have hr := (hT.row S hS).at a (map_range_get ha)
    unfold hdV at hh
    simp only [rowV] at hr
    have haI : (a : Int) < (q : Int) := by omega
    generalize tgt es (S : Int) a = t at *
    clear h hT
    go_enter Tryz.func165, Tryz.ntmps165
    go_wp2
    go_ret
    exact ⟨ret_int HX.out.symm, rfl⟩

def oneB (x : Int × Int) : Bool := decide (x.1 < 0) != decide (x.2 < 0)
theorem mone_any (s t : Int) (w : World) (hs : -1 ≤ s) (ht : -1 ≤ t) :
    Calls Tryz.prog 69 #[.agg #[.int .i64 s, .int .i64 t]] w fun e w' => e = .returned (.bool (oneB (s, t))) ∧ RowKit.Below w.heap.size w w' := by
  have hB0 : RowKit.Below w.heap.size w (w.alloc (.cells #[.int .i64 s, .int .i64 t] 82)) := (RowKit.Below.refl _ _).alloc (Nat.le_refl _) _
  have e1 : (s == -1) = decide (s < 0) := by rw [Bool.eq_iff_iff]; simp; omega
  have e2 : (t == -1) = decide (t < 0) := by rw [Bool.eq_iff_iff]; simp; omega
  have HO : Hid (oneB (s, t) = (decide (s < 0) != decide (t < 0))) := rfl
  go_enter Tryz.func69, Tryz.ntmps69
  go_wp2
  go_ret
  rw [HO.out]
  exact ⟨rfl, hB0⟩
end Go.Proofs.YtocbhlohcikapaaGreatDoor
namespace Go.Proofs.YtocbhlohcikapaaGreatDoor
open Go.RowKit Go.Sort

/-! ### Entries -/
structure Fd where
  s : Int
  t : Int
  b : Int
  l : Int
def fdE (x : Fd) : List Value := [.int .i64 x.s, .int .i64 x.t, .int .i64 x.b, .int .i64 x.l]
def catF (l : List Fd) : List Value := l.flatMap fdE
theorem catF_len (l : List Fd) : (catF l).length = l.length * 4 := by
  induction l with
  | nil => rfl
  | cons x l ih =>
    have e : catF (x :: l) = fdE x ++ catF l := rfl
    have e2 : (fdE x).length = 4 := rfl
    rw [e, List.length_append, ih, e2, List.length_cons]; omega
theorem catF_app (a b : List Fd) : catF (a ++ b) = catF a ++ catF b := List.flatMap_append
theorem catF_get : ∀ (l : List Fd) (k : Nat) (h : k < l.length) (j : Nat), j < 4 → (catF l)[k * 4 + j]? = (fdE l[k])[j]?
  | [], k, h, j, hj => by simp at h
  | x :: l, 0, h, j, hj => by
    show (fdE x ++ catF l)[0 * 4 + j]? = _
    rw [Nat.zero_mul, Nat.zero_add, List.getElem?_append_left (by show j < 4; exact hj)]; rfl
  | x :: l, k + 1, h, j, hj => by
    show (fdE x ++ catF l)[(k + 1) * 4 + j]? = _
    rw [List.getElem?_append_right (by show 4 ≤ _; omega), show (k + 1) * 4 + j - (fdE x).length = k * 4 + j by show (k + 1) * 4 + j - 4 = _; omega]
    exact catF_get l k (by simpa using h) j hj
theorem catF_one (l : List Fd) : ∀ v ∈ catF l, v.oneCell' = true := by
  intro v hv
  obtain ⟨x, _, hx⟩ := List.mem_flatMap.1 hv
  simp only [fdE, List.mem_cons, List.not_mem_nil, or_false] at hx
  rcases hx with rfl | rfl | rfl | rfl <;> rfl
theorem ownF_cell {w : World} {B e n cap g : Nat} {l : List Fd} (h : w.ownsRow B e 4 (.slice (some ⟨g, 0, none⟩) n cap) n (catF l)) (k : Nat) (hk : k < l.length) (j : Nat) (hj : j < 4) : w.cell? ⟨g, k * 4 + j, none⟩ = (fdE l[k])[j]? := by
  have hn : l.length = n := by have := h.1; rw [catF_len] at this; omega
  rcases h.2 with ⟨e0, _⟩ | ⟨g', cap', cur, e0, hg, hh, hc, hm, hs, ht⟩
  · cases e0
  · cases e0
    rw [← catF_get l k hk j hj, ← ht]
    have hlt : k * 4 + j < n * 4 := by omega
    simp only [World.cell?, hh]
    rw [List.getElem?_take, if_pos hlt, Array.getElem?_toList]
    simp
theorem infoF : (Tryz.prog.info? 170).map (fun i => (i.zero, i.size, i.bytes)) = some (some (.agg #[.int .i64 0, .int .i64 0, .int .i64 0, .int .i64 0]), 4, 32) := by kernel_rfl

/-! ### What a queue stands for -/
/-- The entries of a queue of pairs: each leads back to the one from which it was found. -/
def Lk (l : List Pw) (q : List Fd) : Prop :=
  q.length = l.length ∧ ∀ i (h : i < l.length) (h' : i < q.length), q[i].s = l[i].1.1 ∧ q[i].t = l[i].1.2 ∧ ((q[i].b = -1 ∧ l[i].2 = []) ∨ ∃ j, ∃ hj : j < i, q[i].b = j ∧ l[i].2 = (l[j]'(by omega)).2 ++ [q[i].l])
theorem Lk.first (s t : Int) : Lk [((s, t), [])] [⟨s, t, -1, -1⟩] := by
  refine ⟨rfl, fun i h h' => ?_⟩
  obtain rfl : i = 0 := by simp at h; exact h
  exact ⟨rfl, rfl, .inl ⟨rfl, rfl⟩⟩
theorem Lk.snoc {l : List Pw} {q : List Fd} (h : Lk l q) {i : Nat} (hi : i < l.length) (s t a : Int) : Lk (l ++ [((s, t), l[i].2 ++ [a])]) (q ++ [⟨s, t, i, a⟩]) := by
  obtain ⟨h1, h2⟩ := h
  refine ⟨by simp [h1], fun k hk hk' => ?_⟩
  by_cases e : k < l.length
  · have e' : k < q.length := by omega
    obtain ⟨g1, g2, g3⟩ := h2 k e e'
    simp only [List.getElem_append_left e, List.getElem_append_left e']
    refine ⟨g1, g2, g3.imp id (fun ⟨j, hj, x, y⟩ => ⟨j, hj, x, ?_⟩)⟩
    rw [List.getElem_append_left (by omega)]; exact y
  · have e2 : k = l.length := by simp at hk; omega
    subst e2
    have e3 : (q ++ [(⟨s, t, i, a⟩ : Fd)])[l.length]'hk' = ⟨s, t, i, a⟩ := by
      rw [List.getElem_append_right (by omega)]
      simp [h1]
    have e4 : (l ++ [((s, t), l[i].2 ++ [a])])[l.length]'hk = ((s, t), l[i].2 ++ [a]) := by
      rw [List.getElem_append_right (Nat.le_refl _)]
      simp
    rw [e3, e4]
    refine ⟨rfl, rfl, .inr ⟨i, hi, rfl, ?_⟩⟩
    simp only
    rw [List.getElem_append_left hi]
def seenF (l : List Pw) (p : Int × Int) : Option Bool := if p ∈ l.map Prod.fst then some true else none
theorem seenF_first (s t : Int) (p : Int × Int) : seenF [((s, t), [])] p = mset (fun _ => none) (s, t) true p := by
  unfold seenF mset
  simp
theorem seenF_snoc (l : List Pw) (x : Int × Int) (wd : List Int) (p : Int × Int) : seenF (l ++ [(x, wd)]) p = mset (seenF l) x true p := by
  unfold seenF mset
  by_cases h : p = x
  · subst h; simp
  · rw [if_neg h]
    simp only [List.map_append, List.mem_append, List.map_cons, List.map_nil, List.mem_singleton]
    by_cases h2 : p ∈ l.map Prod.fst
    · rw [if_pos h2, if_pos (.inl h2)]
    · rw [if_neg h2, if_neg (fun h3 => h3.elim h2 h)]

/-! ### Pairs, compared -/
theorem neqP (a b c d : Int) (w : World) : (binOp .neq 82 (.agg #[.int .i64 a, .int .i64 b]) (.agg #[.int .i64 c, .int .i64 d])).run Tryz.prog w = .ok (.bool (!decide ((a, b) = (c, d)))) w := by
  have hS : Tryz.prog.underlying 82 = some (.struct (Tryz.prog.fieldsOf 82)) := by kernel_rfl
  have hp : Tryz.prog.stoodInHeld 82 = false := by kernel_rfl
  have hr : (Op.eqFields 9999 #[.int .i64 a, .int .i64 b] #[.int .i64 c, .int .i64 d] (Tryz.prog.fieldsOf 82).toList).run Tryz.prog w = .ok (decide ((a, b) = (c, d))) w := by
    simp only [Program.fieldsOf, Tryz.underlying82]
    have u3 := Tryz.underlying3
    have a3 := Tryz.isAgg3
    have z3 := Tryz.sizeOf3
    go_simp
    by_cases h1 : a = c <;> by_cases h2 : b = d <;> simp [h1, h2]
  rw [run_neq_struct, show (10000 : Nat) = 9999 + 1 from rfl, run_equalIn_agg w 9999 82 _ _ hS hp, hr]
  rfl
theorem guardP (op : BinOp) (a b : Operand) (x y z u : Int) (w : World) : (eqGuard op 82 a b (.agg #[.int .i64 x, .int .i64 y]) (.agg #[.int .i64 z, .int .i64 u])).run Tryz.prog w = .ok () w :=
  GuardAt.agg (P := Tryz.prog) (T := 82) (fun x : Int × Int => #[.int .i64 x.1, .int .i64 x.2]) (by kernel_rfl) op a b (x, y) (z, u) w
theorem zeroB (w : World) : (zeroValue 4).run Tryz.prog w = .ok (.bool false) w := by kernel_rfl
end Go.Proofs.YtocbhlohcikapaaGreatDoor
namespace Go.Proofs.YtocbhlohcikapaaGreatDoor
open Go.RowKit Go.Sort

theorem tgt_drop_hit {es : List Ed} {s a : Int} {k : Nat} (hk : k < es.length) (h1 : es[k].f = s) (h2 : es[k].l = a) : tgt (es.drop k) s a = es[k].t := by
  rw [List.drop_eq_getElem_cons hk]; unfold tgt; rw [List.find?_cons_of_pos (by simp [h1, h2])]
theorem tgt_drop_next {es : List Ed} {s a : Int} {k : Nat} (hk : k < es.length) (h : ¬ (es[k].f = s ∧ es[k].l = a)) : tgt (es.drop k) s a = tgt (es.drop (k + 1)) s a := by
  rw [List.drop_eq_getElem_cons hk]; unfold tgt
  rw [List.find?_cons_of_neg (by simpa using h)]
theorem tgt_drop_end {es : List Ed} {s a : Int} {k : Nat} (hk : es.length ≤ k) : tgt (es.drop k) s a = -1 := by
  rw [List.drop_eq_nil_of_le hk]; rfl

set_option maxRecDepth 100000 in
theorem rtarget_any (G : Gr) (p : Option Addr) (c : Nat) (s a : Int) (w : World) (hin : Sg 3 w edE p G.es) (hl : G.es.length ≤ 9223372036854775807) :
    Calls Tryz.prog 135 #[(.agg #[.int .i64 G.q, .int .i64 G.n, .slice p G.es.length c]), .int .i64 s, .int .i64 a] w fun e w' => e = .returned (.int .i64 (tgt G.es s a)) ∧ RowKit.Below w.heap.size w w' := by
  obtain ⟨w0, hw0⟩ : ∃ w0, w0 = w.alloc (.cells #[.int .i64 G.q, .int .i64 G.n, .slice p G.es.length c] 24) := ⟨_, rfl⟩
  have b0 : VRow w0 w.heap.size 24 [.int .i64 G.q, .int .i64 G.n, .slice p G.es.length c] := by subst hw0; exact VRow.new w _ _
  have hB0 : RowKit.Below w.heap.size w w0 := by subst hw0; exact (RowKit.Below.refl _ _).alloc (Nat.le_refl _) _
  have hin0 := hin.below hB0
  have g2 := b0.at 2 rfl
  have l1 : (G.es.length : Int) ≤ 9223372036854775807 := by omega
  clear hin b0
  go_enter Tryz.func135, Tryz.ntmps135
  go_wp2
  rw [← hw0]
  clear hw0
  go_loop [7] (fun i => ∃ k : Nat, k ≤ G.es.length ∧ i = .int .i64 k ∧ Hid (tgt (G.es.drop k) s a = tgt G.es s a)) (fun i => G.es.length - (intOf i).toNat)
  case atStart => exact ⟨0, by omega, rfl, rfl⟩
  case round =>
    obtain ⟨k, hk, rfl, hj⟩ := hrel
    by_cases hlt : k < G.es.length
    · obtain ⟨b1, o1, rfl, hb1, e0, e1, e2⟩ := hin0.get3 k hlt rfl
      have hltk : (k : Int) < (G.es.length : Int) := by omega
      by_cases h1 : G.es[k].f = s
      · have d1 : (G.es[k].f == s) = true := by simpa using h1
        by_cases h2 : G.es[k].l = a
        · have d2 : (G.es[k].l == a) = true := by simpa using h2
          have HX := hidI (hj.out.symm.trans (tgt_drop_hit hlt h1 h2))
          clear h1 h2
          go_wp2
          go_ret
          exact ⟨ret_int HX.out.symm, hB0⟩
        · have d2 : (G.es[k].l == a) = false := by simpa using h2
          have HX := hidI ((tgt_drop_next hlt (fun h => h2 h.2)).symm.trans hj.out)
          clear h1 h2
          go_wp2
          go_round
          case rel => exact ⟨k + 1, by omega, by go_num, HX⟩
          case measure => simp [intOf]; omega
      · have d1 : (G.es[k].f == s) = false := by simpa using h1
        have HX := hidI ((tgt_drop_next hlt (fun h => h1 h.1)).symm.trans hj.out)
        clear h1
        go_wp2
        go_round
        case rel => exact ⟨k + 1, by omega, by go_num, HX⟩
        case measure => simp [intOf]; omega
    · have hltk : ¬ (k : Int) < (G.es.length : Int) := by omega
      have HX := hidI (hj.out.symm.trans (tgt_drop_end (s := s) (a := a) (by omega)))
      go_wp2
      go_ret
      exact ⟨ret_int HX.out.symm, hB0⟩

def TwoI (w : World) (a b : Int) (u v : Value) (wx : World) : Prop := u = .int .i64 a ∧ v = .int .i64 b ∧ RowKit.Below w.heap.size w wx
theorem all_snoc {f : Nat → Bool} {k : Nat} (h1 : (List.range k).all f = true) (h2 : f k = true) : (List.range (k + 1)).all f = true := by
  rw [List.range_succ, List.all_append, h1, List.all_cons, h2]; rfl
theorem all_miss {f : Nat → Bool} {k n : Nat} (h : k < n) (h2 : f k = false) : (List.range n).all f = false := by
  rw [Bool.eq_false_iff]
  intro hc
  rw [List.all_eq_true.1 hc k (by simpa using h)] at h2; cases h2

set_option maxRecDepth 100000 in
set_option maxHeartbeats 1000000 in
theorem ralike_any (G : Gr) (p : Option Addr) (c : Nat) (C : List Int) (pc : Option Addr) (d : Nat) (r s : Nat) (w : World) (hin : Sg 3 w edE p G.es) (hC : Sl w (Value.int .i64) pc C) (hv : Vg G) (hn : (C.length : Int) = G.n) :
    Calls Tryz.prog 179 #[(.agg #[.int .i64 G.q, .int .i64 G.n, .slice p G.es.length c]), .slice pc C.length d, .int .i64 r, .int .i64 s] w fun e w' => e = .returned (.bool (alkA G.q.toNat G.es C r s)) ∧ RowKit.Below w.heap.size w w' := by
  obtain ⟨w0, hw0⟩ : ∃ w0, w0 = w.alloc (.cells #[.int .i64 G.q, .int .i64 G.n, .slice p G.es.length c] 24) := ⟨_, rfl⟩
  have b0 : VRow w0 w.heap.size 24 [.int .i64 G.q, .int .i64 G.n, .slice p G.es.length c] := by subst hw0; exact VRow.new w _ _
  have hB0 : RowKit.Below w.heap.size w w0 := by subst hw0; exact (RowKit.Below.refl _ _).alloc (Nat.le_refl _) _
  have HIN := hidI (hin.below hB0); have HC := hidI (hC.below hB0); have HV := hidI hv; have HN := hidI hn
  obtain ⟨Q, hQ⟩ : ∃ Q : Nat, G.q = Q := ⟨G.q.toNat, by have := hv.q1; omega⟩
  have HQ : Hid (G.q.toNat = Q) := by rw [Hid, hQ]; rfl
  have HQ2 := hidI hQ
  have hq2 : Q ≤ 256 := by have := hv.q2; omega
  have zb : w.heap.size < w0.heap.size := b0.lt
  have hlen := HV.out.len
  have hlenC : C.length ≤ 64 := by have := hv.n2; omega
  clear hin hC hv hn hQ
  rw [HQ.out]
  go_enter Tryz.func179, Tryz.ntmps179
  go_wp2
  rw [← hw0]
  clear hw0
  go_loopw [9] (fun iv wr => ∃ k : Nat, k ≤ Q ∧ iv = .int .i64 k ∧ Hid ((List.range k).all (alkB G.es C r s) = true) ∧ RowKit.Below w0.heap.size w0 wr) (fun iv _ => Q - (intOf iv).toNat)
  case atStart => exact ⟨0, by omega, rfl, rfl, RowKit.Below.refl _ _⟩
  case round =>
    obtain ⟨k, hk, rfl, hj, hB⟩ := hrel
    have g0 := (b0.below hB zb).at 0 rfl; have g1 := (b0.below hB zb).at 1 rfl; have g2 := (b0.below hB zb).at 2 rfl
    by_cases hlt : k < Q
    · have hltk : (k : Int) < G.q := by rw [HQ2.out]; omega
      have hx := tgt_bd HV.out r k
      have hy := tgt_bd HV.out s k
      have HT1 := hidI (fun W h => rtarget_any G p c r k W (HIN.out.below h) (by omega))
      have HT2 := hidI (fun W h => rtarget_any G p c s k W (HIN.out.below h) (by omega))
      have HA : Hid (alkB G.es C r s k = (decide ((tgt G.es r k < 0) ↔ (tgt G.es s k < 0)) && (decide (tgt G.es r k < 0) || decide (cg C (tgt G.es r k) = cg C (tgt G.es s k))))) := rfl
      generalize tgt G.es r k = x at *
      generalize tgt G.es s k = y at *
      go_upto_region 4 with fail
      go_cut [10, 11] (fun u v wx => TwoI wr x y u v wx)
      case first =>
        go_region_held3 (fun w' => w'.cell? ⟨w.heap.size, 0, none⟩ = some (.int .i64 G.q) ∧ w'.cell? ⟨w.heap.size, 1, none⟩ = some (.int .i64 G.n) ∧ w'.cell? ⟨w.heap.size, 2, none⟩ = some (.slice p G.es.length c) ∧ RowKit.Below w0.heap.size w0 w' ∧ RowKit.Below wr.heap.size wr w')
          (first | (go_split_ands; refine ⟨?_, ?_, ?_, ?_, ?_⟩ <;> first | assumption | (go_keep; done) | exact below_dN hB 1 | exact below_dN (RowKit.Below.refl _ _) 1 | exact (hBa.cell (Nat.lt_of_lt_of_le zb (RowKit.Below.size (by assumption)))).trans (by assumption) | exact (hBb.cell (Nat.lt_of_lt_of_le zb (RowKit.Below.size (by assumption)))).trans (by assumption) | exact RowKit.Below.trans (by assumption) (hBa.mono (RowKit.Below.size (by assumption))) | exact RowKit.Below.trans (by assumption) (hBb.mono (RowKit.Below.size (by assumption)))))
          (first
            | (go_at_call 135; go_split_ands; with_reducible refine (HT1.out _ (by assumption)).mono ?_; rintro e wA ⟨rfl, hBa⟩)
            | (go_at_call 135; go_split_ands; with_reducible refine (HT2.out _ (by assumption)).mono ?_; rintro e wB ⟨rfl, hBb⟩))
        all_goals
          go_split_ands
          go_wp2_with fail
          go_meet
          exact ⟨rfl, rfl, by assumption⟩
      case rest =>
        obtain ⟨rfl, rfl, hBc⟩ := hcut
        have hB2 := hB.trans (hBc.mono hB.size)
        have hsz := hB.size
        clear g0 g1 g2 HT1 HT2
        by_cases h1 : x < 0
        · have d1 : decide (x < 0) = true := decide_eq_true h1
          have d1' : decide (0 ≤ x) = false := decide_eq_false (by omega)
          by_cases h2 : y < 0
          · have d2 : decide (y < 0) = true := decide_eq_true h2
            have HX : Hid ((List.range (k + 1)).all (alkB G.es C r s) = true) := all_snoc hj.out (by rw [HA.out]; simp [h1, h2])
            clear h1 h2
            go_upto_region 5 with fail
            (refine wp_region_quiet_lit (by kernel_rfl) (by kernel_rfl) ?_; (repeat (first | go_big_quiet_step (fail) | quiet_step (fail))); refine wpQuiet_nil ?_; intro _ hwq; obtain ⟨nq, hwq2⟩ := hwq; subst hwq2)
            go_wp2
            go_roundw
            case rel => exact ⟨k + 1, by omega, by go_num, HX, below_dN hB2 _⟩
            case measure => simp [intOf]; omega
          · have d2 : decide (y < 0) = false := decide_eq_false h2
            have HX : Hid (alkA Q G.es C r s = false) := all_miss hlt (by rw [HA.out]; simp [h1, h2])
            clear h1 h2
            go_upto_region 5 with fail
            (refine wp_region_quiet_lit (by kernel_rfl) (by kernel_rfl) ?_; (repeat (first | go_big_quiet_step (fail) | quiet_step (fail))); refine wpQuiet_nil ?_; intro _ hwq; obtain ⟨nq, hwq2⟩ := hwq; subst hwq2)
            go_wp2
            go_ret
            exact ⟨ret_bool HX.out.symm, hB0.trans ((below_dN hB2 _).mono hB0.size)⟩
        · have d1 : decide (x < 0) = false := decide_eq_false h1
          have d1' : decide (0 ≤ x) = true := decide_eq_true (by omega)
          by_cases h2 : y < 0
          · have d2 : decide (y < 0) = true := decide_eq_true h2
            have HX : Hid (alkA Q G.es C r s = false) := all_miss hlt (by rw [HA.out]; simp [h1, h2])
            clear h1 h2
            go_upto_region 5 with fail
            (refine wp_region_quiet_lit (by kernel_rfl) (by kernel_rfl) ?_; (repeat (first | go_big_quiet_step (fail) | quiet_step (fail))); refine wpQuiet_nil ?_; intro _ hwq; obtain ⟨nq, hwq2⟩ := hwq; subst hwq2)
            go_wp2
            go_ret
            exact ⟨ret_bool HX.out.symm, hB0.trans ((below_dN hB2 _).mono hB0.size)⟩
          · have d2 : decide (y < 0) = false := decide_eq_false h2
            obtain ⟨X, rfl⟩ : ∃ X : Nat, x = X := ⟨x.toNat, by omega⟩
            obtain ⟨Y, rfl⟩ : ∃ Y : Nat, y = Y := ⟨y.toNat, by omega⟩
            have hX : X < C.length := by have := HN.out; omega
            have hY : Y < C.length := by have := HN.out; omega
            obtain ⟨bc, oc, rfl, hbc, ec⟩ := (HC.out.below (hB2)).get X hX
            have e1 := ec X hX
            have e2 := ec Y hY
            have hXC : (X : Int) < (C.length : Int) := by omega
            have hYC : (Y : Int) < (C.length : Int) := by omega
            have hcx : cg C (X : Int) = C[X] := by unfold cg; rw [Int.toNat_natCast, List.getD_eq_getElem?_getD, List.getElem?_eq_getElem hX]; rfl
            have hcy : cg C (Y : Int) = C[Y] := by unfold cg; rw [Int.toNat_natCast, List.getD_eq_getElem?_getD, List.getElem?_eq_getElem hY]; rfl
            have HCX := hidI hcx; have HCY := hidI hcy
            clear ec hcx hcy
            by_cases h3 : C[X] = C[Y]
            · have d3 : (C[X] != C[Y]) = false := by simpa using h3
              have HX : Hid ((List.range (k + 1)).all (alkB G.es C r s) = true) := all_snoc hj.out (by rw [HA.out, HCX.out, HCY.out]; simp [h1, h2, h3])
              generalize C[X] = u at *
              generalize C[Y] = v at *
              clear h1 h2 h3
              go_upto_region 5 with fail
              (refine wp_region_quiet_lit (by kernel_rfl) (by kernel_rfl) ?_; (repeat (first | go_big_quiet_step (fail) | quiet_step (fail))); refine wpQuiet_nil ?_; intro _ hwq; obtain ⟨nq, hwq2⟩ := hwq; subst hwq2)
              go_wp2
              go_roundw
              case rel => exact ⟨k + 1, by omega, by go_num, HX, below_dN hB2 _⟩
              case measure => simp [intOf]; omega
            · have d3 : (C[X] != C[Y]) = true := by simpa using h3
              have HX : Hid (alkA Q G.es C r s = false) := all_miss hlt (by rw [HA.out, HCX.out, HCY.out]; simp [h1, h2, h3])
              generalize C[X] = u at *
              generalize C[Y] = v at *
              clear h1 h2
              go_upto_region 5 with fail
              (refine wp_region_quiet_lit (by kernel_rfl) (by kernel_rfl) ?_; (repeat (first | go_big_quiet_step (fail) | quiet_step (fail))); refine wpQuiet_nil ?_; intro _ hwq; obtain ⟨nq, hwq2⟩ := hwq; subst hwq2)
              go_wp2
              go_ret
              exact ⟨ret_bool HX.out.symm, hB0.trans ((below_dN hB2 _).mono hB0.size)⟩
    · have hltk : ¬ (k : Int) < G.q := by rw [HQ2.out]; omega
      have HX : Hid (alkA Q G.es C r s = true) := by obtain rfl : k = Q := by omega
                                                     exact hj.out
      go_wp2
      go_ret
      exact ⟨ret_bool HX.out.symm, hB0.trans (hB.mono hB0.size)⟩
end Go.Proofs.YtocbhlohcikapaaGreatDoor
namespace Go.Proofs.YtocbhlohcikapaaGreatDoor
open Go.RowKit Go.Sort

theorem Tab.dr {w w' : World} {base B n q : Nat} {bs : Nat → Nat} {T : Nat → Nat → Int} (h : Tab w base B n q bs T) (hD : Dr w w') : Tab w' base B n q bs T := h.later (hD.below _)
theorem cg_get {C : List Int} {s : Nat} (h : s < C.length) : cg C s = C[s] := by unfold cg; rw [Int.toNat_natCast, List.getD_eq_getElem?_getD, List.getElem?_eq_getElem h]; rfl
theorem Sl.at {α : Type} {w : World} {enc : α → Value} {b off : Nat} {l : List α} (h : Sl w enc (some ⟨b, off, none⟩) l) (k : Nat) (hk : k < l.length) : w.cell? ⟨b, off + k, none⟩ = some (enc l[k]) := by
  obtain ⟨b', o', e, _, hc⟩ := h.get k hk
  cases e
  exact hc k hk

set_option maxRecDepth 100000 in
set_option maxHeartbeats 2000000 in
theorem mpartition1_any (Q n : Nat) (es : List Ed) (C : List Int) (r s bc b1 bg bt B base b2 o2 d : Nat) (bs : Nat → Nat) (w : World) (hn : C.length = n) (hn2 : n ≤ 64) (hq2 : Q ≤ 256) (hr : r < n) (hs : s < n) (ht : ∀ x a : Int, -1 ≤ tgt es x a ∧ (0 ≤ tgt es x a → tgt es x a < n))
    (hc : w.cell? ⟨bc, 0, none⟩ = some (.slice (some ⟨b2, o2, none⟩) n d)) (hC : Sl w (Value.int .i64) (some ⟨b2, o2, none⟩) C) (h1 : w.cell? ⟨b1, 0, none⟩ = some (.int .i64 s)) (hg : w.cell? ⟨bg, 0, none⟩ = some (.int .i64 Q))
    (htc : w.cell? ⟨bt, 0, none⟩ = some (.slice (some ⟨B, 0, none⟩) n n)) (hT : Tab w base B n Q bs (fun s a => tgt es s a)) :
    Calls Tryz.prog 170 #[.int .i64 r, .pointer (some ⟨bc, 0, none⟩), .pointer (some ⟨b1, 0, none⟩), .pointer (some ⟨bg, 0, none⟩), .pointer (some ⟨bt, 0, none⟩)] w fun e w' => e = .returned (.bool (relA Q es C r s)) ∧ Dr w w' := by
  have HT := hidI hT; have HB := hidI ht; have HC := hidI hC; have HN := hidI hn
  have hrl : r < C.length := by omega
  have hsl : s < C.length := by omega
  have er := hC.at r hrl
  have es' := hC.at s hsl
  have hrn : (r : Int) < (n : Int) := by omega
  have hsn : (s : Int) < (n : Int) := by omega
  have HR : Hid (relA Q es C r s = (decide (C[r]'hrl = C[s]'hsl) && alkA Q es C r s)) := by unfold relA; rw [cg_get hrl, cg_get hsl]; rfl
  clear hT ht hC hn
  by_cases h : C[r]'hrl = C[s]'hsl
  · have d1 : (C[r]'hrl != C[s]'hsl) = false := by simpa using h
    have HR2 : Hid (relA Q es C r s = alkA Q es C r s) := by rw [Hid, HR.out, decide_eq_true h]; rfl
    generalize C[r]'hrl = cr at *
    generalize C[s]'hsl = cs at *
    clear h
    go_enter Tryz.func170, Tryz.ntmps170
    go_upto_region 1 with fail
    (refine wp_region_quiet_lit (by kernel_rfl) (by kernel_rfl) ?_; (repeat (first | go_big_quiet_step (fail) | quiet_step (fail))); refine wpQuiet_nil ?_; intro _ hwq; obtain ⟨nq, hwq2⟩ := hwq; subst hwq2)
    have hD0 : Dr w (w.drewN nq) := ⟨nq, rfl⟩
    go_wp2
    clear er es'
    go_loopw [21] (fun iv wr => ∃ k : Nat, k ≤ Q ∧ iv = .int .i64 k ∧ Hid ((List.range k).all (alkB es C r s) = true) ∧ Dr w wr) (fun iv _ => Q - (intOf iv).toNat)
    case atStart => exact ⟨0, by omega, rfl, rfl, hD0⟩
    case round =>
      clear hD0
      obtain ⟨k, hk, rfl, hj, hD⟩ := hrel
      by_cases hlt : k < Q
      · have hltk : (k : Int) < (Q : Int) := by omega
        have hx := HB.out r k
        have hy := HB.out s k
        have tW := HT.out.dr hD
        have hh1 := tW.hd.at r (map_range_get hr)
        have hh2 := tW.hd.at s (map_range_get hs)
        have hr1 := (tW.row r hr).at k (map_range_get hlt)
        have hr2 := (tW.row s hs).at k (map_range_get hlt)
        unfold hdV at hh1 hh2
        simp only [rowV] at hr1 hr2
        have hc' := (hD.cell _).trans hc
        have h1' := (hD.cell _).trans h1
        have htc' := (hD.cell _).trans htc
        have hCW := HC.out.dr hD
        have HA : Hid (alkB es C r s k = (decide ((tgt es r k < 0) ↔ (tgt es s k < 0)) && (decide (tgt es r k < 0) || decide (cg C (tgt es r k) = cg C (tgt es s k))))) := rfl
        clear tW
        generalize tgt es r k = x at *
        generalize tgt es s k = y at *
        go_upto_region 6 with fail
        (refine wp_region_quiet_lit (by kernel_rfl) (by kernel_rfl) ?_; (repeat (first | go_big_quiet_step (fail) | quiet_step (fail))); refine wpQuiet_nil ?_; intro _ hwq; obtain ⟨nq, hwq2⟩ := hwq; subst hwq2)
        clear hh1 hh2 hr1 hr2 htc' h1'
        by_cases h1 : x < 0
        · have ex : x = -1 := by omega
          subst ex
          by_cases h2 : y < 0
          · have ey : y = -1 := by omega
            subst ey
            have HX : Hid ((List.range (k + 1)).all (alkB es C r s) = true) := all_snoc hj.out (by rw [HA.out]; simp)
            clear h1 h2
            go_upto_region 7 with fail
            (refine wp_region_quiet_lit (by kernel_rfl) (by kernel_rfl) ?_; (repeat (first | go_big_quiet_step (fail) | quiet_step (fail))); refine wpQuiet_nil ?_; intro _ hwq; obtain ⟨nq, hwq2⟩ := hwq; subst hwq2)
            go_wp2
            go_roundw
            case rel => exact ⟨k + 1, by omega, by go_num, HX, hD.one _⟩
            case measure => simp [intOf]; omega
          · have d2 : (y == -1) = false := by simp; omega
            have HX : Hid (alkA Q es C r s = false) := all_miss hlt (by rw [HA.out]; simp [h2])
            clear h1 h2
            go_upto_region 7 with fail
            (refine wp_region_quiet_lit (by kernel_rfl) (by kernel_rfl) ?_; (repeat (first | go_big_quiet_step (fail) | quiet_step (fail))); refine wpQuiet_nil ?_; intro _ hwq; obtain ⟨nq, hwq2⟩ := hwq; subst hwq2)
            go_wp2
            go_ret
            exact ⟨ret_bool (HR2.out.trans HX.out).symm, (hD.one _).one _⟩
        · have d1 : (x == -1) = false := by simp; omega
          have d1' : (x != -1) = true := by simp; omega
          by_cases h2 : y < 0
          · have ey : y = -1 := by omega
            subst ey
            have HX : Hid (alkA Q es C r s = false) := all_miss hlt (by rw [HA.out]; simp [h1])
            clear h1 h2
            go_upto_region 7 with fail
            (refine wp_region_quiet_lit (by kernel_rfl) (by kernel_rfl) ?_; (repeat (first | go_big_quiet_step (fail) | quiet_step (fail))); refine wpQuiet_nil ?_; intro _ hwq; obtain ⟨nq, hwq2⟩ := hwq; subst hwq2)
            go_wp2
            go_ret
            exact ⟨ret_bool (HR2.out.trans HX.out).symm, (hD.one _).one _⟩
          · have d2 : (y == -1) = false := by simp; omega
            obtain ⟨X, rfl⟩ : ∃ X : Nat, x = X := ⟨x.toNat, by omega⟩
            obtain ⟨Y, rfl⟩ : ∃ Y : Nat, y = Y := ⟨y.toNat, by omega⟩
            have hX : X < C.length := by have := HN.out; omega
            have hY : Y < C.length := by have := HN.out; omega
            have e1 := hCW.at X hX
            have e2 := hCW.at Y hY
            have hXC : (X : Int) < (n : Int) := by omega
            have hYC : (Y : Int) < (n : Int) := by omega
            have HCX := hidI (cg_get hX); have HCY := hidI (cg_get hY)
            by_cases h3 : C[X] = C[Y]
            · have d3 : (C[X] != C[Y]) = false := by simpa using h3
              have HX : Hid ((List.range (k + 1)).all (alkB es C r s) = true) := all_snoc hj.out (by rw [HA.out, HCX.out, HCY.out]; simp [h1, h2, h3])
              generalize C[X] = u at *
              generalize C[Y] = v at *
              clear h1 h2 h3
              go_upto_region 7 with fail
              (refine wp_region_quiet_lit (by kernel_rfl) (by kernel_rfl) ?_; (repeat (first | go_big_quiet_step (fail) | quiet_step (fail))); refine wpQuiet_nil ?_; intro _ hwq; obtain ⟨nq, hwq2⟩ := hwq; subst hwq2)
              go_wp2
              go_roundw
              case rel => exact ⟨k + 1, by omega, by go_num, HX, hD.one _⟩
              case measure => simp [intOf]; omega
            · have d3 : (C[X] != C[Y]) = true := by simpa using h3
              have HX : Hid (alkA Q es C r s = false) := all_miss hlt (by rw [HA.out, HCX.out, HCY.out]; simp [h1, h2, h3])
              generalize C[X] = u at *
              generalize C[Y] = v at *
              clear h1 h2
              go_upto_region 7 with fail
              (refine wp_region_quiet_lit (by kernel_rfl) (by kernel_rfl) ?_; (repeat (first | go_big_quiet_step (fail) | quiet_step (fail))); refine wpQuiet_nil ?_; intro _ hwq; obtain ⟨nq, hwq2⟩ := hwq; subst hwq2)
              go_wp2
              go_ret
              exact ⟨ret_bool (HR2.out.trans HX.out).symm, (hD.one _).one _⟩
      · have hltk : ¬ (k : Int) < (Q : Int) := by omega
        have HX : Hid (alkA Q es C r s = true) := by obtain rfl : k = Q := by omega
                                                     exact hj.out
        go_wp2
        go_ret
        exact ⟨ret_bool (HR2.out.trans HX.out).symm, hD⟩
  · have d1 : (C[r]'hrl != C[s]'hsl) = true := by simpa using h
    have HR2 : Hid (relA Q es C r s = false) := by rw [Hid, HR.out, decide_eq_false h]; rfl
    generalize C[r]'hrl = cr at *
    generalize C[s]'hsl = cs at *
    clear h
    go_enter Tryz.func170, Tryz.ntmps170
    go_upto_region 1 with fail
    (refine wp_region_quiet_lit (by kernel_rfl) (by kernel_rfl) ?_; (repeat (first | go_big_quiet_step (fail) | quiet_step (fail))); refine wpQuiet_nil ?_; intro _ hwq; obtain ⟨nq, hwq2⟩ := hwq; subst hwq2)
    go_wp2
    go_ret
    exact ⟨ret_bool HR2.out.symm, ⟨nq, rfl⟩⟩
end Go.Proofs.YtocbhlohcikapaaGreatDoor
namespace Go.Proofs.YtocbhlohcikapaaGreatDoor
open Go.RowKit Go.Sort

/-! ### The first element that is like a state -/
theorem idxFrom_or {α : Type} [Inhabited α] (p : α → Bool) (d : α) : ∀ (zs : List α) (i : Nat), (∃ k, ∃ h : k < zs.length, p zs[k] = true ∧ Lib.idxByFrom (fun _ y => p y) d zs i = ((i + k : Nat) : Int)) ∨ ((∀ k (h : k < zs.length), p zs[k] = false) ∧ Lib.idxByFrom (fun _ y => p y) d zs i = -1)
  | [], i => .inr ⟨fun k h => absurd h (by simp), rfl⟩
  | y :: zs, i => by
    cases h : p y
    · rcases idxFrom_or p d zs (i + 1) with ⟨k, hk, h1, h2⟩ | ⟨h1, h2⟩
      · refine .inl ⟨k + 1, by simpa using hk, by simpa using h1, ?_⟩
        rw [Lib.idxByFrom, h]
        simp only [Bool.false_eq_true, if_false]
        rw [h2]; congr 1; omega
      · refine .inr ⟨fun k hk => ?_, ?_⟩
        · cases k with
          | zero => exact h
          | succ k => simpa using h1 k (by simpa using hk)
        · rw [Lib.idxByFrom, h]; simp only [Bool.false_eq_true, if_false]; exact h2
    · refine .inl ⟨0, by simp, h, ?_⟩
      rw [Lib.idxByFrom, h]; simp
theorem idx_num {R : Nat → Nat → Bool} (hE : Eqv R) (s : Nat) (p : Nat → Bool) (hp : ∀ y ∈ frsR R s, p y = R y s) :
    (fstR R s = false ∧ Lib.idxBy (fun _ y => p y) (frsR R s) default = numR R s ∧ 0 ≤ numR R s) ∨ (fstR R s = true ∧ Lib.idxBy (fun _ y => p y) (frsR R s) default = -1 ∧ numR R s = ((frsR R s).length : Int)) := by
  rcases idxFrom_or p default (frsR R s) 0 with ⟨k, hk, h1, h2⟩ | ⟨h1, h2⟩
  · rw [hp _ (List.getElem_mem hk)] at h1
    obtain ⟨h3, h4⟩ := numR_old hE hk h1
    exact .inl ⟨h3, by rw [h4]; unfold Lib.idxBy; rw [h2]; congr 1; omega, by rw [h4]; omega⟩
  · obtain ⟨h3, h4⟩ := numR_none hE (fun k hk => by rw [← hp _ (List.getElem_mem hk)]; exact h1 k hk)
    exact .inr ⟨h3, h2, h4⟩
/-- The new classes, as far as they are known. -/
def nowV (R : Nat → Nat → Bool) (N s : Nat) : List Value := ((List.range s).map (numR R) ++ List.replicate (N - s) 0).map (Value.int .i64)
theorem nowV_zero (R : Nat → Nat → Bool) (N : Nat) : nowV R N 0 = List.replicate N (.int .i64 0) := by simp [nowV]
theorem nowV_get (R : Nat → Nat → Bool) {N s : Nat} (h : s < N) : (nowV R N s)[s]? = some (.int .i64 0) := by
  unfold nowV
  rw [List.getElem?_map, List.getElem?_append_right (by simp), List.getElem?_replicate]
  simp; omega
theorem nowV_set (R : Nat → Nat → Bool) {N s : Nat} (h : s < N) : (nowV R N s).set s (.int .i64 (numR R s)) = nowV R N (s + 1) := by
  unfold nowV
  obtain ⟨m, hm⟩ : ∃ m, N - s = m + 1 := ⟨N - s - 1, by omega⟩
  rw [hm, show N - (s + 1) = m by omega, List.range_succ, List.replicate_succ, List.map_append, List.set_append_right _ _ (by simp), List.length_map, List.length_map, List.length_range, Nat.sub_self]
  simp
theorem nowV_end (R : Nat → Nat → Bool) (N : Nat) : nowV R N N = ((List.range N).map (numR R)).map (Value.int .i64) := by simp [nowV]

/-! ### What a round of partition leans on -/
structure Pcx (G : Gr) (p : Option Addr) (c : Nat) (gb bt bc B b2 base N Q : Nat) (bs : Nat → Nat) (C : List Int) (w : World) : Prop where
  g : VRow w gb 24 [.int .i64 Q, .int .i64 N, .slice p G.es.length c]
  t : VRow w bt 72 [.slice (some ⟨B, 0, none⟩) N N]
  T : Tab w base B N Q bs (fun s a => tgt G.es s a)
  c : VRow w bc 30 [.slice (some ⟨b2, 0, none⟩) N N]
  r : VRow w b2 3 (C.map (Value.int .i64))
  n1 : bc ≠ gb
  n2 : bc ≠ bt
  n3 : bc ≠ B
  n4 : ∀ s, s < N → bs s ≠ bc
  n5 : b2 ≠ bc
section
variable {G : Gr} {p : Option Addr} {c gb bt bc B b2 base N Q : Nat} {bs : Nat → Nat} {C : List Int} {w w' : World}
theorem Pcx.later (h : Pcx G p c gb bt bc B b2 base N Q bs C w) (hB : RowKit.Below w.heap.size w w') : Pcx G p c gb bt bc B b2 base N Q bs C w' :=
  ⟨h.g.below hB h.g.lt, h.t.below hB h.t.lt, h.T.later hB, h.c.below hB h.c.lt, h.r.below hB h.r.lt, h.n1, h.n2, h.n3, h.n4, h.n5⟩
theorem Pcx.turn {C' : List Int} {b3 : Nat} (h : Pcx G p c gb bt bc B b2 base N Q bs C w) (hr : VRow w b3 3 (C'.map (Value.int .i64))) (hn : b3 ≠ bc) :
    Pcx G p c gb bt bc B b3 base N Q bs C' (w.setCell ⟨bc, 0, none⟩ (.slice (some ⟨b3, 0, none⟩) N N)) :=
  ⟨h.g.other _ (Ne.symm h.n1), h.t.other _ (Ne.symm h.n2), ⟨h.T.hd.other _ (Ne.symm h.n3), fun s hs => (h.T.row s hs).other _ (h.n4 s hs), h.T.inj, h.T.lo, h.T.ne⟩, h.c.set (i := 0) _, hr.other _ hn, h.n1, h.n2, h.n3, h.n4, hn⟩
end
theorem cell_al {w : World} {b i : Nat} {v : Value} (o : Obj) (h : w.cell? ⟨b, i, none⟩ = some v) : (w.alloc o).cell? ⟨b, i, none⟩ = some v :=
  (((RowKit.Below.refl _ _).alloc (Nat.le_refl _) o).cell (p := ⟨b, i, none⟩) (World.block_lt_of_cell? w _ h)).trans h
theorem own_snoc {w : World} {B e n s : Nat} {v : Value} {R : Nat → Nat → Bool} (h : w.ownsRow B e 1 v (n + 1) ((frsR R s).map (fun (x : Nat) => Value.int .i64 (x : Int)) ++ [.int .i64 (s : Int)])) (hf : frsR R (s + 1) = frsR R s ++ [s]) :
    ∃ q d, v = .slice q (frsR R (s + 1)).length d ∧ w.ownsRow B e 1 (.slice q (frsR R (s + 1)).length d) (frsR R (s + 1)).length ((frsR R (s + 1)).map (fun (x : Nat) => Value.int .i64 (x : Int))) := by
  have e1 : (frsR R s).map (fun (x : Nat) => Value.int .i64 (x : Int)) ++ [.int .i64 (s : Int)] = (frsR R (s + 1)).map (fun (x : Nat) => Value.int .i64 (x : Int)) := by rw [hf, List.map_append]; rfl
  rw [e1] at h
  have hn : (frsR R (s + 1)).length = n + 1 := by have := h.1; simpa using this
  obtain ⟨q, d, rfl, _⟩ := own_sl (enc := fun (x : Nat) => Value.int .i64 (x : Int)) h
  refine ⟨q, d, rfl, ?_⟩
  rw [← hn] at h; exact h
def encM (N : Nat) (x : Nat) : Value := .int .i64 ((x % N : Nat) : Int)

def frsV (R : Nat → Nat → Bool) (s : Nat) : List Value := (frsR R s).map (fun (x : Nat) => Value.int .i64 (x : Int))
theorem frsV_len (R : Nat → Nat → Bool) (s : Nat) : (frsV R s).length = (frsR R s).length := by simp [frsV]
set_option maxHeartbeats 1000000 in
/-- The index of the first element that is like a state. -/
theorem indexI_frs {G : Gr} {p : Option Addr} {c gb bt bc B b2 base N Q : Nat} {bs : Nat → Nat} {C : List Int} {W : World} (hP : Pcx G p c gb bt bc B b2 base N Q bs C W) (hC : C.length = N) (hN : N ≤ 64) (hQ : Q ≤ 256) (ht : ∀ x a : Int, -1 ≤ tgt G.es x a ∧ (0 ≤ tgt G.es x a → tgt G.es x a < N))
    {s sb B1 : Nat} {fv : Value} (hs : s < N) (hb : W.cell? ⟨sb, 0, none⟩ = some (.int .i64 s)) (hown : W.ownsRow B1 3 1 fv (frsR (relA Q G.es C) s).length (frsV (relA Q G.es C) s)) :
    Calls Tryz.prog 169 #[fv, .func (.func 170) #[] #[.pointer (some ⟨bc, 0, none⟩), .pointer (some ⟨sb, 0, none⟩), .pointer (some ⟨gb, 0, none⟩), .pointer (some ⟨bt, 0, none⟩)]] W fun e w' =>
      e = .returned (.int .i64 (if fstR (relA Q G.es C) s = true then -1 else numR (relA Q G.es C) s)) ∧ Dr W w' := by
  have hE := relA_eqv Q G.es C
  have hmod : ∀ y ∈ frsR (relA Q G.es C) s, y % N = y := fun y hy => Nat.mod_eq_of_lt (by have := (mem_frsR.1 hy).1; omega)
  have hidx := idx_num hE s (fun y => relA Q G.es C (y % N) s) (fun y hy => by rw [hmod y hy])
  rcases hown.2 with ⟨rfl, h0⟩ | ⟨g, cap, cur, rfl, hg, hh, hc, hm, hsz, htk⟩
  · have he : frsR (relA Q G.es C) s = [] := List.length_eq_zero_iff.1 h0
    rw [he] at hidx
    refine (Tryz.slices_IndexFunc_empty_f169 (α := Nat) none 0 _ W).mono ?_
    rintro e w' ⟨rfl, rfl⟩
    refine ⟨?_, Dr.refl _⟩
    rcases hidx with ⟨_, h2, h3⟩ | ⟨h1, _, _⟩
    · exfalso
      have : Lib.idxBy (fun _ y => relA Q G.es C (y % N) s) ([] : List Nat) default = -1 := rfl
      omega
    · rw [if_pos h1]
  · have eg : ∀ args w, (callFunc 170 args).run Tryz.prog w = .ok (.enter 170 args) w := enters_of Tryz.func170 (by kernel_rfl) rfl
    have hcell : ∀ j, j < (frsR (relA Q G.es C) s).length → W.cell? ⟨g, 0 + j, none⟩ = some (encM N (frsR (relA Q G.es C) s)[j]!) := by
      intro j hj
      rw [Nat.zero_add, hown.cellAt j (by omega), getElem!_pos _ j hj]
      unfold encM
      rw [hmod _ (List.getElem_mem hj)]
      simp [frsV, hj]
    have hp : PredAt Tryz.prog 170 #[.pointer (some ⟨bc, 0, none⟩), .pointer (some ⟨sb, 0, none⟩), .pointer (some ⟨gb, 0, none⟩), .pointer (some ⟨bt, 0, none⟩)] (encM N) (fun y => relA Q G.es C (y % N) s) W := fun W' x hB => by
      have hP' := hP.later hB
      exact mpartition1_any Q N G.es C (x % N) s bc sb gb bt B base b2 0 N bs W' hC hN hQ (Nat.mod_lt _ (by omega)) hs ht (hP'.c.at 0 rfl) (Sl.of_vrow hP'.r) ((hB.cell (World.block_lt_of_cell? W _ hb)).trans hb) (hP'.g.at 0 rfl) (hP'.t.at 0 rfl) hP'.T
    have hlen := frsR_len (relA Q G.es C) s
    refine (Tryz.slices_IndexFunc_f169 (encM N) (fun y => relA Q G.es C (y % N) s) 170 _ eg g 0 (frsR (relA Q G.es C) s).length cap (frsR (relA Q G.es C) s) W hp (Nat.le_refl _) (by omega) hcell).mono ?_
    rintro e w' ⟨rfl, hq⟩
    refine ⟨?_, hq⟩
    rw [List.take_length]
    rcases hidx with ⟨h1, h2, h3⟩ | ⟨h1, h2, h3⟩
    · rw [if_neg (by simp [h1]), h2]
    · rw [if_pos h1, h2]

set_option maxRecDepth 100000 in
set_option maxHeartbeats 4000000 in
theorem mpartition_any (G : Gr) (p : Option Addr) (c : Nat) (w : World) (hin : Sg 3 w edE p G.es) (hv : Vg G) (hu : Uq G.es) :
    Calls Tryz.prog 114 #[(.agg #[.int .i64 G.q, .int .i64 G.n, .slice p G.es.length c])] w fun e w' => ∃ b, e = .returned (.slice (some ⟨b, 0, none⟩) (clA G).length (clA G).length) ∧ w.heap.size ≤ b ∧ VRow w' b 3 ((clA G).map (Value.int .i64)) ∧ RowKit.Below w.heap.size w w' := by
  obtain ⟨i0, hi0, hz0, hz1, hz3⟩ := info_parts infoJ
  have HV := hidI hv; have HU := hidI hu; have HIN0 := hidI hin
  obtain ⟨N, hN⟩ : ∃ N : Nat, G.n = N := ⟨G.n.toNat, by have := hv.n1; omega⟩
  obtain ⟨Q, hQ⟩ : ∃ Q : Nat, G.q = Q := ⟨G.q.toNat, by have := hv.q1; omega⟩
  have hN64 : N ≤ 64 := by have := hv.n2; omega
  have hQ256 : Q ≤ 256 := by have := hv.q2; omega
  have HCL : Hid (clA G = clsN Q N G.es N) := by unfold Hid clA; rw [hN, hQ]; rfl
  have hlcl : (clA G).length = N := by rw [HCL.out, clsN_len]
  have HTB : Hid (∀ x a : Int, -1 ≤ tgt G.es x a ∧ (0 ≤ tgt G.es x a → tgt G.es x a < N)) := fun x a => by have := tgt_bd hv x a; rw [hN] at this; exact this
  have HOF := hidI (fun W (hW : Sg 3 W edE p G.es) => mof_any G p c Q W hW hv hu (by omega) hQ256)
  rw [hN, hQ] at HOF
  have HOF : Hid (∀ W, Sg 3 W edE p G.es → Calls Tryz.prog 55 #[.agg #[.int .i64 (Q : Int), .int .i64 (N : Int), .slice p G.es.length c], .int .i64 Q] W (RetTab N Q (fun s a => tgt G.es s a) W)) := HOF
  rw [hlcl, hN, hQ]
  obtain ⟨w0, hw0⟩ : ∃ w0, w0 = w.alloc (.cells #[.int .i64 (Q : Int), .int .i64 (N : Int), .slice p G.es.length c] 24) := ⟨_, rfl⟩
  have b0 : VRow w0 w.heap.size 24 [.int .i64 (Q : Int), .int .i64 (N : Int), .slice p G.es.length c] := by subst hw0; exact VRow.new w _ _
  have hB0 : RowKit.Below w.heap.size w w0 := by subst hw0; exact (RowKit.Below.refl _ _).alloc (Nat.le_refl _) _
  have zb : w.heap.size < w0.heap.size := b0.lt
  clear hin hv hu hN hQ hlcl
  go_enter Tryz.func114, Tryz.ntmps114
  go_upto_region 1 with fail
  rw [← hw0]
  clear hw0
  have g0 := b0.at 0 rfl; have g1 := b0.at 1 rfl; have g2 := b0.at 2 rfl
  go_wp2_with fail
  refine (HOF.out w0 (HIN0.out.below hB0)).mono ?_
  rintro e w1 ⟨B, bs, rfl, hT, hB1⟩
  have r1 := b0.below hB1 zb
  clear g0 g1 g2 b0
  obtain ⟨w2, hw2⟩ : ∃ w2, w2 = w1.alloc (.cells #[.slice (some ⟨B, 0, none⟩) N N] 72) := ⟨_, rfl⟩
  have t2 : VRow w2 w1.heap.size 72 [.slice (some ⟨B, 0, none⟩) N N] := by subst hw2; exact VRow.new w1 _ _
  have hB2 : RowKit.Below w1.heap.size w1 w2 := by subst hw2; exact (RowKit.Below.refl _ _).alloc (Nat.le_refl _) _
  have hT2 := hT.later hB2
  have r2 := r1.below hB2 r1.lt
  have g1 := r2.at 1 rfl
  rw [hw2] at g1
  have hsz1 := hB1.size
  have hne1 : w.heap.size ≠ w1.heap.size := by omega
  have hTlt : B < w1.heap.size := hT.hd.lt
  have hTbs : ∀ s, s < N → bs s < w1.heap.size := fun s hs => (hT.row s hs).lt
  have y1 := hB0.trans (hB1.mono hB0.size)
  have y2 := y1.trans (hB2.mono y1.size)
  have hs2 : w2.heap.size = w1.heap.size + 1 := by subst hw2; simp
  go_wp2_with (at_make; refine wpList_make_full _ rfl _ _ 30 rfl w1.heap.size 3 i0 (.int .i64 0) 1 Tryz.underlying30 hi0 hz0 hz1 .i64 .i64 _ _ N rfl rfl (by omega) (by omega) (by rw [hz3]; omega) (by unfold maxLen; omega) (by simp) ?_; intro w3 hown hgrow; have gA := hgrow.cell g1 (by simp); have gB := cell_al (.cells #[.slice (some ⟨w1.heap.size + 1, 0, none⟩) N N] 30) gA)
  have hgr : w2.grownBy w3 none := by rw [hw2]; exact hgrow
  have hB3 : RowKit.Below w2.heap.size w2 w3 := (RowKit.Below.refl _ _).grown hgr (Nat.le_refl _) (by simp)
  have hr3 := made_rowJ hown
  rw [World.size_alloc] at hr3
  have hB4 : RowKit.Below w3.heap.size w3 (w3.alloc (.cells #[.slice (some ⟨w1.heap.size + 1, 0, none⟩) N N] 30)) := (RowKit.Below.refl _ _).alloc (Nat.le_refl _) _
  have c4 : VRow (w3.alloc (.cells #[.slice (some ⟨w1.heap.size + 1, 0, none⟩) N N] 30)) w3.heap.size 30 [.slice (some ⟨w1.heap.size + 1, 0, none⟩) N N] := VRow.new w3 _ _
  have hb3 : w1.heap.size + 1 < w3.heap.size := hr3.lt
  have hP : Pcx G p c w.heap.size w1.heap.size w3.heap.size B (w1.heap.size + 1) w0.heap.size N Q bs (clsN Q N G.es 0) (w3.alloc (.cells #[.slice (some ⟨w1.heap.size + 1, 0, none⟩) N N] 30)) :=
    ⟨(r2.below hB3 r2.lt).below hB4 (by omega), (t2.below hB3 t2.lt).below hB4 (by omega), (hT2.later hB3).later hB4, c4, by have := hr3.below hB4 hr3.lt; simpa [clsN] using this, by omega, by omega, by omega, fun s hs => by have := hTbs s hs; omega, by omega⟩
  have y3 := y2.trans (hB3.mono y2.size)
  have y4 := y3.trans (hB4.mono y3.size)
  generalize w3.alloc (.cells #[.slice (some ⟨w1.heap.size + 1, 0, none⟩) N N] 30) = w4 at *
  have hbase : w.heap.size ≤ w3.heap.size := y3.size
  have hb20 : w.heap.size ≤ w1.heap.size + 1 := by omega
  clear hown hgrow gA gB g1 hgr hB3 hr3 hB4 c4 hT2 r2 t2 hT r1 hB2 hw2 hs2 y1 y2 y3
  generalize w1.heap.size + 1 = b20 at *
  generalize w1.heap.size = bt at *
  generalize w3.heap.size = bc at *
  obtain ⟨gb, hgb⟩ : ∃ gb, gb = w.heap.size := ⟨_, rfl⟩
  rw [← hgb] at hP ⊢
  clear hgb
  go_loopw [5] (fun nv wr => ∃ (k b2 : Nat), nv = .int .i64 (mcA N (clsN Q N G.es k) : Nat) ∧ k ≤ mcA N (clsN Q N G.es k) ∧ Pcx G p c gb bt bc B b2 w0.heap.size N Q bs (clsN Q N G.es k) wr ∧ w.heap.size ≤ b2 ∧ RowKit.Below w.heap.size w wr) (fun nv _ => N - (intOf nv).toNat)
  case atStart => exact ⟨0, b20, by rw [mcA_zero]; congr 1; omega, Nat.zero_le _, hP, by omega, y4⟩
  case round =>
    clear hP y4
    obtain ⟨k, b2, rfl, hk, hP, hb2, hB⟩ := hrel
    have hmc := mcA_max (n := N) (clsN Q N G.es k)
    have HSM := hidI (@cls_same Q N G.es k)
    have HMS := hidI (@mcA_succ Q N G.es k)
    have HEND := hidI (fun h => @cls_end Q N G.es k hk h)
    have HMO := hidI (fun h => @cls_more Q N G.es k hk h)
    have hCl := @clsN_len Q N G.es k
    have HC1 : Hid (clsN Q N G.es (k + 1) = (List.range N).map (numR (relA Q G.es (clsN Q N G.es k)))) := rfl
    have gx := hP.g.at 1 rfl
    obtain ⟨wo, rfl⟩ : ∃ wo : World, wo = wr := ⟨_, rfl⟩
    go_wp2_with (at_make; refine wpList_make_full _ rfl _ _ 30 rfl wo.heap.size 3 i0 (.int .i64 0) 1 Tryz.underlying30 hi0 hz0 hz1 .i64 .i64 _ _ N rfl rfl (by omega) (by omega) (by rw [hz3]; omega) (by unfold maxLen; omega) (Nat.le_refl _) ?_; intro w5 hown hgrow)
    have hr5 := made_rowJ hown
    have hB5 : RowKit.Below wo.heap.size wo w5 := (RowKit.Below.refl _ _).grown hgrow (Nat.le_refl _) (by simp)
    have hlt5 := hr5.lt
    clear hown hgrow gx
    rw [← nowV_zero (relA Q G.es (clsN Q N G.es k)) N] at hr5
    generalize hCC : clsN Q N G.es k = C at *
    go_loopw [6, 25] (fun fv iv wx => ∃ (s : Nat) (q : Option Addr) (d : Nat), s ≤ N ∧ iv = .int .i64 s ∧ fv = .slice q (frsR (relA Q G.es C) s).length d ∧ wx.ownsRow w5.heap.size 3 1 (.slice q (frsR (relA Q G.es C) s).length d) (frsR (relA Q G.es C) s).length (frsV (relA Q G.es C) s) ∧ VRow wx wo.heap.size 3 (nowV (relA Q G.es C) N s) ∧ RowKit.Below wo.heap.size wo wx ∧ w5.heap.size ≤ wx.heap.size) (fun _ iv _ => N - (intOf iv).toNat)
    case atStart => exact ⟨0, none, 0, by omega, rfl, rfl, World.ownsRow_nil _ _ _ _, hr5, hB5, Nat.le_refl _⟩
    case round =>
      clear hr5 hB5
      obtain ⟨s, q, d, hs, rfl, rfl, hown, hrow, hBx, hsz⟩ := hrel
      by_cases hlt : s < N
      · have hltI : (s : Int) < (N : Int) := by omega
        have hPx := hP.later hBx
        have hBY : RowKit.Below wr.heap.size wr (wr.alloc (.cells #[.int .i64 s] 3)) := (RowKit.Below.refl _ _).alloc (Nat.le_refl _) _
        have hbx : VRow (wr.alloc (.cells #[.int .i64 s] 3)) wr.heap.size 3 [.int .i64 s] := VRow.new wr _ _
        have HIF := hidI (indexI_frs (hPx.later hBY) hCl hN64 hQ256 HTB.out hlt (hbx.at 0 rfl) (hown.alloc (.cells #[.int .i64 s] 3)))
        have hownY := hown.alloc (.cells #[.int .i64 s] 3)
        have hrowY := hrow.alloc (.cells #[.int .i64 s] 3)
        have hBxY := hBx.trans (hBY.mono hBx.size)
        have hszY : w5.heap.size ≤ (wr.alloc (.cells #[.int .i64 s] 3)).heap.size := Nat.le_trans hsz hBY.size
        have hnb := numR_bd (relA_eqv Q G.es C) s N hlt
        have hfl := frsR_len (relA Q G.es C) N
        have hfs0 := frsR_len (relA Q G.es C) s
        have HGO := hidI (@frsR_go (relA Q G.es C) s)
        have HST := hidI (@frsR_stay (relA Q G.es C) s)
        have HSET := hidI (nowV_set (relA Q G.es C) hlt)
        have HGET := hidI (nowV_get (relA Q G.es C) hlt)
        have HNEW := hidI (@numR_new (relA Q G.es C) s)
        have hjl : ∀ j, (Value.slice q (frsR (relA Q G.es C) s).length d).ownBlock = some j → j < wr.heap.size := fun j e => (hown.lt j e).2
        obtain ⟨wy, hwy⟩ : ∃ wy, wy = wr.alloc (.cells #[.int .i64 s] 3) := ⟨_, rfl⟩
        obtain ⟨yb, hyb⟩ : ∃ yb, yb = wr.heap.size := ⟨_, rfl⟩
        rw [← hwy, ← hyb] at HIF hbx
        rw [← hyb] at hjl
        rw [← hwy] at hownY hrowY hBxY hszY
        clear hown hrow hBx hsz hPx hBY
        go_wp2_with fail
        rw [← hwy, ← hyb]
        clear hwy hyb
        refine HIF.out.mono ?_
        rintro e w7 ⟨rfl, hD⟩
        have hown7 := hownY.dr hD
        have hrow7 := hrowY.dr hD
        have hB7 := hBxY.trans (hD.below _)
        have hsz7 : w5.heap.size ≤ w7.heap.size := by rw [hD.size]; exact hszY
        have hbx7 := (hbx.dr hD).at 0 rfl
        have hlow : wo.heap.size < w5.heap.size := hlt5
        clear hownY hrowY hBxY hszY hbx hD HIF
        cases hfs : fstR (relA Q G.es C) s
        · have HF2 := hidI (HST.out hfs)
          rw [if_neg (by simp)]
          generalize hm : numR (relA Q G.es C) s = m at *
          have hc7 := hrow7.at s HGET.out
          have hf7 := hrow7.frozen s
          have hm0 : ¬ m < 0 := by omega
          clear hfs hm
          go_wp2
          go_roundw
          case rel =>
            refine ⟨s + 1, q, d, by omega, by go_num, by rw [HF2.out], ?_, ?_, hB7.setCell (p := ⟨wo.heap.size, s, none⟩) (Nat.le_refl _) _, by rw [World.size_setCell]; exact hsz7⟩
            · unfold frsV at hown7 ⊢
              rw [HF2.out]
              exact ownsRow_setCell_below (a := ⟨wo.heap.size, s, none⟩) hown7 hlow _
            · rw [← HSET.out]; exact hrow7.set (i := s) _
          case measure => simp [intOf]; omega
        · have HF2 := hidI (HGO.out hfs)
          have HNW := hidI (HNEW.out hfs)
          rw [if_pos rfl]
          have hnew := cell_one_new w7 (.int .i64 (s : Int)) 3
          have hown8 := hown7.alloc (.cells #[.int .i64 (s : Int)] 3)
          have hc7 := hrow7.at s HGET.out
          have hf7 := hrow7.frozen s
          have hal : RowKit.Below w7.heap.size w7 (w7.alloc (.cells #[.int .i64 (s : Int)] 3)) := (RowKit.Below.refl _ _).alloc (Nat.le_refl _) _
          have hrow8 := hrow7.alloc (.cells #[.int .i64 (s : Int)] 3)
          have hbx8 := cell_al (.cells #[.int .i64 (s : Int)] 3) hbx7
          have hB8 := hB7.trans (hal.mono hB7.size)
          clear hfs
          have HGR : Hid (∀ w9, (w7.alloc (.cells #[.int .i64 (s : Int)] 3)).grownBy w9 (Value.slice q (frsR (relA Q G.es C) s).length d).ownBlock → VRow w9 wo.heap.size 3 (nowV (relA Q G.es C) N s) ∧ RowKit.Below wo.heap.size wo w9 ∧ w5.heap.size ≤ w9.heap.size) := fun w9 hg => by
            have hne : some wo.heap.size ≠ (Value.slice q (frsR (relA Q G.es C) s).length d).ownBlock := fun h => by have := (hown8.lt _ h.symm).1; omega
            exact ⟨hrow8.grown hg hne, hB8.grown hg (by have := hB8.size; omega) (fun j e => by have := (hown8.lt j e).1; omega), by have := hg.size; have := hal.size; omega⟩
          have HBX : Hid (∀ w9, (w7.alloc (.cells #[.int .i64 (s : Int)] 3)).grownBy w9 (Value.slice q (frsR (relA Q G.es C) s).length d).ownBlock → w9.cell? ⟨yb, 0, none⟩ = some (.int .i64 s)) := fun w9 hg => hg.cell hbx8 (fun h => by have := hjl _ h.symm; simp at this)
          go_wp2_with (at_builtin; refine wpList_append_own _ rfl _ _ 30 rfl w5.heap.size 3 i0 (.int .i64 0) 1 8 Tryz.underlying30 hi0 hz0 hz1 hz3 rfl (by decide) _ _ _ rfl hown8 ⟨w7.heap.size, 0, none⟩ 1 1 [.int .i64 (s : Int)] rfl rfl hnew (by simp [Value.oneCell']) (by simp only [maxLen]; omega) (by omega) (by rw [World.size_alloc]; omega) ?_; intro v' w9 hown' hgrow _; have hb9 := HBX.out w9 hgrow; obtain ⟨hr9, hB9, hsz9⟩ := HGR.out w9 hgrow; have hc9 := hr9.at s HGET.out; have hf9 := hr9.frozen s)
          have hownS := own_snoc hown' HF2.out
          obtain ⟨q', d', rfl, hownF⟩ := hownS
          clear hown'
          go_roundw
          case rel =>
            refine ⟨s + 1, q', d', by omega, by go_num, rfl, ownsRow_setCell_below (a := ⟨wo.heap.size, s, none⟩) hownF hlow _, ?_, hB9.setCell (p := ⟨wo.heap.size, s, none⟩) (Nat.le_refl _) _, by rw [World.size_setCell]; exact hsz9⟩
            rw [← HSET.out, HNW.out]; exact hr9.set (i := s) _
          case measure => simp [intOf]; omega
      · have hltI : ¬ (s : Int) < (N : Int) := by omega
        obtain rfl : N = s := by omega
        have hPx := hP.later hBx
        rw [nowV_end, ← HC1.out] at hrow
        have hblt := hP.c.lt
        have hPT := hPx.turn hrow (by omega)
        have hBw := (hB.trans (hBx.mono hB.size)).setCell (p := ⟨bc, 0, none⟩) hbase (.slice (some ⟨wo.heap.size, 0, none⟩) N N)
        have hcc := hPx.c.at 0 rfl
        have hcf := hPx.c.frozen 0
        have hct := hPT.c.at 0 rfl
        have hgw := hB.size
        clear hown hsz hP hPx hrow
        by_cases he : (frsR (relA Q G.es C) N).length = mcA N C
        · have he1 : (((frsR (relA Q G.es C) N).length : Int) == (mcA N C : Int)) = true := by simp [he]
          have hsame := HSM.out.1 (HMS.out.trans he)
          have hfin : Hid (clA G = clsN Q N G.es (k + 1)) := by rw [Hid, HCL.out, HEND.out hsame, hsame]
          clear he
          go_wp2
          go_ret
          exact ⟨wo.heap.size, rfl, hgw, by rw [hfin.out]; exact hPT.r, hBw⟩
        · have he1 : (((frsR (relA Q G.es C) N).length : Int) == (mcA N C : Int)) = false := by simp; omega
          have hne : clsN Q N G.es (k + 1) ≠ C := fun h => he (HMS.out.symm.trans (HSM.out.2 h))
          obtain ⟨m1, m2⟩ := HMO.out hne
          have hmm := mcA_max (n := N) (clsN Q N G.es (k + 1))
          have HMS2 := HMS.out
          clear he hne
          go_wp2
          go_roundw
          case rel => exact ⟨k + 1, wo.heap.size, by rw [HMS2], m1, hPT, hgw, hBw⟩
          case measure =>
            rw [HMS2] at m2 hmm
            simp only [intOf, Int.toNat_natCast]
            rw [hCC]
            omega
end Go.Proofs.YtocbhlohcikapaaGreatDoor
