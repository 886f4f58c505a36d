/-
  Words, plain lemmas and walks, merged: Fm, Fn, Fo, He, Hi, Hd, Hu.
-/
import Derived.Test.YtaclgmhinljkbaaGreatDoorZpg
import Derived.OwnWalkIn
import Derived.Test.YtaclgmhinljkbaaGreatDoorZpf
import Derived.Test.YtaclgmhinljkbaaGreatDoorZpd
import Derived.Lib.SlicesCompact
import Derived.Test.YtaclgmhinljkbaaGreatDoorZpe
import Derived.Shelf.SlicesE.DeleteFunc
import Derived.Test.YtaclgmhinljkbaaGreatDoorZpb
set_option linter.unusedVariables false
set_option linter.unusedSimpArgs false
namespace Go.Proofs.YtaclgmhinljkbaaGreatDoor
open Go.RowKit Go.Sort Go.Shelf Go.ChangeMaps Go.MapKept Go.Maps

/-- Block r ranges over the map in block b; ks: the keys that have come. -/
def RgT (w : World) (b r : Nat) (ks : List ByteArray) (f : ByteArray → Option Unit) : Prop :=
  ∃ (es : Array MapEntry) (clock : Nat) (seen : Array Nat) (vis : List MapEntry), w.heap[b]? = some (.map es clock) ∧ w.heap[r]? = some (.mapIter (some b) clock seen clock) ∧ (es.toList.map (·.born)).Nodup ∧ (∀ e ∈ es.toList, e.born < clock) ∧
    es.toList.Pairwise (fun x y => x.key ≠ y.key) ∧ (∀ e ∈ es.toList, ∃ s, e.key = .string s ∧ s.size ≤ maxLen ∧ e.val = .bool true ∧ f s = some ()) ∧ (∀ s, f s = some () → ∃ e ∈ es.toList, e.key = .string s) ∧
    ks.map Value.string = vis.map (·.key) ∧ seen.toList = vis.map (·.born) ∧ (∀ e ∈ vis, e ∈ es.toList)
/-- How many entries are to come. -/
def rgLeft (w : World) (b r : Nat) : Nat := match w.heap[b]?, w.heap[r]? with
  | some (.map es _), some (.mapIter _ _ seen _) => (leftOf es seen).size
  | _, _ => 0
theorem rgLeft_eq {w w' : World} {b r : Nat} (hb : w'.heap[b]? = w.heap[b]?) (hr : w'.heap[r]? = w.heap[r]?) : rgLeft w' b r = rgLeft w b r := by unfold rgLeft; rw [hb, hr]
theorem RgT.same {w w' : World} {b r : Nat} {ks : List ByteArray} {f : ByteArray → Option Unit} (h : RgT w b r ks f) (hb : w'.heap[b]? = w.heap[b]?) (hr : w'.heap[r]? = w.heap[r]?) : RgT w' b r ks f := by
  obtain ⟨es, clock, seen, vis, h1, h2, h3⟩ := h
  exact ⟨es, clock, seen, vis, hb.trans h1, hr.trans h2, h3⟩
theorem RgT.lt {w : World} {b r : Nat} {ks : List ByteArray} {f : ByteArray → Option Unit} (h : RgT w b r ks f) : b < w.heap.size ∧ r < w.heap.size ∧ b ≠ r := by
  obtain ⟨es, clock, seen, vis, h1, h2, h3⟩ := h
  refine ⟨(Array.getElem?_eq_some_iff.1 h1).1, (Array.getElem?_eq_some_iff.1 h2).1, ?_⟩
  rintro rfl
  rw [h1] at h2; cases h2
theorem RgT.iter {w : World} {b r : Nat} {ks : List ByteArray} {f : ByteArray → Option Unit} (h : RgT w b r ks f) : ∃ o, w.heap[r]? = some o ∧ o.isCells = false ∧ o.isWalk = true := by
  obtain ⟨es, clock, seen, vis, h1, h2, h3⟩ := h
  exact ⟨_, h2, rfl, rfl⟩
theorem RgT.mapO {w : World} {b r : Nat} {ks : List ByteArray} {f : ByteArray → Option Unit} (h : RgT w b r ks f) : ∃ o, w.heap[b]? = some o ∧ o.isCells = false := by
  obtain ⟨es, clock, seen, vis, h1, h2, h3⟩ := h
  exact ⟨_, h1, rfl⟩
theorem RgT.map {w : World} {b r : Nat} {ks : List ByteArray} {f : ByteArray → Option Unit} (h : RgT w b r ks f) : Mp Value.string (fun s => s.size ≤ maxLen) vT w b f := by
  obtain ⟨es, clock, seen, vis, h1, h2, h3, h4, h5, h6, h7, h8⟩ := h
  exact ⟨es, clock, h1, h5, fun e he => by obtain ⟨s, k1, k2, k3, k4⟩ := h6 e he; exact ⟨s, (), k1, k2, k3, k4⟩, fun a x ha => by cases x; exact h7 a ha⟩
/-- The range begins. -/
theorem RgT.start {w : World} {b : Nat} {f : ByteArray → Option Unit} (h : MpT w b f) :
    ∃ w', (Instr.range 57 (.map (some b))).run Tryz.prog w = .ok (.pointer (some ⟨w.heap.size, 0, none⟩)) w' ∧ RgT w' b w.heap.size [] f ∧ w'.heap.size = w.heap.size + 1 ∧ w.grownBy w' none := by
  obtain ⟨es, clock, hb, hd, hr, hc⟩ := h.1
  obtain ⟨es', clock', hb', hbn, hbl⟩ := h.2
  rw [hb] at hb'; cases hb'
  refine ⟨_, run_range_map w 57 9 _ b es clock Tryz.underlying57 hb, ⟨es, clock, #[], [], ?_, heap_alloc_new w _, hbn, hbl, hd, ?_, ?_, rfl, rfl, by simp⟩, World.size_alloc _ _, World.grownBy_alloc w _ none⟩
  · rw [Below.heap_alloc w _ b h.lt]; exact hb
  · intro e he
    obtain ⟨s, x, k1, k2, k3, k4⟩ := hr e he
    cases x
    exact ⟨s, k1, k2, k3, k4⟩
  · intro s hs; exact hc s () hs
theorem setB_at {w : World} {r : Nat} {o o' : Obj} (h : w.heap[r]? = some o) : (setBlock w r o').heap[r]? = some o' := by
  have := (Array.getElem?_eq_some_iff.1 h).1
  simp [setBlock, this]
theorem setB_ne {w : World} {r i : Nat} {o' : Obj} (h : i ≠ r) : (setBlock w r o').heap[i]? = w.heap[i]? := by
  have h' : r ≠ i := fun e => h e.symm
  simp [setBlock, Array.getElem?_setIfInBounds, h']
/-- The range's step. -/
theorem RgT.next {w : World} {b r : Nat} {ks : List ByteArray} {f : ByteArray → Option Unit} (h : RgT w b r ks f) (ty : TypeId) :
    ((∀ s, f s = some () → s ∈ ks) ∧ (Instr.next (.pointer (some ⟨r, 0, none⟩)) false ty).run Tryz.prog w = .ok (.tuple #[.bool false]) w) ∨
    ∃ x w', f x = some () ∧ x ∉ ks ∧ x.size ≤ maxLen ∧ (Instr.next (.pointer (some ⟨r, 0, none⟩)) false ty).run Tryz.prog w = .ok (.tuple #[.bool true, .string x, .bool true]) w' ∧ RgT w' b r (ks ++ [x]) f ∧ rgLeft w' b r < rgLeft w b r ∧
      w.grownBy w' (some r) ∧ w'.heap.size = w.heap.size ∧ (Instr.entry (.pointer (some ⟨r, 0, none⟩))).run Tryz.prog w' = .ok (.tuple #[.string x, .bool true]) w' := by
  have hbr := h.lt
  obtain ⟨es, clock, seen, vis, hb, hr, hbn, hbl, hd, hent, hcov, hks, hseen, hvis⟩ := h
  rcases run_next_at (P := Tryz.prog) w ty r b clock clock seen es clock hr hb hbl (Nat.le_refl _) with ⟨h0, hrun⟩ | ⟨e, he, w1, hw1, hrun⟩
  · refine .inl ⟨fun s hs => ?_, hrun⟩
    obtain ⟨e, he, hk⟩ := hcov s hs
    have hall := all_seen es seen h0 e he
    have hmem : e.born ∈ seen.toList := by simpa using hall
    rw [hseen] at hmem
    obtain ⟨e', he', hbe⟩ := List.mem_map.1 hmem
    have hee : e' = e := by
      have hi := List.mem_iff_getElem.1 (hvis e' he'); have hj := List.mem_iff_getElem.1 he
      obtain ⟨i, hil, hi⟩ := hi; obtain ⟨j, hjl, hj⟩ := hj
      have hij : i = j := by
        have hp := List.pairwise_iff_getElem.1 (show (es.toList.map (·.born)).Pairwise (· ≠ ·) from hbn)
        rcases Nat.lt_trichotomy i j with hlt | heq | hlt
        · exact absurd (by rw [List.getElem_map, List.getElem_map, hi, hj, hbe]) (hp i j (by simpa using hil) (by simpa using hjl) hlt)
        · exact heq
        · exact absurd (by rw [List.getElem_map, List.getElem_map, hi, hj, hbe]) (hp j i (by simpa using hjl) (by simpa using hil) hlt)
      subst hij
      rw [← hi, ← hj]
    subst hee
    have : Value.string s ∈ vis.map (·.key) := by rw [← hk]; exact List.mem_map_of_mem he'
    rw [← hks] at this
    obtain ⟨s', hs', e⟩ := List.mem_map.1 this
    cases e
    exact hs'
  · obtain ⟨hes, hns⟩ := mem_left he
    obtain ⟨x, k1, k2, k3, k4⟩ := hent e hes
    have hw1h : w1.heap = w.heap := by rcases hw1 with rfl | rfl <;> rfl
    have hr1 : w1.heap[r]? = some (.mapIter (some b) clock seen clock) := by rw [hw1h]; exact hr
    have hb2 : (setBlock w1 r (.mapIter (some b) clock (seen.push e.born) clock)).heap[b]? = some (.map es clock) := by
      rw [setB_ne (fun e => hbr.2.2 e)]; rw [hw1h]; exact hb
    have hr2 : (setBlock w1 r (.mapIter (some b) clock (seen.push e.born) clock)).heap[r]? = some (.mapIter (some b) clock (seen.push e.born) clock) := setB_at hr1
    refine .inr ⟨x, _, k4, ?_, k2, by rw [k1, k3] at hrun; exact hrun, ⟨es, clock, seen.push e.born, vis ++ [e], hb2, hr2, hbn, hbl, hd, hent, hcov, by simp [hks, k1], by simp [hseen], ?_⟩, ?_, ?_, ?_, ?_⟩
    · intro hx
      have : Value.string x ∈ vis.map (·.key) := by rw [← hks]; exact List.mem_map_of_mem hx
      obtain ⟨e', he', hk'⟩ := List.mem_map.1 this
      have hee : e' = e := by
        obtain ⟨i, hil, hi⟩ := List.mem_iff_getElem.1 (hvis e' he'); obtain ⟨j, hjl, hj⟩ := List.mem_iff_getElem.1 hes
        rcases Nat.lt_trichotomy i j with hlt | heq | hlt
        · exact absurd (by rw [hi, hj, hk', k1]) (List.pairwise_iff_getElem.1 hd i j hil hjl hlt)
        · subst heq; rw [← hi, ← hj]
        · exact absurd (by rw [hi, hj, hk', k1]) (List.pairwise_iff_getElem.1 hd j i hjl hil hlt)
      subst hee
      have hc : seen.contains e'.born = true := by
        have : e'.born ∈ seen.toList := by rw [hseen]; exact List.mem_map_of_mem he'
        simpa using this
      rw [hc] at hns; cases hns
    · intro e' he'
      rcases List.mem_append.1 he' with he' | he'
      · exact hvis e' he'
      · rw [List.mem_singleton.1 he']; exact hes
    · unfold rgLeft
      rw [hb2, hr2, hb, hr]
      exact left_shrinks es seen e he
    · refine ⟨?_, ?_, ?_, ?_, ?_⟩
      all_goals first
        | (rcases hw1 with rfl | rfl <;> rfl)
        | skip
      · rw [show (setBlock w1 r (.mapIter (some b) clock (seen.push e.born) clock)).heap.size = w1.heap.size by simp [setBlock], hw1h]; exact Nat.le_refl _
      · intro i hi hne
        rw [setB_ne (fun e => hne (by rw [e])), hw1h]
    · rw [show (setBlock w1 r (.mapIter (some b) clock (seen.push e.born) clock)).heap.size = w1.heap.size by simp [setBlock], hw1h]
    · have := run_entry_at (P := Tryz.prog) (setBlock w1 r (.mapIter (some b) clock (seen.push e.born) clock)) r b clock seen es clock e hr2 hb2 hes hbn
      rw [k1, k3] at this
      exact this
theorem look_bool {w : World} {b : Nat} {f : ByteArray → Option Unit} (h : Mp Value.string (fun s => s.size ≤ maxLen) vT w b f) (u : ByteArray) (hu : u.size ≤ maxLen) :
    (Instr.lookup 57 (.map (some b)) (.string u) false).run Tryz.prog w = .ok (.bool (f u).isSome) w := by
  have := h.look (t := 57) keyS Tryz.underlying57 (z := .bool false) (by kernel_rfl) u hu false
  cases hf : f u <;> rw [hf] at this <;> exact this
end Go.Proofs.YtaclgmhinljkbaaGreatDoor
namespace Go.Proofs.YtaclgmhinljkbaaGreatDoor
open Go.RowKit Go.Sort Go.Shelf Go.ChangeMaps Go.MapKept Go.Maps
attribute [local go_sem] Oper.semAt_some

theorem nodup_le : ∀ {xs l : List ByteArray}, xs.Nodup → (∀ x ∈ xs, x ∈ l) → xs.length ≤ l.length
  | [], _, _, _ => by simp
  | x :: xs, l, hn, hs => by
    have hn' := List.nodup_cons.1 hn
    have hx := hs x (by simp)
    have ih := nodup_le (xs := xs) (l := l.filter (fun y => !decide (y = x))) hn'.2 (fun y hy => List.mem_filter.2 ⟨hs y (by simp [hy]), by
      have : y ≠ x := fun e => hn'.1 (by rw [← e]; exact hy)
      simp [this]⟩)
    have h2 : (l.filter (fun y => !decide (y = x))).length < l.length := List.length_filter_lt_length_iff_exists.2 ⟨x, hx, by simp⟩
    simp only [List.length_cons]
    omega
/-- The words of a list, as the map holds them. -/
def inF (l : List ByteArray) : ByteArray → Option Unit := fun u => if l.any (fun y => decide (y = u)) = true then some () else none
theorem inF_some {l : List ByteArray} {u : ByteArray} : inF l u = some () ↔ u ∈ l := by
  unfold inF
  by_cases h : l.any (fun y => decide (y = u)) = true
  · rw [if_pos h]
    refine ⟨fun _ => ?_, fun _ => rfl⟩
    obtain ⟨y, hy, e⟩ := List.any_eq_true.1 h
    rw [← of_decide_eq_true e]; exact hy
  · rw [if_neg h]
    constructor
    · intro e; cases e
    · intro hu; exact absurd (List.any_eq_true.2 ⟨u, hu, by simp⟩) h
def isF (l : List ByteArray) (u : ByteArray) : Bool := (inF l u).isSome
theorem isF_iff {l : List ByteArray} {u : ByteArray} : isF l u = true ↔ u ∈ l := by
  rw [← inF_some]; unfold isF
  cases inF l u <;> simp
theorem inF_succ (l : List ByteArray) (k : Nat) (h : k < l.length) (u : ByteArray) : msetB (inF (l.take k)) l[k] u = inF (l.take (k + 1)) u := by
  unfold msetB inF
  rw [List.take_succ_eq_append_getElem h, List.any_append, List.any_cons, List.any_nil, Bool.or_false]
  by_cases e : u = l[k]
  · rw [if_pos e, if_pos (by simp [e])]
  · have e' : decide (l[k] = u) = false := decide_eq_false (fun h => e h.symm)
    rw [if_neg e, e', Bool.or_false]
theorem MpT.congr {w : World} {b : Nat} {f g : ByteArray → Option Unit} (h : MpT w b f) (e : ∀ a, f a = g a) : MpT w b g := by
  have : f = g := funext e
  exact this ▸ h
/-- What a round asks of a factor. -/
def fcB (l : List ByteArray) (w u : ByteArray) : Bool := decide (u = w) || !isF l u
def alB (l : List ByteArray) (x : ByteArray) (pre : List (SubB x)) : Bool := pre.all (fun u => fcB l x u.1)
theorem alB_snoc (l : List ByteArray) (x : ByteArray) (pre : List (SubB x)) (u : SubB x) : alB l x (pre ++ [u]) = (alB l x pre && fcB l x u.1) := by
  unfold alB; rw [List.all_append, List.all_cons, List.all_nil, Bool.and_true]
theorem alB_done {l : List ByteArray} {x : ByteArray} {ys : List (SubB x)} (h : ys.map (·.1) = facL x) (hl : ∀ u ∈ l, u ≠ (⟨#[]⟩ : ByteArray)) : alB l x ys = minB l x := by
  rw [← fac_min (w := x) (f := isF l) (fun u => isF_iff) hl, ← h, List.all_map]; rfl
theorem own_same {W W' : World} {B e size n : Nat} {v : Value} {xs : List Value} (ho : W.ownsRow B e size v n xs) (h : ∀ j, v.ownBlock = some j → W'.heap[j]? = W.heap[j]?) : W'.ownsRow B e size v n xs :=
  ⟨ho.1, ho.2.imp id (fun ⟨g, cap, cur, a, b, hh, z⟩ => ⟨g, cap, cur, a, b, (h g (by rw [a]; rfl)).trans hh, z⟩)⟩
theorem own_blk {W : World} {B e size n : Nat} {v : Value} {xs : List Value} (ho : W.ownsRow B e size v n xs) {j : Nat} {o : Obj} (hj : W.heap[j]? = some o) (hc : o.isCells = false) : v.ownBlock ≠ some j := by
  intro e
  rcases ho.2 with ⟨rfl, _⟩ | ⟨g, cap, cur, rfl, _, hh, _⟩
  · simp [Value.ownBlock] at e
  · obtain rfl : g = j := by simpa [Value.ownBlock] using e
    rw [hh] at hj; cases hj; cases hc
theorem own_sh1 {w : World} {B e size n : Nat} {v : Value} {xs : List Value} (h : w.ownsRow B e size v n xs) : ∃ p m c, v = .slice p m c := by
  rcases h.2 with ⟨rfl, _⟩ | ⟨g, cap, cur, rfl, _⟩
  · exact ⟨_, _, _, rfl⟩
  · exact ⟨_, _, _, rfl⟩
theorem own_base1 {W : World} {B B' e size n : Nat} {v : Value} {xs : List Value} (h : W.ownsRow B e size v n xs) (hB : B' ≤ B) : W.ownsRow B' e size v n xs :=
  ⟨h.1, h.2.imp id (fun ⟨g, cap, cur, a, b, z⟩ => ⟨g, cap, cur, a, Nat.le_trans hB b, z⟩)⟩
theorem own_cls {w : World} {B e size n : Nat} {v : Value} {xs : List Value} (h : w.ownsRow B e size v n xs) {j : Nat} {o : Obj} (hj : v.ownBlock = some j) (ho : w.heap[j]? = some o) : o.isCells = true := by
  rcases h.2 with ⟨rfl, _⟩ | ⟨g, cap, cur, rfl, _, hh, _⟩
  · simp [Value.ownBlock] at hj
  · obtain rfl : g = j := by simpa [Value.ownBlock] using hj
    rw [hh] at ho; cases ho; rfl
theorem ownFrom_keepsX {β : Type} (W0 : World) : OwnFrom W0.heap.size (fun (_ : β) W => KeepsOthers W0 W) := fun _ X Y row hs hg hr =>
  ⟨Nat.le_trans hs.size hg.size, fun i o hi ho => by
    have hlt := (Array.getElem?_eq_some_iff.1 hi).1
    exact (hg.block i (Nat.lt_of_lt_of_le hlt hs.size) (fun e => by have := (hr i e.symm).1; omega)).trans (hs.same i o hi ho)⟩
theorem ownFrom_kx {β : Type} {a : Nat} (W0 : World) : OwnFrom W0.heap.size (fun (_ : β) W => W0.heap.size ≤ W.heap.size ∧ KX a W0.heap.size W0 W) := fun _ X Y row hs hg hr =>
  ⟨Nat.le_trans hs.1 hg.size, fun i h1 h2 => (hg.block i (by have := hs.1; omega) (fun e => by have := (hr i e.symm).1; omega)).trans (hs.2 i h1 h2)⟩
theorem RetSe.own {l xs : List ByteArray} {k : Int} {w w' : World} {v : Value} {B n : Nat} (h : w'.ownsRow B 9 1 v n (xs.map Value.string)) (hx : xs = l) (hB : RowKit.Below w.heap.size w w') : RetSe (l, k) w (.returned (.tuple #[v, .int .i64 k])) w' := by
  obtain ⟨q, m, c, he, hn, hc, hs, hsl, hB'⟩ := RetSt.own h hx hB
  cases he
  exact ⟨q, m, c, rfl, hn, hc, hs, hsl, hB'⟩
/-- Where the rounds over the map stand. -/
def RInv (q : Int) (l : List ByteArray) (p : Option Addr) (c : Nat) (w : World) (bm bx r : Nat) (a : Act) (W : World) : Prop :=
  ∃ (ds : List Deferred) (ks : List ByteArray) (v : Value) (u2 u3 u8 u9 u11 u12 u13 u14 u15 u16 u17 u18 u19 u20 u21 u22 u23 u24 u25 u26 u27 u28 u29 u30 u32 u33 u34 u35 u36 u37 u38 u39 u40 u41 u42 u43 u44 u45 u46 u47 u48 u49 u50 u51 u52 u53 u54 u55 u56 u57 u58 : Value), a = { tmps := #[(.int .i64 q), (.slice p l.length c), u2, u3, (.slice none 0 0), (.int .i64 0), (.int .i64 0), (.pointer (some ⟨bx, 0, none⟩)), u8, u9, v, u11, u12, u13, u14, u15, u16, u17, u18, u19, u20, u21, u22, u23, u24, u25, u26, u27, u28, u29, u30, (.pointer (some ⟨r, 0, none⟩)), u32, u33, u34, u35, u36, u37, u38, u39, u40, u41, u42, u43, u44, u45, u46, u47, u48, u49, u50, u51, u52, u53, u54, u55, u56, u57, u58], defers := ds } ∧
    RgT W bm r ks (inF l) ∧ ks.Nodup ∧ (∀ x ∈ ks, x ∈ l) ∧ W.ownsRow (bx + 1) 9 1 v (ks.filter (minB l)).length ((ks.filter (minB l)).map Value.string) ∧ VRow W bx 57 [.map (some bm)] ∧ Marks w.heap.size W ds ∧ RowKit.Below w.heap.size w W ∧ bx + 1 ≤ W.heap.size

set_option maxRecDepth 100000 in
set_option maxHeartbeats 4000000 in
theorem fReduce_in (q : Int) (l : List ByteArray) (p : Option Addr) (c : Nat) (w : World) (hin : Sl w Value.string p l) (hl : l.length ≤ 64) (hz : Sz l) (he : errA q l = 0) (hne : ∀ u ∈ l, u ≠ (⟨#[]⟩ : ByteArray)) :
    CallsIn Fence.wide 9 Tryz.prog 13 #[.int .i64 q, .slice p l.length c] w (RetSe (redL l l.length, 0) w) := by
  have HIN := hidI hin; have HZ := hidI hz; have HNE := hidI hne
  have HE := hidI (fErrors_any q l p c w hin (by omega) hz)
  rw [he] at HE
  clear hin hz hne he
  obtain ⟨i0, hi0, hz0, hz1, hz3⟩ := info_parts infoStrF
  have hmm := @run_makeMap Tryz.prog
  refine callsIn_of_wp_marks Tryz.func13 rfl trivial ?_ rfl
  simp only [Tryz.ntmps13, List.size_toArray, List.length_cons, List.length_nil, Nat.reduceAdd, Nat.reduceSub, Array.replicate_succ, Array.replicate_zero, List.push_toArray, List.append_toArray, List.nil_append, List.cons_append]
  gi_wp2_with (refine ⟨trivial, ?_⟩; gi_at_call 10)
  refine (callsIn_wide.2 HE.out).mono ?_
  rintro e w1 ⟨rfl, hD1⟩
  have x1 := hD1.below w.heap.size
  have hz1' := x1.size
  gi_wp2
  have c7 : VRow ((w1.alloc (.map #[] 0)).alloc (.cells #[.map (some w1.heap.size)] 57)) (w1.heap.size + 1) 57 [.map (some w1.heap.size)] := VRow.new1 w1 _ _ _
  have hM0 : MpT ((w1.alloc (.map #[] 0)).alloc (.cells #[.map (some w1.heap.size)] 57)) w1.heap.size (inF (l.take 0)) :=
    ((MpT.made w1).congr (fun a => by simp [inF])).same (Below.heap_alloc _ _ _ (by simp))
  have x2 : RowKit.Below w.heap.size w ((w1.alloc (.map #[] 0)).alloc (.cells #[.map (some w1.heap.size)] 57)) := (x1.alloc hz1' _).alloc (by simp; omega) _
  gi_loopw [23] (fun iv wr => ∃ k : Nat, k ≤ l.length ∧ iv = .int .i64 k ∧ MpT wr w1.heap.size (inF (l.take k)) ∧ VRow wr (w1.heap.size + 1) 57 [.map (some w1.heap.size)] ∧ RowKit.Below w.heap.size w wr) (fun iv _ => l.length - (intOf iv).toNat)
  case atStart => exact ⟨0, by omega, rfl, hM0, c7, x2⟩
  case round =>
    clear c7 hM0 x2
    obtain ⟨k, hk, rfl, hM, c7, hB⟩ := hrel
    by_cases hlt : k < l.length
    · have hltI : (k : Int) < (l.length : Int) := by omega
      obtain ⟨b1, o1, rfl, hb1, hc1⟩ := (HIN.out.below hB).get k hlt
      have e0 := hc1 k hlt
      have d7 := c7.at 0 rfl
      have hs := HZ.out _ (List.getElem_mem hlt)
      have HN := hidI (inF_succ l k hlt)
      obtain ⟨w', hrun, hM', hT⟩ := hM.store l[k] (by unfold maxLen; omega)
      have hlt7 := c7.lt
      have hB' : RowKit.Below w.heap.size w w' := hB.grown hT.grown hB.size (fun j e => by cases e; omega)
      have c7' : VRow w' (w1.heap.size + 1) 57 [.map (some w1.heap.size)] := c7.grown hT.grown (by simp)
      generalize l[k] = x at *
      clear hc1
      gi_wp2
      go_roundw
      case rel => exact ⟨k + 1, by omega, by go_num, hM'.congr HN.out, c7', hB'⟩
      case measure => simp [intOf]; omega
    · obtain rfl : k = l.length := by omega
      have hltI : ¬ (l.length : Int) < (l.length : Int) := by omega
      rw [List.take_length] at hM
      have d7 := c7.at 0 rfl
      obtain ⟨W0, hrg, hR0, hs0, hg0⟩ := RgT.start hM
      have c70 := c7.grown hg0 (by simp)
      have hB0 : RowKit.Below w.heap.size w W0 := hB.grown hg0 hB.size (fun j e => by cases e)
      have hr7 := c7.lt
      gi_wp2
      clear d7 c7 hB hM hrg x1 hlt hltI
      refine wpIn_loop (fun a W => RInv q l p c w w1.heap.size (w1.heap.size + 1) wr.heap.size a W) (fun _ W => rgLeft W w1.heap.size wr.heap.size) ⟨[], [], .slice none 0 0, _, _, _, _, _, _, _, _, _, _, _, _, _, _, _, _, _, _, _, _, _, _, _, _, _, _, _, _, _, _, _, _, _, _, _, _, _, _, _, _, _, _, _, _, _, _, _, _, _, _, _, rfl, hR0, by simp, by simp, World.ownsRow_nil _ _ _ _, c70, trivial, hB0, by omega⟩ ?_
      clear hR0 hs0 hg0 c70 hB0
      rintro a W ⟨ds, ks, v, u2, u3, u8, u9, u11, u12, u13, u14, u15, u16, u17, u18, u19, u20, u21, u22, u23, u24, u25, u26, u27, u28, u29, u30, u32, u33, u34, u35, u36, u37, u38, u39, u40, u41, u42, u43, u44, u45, u46, u47, u48, u49, u50, u51, u52, u53, u54, u55, u56, u57, u58, rfl, hR, hnd, hsub, hown, c7, hM, hB, hge⟩
      have hkl := nodup_le hnd hsub
      have hfl : (ks.filter (minB l)).length ≤ ks.length := List.length_filter_le _ _
      have hRl := hR.lt
      obtain ⟨oi, hoi, hoc, how⟩ := hR.iter
      rcases hR.next 0 with ⟨hall, hrun⟩ | ⟨x, W1, hfx, hxk, hxs, hrun, hR1, hlt1, hg1, hsz1, hen⟩
      · have HSR : Hid ((ks.filter (minB l)).mergeSort (fun x y => !(ltOf ordB) y x) = redL l l.length) := red_sort (hnd.filter _) (fun z => by
          rw [List.mem_filter]
          exact ⟨fun h => ⟨hsub z h.1, h.2⟩, fun h => ⟨hall z (inF_some.2 h.1), h.2⟩⟩)
        gi_wp2_with (refine ⟨trivial, ?_⟩; gi_at_call 17)
        refine (callsIn_wide.2 (sortB_own (ks.filter (minB l)) (w1.heap.size + 1 + 1) _ v W hown (by omega))).mono ?_
        rw [HSR.out]
        rintro e w3 ⟨rfl, hown3, G3⟩
        have hM3 := hM.others (KeepsOthers.of_grownBy G3 (fun j o e h => own_cls hown e h))
        have hB3 := hB.grown G3 hB.size (fun j e => by have := (hown.lt j e).1; omega)
        gi_wp2
        refine leaves_marks ds w3 hM3 (fun W' hW' => ?_)
        refine ⟨_, results_tmp2 (t := 4) (u := 5) rfl _ _ _, ?_⟩
        exact RetSe.own (own_same hown3 (fun j e => by
          obtain ⟨hj1, hj2⟩ := hown3.lt j e
          rw [Array.getElem?_eq_getElem hj2]
          exact hW'.cells j _ (Array.getElem?_eq_getElem hj2) (own_cls hown3 e (Array.getElem?_eq_getElem hj2)))) rfl (hB3.trans hW'.below)
      · have hxl : x ∈ l := inF_some.1 hfx
        have c71 : VRow W1 (w1.heap.size + 1) 57 [.map (some w1.heap.size)] := c7.grown hg1 (fun e => by have := Option.some.inj e; omega)
        have hown1 : W1.ownsRow (w1.heap.size + 1 + 1) 9 1 v (ks.filter (minB l)).length ((ks.filter (minB l)).map Value.string) :=
          own_same hown (fun j e => hg1.block j (hown.lt j e).2 (fun e' => own_blk hown hoi hoc (by rw [e, e'])))
        have hM1 : Marks w.heap.size W1 ds := hM.keep (fun D hD hk _ => by
          rw [hg1.block D (Array.getElem?_eq_some_iff.1 hk).1 (fun e => by cases e; rw [hoi] at hk; cases hk; cases how)]; exact hk)
        have hB1 : RowKit.Below w.heap.size w W1 := hB.grown hg1 hB.size (fun j e => by have := Option.some.inj e; omega)
        have hge1 : w1.heap.size + 1 + 1 ≤ W1.heap.size := by rw [hsz1]; exact hge
        have hr1 : wr.heap.size < W1.heap.size := hR1.lt.2.1
        have hsx := HZ.out x hxl
        clear hsz1 hg1 hoi hoc how hR hown c7 hM hB hge
        gi_wp2_with (refine ⟨trivial, ?_⟩; gi_at_call 34)
        refine (factors_in Fence.wide 8 trivial rfl x _).mono ?_
        rintro e w' ⟨rfl, rfl⟩
        gi_wp2
        obtain ⟨V0, hV0⟩ : ∃ V0, V0 = ((W1.alloc (.cells #[.string x] 9)).alloc (.cells #[.bool true] 4)).alloc (.cells #[.string x] 9) := ⟨_, rfl⟩
        have y1 : VRow V0 W1.heap.size 9 [.string x] := by subst hV0; exact ((VRow.new W1 _ _).alloc _).alloc _
        have y2 : VRow V0 (W1.heap.size + 1) 4 [.bool true] := by subst hV0; exact (VRow.new1 W1 _ _ _).alloc _
        have y3 : VRow V0 (W1.heap.size + 1 + 1) 9 [.string x] := by subst hV0; exact VRow.new2 W1 _ _ _ _
        have hsz : V0.heap.size = W1.heap.size + 3 := by subst hV0; simp
        have hBV : RowKit.Below w.heap.size w V0 := by subst hV0; exact ((hB1.alloc hB1.size _).alloc (by simp; omega) _).alloc (by simp; omega) _
        have hKV : KeepsOthers W1 V0 := by subst hV0; exact ((KeepsOthers.alloc _ _).trans (KeepsOthers.alloc _ _)).trans (KeepsOthers.alloc _ _)
        have hlow : ∀ i, i < W1.heap.size → V0.heap[i]? = W1.heap[i]? := fun i hi => by
          subst hV0
          rw [Below.heap_alloc _ _ i (by simp; omega), Below.heap_alloc _ _ i (by simp; omega), Below.heap_alloc _ _ i hi]
        try rw [← hV0]
        clear hV0
        clear hrun hen
        have hw7 : w1.heap.size + 1 < W1.heap.size := by omega
        refine' wpIn_rangeFunc_ownG rfl (by omega) (gf := 68) (lb := #[.pointer (some ⟨W1.heap.size + 1 + 1, 0, none⟩)]) rfl trivial (enters_of Tryz.func68 (by kernel_rfl) rfl)
          (factors_stops Fence.wide 8 trivial rfl (by omega) (W1.heap.size + 1) V0.heap.size (W1.heap.size + 1 + 1) x (by omega) V0 (by omega) (by omega) y3) KX.trans (KX_b (Nat.le_refl _)) (RowKit.Below.refl _ _) (fun _ => rfl)
          (fun pre V => ((VRow V (W1.heap.size + 1) 4 [.bool (alB l x pre)] ∧ RowKit.Below w.heap.size w V) ∧ KeepsOthers V0 V) ∧ (V0.heap.size ≤ V.heap.size ∧ KX (W1.heap.size + 1) V0.heap.size V0 V))
          (fun _ _ _ => False)
          (OwnFrom.and (OwnFrom.and (OwnFrom.and ((VRow.own _ _ (fun (pre : List (SubB x)) => [.bool (alB l x pre)])).from _) (ownFrom_below (Nat.le_refl _) (by omega))) (ownFrom_keepsX _)) (ownFrom_kx _))
          (fun _ _ _ _ _ hs _ _ => hs)
          ⟨⟨⟨y2, hBV⟩, KeepsOthers.refl _⟩, Nat.le_refl _, KX.refl _ _ _⟩
          _ ?assign ?body ?done ?stop
        case assign =>
          intro l' u V K hK
          unfold encS
          gi_wp2
          exact hK
        case body =>
          rintro l' pre ⟨u, hu⟩ V ⟨⟨⟨k12, hB2⟩, hK2⟩, hz2, hX2⟩ hlen
          have k11 : VRow V W1.heap.size 9 [.string x] := (hX2 _ (by omega) (by omega)).trans y1
          have k7 : VRow V (w1.heap.size + 1) 57 [.map (some w1.heap.size)] := (hX2 _ (by omega) (by omega)).trans ((hlow _ (by omega)).trans c71)
          have hmp := hR1.map.same (w' := V) ((hX2 _ (by omega) (by omega)).trans (hlow _ (by omega)))
          have hlk : (Instr.lookup 57 (.map (some w1.heap.size)) (.string u) false).run Tryz.prog V = .ok (.bool (isF l u)) V := look_bool hmp u (by have := hsx; unfold maxLen; omega)
          have HFC : Hid (fcB l x u = (decide (u = x) || !isF l u)) := rfl
          have HPS : Hid (alB l x (pre ++ [(⟨u, hu⟩ : SubB x)]) = (alB l x pre && fcB l x u)) := alB_snoc l x pre ⟨u, hu⟩
          generalize alB l x pre = m at *
          generalize isF l u = fu at *
          generalize fcB l x u = fc at *
          have d12 := k12.at 0 rfl; have z12 := k12.frozen 0
          have d11 := k11.at 0 rfl
          have d7 := k7.at 0 rfl
          have HCL : Hid (∀ m', m' = (m && fc) → KeepsFrom V0.heap.size V (V.setCell ⟨W1.heap.size + 1, 0, none⟩ (.bool m')) ∧ KX (W1.heap.size + 1) V0.heap.size V (V.setCell ⟨W1.heap.size + 1, 0, none⟩ (.bool m')) ∧
              ((VRow (V.setCell ⟨W1.heap.size + 1, 0, none⟩ (.bool m')) (W1.heap.size + 1) 4 [.bool (alB l x (pre ++ [(⟨u, hu⟩ : SubB x)]))] ∧ RowKit.Below w.heap.size w (V.setCell ⟨W1.heap.size + 1, 0, none⟩ (.bool m'))) ∧ KeepsOthers V0 (V.setCell ⟨W1.heap.size + 1, 0, none⟩ (.bool m'))) ∧
              (V0.heap.size ≤ (V.setCell ⟨W1.heap.size + 1, 0, none⟩ (.bool m')).heap.size ∧ KX (W1.heap.size + 1) V0.heap.size V0 (V.setCell ⟨W1.heap.size + 1, 0, none⟩ (.bool m')))) := fun m' hm' => by
            have hkx : KX (W1.heap.size + 1) V0.heap.size V (V.setCell ⟨W1.heap.size + 1, 0, none⟩ (.bool m')) := fun j h1 h2 => Below.heap_setCell _ _ _ _ h2
            refine ⟨(KeepsOthers.setCell _ _ _).from _, hkx, ⟨⟨?_, hB2.setCell (show w.heap.size ≤ W1.heap.size + 1 by omega) _⟩, hK2.trans (KeepsOthers.setCell _ _ _)⟩, by rw [World.size_setCell]; exact hz2, hX2.trans hkx⟩
            rw [HPS.out, ← hm']
            exact VRow.set (i := 0) _ k12
          clear hmp
          cases m
          · gi_wp2
            exact HCL.out _ rfl
          · by_cases hux : u = x
            · have hb := bts_t hux
              have HV : Hid (true = (true && fc)) := by rw [Hid, HFC.out, decide_eq_true hux]; rfl
              clear hux
              gi_wp2
              exact HCL.out _ HV.out
            · have hb := bts_f hux
              have HV : Hid ((!fu) = (true && fc)) := by rw [Hid, HFC.out, decide_eq_false hux]; simp
              clear hux
              gi_wp2
              exact HCL.out _ HV.out
        case done =>
          rintro D ys V hD' hys ⟨⟨⟨k12, hB2⟩, hK2⟩, hz2, hX2⟩ hK
          have HM := hidI (alB_done hys HNE.out)
          rw [HM.out] at k12
          have n11 : VRow V W1.heap.size 9 [.string x] := (hX2 _ (by omega) (by omega)).trans y1
          have n7 : VRow V (w1.heap.size + 1) 57 [.map (some w1.heap.size)] := (hX2 _ (by omega) (by omega)).trans ((hlow _ (by omega)).trans c71)
          have hb7 : V.heap[w1.heap.size]? = W1.heap[w1.heap.size]? := (hX2 _ (by omega) (by omega)).trans (hlow _ (by omega))
          have hb31 : V.heap[wr.heap.size]? = W1.heap[wr.heap.size]? := (hX2 _ (by omega) (by omega)).trans (hlow _ (by omega))
          have hRV := hR1.same hb7 hb31
          have hlV : rgLeft V w1.heap.size wr.heap.size < rgLeft W w1.heap.size wr.heap.size := by rw [rgLeft_eq hb7 hb31]; exact hlt1
          have hownV := own_same hown1 (fun j e => (hX2 j (by have := (hown1.lt j e).2; omega) (by have := (hown1.lt j e).2; omega)).trans (hlow j (hown1.lt j e).2))
          have hMV : Marks w.heap.size V ({ target := .collected D, args := #[] } :: ds) :=
            (hM1.others (hKV.trans hK2)).cons (by have := hB1.size; omega) hK (fun d hd => by obtain ⟨D', h1, h2⟩ := hM1.lt d hd; exact ⟨D', h1, by omega⟩)
          have hnd2 : (ks ++ [x]).Nodup := by
            rw [List.nodup_append]
            exact ⟨hnd, by simp, fun a ha b hb e => hxk (by rw [← List.mem_singleton.1 hb, ← e]; exact ha)⟩
          have hsub2 : ∀ z ∈ ks ++ [x], z ∈ l := fun z hz => by
            rcases List.mem_append.1 hz with h | h
            · exact hsub z h
            · rw [List.mem_singleton.1 h]; exact hxl
          clear hys HM c71 hR1 hlt1 hown1 hM1 hB1 y1 y2 y3 hBV hKV hlow
          cases hmb : minB l x
          · have HF : Hid ((ks ++ [x]).filter (minB l) = ks.filter (minB l)) := by unfold Hid; rw [List.filter_append]; simp [hmb]
            rw [hmb] at k12
            have d12 := k12.at 0 rfl
            clear hmb
            gi_wp2
            exact ⟨⟨_, ks ++ [x], v, _, _, _, _, _, _, _, _, _, _, _, _, _, _, _, _, _, _, _, _, _, _, _, _, _, _, _, _, _, _, _, _, _, _, _, _, _, _, _, _, _, _, _, _, _, _, _, _, _, _, _, rfl, hRV, hnd2, hsub2, by rw [HF.out]; exact hownV, n7, hMV, hB2, by omega⟩, hlV⟩
          · have HF : Hid ((ks ++ [x]).filter (minB l) = ks.filter (minB l) ++ [x]) := by unfold Hid; rw [List.filter_append]; simp [hmb]
            rw [hmb] at k12
            have d12 := k12.at 0 rfl
            have d11 := n11.at 0 rfl
            clear hmb
            obtain ⟨o1, ho1, hc1⟩ := hRV.mapO
            obtain ⟨o2, ho2, hc2, _⟩ := hRV.iter
            have hn1 := own_blk hownV ho1 hc1
            have hn2 := own_blk hownV ho2 hc2
            have hRl2 := hRV.lt
            have hlw := hownV.lt
            have hne7 : some (w1.heap.size + 1) ≠ v.ownBlock := fun e => by have := (hlw _ e.symm).1; omega
            have hownA := hownV.alloc (.cells #[.string x] 9)
            have hnew := cell_one_at V (.string x) 9 V.heap.size rfl
            have hVw := hB2.size
            clear ho1 hc1 ho2 hc2
            gi_wp2_with (gi_at_builtin; refine wpListIn_append_own _ rfl _ _ 22 rfl (w1.heap.size + 1 + 1) 9 i0 (.string ⟨#[]⟩) 1 16 Tryz.underlying22 hi0 hz0 hz1 hz3 rfl (by decide) _ _ _ rfl hownA ⟨V.heap.size, 0, none⟩ 1 1 [.string x] rfl rfl hnew (by simp [Value.oneCell']) (by simp [maxLen]; omega) (by omega) (by simp; omega) ?_; intro v2 W2 hown' hgrow0 _; have hgrow : (V.alloc (.cells #[.string x] 9)).grownBy W2 v.ownBlock := hgrow0)
            have hg7 : W2.heap[w1.heap.size]? = V.heap[w1.heap.size]? := (hgrow.block _ (by simp; omega) (fun e => hn1 e.symm)).trans (Below.heap_alloc _ _ _ (by omega))
            have hg31 : W2.heap[wr.heap.size]? = V.heap[wr.heap.size]? := (hgrow.block _ (by simp; omega) (fun e => hn2 e.symm)).trans (Below.heap_alloc _ _ _ (by omega))
            have hgs := hgrow.size
            rw [World.size_alloc] at hgs
            exact ⟨⟨_, ks ++ [x], v2, _, _, _, _, _, _, _, _, _, _, _, _, _, _, _, _, _, _, _, _, _, _, _, _, _, _, _, _, _, _, _, _, _, _, _, _, _, _, _, _, _, _, _, _, _, _, _, _, _, _, _, rfl, hRV.same hg7 hg31, hnd2, hsub2, by rw [HF.out, List.length_append, List.map_append]; exact hown', (n7.alloc _).grown hgrow hne7,
              hMV.others ((KeepsOthers.alloc V _).trans (KeepsOthers.of_grownBy hgrow (fun j o e h => own_cls hownA e h))), (hB2.alloc hVw _).grown hgrow (by simp; omega) (fun j e => by have := (hlw j e).1; omega), by omega⟩, by rw [rgLeft_eq hg7 hg31]; exact hlV⟩
        case stop =>
          rintro D c pre W _ _ h _
          exact h.elim

theorem fst1_all {q : Int} : ∀ {l : List ByteArray}, fst1 q l = 0 → ∀ u ∈ l, oneA q u = 0
  | [], _, u, hu => by simp at hu
  | s :: l, h, u, hu => by
    unfold fst1 at h
    by_cases hs : oneA q s = 0
    · rw [if_neg (by simpa using hs)] at h
      rcases List.mem_cons.1 hu with e | e
      · subst e; exact hs
      · exact fst1_all h u e
    · rw [if_pos hs] at h; exact absurd h hs
theorem errA_ok {q : Int} {l : List ByteArray} (h : errA q l = 0) : ¬ (q < 1 ∨ 16 < q) ∧ l.length ≤ 64 ∧ ∀ u ∈ l, oneA q u = 0 := by
  unfold errA at h
  by_cases h1 : q < 1 ∨ 16 < q
  · rw [if_pos h1] at h; omega
  · rw [if_neg h1] at h
    by_cases h2 : 64 < l.length
    · rw [if_pos h2] at h; omega
    · rw [if_neg h2] at h
      exact ⟨h1, by omega, fst1_all h⟩
theorem oneA_ne {q : Int} {u : ByteArray} (h : oneA q u = 0) : u ≠ (⟨#[]⟩ : ByteArray) := by
  rintro rfl
  have : oneA q (⟨#[]⟩ : ByteArray) = 5 := if_pos rfl
  omega
set_option maxRecDepth 100000 in
set_option maxHeartbeats 1000000 in
theorem fReduce_any (q : Int) (l : List ByteArray) (p : Option Addr) (c : Nat) (w : World) (hin : Sl w Value.string p l) (hl : l.length ≤ 9223372036854775807) (hz : Sz l) :
    Calls Tryz.prog 13 #[.int .i64 q, .slice p l.length c] w (RetSe (redA q l) w) := by
  obtain ⟨r, hr⟩ : ∃ r, errA q l = r := ⟨_, rfl⟩
  by_cases hr0 : r = 0
  · subst hr0
    obtain ⟨_, h2, h3⟩ := errA_ok hr
    have : redA q l = (redL l l.length, 0) := by unfold redA; rw [if_neg (by simp [hr])]
    rw [this]
    exact callsIn_wide.1 (fReduce_in q l p c w hin h2 hz hr (fun u hu => oneA_ne (h3 u hu)))
  · have HE := hidI (fErrors_any q l p c w hin hl hz)
    have HX : Hid (redA q l = ([], r)) := by unfold Hid redA; rw [if_pos (by rw [hr]; exact hr0), hr]
    rw [hr] at HE
    have hrb : (r != 0) = true := by simpa using hr0
    clear hr hr0
    go_enter Tryz.func13, Tryz.ntmps13
    go_wp2_with fail
    refine HE.out.mono ?_
    rintro e w1 ⟨rfl, hD⟩
    have hB := hD.below w.heap.size
    go_wp2
    go_ret2
    exact RetSe.of HX.out rfl (Nat.le_refl _) (.inl ⟨rfl, rfl⟩) (.inl rfl) hB
end Go.Proofs.YtaclgmhinljkbaaGreatDoor
namespace Go.Proofs.YtaclgmhinljkbaaGreatDoor
open Go.RowKit Go.Sort Go.Shelf Go.Lib

theorem eqlS : EqlAt Tryz.prog 9 Value.string (fun x y => decide (x = y)) := by
  refine ⟨fun x y w => ?_, .string _ _⟩
  have : (x.toList == y.toList) = decide (x = y) := by
    by_cases h : x = y
    · rw [bts_t h, decide_eq_true h]
    · rw [bts_f h, decide_eq_false h]
  simp [binOp, Op.stringOp, this]
theorem neqS : NeqAt Tryz.prog 9 Value.string (fun x y => decide (x = y)) := by
  refine ⟨fun x y w => ?_, .string _ _⟩
  have : (x.toList == y.toList) = decide (x = y) := by
    by_cases h : x = y
    · rw [bts_t h, decide_eq_true h]
    · rw [bts_f h, decide_eq_false h]
  simp [binOp, Op.stringOp, this]
theorem compactB_any (l : List ByteArray) (B n : Nat) (v : Value) (w : World) (h : w.ownsRow B 9 1 v n (l.map Value.string)) (hn : n ≤ 100000) (hk : (Lib.compact l).length ≤ l.length) :
    Calls Tryz.prog 18 #[v] w fun e w' => ∃ v', e = .returned v' ∧ w'.ownsRow B 9 1 v' (Lib.compact l).length ((Lib.compact l).map Value.string) ∧ w.grownBy w' v.ownBlock := by
  have hl : l.length = n := by have := h.1; simpa using this
  subst hl
  rcases h.2 with ⟨rfl, h0⟩ | ⟨g, cap, cur, rfl, hg, hh, hc, hm, hs, ht⟩
  · have : l = [] := by cases l with
      | nil => rfl
      | cons a l => simp at h0
    subst this
    refine (Tryz.slices_Compact_string_empty none 0 w).mono ?_
    rintro e w' ⟨rfl, rfl⟩
    have e : Lib.compact ([] : List ByteArray) = [] := rfl
    rw [e]
    exact ⟨_, rfl, by simpa using h, rfl, rfl, rfl, Nat.le_refl _, fun _ _ _ => rfl⟩
  · have hH : Holds Value.string w g 0 l.toArray := by
      intro j hj
      have hj' : j < l.length := by simpa using hj
      refine ⟨?_, by simp [World.frozen?, hh]⟩
      have h1 : (cur.toList.take l.length)[j]? = (l.map Value.string)[j]? := by rw [show l.length = l.length * 1 by omega, ht]
      rw [List.getElem?_take_of_lt hj'] at h1
      simp only [World.cell?, hh, Nat.zero_add]
      rw [← Array.getElem?_toList, h1]
      simp [hj']
    have hcon := Tryz.slices_Compact_f18 Value.string oneS eqlS neqS (⟨#[]⟩ : ByteArray) (fun w => by kernel_rfl) g 0 cap l.toArray w hH (by simp; omega) (by simpa using hc)
    have hcon' : Calls Tryz.prog 18 #[.slice (some ⟨g, 0, none⟩) l.toArray.size cap] w _ := hcon
    rw [show l.toArray.size = l.length by simp] at hcon'
    refine hcon'.mono ?_
    rintro e w' ⟨rfl, q, rfl⟩
    have hkl : (Lib.compactUpTo l.toArray l.length).length ≤ l.length := hk
    have hb := grown_srtB (w := w) (g := g) (n := q) (os := #[]) (Lib.compactUpTo l.toArray l.length ++ List.replicate (l.length - (Lib.compactUpTo l.toArray l.length).length) (⟨#[]⟩ : ByteArray)).toArray
    have hp := heap_srtB (g := g) (n := q) (os := #[]) (Lib.compactUpTo l.toArray l.length ++ List.replicate (l.length - (Lib.compactUpTo l.toArray l.length).length) (⟨#[]⟩ : ByteArray)).toArray hh
    rw [grow_empty] at hb hp
    refine ⟨_, rfl, ?_, hb⟩
    show World.ownsRow _ B 9 1 _ (Lib.compactUpTo l.toArray l.length).length ((Lib.compactUpTo l.toArray l.length).map Value.string)
    generalize Lib.compactUpTo l.toArray l.length = m at *
    refine ⟨by simp, .inr ⟨g, cap, _, rfl, hg, hp, by omega, hm, by simp [putCells, hs], ?_⟩⟩
    have h1 := take_srtB cur (m ++ List.replicate (l.length - m.length) (⟨#[]⟩ : ByteArray)) (by simp; omega)
    have h2 := congrArg (List.take m.length) h1
    rw [List.take_take, List.map_append, List.take_append_of_le_length (by simp), Nat.min_eq_left (by simp)] at h2
    rw [Nat.mul_one, h2, ← List.length_map Value.string, List.take_length]

/-! ### A list sorted, then each word once -/
theorem cmpB_inv (d : Array ByteArray) (hs : ∀ i j, i ≤ j → j < d.size → ¬ ordB d[j]! d[i]! < 0) : ∀ m, m ≤ d.size → SrtB (Lib.compactUpTo d m) ∧ ∀ x, x ∈ Lib.compactUpTo d m ↔ ∃ i, i < m ∧ d[i]! = x
  | 0, _ => ⟨by simp [Lib.compactUpTo, SrtB], by simp [Lib.compactUpTo]⟩
  | m + 1, hm => by
    obtain ⟨h1, h2⟩ := cmpB_inv d hs m (by omega)
    rw [Lib.compactUpTo_succ]
    by_cases hk : Lib.keeps d m = true
    · rw [if_pos hk]
      refine ⟨List.pairwise_append.2 ⟨h1, by simp, fun a ha b hb => ?_⟩, fun x => ?_⟩
      · rw [List.mem_singleton] at hb
        subst hb
        obtain ⟨i, hi, rfl⟩ := (h2 a).1 ha
        have hne : m = 0 ∨ d[m]! ≠ d[m - 1]! := by simpa [Lib.keeps] using hk
        have hne : d[m]! ≠ d[m - 1]! := hne.resolve_left (by omega)
        have a1 := hs i (m - 1) (by omega) (by omega)
        have a2 := hs (m - 1) m (by omega) (by omega)
        have a3 := hs i m (by omega) (by omega)
        have b2 : ordB d[m - 1]! d[m]! < 0 := by
          by_cases h : ordB d[m - 1]! d[m]! < 0
          · exact h
          · exact absurd (ordB_total h a2).symm hne
        by_cases h : ordB d[i]! d[m - 1]! < 0
        · exact ordB_trans h b2
        · rw [ordB_total h a1]; exact b2
      · rw [List.mem_append, h2, List.mem_singleton]
        constructor
        · rintro (⟨i, hi, e⟩ | e)
          · exact ⟨i, by omega, e⟩
          · exact ⟨m, by omega, e.symm⟩
        · rintro ⟨i, hi, e⟩
          by_cases him : i = m
          · subst him; exact .inr e.symm
          · exact .inl ⟨i, by omega, e⟩
    · rw [if_neg hk, List.append_nil]
      have hne : ¬ (m = 0 ∨ d[m]! ≠ d[m - 1]!) := by simpa [Lib.keeps] using hk
      have h0 : m ≠ 0 := fun e => hne (.inl e)
      have he : d[m]! = d[m - 1]! := Classical.byContradiction (fun e => hne (.inr e))
      refine ⟨h1, fun x => ?_⟩
      rw [h2]
      constructor
      · rintro ⟨i, hi, e⟩; exact ⟨i, by omega, e⟩
      · rintro ⟨i, hi, e⟩
        by_cases him : i = m
        · subst him; exact ⟨i - 1, by omega, by rw [← he]; exact e⟩
        · exact ⟨i, by omega, e⟩
theorem sortC_B (l : List ByteArray) : SrtB (Lib.compact (l.mergeSort fun x y => !(ltOf ordB) y x)) ∧ ∀ x, x ∈ Lib.compact (l.mergeSort fun x y => !(ltOf ordB) y x) ↔ x ∈ l := by
  have hsrt : (l.mergeSort fun x y => !(ltOf ordB) y x).Pairwise (fun x y => ¬ ordB y x < 0) := by
    have := List.pairwise_mergeSort (le := fun x y => !(ltOf ordB) y x)
      (fun a b c h1 h2 => by
        simp only [Bool.not_eq_true'] at *
        exact swoB.ntrans _ _ _ h2 h1)
      (fun a b => by
        simp only [Bool.or_eq_true, Bool.not_eq_true']
        cases h : ltOf ordB b a
        · exact .inl rfl
        · refine .inr ?_
          unfold ltOf at *
          have := of_decide_eq_true h
          exact decide_eq_false (by have := ordB_swap a b; omega)) l
    exact this.imp (fun h => by simp only [Bool.not_eq_true'] at h; exact of_decide_eq_false h)
  have hmem : ∀ x, x ∈ (l.mergeSort fun x y => !(ltOf ordB) y x) ↔ x ∈ l := fun x => List.mem_mergeSort
  generalize (l.mergeSort fun x y => !(ltOf ordB) y x) = z at *
  have hs : ∀ i j, i ≤ j → j < z.toArray.size → ¬ ordB z.toArray[j]! z.toArray[i]! < 0 := by
    intro i j hij hj
    have hj' : j < z.length := by simpa using hj
    rw [getElem!_pos z.toArray i (by simp; omega), getElem!_pos z.toArray j hj]
    by_cases e : i = j
    · subst e; rw [ordB_refl]; omega
    · have := List.pairwise_iff_getElem.1 hsrt i j (by omega) hj' (by omega)
      simpa using this
  obtain ⟨h1, h2⟩ := cmpB_inv z.toArray hs z.length (by simp)
  refine ⟨h1, fun x => ?_⟩
  rw [← hmem x]
  show x ∈ Lib.compactUpTo z.toArray z.length ↔ _
  rw [h2]
  constructor
  · rintro ⟨i, hi, rfl⟩
    rw [getElem!_pos z.toArray i (by simpa using hi)]
    simp
  · intro hx
    obtain ⟨i, hi, e⟩ := List.mem_iff_getElem.1 hx
    exact ⟨i, hi, by rw [getElem!_pos z.toArray i (by simpa using hi)]; simpa using e⟩
theorem compact_lenB (l : List ByteArray) : (Lib.compact l).length ≤ l.length := by
  have key : ∀ m, (Lib.compactUpTo l.toArray m).length ≤ m := by
    intro m
    induction m with
    | zero => simp [Lib.compactUpTo]
    | succ m ih => rw [Lib.compactUpTo_succ, List.length_append]; split <;> simp <;> omega
  exact key l.length
/-- Words put in one after the other. -/
def insAll (l : List ByteArray) : List ByteArray := l.foldl (fun s x => insB x s) []
theorem insAll_snoc (l : List ByteArray) (x : ByteArray) : insAll (l ++ [x]) = insB x (insAll l) := by unfold insAll; rw [List.foldl_append]; rfl
theorem insAll_inv : ∀ (l s : List ByteArray), SrtB s → SrtB (l.foldl (fun s x => insB x s) s) ∧ ∀ z, z ∈ l.foldl (fun s x => insB x s) s ↔ z ∈ l ∨ z ∈ s
  | [], s, h => ⟨h, fun z => by simp⟩
  | x :: l, s, h => by
    obtain ⟨h1, h2⟩ := insAll_inv l (insB x s) (insB_srt h)
    refine ⟨h1, fun z => ?_⟩
    rw [List.foldl_cons, h2, mem_insB, List.mem_cons]
    constructor
    · rintro (h | h | h) <;> simp [h]
    · rintro ((h | h) | h) <;> simp [h]
theorem insAll_srt (l : List ByteArray) : SrtB (insAll l) := (insAll_inv l [] (by simp [SrtB])).1
theorem mem_insAll {l : List ByteArray} {z : ByteArray} : z ∈ insAll l ↔ z ∈ l := by have := (insAll_inv l [] (by simp [SrtB])).2 z; simpa [insAll] using this
theorem sort_insAll (l : List ByteArray) : Lib.compact (l.mergeSort fun x y => !(ltOf ordB) y x) = insAll l :=
  SrtB.unique (sortC_B l).1 (insAll_srt l) (fun z => by rw [(sortC_B l).2, mem_insAll])
/-- The prefixes of a word, shorter than n, that are allowed. -/
def preF (l : List ByteArray) (w : ByteArray) (n : Nat) : List ByteArray := ((List.range n).map (fun k => w.extract 0 k)).filter (alwA l)
theorem preF_succ (l : List ByteArray) (w : ByteArray) (n : Nat) : preF l w (n + 1) = preF l w n ++ (if alwA l (w.extract 0 n) = true then [w.extract 0 n] else []) := by
  unfold preF
  rw [List.range_succ, List.map_append, List.filter_append]
  congr 1
  by_cases h : alwA l (w.extract 0 n) = true <;> simp [h]
def candF (l : List ByteArray) (k : Nat) : List ByteArray := (⟨#[]⟩ : ByteArray) :: (l.take k).flatMap (fun w => preF l w w.size)
theorem candF_succ (l : List ByteArray) (k : Nat) (h : k < l.length) : candF l (k + 1) = candF l k ++ preF l l[k] l[k].size := by
  unfold candF
  rw [List.take_succ_eq_append_getElem h, List.flatMap_append]; simp
theorem preF_len (l : List ByteArray) (w : ByteArray) (n : Nat) : (preF l w n).length ≤ n := by
  unfold preF
  exact Nat.le_trans (List.length_filter_le _ _) (by simp)
/-- The states. -/
def stA (l : List ByteArray) : List ByteArray := insAll (candF l l.length)
end Go.Proofs.YtaclgmhinljkbaaGreatDoor
namespace Go.Proofs.YtaclgmhinljkbaaGreatDoor
open Go.RowKit Go.Sort Go.Shelf Go.Lib

def okI (a : Int) : Prop := (Lit.int .i64 a).wf = true
theorem okI_of {a : Int} (h0 : 0 ≤ a) (h1 : a ≤ 1000000) : okI a := WalkArith.wf_i64 (by omega)
theorem keyI : KeyBy Tryz.prog 3 (Value.int .i64) okI where
  law := Maps.int_keyed Tryz.underlying3
  reads := fun a ha => ⟨.int .i64 a, by simp [keyOf, mapKey, Tryz.underlying3]; exact ha⟩
  inj := fun a b _ _ h => by simpa using h
theorem zeroBl (w : World) : (zeroValue 4).run Tryz.prog w = .ok (.bool false) w := by kernel_rfl
/-- Block b is a map of numbers in which those that f names are true. -/
def MapB (w : World) (b : Nat) (f : Int → Bool) : Prop := Mp (Value.int .i64) okI Value.bool w b (fun a => if f a = true then some true else none)
theorem MapB.congr {w : World} {b : Nat} {f g : Int → Bool} (h : MapB w b f) (e : ∀ a, f a = g a) : MapB w b g := by
  have : f = g := funext e
  exact this ▸ h
theorem MapB.look {w : World} {b : Nat} {f : Int → Bool} (h : MapB w b f) (a : Int) (ha : okI a) : (Instr.lookup 76 (.map (some b)) (.int .i64 a) false).run Tryz.prog w = .ok (.bool (f a)) w := by
  have := Mp.look h keyI Tryz.underlying76 (zeroBl w) a ha false
  rw [this]
  cases f a <;> rfl

set_option maxRecDepth 100000 in
set_option maxHeartbeats 1000000 in
/-- The closure: a state is left out if no edge leads to it, or none leaves it. -/
theorem gEss1_gives (f g : Int → Bool) (b1 b2 m1 m2 : Nat) (W : World) (x : Int) (hx : okI x) (h1 : W.cell? ⟨b1, 0, none⟩ = some (.map (some m1))) (h2 : W.cell? ⟨b2, 0, none⟩ = some (.map (some m2))) (hf : MapB W m1 f) (hg : MapB W m2 g) :
    FnGives Tryz.prog 47 #[.pointer (some ⟨b1, 0, none⟩), .pointer (some ⟨b2, 0, none⟩)] #[.int .i64 x] (.bool (!(f x && g x))) W := by
  show Calls Tryz.prog 47 #[.int .i64 x, .pointer (some ⟨b1, 0, none⟩), .pointer (some ⟨b2, 0, none⟩)] W _
  have l1 := hf.look x hx
  have l2 := hg.look x hx
  clear hf hg hx
  generalize f x = u at *
  generalize g x = v at *
  go_enter Tryz.func47, Tryz.ntmps47
  cases u
  · go_wp2
    go_ret
    exact ⟨rfl, 0, rfl⟩
  · cases v
    · go_wp2
      go_ret
      exact ⟨rfl, 0, rfl⟩
    · go_wp2
      go_ret
      exact ⟨rfl, 0, rfl⟩
end Go.Proofs.YtaclgmhinljkbaaGreatDoor
namespace Go.Proofs.YtaclgmhinljkbaaGreatDoor
open Go.RowKit Go.Sort Go.Shelf Go.Lib

/-- A number as it lies in memory; numbers that are no states read as 0. -/
def nmI (x : Int) : Int := if 0 ≤ x ∧ x ≤ 1000000 then x else 0
def encN (x : Int) : Value := .int .i64 (nmI x)
theorem nmI_in {x : Int} (h : 0 ≤ x ∧ x ≤ 1000000) : nmI x = x := if_pos h
theorem nmI_bd (x : Int) : 0 ≤ nmI x ∧ nmI x ≤ 1000000 := by unfold nmI; split <;> omega
theorem encN_in {l : List Int} (h : ∀ x ∈ l, 0 ≤ x ∧ x ≤ 1000000) : l.map encN = l.map (Value.int .i64) :=
  List.map_congr_left (fun x hx => by unfold encN; rw [nmI_in (h x hx)])
theorem own_holdsN {w : World} {B e g n cap : Nat} {l : List Int} (h : w.ownsRow B e 1 (.slice (some ⟨g, 0, none⟩) n cap) n (l.map (Value.int .i64))) (hi : ∀ x ∈ l, 0 ≤ x ∧ x ≤ 1000000) :
    Holds encN w g 0 l.toArray ∧ g < w.heap.size ∧ B ≤ g ∧ l.length = n ∧ n ≤ cap := by
  have hn : l.length = n := by have := h.1; simpa using this
  rcases h.2 with ⟨e0, _⟩ | ⟨g', cap', cur, e0, hg, hh, hc, hm, hs, ht⟩
  · cases e0
  · cases e0
    refine ⟨fun j hj => ?_, (Array.getElem?_eq_some_iff.1 hh).1, hg, hn, hc⟩
    have hj' : j < l.length := by simpa using hj
    refine ⟨?_, by simp [World.frozen?, hh]⟩
    have e1 : (l.map encN)[j]? = cur.toList[j]? := by
      rw [encN_in hi, ← ht, List.getElem?_take, if_pos (by omega)]
    rw [List.getElem?_map, List.getElem?_eq_getElem hj', Array.getElem?_toList] at e1
    rw [getElem!_pos l.toArray j hj, Nat.zero_add]
    simp [World.cell?, hh]
    exact e1.symm
theorem own_struck {w : World} {B e g n cap q : Nat} {l m : List Int} (h : w.ownsRow B e 1 (.slice (some ⟨g, 0, none⟩) n cap) n (l.map (Value.int .i64))) (hm : m.length ≤ n) (hi : ∀ x ∈ m, 0 ≤ x ∧ x ≤ 1000000) :
    (putRow encN (Sort.ahead w q) g 0 (m ++ List.replicate (n - m.length) 0).toArray).ownsRow B e 1 (.slice (some ⟨g, 0, none⟩) m.length cap) m.length (m.map (Value.int .i64)) := by
  rcases h.2 with ⟨e0, _⟩ | ⟨g', cap', cur, e0, hg, hh, hc, hcm, hs, ht⟩
  · cases e0
  · cases e0
    have hlt : g < w.heap.size := (Array.getElem?_eq_some_iff.1 hh).1
    refine ⟨by simp, .inr ⟨g, cap, putCells encN 0 (m ++ List.replicate (n - m.length) 0).toArray cur, rfl, hg, ?_, by omega, hcm, by simpa [putCells] using hs, ?_⟩⟩
    · have hg' : w.heap[g] = .cells cur e (0, 0) := by have := Array.getElem?_eq_some_iff.1 hh; exact this.2
      simp [putRow, mapBlock, Sort.ahead, hlt, Array.getElem_modify, hg', onCells]
    · apply List.ext_getElem?
      intro j
      rw [List.getElem?_take, Array.getElem?_toList]
      by_cases hj : j < m.length
      · have hjc : j < cur.size := by omega
        rw [if_pos (by omega), List.getElem?_map, List.getElem?_eq_getElem hj]
        simp only [putCells, Array.getElem?_mapIdx, Array.getElem?_eq_getElem hjc, Option.map_some]
        rw [if_pos (by simp; omega)]
        simp only [Nat.sub_zero]
        rw [getElem!_pos _ j (by simp; omega)]
        simp [hj, encN, nmI_in (hi _ (List.getElem_mem hj))]
      · rw [if_neg (by omega), List.getElem?_eq_none (by simp; omega)]
theorem grown_struck {w : World} {g q : Nat} (d : Array Int) : w.grownBy (putRow encN (Sort.ahead w q) g 0 d) (some g) := by
  refine ⟨rfl, rfl, rfl, by simp [putRow, mapBlock, Sort.ahead], fun i hi hne => ?_⟩
  have hne' : g ≠ i := fun e => hne (by rw [e])
  simp [putRow, mapBlock, Sort.ahead, hi, Array.getElem_modify, hne']
theorem grown_over {w : World} {g q : Nat} (d : Array Int) (os : Array Obj) : w.grownBy (sortWorld encN w g 0 q d os) (some g) := by
  refine ⟨rfl, rfl, rfl, by simp [sortWorld, grow, putRow, mapBlock, Sort.ahead], fun i hi hne => ?_⟩
  have hne' : g ≠ i := fun e => hne (by rw [e])
  simp [sortWorld, grow, putRow, mapBlock, Sort.ahead, Array.getElem?_append, hi, Array.getElem_modify, hne']
end Go.Proofs.YtaclgmhinljkbaaGreatDoor
namespace Go.Proofs.YtaclgmhinljkbaaGreatDoor
open Go.RowKit Go.Sort Go.Shelf Go.Lib

theorem MapB.kept {w w' : World} {b : Nat} {f : Int → Bool} {row : Option Nat} (h : MapB w b f) (hg : w.grownBy w' row) (hne : some b ≠ row) : MapB w' b f := Mp.kept h hg hne
theorem MapB.lt {w : World} {b : Nat} {f : Int → Bool} (h : MapB w b f) : b < w.heap.size := Mp.lt h
theorem MapB.ne {w : World} {b g e : Nat} {f : Int → Bool} {cur : Array Value} {z : Nat × Nat} (h : MapB w b f) (hg : w.heap[g]? = some (.cells cur e z)) : b ≠ g := by
  obtain ⟨es, cl, hb, _⟩ := h
  rintro rfl
  rw [hb] at hg; cases hg
theorem cell_kept {w w' : World} {b : Nat} {u : Value} {row : Option Nat} (hg : w.grownBy w' row) (hc : w.cell? ⟨b, 0, none⟩ = some u) (hne : some b ≠ row) : w'.cell? ⟨b, 0, none⟩ = some u :=
  (World.cell?_of_block (w := w) (a := ⟨b, 0, none⟩) (hg.block b (World.block_lt_of_cell? w _ hc) hne)).trans hc

set_option maxRecDepth 100000 in
set_option maxHeartbeats 1000000 in
theorem gDel_nil (fv : Value) (w : World) : Calls Tryz.prog 46 #[.slice none 0 0, fv] w fun e w' => e = .returned (.slice none 0 0) ∧ w' = w := by
  go_enter Tryz.func46, Tryz.ntmps46
  go_wp2_with (first | (go_at_call 84; refine (Tryz.slices_IndexFunc_empty (α := Int) none 0 fv w).mono ?_; rintro e w' ⟨rfl, rfl⟩) | (go_at_call 84; refine (Tryz.slices_IndexFunc_empty_f84 (α := Int) none 0 fv w).mono ?_; rintro e w' ⟨rfl, rfl⟩))
  go_ret
  exact ⟨rfl, rfl⟩
theorem gDel_any (f g : Int → Bool) (st : List Int) (B n b1 b2 m1 m2 : Nat) (v : Value) (w : World) (h : w.ownsRow B 3 1 v n (st.map (Value.int .i64))) (hn : n ≤ 100000) (hi : ∀ x ∈ st, 0 ≤ x ∧ x ≤ 1000000)
    (h1 : w.cell? ⟨b1, 0, none⟩ = some (.map (some m1))) (h2 : w.cell? ⟨b2, 0, none⟩ = some (.map (some m2))) (hf : MapB w m1 f) (hg : MapB w m2 g) (n1 : v.ownBlock ≠ some b1) (n2 : v.ownBlock ≠ some b2) :
    Calls Tryz.prog 46 #[v, .func (.func 47) #[] #[.pointer (some ⟨b1, 0, none⟩), .pointer (some ⟨b2, 0, none⟩)]] w fun e w' =>
      ∃ v', e = .returned v' ∧ w'.ownsRow B 3 1 v' (st.filter fun x => f x && g x).length ((st.filter fun x => f x && g x).map (Value.int .i64)) ∧ w.grownBy w' v.ownBlock ∧ v'.ownBlock = v.ownBlock := by
  rcases h.2 with ⟨rfl, rfl⟩ | ⟨gb, cap, cur, rfl, hgb, hh, hc, hm, hs, ht⟩
  · have : st = [] := List.length_eq_zero_iff.1 (by have := h.1; simpa using this)
    subst this
    refine (gDel_nil _ w).mono ?_
    rintro e w' ⟨rfl, rfl⟩
    exact ⟨_, rfl, World.ownsRow_nil _ _ _ _, ⟨rfl, rfl, rfl, Nat.le_refl _, fun _ _ _ => rfl⟩, rfl⟩
  · obtain ⟨hH, hlt, _, hl, _⟩ := own_holdsN h hi
    have k1 := hf.ne hh; have k2 := hg.ne hh
    have n1' : (some b1 : Option Nat) ≠ some gb := fun e => n1 (by rw [Value.ownBlock]; exact e.symm)
    have n2' : (some b2 : Option Nat) ≠ some gb := fun e => n2 (by rw [Value.ownBlock]; exact e.symm)
    have eg : ∀ args w, (callFunc 47 args).run Tryz.prog w = .ok (.enter 47 args) w := enters_of Tryz.func47 (by kernel_rfl) rfl
    have hgive : ∀ (W : World) (x : Int), w.grownBy W (some gb) → FnGives Tryz.prog 47 #[.pointer (some ⟨b1, 0, none⟩), .pointer (some ⟨b2, 0, none⟩)] #[encN x] (.bool (!(f (nmI x) && g (nmI x)))) W := fun W x hgr =>
      gEss1_gives f g b1 b2 m1 m2 W (nmI x) (okI_of (nmI_bd x).1 (nmI_bd x).2) (cell_kept hgr h1 n1') (cell_kept hgr h2 n2') (hf.kept hgr (fun e => k1 (Option.some.inj e))) (hg.kept hgr (fun e => k2 (Option.some.inj e)))
    have hz : ∀ w, (zeroValue 3).run Tryz.prog w = .ok (encN 0) w := fun w => by kernel_rfl
    have hcon := Tryz.slices_DeleteFunc encN (fun _ => rfl) (fun x => !(f (nmI x) && g (nmI x))) 47 #[.pointer (some ⟨b1, 0, none⟩), .pointer (some ⟨b2, 0, none⟩)] eg 0 hz gb 0 cap st.toArray w
      (fun W x hb => hgive W x ⟨hb.os, hb.tape, hb.output, hb.size, fun i hi _ => hb.block i hi⟩) (fun q os dk x _ => hgive _ x (grown_over dk os)) hH (by simp; omega) (by simp; omega)
    have hfl : (st.toArray.toList.filter fun x => !!(f (nmI x) && g (nmI x))) = st.filter fun x => f x && g x := by
      simp only [Bool.not_not]
      exact List.filter_congr (fun x hx => by rw [nmI_in (hi x hx)])
    rw [hfl, show st.toArray.size = n by simpa using hl] at hcon
    refine hcon.mono ?_
    rintro e w' ⟨rfl, q, rfl⟩
    exact ⟨_, rfl, own_struck h (by rw [← hl]; exact List.length_filter_le _ _) (fun x hx => hi x (List.mem_filter.1 hx).1), grown_struck _, rfl⟩
end Go.Proofs.YtaclgmhinljkbaaGreatDoor
namespace Go.Proofs.YtaclgmhinljkbaaGreatDoor
open Go.RowKit Go.Sort Go.Shelf Go.Lib

/-- The states that edges of the part enter, and those that they leave, among the first k edges. -/
def enE (es : List Ed) (st : List Int) (k : Nat) (a : Int) : Bool := (es.take k).any (fun x => (decide (x.f ∈ st) && decide (x.t ∈ st)) && decide (a = x.t))
def lfE (es : List Ed) (st : List Int) (k : Nat) (a : Int) : Bool := (es.take k).any (fun x => (decide (x.f ∈ st) && decide (x.t ∈ st)) && decide (a = x.f))
theorem enE_hit {es : List Ed} {st : List Int} {k : Nat} (h : k < es.length) (h1 : es[k].f ∈ st ∧ es[k].t ∈ st) (a : Int) : enE es st (k + 1) a = (decide (a = es[k].t) || enE es st k a) := by
  unfold enE; rw [any_snoc _ _ _ h]; simp [h1.1, h1.2, Bool.or_comm]
theorem lfE_hit {es : List Ed} {st : List Int} {k : Nat} (h : k < es.length) (h1 : es[k].f ∈ st ∧ es[k].t ∈ st) (a : Int) : lfE es st (k + 1) a = (decide (a = es[k].f) || lfE es st k a) := by
  unfold lfE; rw [any_snoc _ _ _ h]; simp [h1.1, h1.2, Bool.or_comm]
theorem enE_miss {es : List Ed} {st : List Int} {k : Nat} (h : k < es.length) (h1 : ¬ (es[k].f ∈ st ∧ es[k].t ∈ st)) (a : Int) : enE es st (k + 1) a = enE es st k a := by
  unfold enE; rw [any_snoc _ _ _ h]
  have : (decide (es[k].f ∈ st) && decide (es[k].t ∈ st)) = false := by simpa using h1
  rw [this]; simp
theorem lfE_miss {es : List Ed} {st : List Int} {k : Nat} (h : k < es.length) (h1 : ¬ (es[k].f ∈ st ∧ es[k].t ∈ st)) (a : Int) : lfE es st (k + 1) a = lfE es st k a := by
  unfold lfE; rw [any_snoc _ _ _ h]
  have : (decide (es[k].f ∈ st) && decide (es[k].t ∈ st)) = false := by simpa using h1
  rw [this]; simp
theorem essS_maps (es : List Ed) (st : List Int) : (st.filter fun x => enE es st es.length x && lfE es st es.length x) = essS es st := by
  refine List.filter_congr (fun a ha => ?_)
  unfold enE lfE essP cmsE goesE
  rw [List.take_length]
  congr 1
  · refine congrArg (fun f => es.any f) (funext fun x => ?_)
    by_cases e : a = x.t
    · subst e; simp [ha]
    · have e' : ¬ x.t = a := fun h => e h.symm
      simp [e, e']
  · refine congrArg (fun f => es.any f) (funext fun x => ?_)
    by_cases e : a = x.f
    · subst e; simp [ha]
    · have e' : ¬ x.f = a := fun h => e h.symm
      simp [e, e']
theorem MapB.made (w : World) : MapB (w.alloc (.map #[] 0)) w.heap.size (fun _ => false) := Mp.congr (Mp.made w) (fun _ => rfl)
theorem MapB.alloc {w : World} {b : Nat} {f : Int → Bool} (h : MapB w b f) (o : Obj) : MapB (w.alloc o) b f := Mp.alloc h o
theorem MapB.dr {w w' : World} {b : Nat} {f : Int → Bool} (h : MapB w b f) (hD : Dr w w') : MapB w' b f := by obtain ⟨k, rfl⟩ := hD; exact h
theorem MapB.store {w : World} {b : Nat} {f : Int → Bool} (h : MapB w b f) (a : Int) (ha : okI a) :
    ∃ w', (Instr.mapUpdate 76 (.map (some b)) (.int .i64 a) (.bool true)).run Tryz.prog w = .ok () w' ∧ MapB w' b (fun y => decide (y = a) || f y) ∧ w.grownBy w' (some b) := by
  obtain ⟨w', h1, h2, h3⟩ := Mp.store h keyI Tryz.underlying76 a ha true
  refine ⟨w', h1, Mp.congr h2 (fun y => ?_), h3.grown⟩
  unfold mset
  by_cases e : y = a <;> simp [e]
def slLen : Value → Nat | .slice _ n _ => n | _ => 0
theorem cell_at_kept {w w' : World} {p : Addr} {u : Value} {row : Option Nat} (hg : w.grownBy w' row) (hc : w.cell? p = some u) (hne : some p.block ≠ row) : w'.cell? p = some u :=
  (World.cell?_of_block (w := w) (a := p) (hg.block p.block (World.block_lt_of_cell? w _ hc) hne)).trans hc
/-- The essential part, its states and an error, in memory of the call's own. -/
def RetEs (G : Gr) (l : List Int) (k : Int) (w : World) (e : Ending) (w' : World) : Prop :=
  ∃ p m c q d, e = .returned (.tuple #[.agg #[.int .i64 G.q, .int .i64 G.n, .slice p m c], .slice q l.length d, .int .i64 k]) ∧ w'.ownsRow w.heap.size 42 3 (.slice p m c) G.es.length (cat G.es) ∧
    w'.ownsRow w.heap.size 3 1 (.slice q l.length d) l.length (l.map (Value.int .i64)) ∧ RowKit.Below w.heap.size w w'
theorem RetEs.of {x : Gr × List Int × Int} {G : Gr} {l : List Int} {k : Int} {w w' : World} {p : Option Addr} {m c : Nat} {v : Value} (hx : x = (G, l, k)) (h1 : w'.ownsRow w.heap.size 42 3 (.slice p m c) G.es.length (cat G.es))
    (h2 : w'.ownsRow w.heap.size 3 1 v l.length (l.map (Value.int .i64))) (hB : RowKit.Below w.heap.size w w') :
    RetEs x.1 x.2.1 x.2.2 w (.returned (.tuple #[.agg #[.int .i64 G.q, .int .i64 G.n, .slice p m c], v, .int .i64 k])) w' := by
  subst hx
  obtain ⟨q, d, rfl, _⟩ := own_sl h2
  exact ⟨p, m, c, q, d, rfl, h1, h2, hB⟩

set_option maxRecDepth 100000 in
set_option maxHeartbeats 4000000 in
theorem gEss_any (G : Gr) (p : Option Addr) (c : Nat) (w : World) (hin : Sg 3 w edE p G.es) (hl : G.es.length ≤ 10000) :
    Calls Tryz.prog 23 #[(.agg #[.int .i64 G.q, .int .i64 G.n, .slice p G.es.length c])] w (RetEs (essA G).1 (essA G).2.1 (essA G).2.2 w) := by
  have HIN := hidI hin
  clear hin
  obtain ⟨i0, hi0, hz0, hz1, hz3⟩ := info_parts infoIn
  obtain ⟨w0, hw0⟩ : ∃ w0, w0 = (w.alloc (.cells #[.int .i64 G.q, .int .i64 G.n, .slice p G.es.length c] 29)).alloc (.cells #[.int .i64 0, .int .i64 0, .slice none 0 0] 29) := ⟨_, rfl⟩
  have b0 : VRow w0 w.heap.size 29 [.int .i64 G.q, .int .i64 G.n, .slice p G.es.length c] := by subst hw0; exact (VRow.new w _ _).alloc _
  have b1 : VRow w0 (w.heap.size + 1) 29 [.int .i64 0, .int .i64 0, .slice none 0 0] := by subst hw0; exact VRow.new1 w _ _ _
  have hB0 : RowKit.Below w.heap.size w w0 := by subst hw0; exact ((RowKit.Below.refl _ _).alloc (Nat.le_refl _) _).alloc (by simp) _
  obtain ⟨r, hr⟩ : ∃ r, chkG G = r := ⟨_, rfl⟩
  by_cases hr0 : r = 0
  · subst hr0
    have HR := hidI hr
    have HV := hidI (chkG_ok.1 hr)
    obtain ⟨N, hNt⟩ : ∃ N : Nat, N = G.n.toNat := ⟨_, rfl⟩
    have HK : Hid (essA G = (partA G (ess G.es (upto N)), ess G.es (upto N), 0)) := by rw [hNt]; exact essA_ok hr
    clear hr
    go_enter Tryz.func23, Tryz.ntmps23
    go_wp2_with fail
    rw [← hw0]
    clear hw0
    refine (gCheck_r G p c _ 0 HR.out (HIN.out.below hB0) (by omega)).mono ?_
    rintro e w1 ⟨rfl, hB1⟩
    have x1 := hB0.trans (hB1.mono hB0.size)
    have c0 := b0.below hB1 b0.lt
    have c1 := b1.below hB1 b1.lt
    have f1 := c0.at 1 rfl
    clear hB1 b0 b1 hB0
    have hz : w.heap.size + 1 < w1.heap.size := c1.lt
    have hn0 := HV.out.n1; have hn1 := HV.out.n2
    have HN : Hid ((N : Int) = G.n) := by unfold Hid; omega
    have HU : Hid (St G.n (upto N)) := by rw [hNt]; exact St.upto hn0
    clear hNt
    go_wp2
    go_loopw [5, 22] (fun ov iv wr => ∃ k : Nat, k ≤ N ∧ iv = .int .i64 k ∧ wr.ownsRow w1.heap.size 3 1 ov k ((upto k).map (Value.int .i64)) ∧ RowKit.Below w1.heap.size w1 wr) (fun _ iv _ => N - (intOf iv).toNat)
    case atStart => exact ⟨0, by omega, rfl, World.ownsRow_nil _ _ _ _, RowKit.Below.refl _ _⟩
    case round =>
      obtain ⟨k, hk, rfl, hown, hB⟩ := hrel
      have hNN := HN.out
      by_cases hlt : (k : Int) < G.n
      · have hkN : k + 1 ≤ N := by omega
        clear hNN
        have hnew := cell_one_at wr (.int .i64 (k : Int)) 3 wr.heap.size rfl
        have HUS := hidI (upto_succ k)
        generalize upto k = M at *
        go_wp2_with (at_builtin; refine wpList_append_own _ rfl _ _ 34 rfl w1.heap.size 3 i0 (.int .i64 0) 1 8 Tryz.underlying34 hi0 hz0 hz1 hz3 rfl (by decide) _ _ _ rfl (hown.alloc _) ⟨wr.heap.size, 0, none⟩ 1 1 [.int .i64 (k : Int)] rfl rfl hnew (by simp [Value.oneCell']) (by simp [maxLen]; omega) (by omega) (by rw [World.size_alloc]; have := hB.size; omega) ?_; intro v' w2 hown' hgrow _)
        go_roundw
        case rel => exact ⟨k + 1, hkN, by go_num, by rw [HUS.out, List.map_append]; exact hown', (hB.alloc hB.size _).grown hgrow (Nat.le_trans hB.size (by simp)) (fun j e => (hown.lt j e).1)⟩
        case measure => simp [intOf]; omega
      · obtain rfl : N = k := by omega
        clear hNN
        obtain ⟨w2, rfl⟩ : ∃ w2 : World, w2 = wr := ⟨_, rfl⟩
        have x2 := x1.trans (hB.mono x1.size)
        have d0 := c0.below hB c0.lt
        have d1 := c1.below hB c1.lt
        have hge := hB.size
        have hmm := @run_makeMap Tryz.prog
        clear hB x1 c0 c1 f1
        go_wp2
        clear hlt
        go_loopw [5] (fun sv wr => ∃ st : List Int, Hid (St G.n st) ∧ Hid (ess G.es st = ess G.es (upto N)) ∧ wr.ownsRow w1.heap.size 3 1 sv st.length (st.map (Value.int .i64)) ∧ VRow wr w.heap.size 29 [.int .i64 G.q, .int .i64 G.n, .slice p G.es.length c] ∧ VRow wr (w.heap.size + 1) 29 [.int .i64 0, .int .i64 0, .slice none 0 0] ∧ RowKit.Below w.heap.size w wr ∧ w1.heap.size ≤ wr.heap.size) (fun sv _ => slLen sv)
        case atStart => exact ⟨upto N, HU, rfl, by rw [upto_len]; exact hown, d0, d1, x2, hge⟩
        case round =>
          obtain ⟨st, HST, HE, hown, e0, e1, hB, hge⟩ := hrel
          obtain ⟨ps, cs, rfl, _⟩ := own_sl hown
          obtain ⟨wo, rfl⟩ : ∃ wo : World, wo = wr := ⟨_, rfl⟩
          have hsl : st.length ≤ 64 := by have := HST.out.len hn0; omega
          obtain ⟨W0, hW0⟩ : ∃ W0, W0 = (((wo.alloc (.map #[] 0)).alloc (.map #[] 0)).alloc (.cells #[.map (some wo.heap.size)] 76)).alloc (.cells #[.map (some (wo.heap.size + 1))] 76) := ⟨_, rfl⟩
          have m1 : MapB W0 wo.heap.size (enE G.es st 0) := by subst hW0; exact (((MapB.made wo).alloc _).alloc _).alloc _
          have m2 : MapB W0 (wo.heap.size + 1) (lfE G.es st 0) := by
            subst hW0
            have := (((MapB.made (wo.alloc (.map #[] 0))).alloc (.cells #[.map (some wo.heap.size)] 76)).alloc (.cells #[.map (some (wo.heap.size + 1))] 76))
            rwa [World.size_alloc] at this
          have q1 : VRow W0 (wo.heap.size + 1 + 1) 76 [.map (some wo.heap.size)] := by
            subst hW0; exact (VRow.new2 wo _ _ _ _).alloc _
          have q2 : VRow W0 (wo.heap.size + 1 + 1 + 1) 76 [.map (some (wo.heap.size + 1))] := by
            subst hW0
            have h := VRow.new (((wo.alloc (.map #[] 0)).alloc (.map #[] 0)).alloc (.cells #[.map (some wo.heap.size)] 76)) 76 [.map (some (wo.heap.size + 1))]
            rwa [World.size_alloc, World.size_alloc, World.size_alloc] at h
          have hown0 : W0.ownsRow w1.heap.size 3 1 (.slice ps st.length cs) st.length (st.map (Value.int .i64)) := by subst hW0; exact (((hown.alloc _).alloc _).alloc _).alloc _
          have e00 : VRow W0 w.heap.size 29 [.int .i64 G.q, .int .i64 G.n, .slice p G.es.length c] := by subst hW0; exact (((e0.alloc _).alloc _).alloc _).alloc _
          have e10 : VRow W0 (w.heap.size + 1) 29 [.int .i64 0, .int .i64 0, .slice none 0 0] := by subst hW0; exact (((e1.alloc _).alloc _).alloc _).alloc _
          have hbs := hB.size
          have hB0 : RowKit.Below w.heap.size w W0 := by subst hW0; exact (((hB.alloc hbs _).alloc (by simp; omega) _).alloc (by simp; omega) _).alloc (by simp; omega) _
          have hz0 : wo.heap.size + 1 + 1 + 1 < W0.heap.size := q2.lt
          have nb : ∀ j, (Value.slice ps st.length cs).ownBlock = some j → j < wo.heap.size := fun j e => (hown.lt j e).2
          have f2 := e00.at 2 rfl
          rw [hW0] at f2
          go_wp2
          rw [← hW0]
          clear hW0 f2 e0 e1
          go_loopw [35] (fun jv wx => ∃ k : Nat, k ≤ G.es.length ∧ jv = .int .i64 k ∧ MapB wx wo.heap.size (enE G.es st k) ∧ MapB wx (wo.heap.size + 1) (lfE G.es st k) ∧ VRow wx (wo.heap.size + 1 + 1) 76 [.map (some wo.heap.size)] ∧ VRow wx (wo.heap.size + 1 + 1 + 1) 76 [.map (some (wo.heap.size + 1))] ∧
              wx.ownsRow w1.heap.size 3 1 (.slice ps st.length cs) st.length (st.map (Value.int .i64)) ∧ VRow wx w.heap.size 29 [.int .i64 G.q, .int .i64 G.n, .slice p G.es.length c] ∧ VRow wx (w.heap.size + 1) 29 [.int .i64 0, .int .i64 0, .slice none 0 0] ∧ RowKit.Below w.heap.size w wx ∧ w1.heap.size ≤ wx.heap.size) (fun jv _ => G.es.length - (intOf jv).toNat)
          case atStart => exact ⟨0, by omega, rfl, m1, m2, q1, q2, hown0, e00, e10, hB0, by omega⟩
          case round =>
            clear m1 m2 q1 q2 hown0 e00 e10 hB0 hz0
            obtain ⟨k, hk, rfl, m1, m2, q1, q2, hownx, e0, e1, hBx, hgx⟩ := hrel
            by_cases hlt : k < G.es.length
            · obtain ⟨b3, o3, rfl, hb3, z0, z1, z2⟩ := (HIN.out.below hBx).get3 k hlt rfl
              have HX := hidI (HV.out.ins G.es[k] (List.getElem_mem hlt))
              obtain ⟨ps', cs', hpe, hsl1⟩ := own_sl hownx
              cases hpe
              have hbz := hBx.size
              have HEN := hidI (enE_hit (st := st) hlt); have HLF := hidI (lfE_hit (st := st) hlt)
              have HEM := hidI (enE_miss (st := st) hlt); have HLM := hidI (lfE_miss (st := st) hlt)
              generalize G.es[k] = x at *
              obtain ⟨W1, hW1⟩ : ∃ W1, W1 = wr.alloc (.cells #[.int .i64 x.f, .int .i64 x.l, .int .i64 x.t] 42) := ⟨_, rfl⟩
              have y0 : VRow W1 wr.heap.size 42 [.int .i64 x.f, .int .i64 x.l, .int .i64 x.t] := by subst hW1; exact VRow.new wr _ _
              have hS1 : Sl W1 (Value.int .i64) ps st := by subst hW1; exact hsl1.below ((RowKit.Below.refl _ _).alloc (Nat.le_refl _) _)
              have n1 : MapB W1 wo.heap.size (enE G.es st k) := by subst hW1; exact m1.alloc _
              have n2 : MapB W1 (wo.heap.size + 1) (lfE G.es st k) := by subst hW1; exact m2.alloc _
              have r1 : VRow W1 (wo.heap.size + 1 + 1) 76 [.map (some wo.heap.size)] := by subst hW1; exact q1.alloc _
              have r2 : VRow W1 (wo.heap.size + 1 + 1 + 1) 76 [.map (some (wo.heap.size + 1))] := by subst hW1; exact q2.alloc _
              have hown1 : W1.ownsRow w1.heap.size 3 1 (.slice ps st.length cs) st.length (st.map (Value.int .i64)) := by subst hW1; exact hownx.alloc _
              have g0 : VRow W1 w.heap.size 29 [.int .i64 G.q, .int .i64 G.n, .slice (some ⟨b3, o3, none⟩) G.es.length c] := by subst hW1; exact e0.alloc _
              have g1 : VRow W1 (w.heap.size + 1) 29 [.int .i64 0, .int .i64 0, .slice none 0 0] := by subst hW1; exact e1.alloc _
              have hB1 : RowKit.Below w.heap.size w W1 := by subst hW1; exact hBx.alloc hbz _
              have hg1 : w1.heap.size ≤ W1.heap.size := by subst hW1; simp; omega
              have hwz : wo.heap.size + 1 + 1 + 1 < wr.heap.size := q2.lt
              go_wp2_with fail
              rw [← hW1]
              clear hW1 m1 m2 q1 q2 hownx e0 e1 hBx hgx hsl1 hbz
              have u0 := y0.at 0 rfl; have u2 := y0.at 2 rfl
              refine (binI_any st ps cs x.f W1 hS1 HST.out.srt (by omega)).mono ?_
              rintro e wa ⟨⟨i, rfl, _⟩, hDa⟩
              have hS2 := hS1.dr hDa
              have v2 := (y0.dr hDa).at 2 rfl
              clear u0 u2
              go_wp2_with fail
              refine (binI_any st ps cs x.t wa hS2 HST.out.srt (by omega)).mono ?_
              rintro e W2 ⟨⟨j, rfl, _⟩, hDb⟩
              have hD := hDa.trans hDb
              have y2 := y0.dr hD
              have n1' := n1.dr hD; have n2' := n2.dr hD
              have r1' := r1.dr hD; have r2' := r2.dr hD
              have hown2 := hown1.dr hD
              have g0' := g0.dr hD; have g1' := g1.dr hD
              have hB2 := hB1.trans (hD.below _)
              have hg2 : w1.heap.size ≤ W2.heap.size := by rw [hD.size]; exact hg1
              clear y0 hS1 hS2 n1 n2 r1 r2 hown1 g0 g1 hB1 hg1 v2 hDa hDb hD
              by_cases hm : x.f ∈ st ∧ x.t ∈ st
              · have m1 : decide (x.f ∈ st) = true := decide_eq_true hm.1
                have m2 : decide (x.t ∈ st) = true := decide_eq_true hm.2
                rw [m1, m2]
                have HEN := hidI (HEN.out hm); have HLF := hidI (HLF.out hm)
                clear HEM HLM m1 m2 hm
                have okt : okI x.t := okI_of (by have := HX.out; omega) (by have := HX.out; omega)
                have okf : okI x.f := okI_of (by have := HX.out; omega) (by have := HX.out; omega)
                have n1d : MapB W2.drew wo.heap.size (enE G.es st k) := n1'
                have n2d : MapB W2.drew (wo.heap.size + 1) (lfE G.es st k) := n2'
                have y2d : VRow W2.drew wr.heap.size 42 [.int .i64 x.f, .int .i64 x.l, .int .i64 x.t] := y2
                have r1d : VRow W2.drew (wo.heap.size + 1 + 1) 76 [.map (some wo.heap.size)] := r1'
                have r2d : VRow W2.drew (wo.heap.size + 1 + 1 + 1) 76 [.map (some (wo.heap.size + 1))] := r2'
                have hownd : W2.drew.ownsRow w1.heap.size 3 1 (.slice ps st.length cs) st.length (st.map (Value.int .i64)) := hown2
                have g0d : VRow W2.drew w.heap.size 29 [.int .i64 G.q, .int .i64 G.n, .slice (some ⟨b3, o3, none⟩) G.es.length c] := g0'
                have g1d : VRow W2.drew (w.heap.size + 1) 29 [.int .i64 0, .int .i64 0, .slice none 0 0] := g1'
                have hBd : RowKit.Below w.heap.size w W2.drew := hB2.drew
                have hgd : w1.heap.size ≤ W2.drew.heap.size := hg2
                have hwb := hB.size
                clear n1' n2' y2 r1' r2' hown2 g0' g1' hB2 hg2
                go_wp2_with fail
                obtain ⟨U1, hr1, M1, G1⟩ := n1d.store x.t okt
                have n2u := n2d.kept G1 (fun e => by have := Option.some.inj e; omega)
                obtain ⟨U2, hr2, M2, G2⟩ := n2u.store x.f okf
                have M1' := M1.kept G2 (fun e => by have := Option.some.inj e; omega)
                have a0 := y2d.at 0 rfl; have a2 := y2d.at 2 rfl
                have a7 := r1d.at 0 rfl; have a8 := r2d.at 0 rfl
                have yu := y2d.grown G1 (fun e => by have := Option.some.inj e; omega)
                have ru1 := r1d.grown G1 (fun e => by have := Option.some.inj e; omega)
                have ru2 := r2d.grown G1 (fun e => by have := Option.some.inj e; omega)
                have d0 := yu.at 0 rfl; have d8 := ru2.at 0 rfl
                have rr1 := ru1.grown G2 (fun e => by have := Option.some.inj e; omega)
                have rr2 := ru2.grown G2 (fun e => by have := Option.some.inj e; omega)
                have hownu := (hownd.kept G1 (.inr (fun e => by have := nb _ e; omega))).kept G2 (.inr (fun e => by have := nb _ e; omega))
                have g0u := (g0d.grown G1 (fun e => by have := Option.some.inj e; omega)).grown G2 (fun e => by have := Option.some.inj e; omega)
                have g1u := (g1d.grown G1 (fun e => by have := Option.some.inj e; omega)).grown G2 (fun e => by have := Option.some.inj e; omega)
                have hBu := (hBd.grown G1 hBd.size (fun j e => by have := Option.some.inj e; omega)).grown G2 (Nat.le_trans hBd.size G1.size) (fun j e => by have := Option.some.inj e; omega)
                have hgu := Nat.le_trans (Nat.le_trans hgd G1.size) G2.size
                clear n1d n2d y2d r1d r2d hownd g0d g1d hBd hgd n2u yu ru1 ru2 M1 G1 G2
                go_region
                all_goals
                  go_wp2
                  go_roundw
                  case rel => exact ⟨k + 1, by omega, by go_num, M1'.congr (fun a => (HEN.out a).symm), M2.congr (fun a => (HLF.out a).symm), rr1, rr2, hownu, g0u, g1u, hBu, hgu⟩
                  case measure => simp [intOf]; omega
              · have HEM := hidI (HEM.out hm); have HLM := hidI (HLM.out hm)
                have hor : decide (x.f ∈ st) = false ∨ (decide (x.f ∈ st) = true ∧ decide (x.t ∈ st) = false) := by
                  by_cases h1 : x.f ∈ st
                  · exact .inr ⟨decide_eq_true h1, decide_eq_false (fun h2 => hm ⟨h1, h2⟩)⟩
                  · exact .inl (decide_eq_false h1)
                clear HEN HLF hm
                generalize decide (x.f ∈ st) = b1 at *
                generalize decide (x.t ∈ st) = b2 at *
                rcases hor with rfl | ⟨rfl, rfl⟩
                all_goals
                  go_wp2_with fail
                  go_roundw
                  case rel => exact ⟨k + 1, by omega, by go_num, n1'.congr (fun a => (HEM.out a).symm), n2'.congr (fun a => (HLM.out a).symm), r1', r2', hown2, g0', g1', hB2, hg2⟩
                  case measure => simp [intOf]; omega
            · obtain rfl : k = G.es.length := by omega
              obtain ⟨ps', cs', hpe, hsl1⟩ := own_sl hownx
              cases hpe
              have HSS := hidI (essS_maps G.es st)
              have k1 := q1.at 0 rfl; have k2 := q2.at 0 rfl
              have hwz : wo.heap.size + 1 + 1 + 1 < wr.heap.size := q2.lt
              have c1 : (Value.slice ps st.length cs).ownBlock ≠ some (wo.heap.size + 1 + 1) := fun e => by have := nb _ e; omega
              have c2 : (Value.slice ps st.length cs).ownBlock ≠ some (wo.heap.size + 1 + 1 + 1) := fun e => by have := nb _ e; omega
              have hdel := gDel_any (enE G.es st G.es.length) (lfE G.es st G.es.length) st w1.heap.size st.length (wo.heap.size + 1 + 1) (wo.heap.size + 1 + 1 + 1) wo.heap.size (wo.heap.size + 1) (.slice ps st.length cs) wr hownx (by omega) (fun x hx => by have := HST.out.ins x hx; omega) k1 k2 m1 m2 c1 c2
              rw [HSS.out] at hdel
              have HDEL := hidI hdel
              clear hdel k1 k2
              go_wp2_with (go_at_call 46; refine HDEL.out.mono ?_)
              rintro e w3 ⟨v3, rfl, hown3, G3, _⟩
              have hne : ∀ j, (Value.slice ps st.length cs).ownBlock = some j → w1.heap.size ≤ j := fun j e => (hownx.lt j e).1
              have e03 := e0.grown G3 (fun e => by have := hne _ e.symm; omega)
              have e13 := e1.grown G3 (fun e => by have := hne _ e.symm; omega)
              have hB3 := hBx.grown G3 hBx.size (fun j e => by have := hne _ e; omega)
              have hg3 := Nat.le_trans hgx G3.size
              clear m1 m2 q1 q2 hownx e0 e1 hBx hgx hsl1 hne nb c1 c2 G3 HDEL HSS
              by_cases he : (essS G.es st).length = st.length
              · have hE := essS_eq he
                have HKK : Hid (essA G = (partA G st, st, 0)) := by
                  have := HE.out
                  rw [ess_stop he] at this
                  rw [Hid, HK.out, ← this]
                rw [hE] at hown3
                clear hE he
                obtain ⟨p3, c3, rfl, hs3⟩ := own_sl hown3
                have f0 := e03.at 0 rfl; have f1 := e03.at 1 rfl; have f2 := e03.at 2 rfl
                have hst3 := HST.out.srt
                clear HE
                go_wp2_with fail
                refine (gkeep_any G p c st p3 c3 w3 (HIN.out.below hB3) hs3 hl (by omega) hst3).mono ?_
                generalize partA G st = R at *
                rintro e w4 ⟨p4, m4, c4, rfl, hown4, hB4⟩
                have x4 := hB3.trans (hB4.mono hB3.size)
                have e14 := e13.below hB4 e13.lt
                have hz3 : w.heap.size + 1 < w3.heap.size := e13.lt
                have hown5 := hown3.below hB4
                clear f0 f1 f2
                have j0 := e14.at 0 rfl; have j1 := e14.at 1 rfl; have j2 := e14.at 2 rfl
                have z0 := e14.frozen 0; have z1 := e14.frozen 1; have z2 := e14.frozen 2
                go_wp2
                have r6 := VRow.set (i := 2) (.slice p4 m4 c4) (VRow.set (i := 1) (.int .i64 R.n) (VRow.set (i := 0) (.int .i64 R.q) e14))
                have y0 := r6.at 0 rfl; have y1 := r6.at 1 rfl; have y2 := r6.at 2 rfl
                have o6 := ownsRow_setCell_below (a := (⟨w.heap.size + 1, 2, none⟩ : Addr)) (ownsRow_setCell_below (a := (⟨w.heap.size + 1, 1, none⟩ : Addr)) (ownsRow_setCell_below (a := (⟨w.heap.size + 1, 0, none⟩ : Addr)) hown4 hz3 (.int .i64 R.q)) hz3 (.int .i64 R.n)) hz3 (.slice p4 m4 c4)
                have o7 := ownsRow_setCell_below (a := (⟨w.heap.size + 1, 2, none⟩ : Addr)) (ownsRow_setCell_below (a := (⟨w.heap.size + 1, 1, none⟩ : Addr)) (ownsRow_setCell_below (a := (⟨w.heap.size + 1, 0, none⟩ : Addr)) hown5 hz (.int .i64 R.q)) hz (.int .i64 R.n)) hz (.slice p4 m4 c4)
                have x6 : RowKit.Below w.heap.size w (((w4.setCell (⟨w.heap.size + 1, 0, none⟩ : Addr) (.int .i64 R.q)).setCell (⟨w.heap.size + 1, 1, none⟩ : Addr) (.int .i64 R.n)).setCell (⟨w.heap.size + 1, 2, none⟩ : Addr) (.slice p4 m4 c4)) :=
                  ((x4.setCell (show w.heap.size ≤ w.heap.size + 1 by omega) _).setCell (show w.heap.size ≤ w.heap.size + 1 by omega) _).setCell (show w.heap.size ≤ w.heap.size + 1 by omega) _
                refine bodyPost_ret (v := .tuple #[.agg #[.int .i64 R.q, .int .i64 R.n, .slice p4 m4 c4], .slice p3 st.length c3, .int .i64 0]) (by simp [results, Tryz.results23, go_sem, y0, y1, y2]) rfl ?_
                exact RetEs.of HKK.out (own_conv o6 rfl (by omega)) ⟨o7.1, o7.2.imp id (fun ⟨g, cap, cur, a, b, z⟩ => ⟨g, cap, cur, a, Nat.le_trans (show w.heap.size ≤ w1.heap.size by omega) b, z⟩)⟩ x6
              · have HEG : Hid (ess G.es (essS G.es st) = ess G.es (upto N)) := by rw [Hid, ← ess_go he]; exact HE.out
                have HSF : Hid (St G.n (essS G.es st)) := HST.out.filter _
                have hle := essS_le G.es st
                clear HE
                generalize essS G.es st = S at *
                obtain ⟨p3, c3, rfl, hs3⟩ := own_sl hown3
                have hb : ((S.length : Int) == (st.length : Int)) = false := by rw [beq_eq_false_iff_ne]; omega
                go_wp2
                go_roundw
                case rel => exact ⟨S, HSF, HEG, hown3, e03, e13, hB3, hg3⟩
                case measure => simp [slLen]; omega
  · have HK : Hid (essA G = (⟨0, 0, []⟩, [], 1)) := essA_bad (by rw [hr]; exact hr0)
    have hrb : (r == 0) = false := by simpa using hr0
    have HR := hidI hr
    clear hr
    go_enter Tryz.func23, Tryz.ntmps23
    go_wp2_with fail
    rw [← hw0]
    clear hw0
    refine (gCheck_r G p c _ r HR.out (HIN.out.below hB0) (by omega)).mono ?_
    rintro e w1 ⟨rfl, hB1⟩
    have x1 := hB0.trans (hB1.mono hB0.size)
    have c1 := b1.below hB1 b1.lt
    have j0 := c1.at 0 rfl; have j1 := c1.at 1 rfl; have j2 := c1.at 2 rfl
    have z0 := c1.frozen 0; have z1 := c1.frozen 1; have z2 := c1.frozen 2
    go_wp2
    have r6 := VRow.set (i := 2) (.slice none 0 0) (VRow.set (i := 1) (.int .i64 0) (VRow.set (i := 0) (.int .i64 0) c1))
    have y0 := r6.at 0 rfl; have y1 := r6.at 1 rfl; have y2 := r6.at 2 rfl
    have x6 : RowKit.Below w.heap.size w (((w1.setCell (⟨w.heap.size + 1, 0, none⟩ : Addr) (.int .i64 0)).setCell (⟨w.heap.size + 1, 1, none⟩ : Addr) (.int .i64 0)).setCell (⟨w.heap.size + 1, 2, none⟩ : Addr) (.slice none 0 0)) :=
      ((x1.setCell (show w.heap.size ≤ w.heap.size + 1 by omega) _).setCell (show w.heap.size ≤ w.heap.size + 1 by omega) _).setCell (show w.heap.size ≤ w.heap.size + 1 by omega) _
    refine bodyPost_ret (v := .tuple #[.agg #[.int .i64 0, .int .i64 0, .slice none 0 0], .slice none 0 0, .int .i64 1]) (by simp [results, Tryz.results23, go_sem, y0, y1, y2]) rfl ?_
    exact RetEs.of (G := ⟨0, 0, []⟩) (l := []) HK.out (World.ownsRow_nil _ _ _ _) (World.ownsRow_nil _ _ _ _) x6
end Go.Proofs.YtaclgmhinljkbaaGreatDoor
