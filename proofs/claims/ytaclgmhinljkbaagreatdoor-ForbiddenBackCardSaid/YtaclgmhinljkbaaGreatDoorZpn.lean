/-
  Words, plain lemmas and walks, merged: Ng, Nn, Nh, Ni, Nq, No, Nr, Ns, Np, Nx, Sc.
-/
import Derived.Test.YtaclgmhinljkbaaGreatDoorZpm
import Derived.Lib.SlBy
import Derived.Test.YtaclgmhinljkbaaGreatDoorZpe
import Derived.Lib.OwnBridge
import Derived.Test.YtaclgmhinljkbaaGreatDoorZpf
import Derived.Laws.AppendOwnNone
import Derived.Lib.AppendZeros
set_option linter.unusedVariables false
set_option linter.unusedSimpArgs false
namespace Go.Proofs.YtaclgmhinljkbaaGreatDoor
open Go.RowKit Go.Sort

/-! ### The first element that is like a state -/
theorem idxFrom_or {α : Type} [Inhabited α] (p : α → Bool) (d : α) : ∀ (zs : List α) (i : Nat), (∃ k, ∃ h : k < zs.length, p zs[k] = true ∧ Lib.idxByFrom (fun _ y => p y) d zs i = ((i + k : Nat) : Int)) ∨ ((∀ k (h : k < zs.length), p zs[k] = false) ∧ Lib.idxByFrom (fun _ y => p y) d zs i = -1)
  | [], i => .inr ⟨fun k h => absurd h (by simp), rfl⟩
  | y :: zs, i => by
    cases h : p y
    · rcases idxFrom_or p d zs (i + 1) with ⟨k, hk, h1, h2⟩ | ⟨h1, h2⟩
      · refine .inl ⟨k + 1, by simpa using hk, by simpa using h1, ?_⟩
        rw [Lib.idxByFrom, h]
        simp only [Bool.false_eq_true, if_false]
        rw [h2]; congr 1; omega
      · refine .inr ⟨fun k hk => ?_, ?_⟩
        · cases k with
          | zero => exact h
          | succ k => simpa using h1 k (by simpa using hk)
        · rw [Lib.idxByFrom, h]; simp only [Bool.false_eq_true, if_false]; exact h2
    · refine .inl ⟨0, by simp, h, ?_⟩
      rw [Lib.idxByFrom, h]; simp
theorem idx_num {R : Nat → Nat → Bool} (hE : Eqv R) (s : Nat) (p : Nat → Bool) (hp : ∀ y ∈ frsR R s, p y = R y s) :
    (fstR R s = false ∧ Lib.idxBy (fun _ y => p y) (frsR R s) default = numR R s ∧ 0 ≤ numR R s) ∨ (fstR R s = true ∧ Lib.idxBy (fun _ y => p y) (frsR R s) default = -1 ∧ numR R s = ((frsR R s).length : Int)) := by
  rcases idxFrom_or p default (frsR R s) 0 with ⟨k, hk, h1, h2⟩ | ⟨h1, h2⟩
  · rw [hp _ (List.getElem_mem hk)] at h1
    obtain ⟨h3, h4⟩ := numR_old hE hk h1
    exact .inl ⟨h3, by rw [h4]; unfold Lib.idxBy; rw [h2]; congr 1; omega, by rw [h4]; omega⟩
  · obtain ⟨h3, h4⟩ := numR_none hE (fun k hk => by rw [← hp _ (List.getElem_mem hk)]; exact h1 k hk)
    exact .inr ⟨h3, h2, h4⟩
/-- The new classes, as far as they are known. -/
def nowV (R : Nat → Nat → Bool) (N s : Nat) : List Value := ((List.range s).map (numR R) ++ List.replicate (N - s) 0).map (Value.int .i64)
theorem nowV_zero (R : Nat → Nat → Bool) (N : Nat) : nowV R N 0 = List.replicate N (.int .i64 0) := by simp [nowV]
theorem nowV_get (R : Nat → Nat → Bool) {N s : Nat} (h : s < N) : (nowV R N s)[s]? = some (.int .i64 0) := by
  unfold nowV
  rw [List.getElem?_map, List.getElem?_append_right (by simp), List.getElem?_replicate]
  simp; omega
theorem nowV_set (R : Nat → Nat → Bool) {N s : Nat} (h : s < N) : (nowV R N s).set s (.int .i64 (numR R s)) = nowV R N (s + 1) := by
  unfold nowV
  obtain ⟨m, hm⟩ : ∃ m, N - s = m + 1 := ⟨N - s - 1, by omega⟩
  rw [hm, show N - (s + 1) = m by omega, List.range_succ, List.replicate_succ, List.map_append, List.set_append_right _ _ (by simp), List.length_map, List.length_map, List.length_range, Nat.sub_self]
  simp
theorem nowV_end (R : Nat → Nat → Bool) (N : Nat) : nowV R N N = ((List.range N).map (numR R)).map (Value.int .i64) := by simp [nowV]

/-! ### What a round of partition leans on -/
structure Pcx (G : Gr) (p : Option Addr) (c : Nat) (gb bt bc B b2 base N Q : Nat) (bs : Nat → Nat) (C : List Int) (w : World) : Prop where
  g : VRow w gb 29 [.int .i64 Q, .int .i64 N, .slice p G.es.length c]
  t : VRow w bt 101 [.slice (some ⟨B, 0, none⟩) N N]
  T : Tab w base B N Q bs (fun s a => tgt G.es s a)
  c : VRow w bc 34 [.slice (some ⟨b2, 0, none⟩) N N]
  r : VRow w b2 3 (C.map (Value.int .i64))
  n1 : bc ≠ gb
  n2 : bc ≠ bt
  n3 : bc ≠ B
  n4 : ∀ s, s < N → bs s ≠ bc
  n5 : b2 ≠ bc
section
variable {G : Gr} {p : Option Addr} {c gb bt bc B b2 base N Q : Nat} {bs : Nat → Nat} {C : List Int} {w w' : World}
theorem Pcx.later (h : Pcx G p c gb bt bc B b2 base N Q bs C w) (hB : RowKit.Below w.heap.size w w') : Pcx G p c gb bt bc B b2 base N Q bs C w' :=
  ⟨h.g.below hB h.g.lt, h.t.below hB h.t.lt, h.T.later hB, h.c.below hB h.c.lt, h.r.below hB h.r.lt, h.n1, h.n2, h.n3, h.n4, h.n5⟩
theorem Pcx.turn {C' : List Int} {b3 : Nat} (h : Pcx G p c gb bt bc B b2 base N Q bs C w) (hr : VRow w b3 3 (C'.map (Value.int .i64))) (hn : b3 ≠ bc) :
    Pcx G p c gb bt bc B b3 base N Q bs C' (w.setCell ⟨bc, 0, none⟩ (.slice (some ⟨b3, 0, none⟩) N N)) :=
  ⟨h.g.other _ (Ne.symm h.n1), h.t.other _ (Ne.symm h.n2), ⟨h.T.hd.other _ (Ne.symm h.n3), fun s hs => (h.T.row s hs).other _ (h.n4 s hs), h.T.inj, h.T.lo, h.T.ne⟩, h.c.set (i := 0) _, hr.other _ hn, h.n1, h.n2, h.n3, h.n4, hn⟩
end
theorem cell_al {w : World} {b i : Nat} {v : Value} (o : Obj) (h : w.cell? ⟨b, i, none⟩ = some v) : (w.alloc o).cell? ⟨b, i, none⟩ = some v :=
  (((RowKit.Below.refl _ _).alloc (Nat.le_refl _) o).cell (p := ⟨b, i, none⟩) (World.block_lt_of_cell? w _ h)).trans h
theorem own_snoc {w : World} {B e n s : Nat} {v : Value} {R : Nat → Nat → Bool} (h : w.ownsRow B e 1 v (n + 1) ((frsR R s).map (fun (x : Nat) => Value.int .i64 (x : Int)) ++ [.int .i64 (s : Int)])) (hf : frsR R (s + 1) = frsR R s ++ [s]) :
    ∃ q d, v = .slice q (frsR R (s + 1)).length d ∧ w.ownsRow B e 1 (.slice q (frsR R (s + 1)).length d) (frsR R (s + 1)).length ((frsR R (s + 1)).map (fun (x : Nat) => Value.int .i64 (x : Int))) := by
  have e1 : (frsR R s).map (fun (x : Nat) => Value.int .i64 (x : Int)) ++ [.int .i64 (s : Int)] = (frsR R (s + 1)).map (fun (x : Nat) => Value.int .i64 (x : Int)) := by rw [hf, List.map_append]; rfl
  rw [e1] at h
  have hn : (frsR R (s + 1)).length = n + 1 := by have := h.1; simpa using this
  obtain ⟨q, d, rfl, _⟩ := own_sl (enc := fun (x : Nat) => Value.int .i64 (x : Int)) h
  refine ⟨q, d, rfl, ?_⟩
  rw [← hn] at h; exact h
def encM (N : Nat) (x : Nat) : Value := .int .i64 ((x % N : Nat) : Int)

def frsV (R : Nat → Nat → Bool) (s : Nat) : List Value := (frsR R s).map (fun (x : Nat) => Value.int .i64 (x : Int))
theorem frsV_len (R : Nat → Nat → Bool) (s : Nat) : (frsV R s).length = (frsR R s).length := by simp [frsV]
end Go.Proofs.YtaclgmhinljkbaaGreatDoor
namespace Go.Proofs.YtaclgmhinljkbaaGreatDoor
open Go.RowKit Go.Sort Go.Shelf Go.Lib

def fwA (o : Option (List Int)) : List Int × Bool := match o with
  | some w => (w, true)
  | none => ([], false)
def kpP (q : Int × Int) : Bool := !decide (q = (-1, -1))
/-- What a function value for a condition gives. -/
def IsAt (n m : Nat) (isb : Int × Int → Bool) (g : Nat) (lb : Array Value) (w : World) : Prop :=
  ∀ (W : World) (s t : Int), RowKit.Below w.heap.size w W → -1 ≤ s → s < n → -1 ≤ t → t < m → Calls Tryz.prog g (#[.agg #[.int .i64 s, .int .i64 t]] ++ lb) W fun e w' => e = .returned (.bool (isb (s, t))) ∧ RowKit.Below W.heap.size W w'
def RetFw (o : Option (List Int)) (w : World) (e : Ending) (w' : World) : Prop :=
  ∃ q d, e = .returned (.tuple #[.slice q (fwA o).1.length d, .bool (fwA o).2]) ∧ Sl w' (Value.int .i64) q (fwA o).1 ∧ RowKit.Below w.heap.size w w'
theorem Mp.cells_ne {α β : Type} {kv : α → Value} {ok : α → Prop} {vv : β → Value} {w : World} {b : Nat} {f : α → Option β} (h : Mp kv ok vv w b f) {B e size n : Nat} {v : Value} {xs : List Value} (ho : w.ownsRow B e size v n xs) : v.ownBlock ≠ some b := by
  obtain ⟨es, cl, hb, _⟩ := h
  rcases ho.2 with ⟨rfl, _⟩ | ⟨g, cap, cur, rfl, hg, hh, _⟩
  · intro e; cases e
  · intro e
    have e : g = b := by simpa [Value.ownBlock] using e
    subst e
    rw [hb] at hh; cases hh
theorem ownF_new (w : World) (x : Fd) (B : Nat) (hB : B ≤ w.heap.size) : (w.alloc (.cells (fdE x).toArray 133)).ownsRow B 133 4 (.slice (some ⟨w.heap.size, 0, none⟩) 1 1) 1 (catF [x]) :=
  ⟨rfl, .inr ⟨w.heap.size, 1, _, rfl, hB, heap_alloc_new w _, Nat.le_refl _, by simp [maxLen], rfl, rfl⟩⟩
theorem cell_new4 (w : World) (x : Fd) : ∀ (j : Nat) (u : Value), (catF [x])[j]? = some u → (w.alloc (.cells (fdE x).toArray 133)).cell? ((⟨w.heap.size, 0, none⟩ : Addr).add j) = some u := by
  intro j u hu
  rw [show (⟨w.heap.size, 0, none⟩ : Addr).add j = ⟨w.heap.size, 0 + j, none⟩ by unfold Addr.add; split <;> simp_all, Nat.zero_add]
  have h : VRow (w.alloc (.cells (fdE x).toArray 133)) w.heap.size 133 (fdE x) := VRow.new w _ _
  rw [h.cell]
  simpa [catF] using hu
theorem own_downN {w : World} {B B' e n size : Nat} {v : Value} {xs : List Value} (h : w.ownsRow B' e size v n xs) (hB : B ≤ B') : w.ownsRow B e size v n xs := ⟨h.1, h.2.imp id (fun ⟨g, cap, cur, a, b, z⟩ => ⟨g, cap, cur, a, Nat.le_trans hB b, z⟩)⟩
theorem Mp.below' {α β : Type} {kv : α → Value} {ok : α → Prop} {vv : β → Value} {w w' : World} {b : Nat} {f : α → Option β} (h : Mp kv ok vv w b f) (hB : RowKit.Below w.heap.size w w') : Mp kv ok vv w' b f := h.below hB h.lt

theorem own_ne_row {w : World} {B e size n b t : Nat} {v : Value} {xs l : List Value} (h : w.ownsRow B e size v n xs) (r : VRow w b t l) (hne : t ≠ e) : v.ownBlock ≠ some b := by
  rcases h.2 with ⟨rfl, _⟩ | ⟨g, cap, cur, rfl, hg, hh, _⟩
  · intro e; cases e
  · intro e1
    have e1 : g = b := by simpa [Value.ownBlock] using e1
    subst e1
    rw [show w.heap[g]? = _ from r] at hh
    simp at hh
    exact hne hh.2
theorem Mp.ne_row {α β : Type} {kv : α → Value} {ok : α → Prop} {vv : β → Value} {w : World} {b : Nat} {f : α → Option β} (h : Mp kv ok vv w b f) {b' t : Nat} {l : List Value} (r : VRow w b' t l) : b' ≠ b := by
  obtain ⟨es, cl, hb, _⟩ := h
  intro e; subst e
  rw [show w.heap[b']? = _ from r] at hb; cases hb
theorem seen_look {w : World} {b : Nat} {l : List Pw} (h : Mp kP okP Value.bool w b (seenF l)) {s t : Int} (hs : okP (s, t)) : (Instr.lookup 135 (.map (some b)) (.agg #[.int .i64 s, .int .i64 t]) false).run Tryz.prog w = .ok (.bool (decide ((s, t) ∈ l.map Prod.fst))) w := by
  have hl : (Instr.lookup 135 (.map (some b)) (.agg #[.int .i64 s, .int .i64 t]) false).run Tryz.prog w = _ := h.look keyP Tryz.underlying135 (zeroB w) (s, t) hs false
  rw [hl]
  unfold seenF
  by_cases hm : (s, t) ∈ l.map Prod.fst
  · rw [if_pos hm, decide_eq_true hm]; rfl
  · rw [if_neg hm, decide_eq_false hm]; rfl
theorem ownF_shape {w : World} {B e n : Nat} {v : Value} {l : List Fd} (h : w.ownsRow B e 4 v n (catF l)) (hn : 0 < n) : ∃ g cap, v = .slice (some ⟨g, 0, none⟩) n cap := by
  rcases h.2 with ⟨rfl, h0⟩ | ⟨g, cap, cur, rfl, _⟩
  · omega
  · exact ⟨g, cap, rfl⟩
theorem own_holdsI {w : World} {B e n cap g : Nat} {zs : List Int} (h : w.ownsRow B e 1 (.slice (some ⟨g, 0, none⟩) n cap) n (zs.map (Value.int .i64))) : Holds (Value.int .i64) w g 0 zs.toArray := by
  have hn : zs.length = n := by have := h.1; simpa using this
  intro j hj
  have hj' : j < zs.length := by simpa using hj
  rw [Nat.zero_add, h.cellAt j (by omega), getElem!_pos _ j hj]
  refine ⟨by simp [hj'], ?_⟩
  rcases h.2 with ⟨e0, _⟩ | ⟨g', cap', cur, e0, hg, hh, _⟩
  · cases e0
  · cases e0
    simp [World.frozen?, hh]
/-- A word turned round, in memory of the call's own. -/
theorem reverseI_own (zs : List Int) (B e n : Nat) (p : Option Addr) (c : Nat) (w : World) (h : w.ownsRow B e 1 (.slice p n c) n (zs.map (Value.int .i64))) (hz : zs.length ≤ 100000) (hb : B ≤ w.heap.size) :
    Calls Tryz.prog 94 #[.slice p n c] w fun e w' => e = .returned (.tuple #[]) ∧ Sl w' (Value.int .i64) p zs.reverse ∧ RowKit.Below B w w' := by
  have hn : zs.length = n := by have := h.1; simpa using this
  rcases h.2 with ⟨e0, h0⟩ | ⟨g, cap, cur, e0, hg, hh, _⟩
  · cases e0
    have : zs = [] := List.length_eq_zero_iff.1 (by omega)
    subst this
    refine (Tryz.slices_Reverse_int_empty none 0 w).mono ?_
    rintro e w' ⟨rfl, rfl⟩
    exact ⟨rfl, .inl rfl, RowKit.Below.refl _ _⟩
  · cases e0
    subst hn
    have hH := own_holdsI h
    refine (Tryz.slices_Reverse_int g 0 _ zs w hH (by omega)).mono ?_
    rintro e w' ⟨rfl, k, rfl⟩
    have hH2 := Sort.holds_putRow (Value.int .i64) (Sort.ahead w k) g 0 zs.toArray zs.reverse.toArray hH (by simp)
    refine ⟨rfl, ?_, Go.Lib.below_putRow (RowKit.Below.refl _ _) hg⟩
    refine .inr ⟨g, 0, rfl, ?_, fun i hi => ?_⟩
    · have hlt : g < w.heap.size := (Array.getElem?_eq_some_iff.1 hh).1
      simpa [putRow, mapBlock, Sort.ahead] using hlt
    · have h2 := (hH2 i (by simpa using hi)).1
      rw [h2, getElem!_pos _ i (by simpa using hi)]
      simp

set_option maxRecDepth 100000 in
set_option maxHeartbeats 8000000 in
theorem mfirst_any (f g : List Ed) (n m L base1 B1 base2 B2 : Nat) (bs1 bs2 : Nat → Nat) (s0 t0 : Int) (isb : Int × Int → Bool) (gi : Nat) (lb : Array Value) (w : World)
    (hT1 : Tab w base1 B1 n L bs1 (fun s a => tgt f s a)) (hT2 : Tab w base2 B2 m L bs2 (fun s a => tgt g s a)) (hf : ∀ s a, -1 ≤ nxt f s a ∧ nxt f s a < n) (hg : ∀ s a, -1 ≤ nxt g s a ∧ nxt g s a < m)
    (hn : n ≤ 64) (hm : m ≤ 64) (hL : L ≤ 256) (h0 : -1 ≤ s0) (h1 : s0 < n) (h2 : -1 ≤ t0) (h3 : t0 < m) (eg : ∀ args w, (callFunc gi args).run Tryz.prog w = .ok (.enter gi args) w) (hi : IsAt n m isb gi lb w) :
    Calls Tryz.prog 63 #[.slice (some ⟨B1, 0, none⟩) n n, .slice (some ⟨B2, 0, none⟩) m m, .int .i64 L, .agg #[.int .i64 s0, .int .i64 t0], .func (.func gi) #[] lb] w (RetFw (bfsA n m f g kpP isb L s0 t0) w) := by
  obtain ⟨i0, hi0, hz0, hz1, hz2⟩ := info_parts infoF
  obtain ⟨j0, hj0, hy0, hy1, hy2⟩ := info_parts infoJ
  have HT1 := hidI hT1; have HT2 := hidI hT2; have HF := hidI hf; have HG := hidI hg; have HI := hidI hi
  have hmm := @run_makeMap Tryz.prog
  obtain ⟨NN, hNN⟩ : ∃ NN, NN = (n + 1) * (m + 1) + 1 := ⟨_, rfl⟩
  have hNL : NN ≤ 4226 := by
    have := Nat.mul_le_mul (show n + 1 ≤ 65 by omega) (show m + 1 ≤ 65 by omega)
    omega
  have HNN := hidI hNN
  have HAN : Hid (bfsA n m f g kpP isb L s0 t0 = bfs f g kpP isb L NN 0 [((s0, t0), [])]) := by rw [Hid, hNN]; rfl
  have HBL : Hid (∀ l, Bq n m l → l.length < NN) := fun l h => by have := h.len; omega
  obtain ⟨w0, hw0⟩ : ∃ w0, w0 = w.alloc (.cells #[.int .i64 s0, .int .i64 t0] 104) := ⟨_, rfl⟩
  have hB0 : RowKit.Below w.heap.size w w0 := by subst hw0; exact (RowKit.Below.refl _ _).alloc (Nat.le_refl _) _
  have r0 : VRow w0 w.heap.size 104 [.int .i64 s0, .int .i64 t0] := by subst hw0; exact VRow.new w _ _
  obtain ⟨w1, hw1⟩ : ∃ w1, w1 = w0.alloc (.cells #[.int .i64 s0, .int .i64 t0, .int .i64 (-1), .int .i64 (-1)] 133) := ⟨_, rfl⟩
  have hown1 : w1.ownsRow w0.heap.size 133 4 (.slice (some ⟨w0.heap.size, 0, none⟩) 1 1) 1 (catF [⟨s0, t0, -1, -1⟩]) := by subst hw1; exact ownF_new w0 ⟨s0, t0, -1, -1⟩ _ (Nat.le_refl _)
  have hB1 : RowKit.Below w0.heap.size w0 w1 := by subst hw1; exact (RowKit.Below.refl _ _).alloc (Nat.le_refl _) _
  have r1 := r0.below hB1 r0.lt
  have hM2 : Mp kP okP Value.bool (w1.alloc (.map #[] 0)) w1.heap.size (fun _ => none) := Mp.made w1
  obtain ⟨w3, hst, hM3, hturn⟩ := hM2.store keyP Tryz.underlying135 (s0, t0) (okP_of (by omega) (by omega)) true
  have hst : (Instr.mapUpdate 135 (.map (some w1.heap.size)) (.agg #[.int .i64 s0, .int .i64 t0]) (.bool true)).run Tryz.prog (w1.alloc (.map #[] 0)) = .ok () w3 := hst
  have hown2 := hown1.alloc (.map #[] 0)
  have hown3 := hown2.kept hturn.grown (.inr (hM2.cells_ne hown2))
  have hB2 : RowKit.Below w1.heap.size w1 (w1.alloc (.map #[] 0)) := (RowKit.Below.refl _ _).alloc (Nat.le_refl _) _
  have x1 := hB0.trans (hB1.mono hB0.size)
  have x2 := x1.trans (hB2.mono x1.size)
  have x3 := x2.grown hturn.grown (by have := x2.size; exact this) (fun j e => by cases e; exact x1.size)
  have hz : w0.heap.size ≤ w1.heap.size := hB1.size
  have hM3 := hM3.congr (g := seenF [((s0, t0), [])]) (fun p => (seenF_first s0 t0 p).symm)
  clear hT1 hT2 hf hg hi hNN hown1 hown2 hM2 hturn
  go_enter Tryz.func63, Tryz.ntmps63
  go_upto_region 1 with fail
  rw [← hw0]
  clear hw0
  have g0 := r0.at 0 rfl; have g1 := r0.at 1 rfl
  go_upto_region 2 with fail
  rw [← hw1]
  clear hw1 g0 g1
  have g0 := cell_al (.map #[] 0) (r1.at 0 rfl); have g1 := cell_al (.map #[] 0) (r1.at 1 rfl)
  go_wp2
  clear g0 g1 hst r0 r1
  obtain ⟨mb, hmb⟩ : ∃ mb, mb = w1.heap.size := ⟨_, rfl⟩
  obtain ⟨qb, hqb⟩ : ∃ qb, qb = w0.heap.size := ⟨_, rfl⟩
  have hqb0 : w0.heap.size ≤ qb := by omega
  have hwq : w.heap.size ≤ w0.heap.size := hB0.size
  have hwm : w.heap.size ≤ mb := by omega
  rw [← hmb] at hM3 ⊢
  rw [← hqb] at hown3 ⊢
  clear hmb
  clear hqb hz
  go_loopw [12, 14] (fun qv iv wr => ∃ (i : Nat) (l : List Pw) (q : List Fd) (gq cap : Nat), qv = .slice (some ⟨gq, 0, none⟩) l.length cap ∧ iv = .int .i64 i ∧ wr.ownsRow w.heap.size 133 4 (.slice (some ⟨gq, 0, none⟩) l.length cap) l.length (catF q) ∧ Hid (Lk l q) ∧ Bq n m l ∧ Mp kP okP Value.bool wr mb (seenF l) ∧ i ≤ l.length ∧ 0 < l.length ∧ Hid (bfs f g kpP isb L (NN - i) i l = bfsA n m f g kpP isb L s0 t0) ∧ RowKit.Below w.heap.size w wr) (fun _ iv _ => NN - (intOf iv).toNat)
  case atStart => exact ⟨0, [((s0, t0), [])], [⟨s0, t0, -1, -1⟩], qb, 1, rfl, rfl, own_downN hown3 (Nat.le_trans hwq hqb0), Lk.first s0 t0, Bq.one h0 h1 h2 h3, hM3, by simp, by simp, HAN.out.symm, x3⟩
  case round =>
    clear hM3 hown3 x1 x2 x3
    obtain ⟨i, l, q, gq, cap, rfl, rfl, hown, hlk, hbq, hM, hil, hl0, hbf, hB⟩ := hrel
    have hlN := HBL.out l hbq
    by_cases hlt : i < l.length
    · have hltI : (i : Int) < (l.length : Int) := by omega
      obtain ⟨hlq, hlk2⟩ := hlk.out
      have hiq : i < q.length := by omega
      obtain ⟨q1, q2, q3⟩ := hlk2 i hlt hiq
      have k0 : wr.cell? ⟨gq, i * 4, none⟩ = some (.int .i64 l[i].1.1) := by have := ownF_cell hown i hiq 0 (by omega); rw [← q1]; simpa [fdE] using this
      have k1 : wr.cell? ⟨gq, i * 4 + 1, none⟩ = some (.int .i64 l[i].1.2) := by have := ownF_cell hown i hiq 1 (by omega); rw [← q2]; simpa [fdE] using this
      have hins := hbq.ins _ (List.getElem_mem hlt)
      have HH1 := hidI (fun mm h => @bfs_hit f g kpP isb L mm i l hlt h)
      have HH2 := hidI (fun mm h => @bfs_next f g kpP isb L mm i l hlt h)
      obtain ⟨x, hx⟩ : ∃ x, x = l[i] := ⟨_, rfl⟩
      have HX := hidI hx
      rw [← hx] at k0 k1 hins HH1 HH2
      obtain ⟨⟨ps, pt⟩, wd⟩ := x
      have hins : -1 ≤ ps ∧ ps < n ∧ -1 ≤ pt ∧ pt < m := hins
      change wr.cell? ⟨gq, i * 4, none⟩ = some (.int .i64 ps) at k0
      change wr.cell? ⟨gq, i * 4 + 1, none⟩ = some (.int .i64 pt) at k1
      have HH1 : Hid (∀ mm, isb (ps, pt) = true → bfs f g kpP isb L (mm + 1) i l = some wd) := HH1
      have HH2 : Hid (∀ mm, isb (ps, pt) = false → bfs f g kpP isb L (mm + 1) i l = bfs f g kpP isb L mm (i + 1) (bRow f g kpP ((ps, pt), wd) l L)) := HH2
      obtain ⟨wb, hwb⟩ : ∃ wb, wb = wr.alloc (.cells #[.int .i64 ps, .int .i64 pt] 104) := ⟨_, rfl⟩
      have bx : VRow wb wr.heap.size 104 [.int .i64 ps, .int .i64 pt] := by subst hwb; exact VRow.new wr _ _
      have hBb : RowKit.Below wr.heap.size wr wb := by subst hwb; exact (RowKit.Below.refl _ _).alloc (Nat.le_refl _) _
      have hownb := hown.below hBb
      have hMb := Mp.below' hM hBb
      have hBw := hB.trans (hBb.mono hB.size)
      have HIS := hidI (HI.out wb ps pt hBw hins.1 hins.2.1 hins.2.2.1 hins.2.2.2)
      obtain ⟨pb, hpb⟩ : ∃ pb, pb = wr.heap.size := ⟨_, rfl⟩
      rw [← hpb] at bx
      have g0 := bx.at 0 rfl; have g1 := bx.at 1 rfl
      go_upto_region 7 with fail
      rw [← hwb, ← hpb]
      have hpw : w.heap.size ≤ pb := by rw [hpb]; exact hB.size
      clear hwb hpb k0 k1 q1 q2 q3 hlk2 hBb hown hM hx
      go_wp2_with fail
      go_at_fn gi
      refine HIS.out.mono ?_
      rintro e w5 ⟨rfl, hB5⟩
      have hown5 := hownb.below hB5
      have hM5 := Mp.below' hMb hB5
      have hb5 := bx.below hB5 bx.lt
      have hBw5 := hBw.trans (hB5.mono hBw.size)
      clear g0 g1 hownb hMb hB5 hBw bx
      cases his : isb (ps, pt)
      · obtain ⟨mm, hmm⟩ : ∃ mm, NN - i = mm + 1 := ⟨NN - i - 1, by omega⟩
        have HBF : Hid (bfs f g kpP isb L mm (i + 1) (bRow f g kpP ((ps, pt), wd) l L) = bfsA n m f g kpP isb L s0 t0) := by rw [Hid, ← HH2.out mm his, ← hmm]; exact hbf.out
        have hmm2 : NN - (i + 1) = mm := by omega
        have HMM := hidI hmm2
        have HZ : Hid (bRow f g kpP ((ps, pt), wd) l 0 = l) := rfl
        have HSU := hidI (bRow_succ f g kpP ((ps, pt), wd) l)
        have HLE := hidI (bRow_len f g kpP ((ps, pt), wd) l)
        have HGE : Hid (∀ a, (bRow f g kpP ((ps, pt), wd) l a)[i]? = some ((ps, pt), wd)) := fun a => by
          rw [bRow_get f g kpP ((ps, pt), wd) l a i hlt, ← HX.out]
        have HBQ : Hid (∀ a, Bq n m (bRow f g kpP ((ps, pt), wd) l a)) := fun a => hbq.row HF.out HG.out a
        have hlk0 := hlk.out
        clear hmm hmm2 HH1 HH2 HIS his hbf hlk hlq hiq
        go_wp2
        go_loopw [12, 64] (fun qv av wx => ∃ (a : Nat) (q' : List Fd) (gq' cap' : Nat), a ≤ L ∧ qv = .slice (some ⟨gq', 0, none⟩) (bRow f g kpP ((ps, pt), wd) l a).length cap' ∧ av = .int .i64 a ∧ wx.ownsRow w.heap.size 133 4 (.slice (some ⟨gq', 0, none⟩) (bRow f g kpP ((ps, pt), wd) l a).length cap') (bRow f g kpP ((ps, pt), wd) l a).length (catF q') ∧ Hid (Lk (bRow f g kpP ((ps, pt), wd) l a) q') ∧ Mp kP okP Value.bool wx mb (seenF (bRow f g kpP ((ps, pt), wd) l a)) ∧ VRow wx pb 104 [.int .i64 ps, .int .i64 pt] ∧ RowKit.Below w.heap.size w wx) (fun _ av _ => L - (intOf av).toNat)
        case atStart => exact ⟨0, q, gq, cap, by omega, rfl, rfl, hown5, hlk0, hM5, hb5, hBw5⟩
        case round =>
          clear hown5 hlk0 hM5 hb5 hBw5 hbq hlN
          obtain ⟨a, q', gq', cap', ha, rfl, rfl, hown, hlk, hM, hpb, hB⟩ := hrel
          have hlen := HLE.out a
          by_cases hla : a < L
          · have hlaI : (a : Int) < (L : Int) := by omega
            have hbl := HBL.out _ (HBQ.out a)
            have HS1 := hidI (HSU.out a)
            have HGEa := hidI (HGE.out a)
            have hnf := hidI (HF.out ps a)
            have hng := hidI (HG.out pt a)
            have HN1 := hidI (fun W (hW : RowKit.Below w.heap.size w W) => mnext_any f ps a base1 B1 n L bs1 W (HT1.out.later hW) hins.1 hins.2.1 hla)
            have HN2 := hidI (fun W (hW : RowKit.Below w.heap.size w W) => mnext_any g pt a base2 B2 m L bs2 W (HT2.out.later hW) hins.2.2.1 hins.2.2.2 hla)
            have HST : Hid (stp f g (ps, pt) a = (nxt f ps a, nxt g pt a)) := rfl
            have HGO := hidI (@bAdd_go f g kpP ((ps, pt), wd) (bRow f g kpP ((ps, pt), wd) l a) a)
            have HSY := hidI (@bAdd_stay f g kpP ((ps, pt), wd) (bRow f g kpP ((ps, pt), wd) l a) a)
            simp only at HGO HSY
            rw [HST.out] at HGO HSY
            have HQ1 := HBQ.out (a + 1)
            generalize nxt f ps a = s' at *
            generalize nxt g pt a = t' at *
            generalize bRow f g kpP ((ps, pt), wd) l a = row at *
            have k0 := hpb.at 0 rfl; have k1 := hpb.at 1 rfl
            have hpblt := hpb.lt
            go_upto_region 18 with fail
            go_cut [19] (fun v wx => ∃ qx, v = .pointer (some ⟨qx, 0, none⟩) ∧ VRow wx qx 104 [.int .i64 s', .int .i64 t'] ∧ RowKit.Below wr.heap.size wr wx)
            case first =>
              go_region_held3 (fun w' => w'.cell? ⟨pb, 0, none⟩ = some (.int .i64 ps) ∧ w'.cell? ⟨pb, 1, none⟩ = some (.int .i64 pt) ∧ RowKit.Below wr.heap.size wr w')
                (first | (go_split_ands; refine ⟨?_, ?_, ?_⟩ <;> first | assumption | (go_keep; done) | exact below_dN (RowKit.Below.refl _ _) 1 | exact RowKit.Below.alloc (by assumption) (RowKit.Below.size (by assumption)) _ | exact below_dN ((RowKit.Below.refl _ _).alloc (Nat.le_refl _) _) 1))
                (first
                  | (go_at_call 95; go_split_ands; with_reducible refine (HN1.out _ (hB.trans (RowKit.Below.mono (show RowKit.Below wr.heap.size wr _ by assumption) hB.size))).mono ?_; rintro e wA ⟨rfl, rfl⟩)
                  | (go_at_call 95; go_split_ands; with_reducible refine (HN2.out _ (hB.trans (RowKit.Below.mono (show RowKit.Below wr.heap.size wr _ by assumption) hB.size))).mono ?_; rintro e wB ⟨rfl, rfl⟩))
              all_goals
                go_wp2_with fail
                go_meet
                exact ⟨_, rfl, VRow.new _ _ _, below_dN ((RowKit.Below.refl _ _).alloc (Nat.le_refl _) _) 1⟩
            case rest =>
              obtain ⟨qx, rfl, hq, hBq⟩ := hcut
              have hnf := hnf.out; have hng := hng.out
              have hok : okP (s', t') := okP_of (by omega) (by omega)
              have hown2 := hown.below hBq
              have hM2 := Mp.below' hM hBq
              have hp2 := hpb.below hBq hpblt
              have hB2 := hB.trans (hBq.mono hB.size)
              have q0 := hq.at 0 rfl; have q1 := hq.at 1 rfl
              have hne := neqP s' t' (-1) (-1)
              have hsl := seen_look hM2 hok
              clear hown hM hpb hB k0 k1
              by_cases hd : (s', t') = (-1, -1)
              · have hkp : kpP (s', t') = false := by unfold kpP; rw [hd]; rfl
                rw [decide_eq_true hd] at hne
                go_wp2
                go_roundw
                case rel =>
                  refine ⟨a + 1, q', gq', cap', by omega, ?_, by go_num, ?_, ?_, ?_, hp2, hB2⟩ <;> rw [HS1.out, HSY.out (.inl hkp)]
                  · exact hown2
                  · exact hlk
                  · exact hM2
                case measure => simp [intOf]; omega
              · have hkp : kpP (s', t') = true := by unfold kpP; rw [decide_eq_false hd]; rfl
                rw [decide_eq_false hd] at hne
                by_cases hmem : (s', t') ∈ row.map Prod.fst
                · rw [decide_eq_true hmem] at hsl
                  go_wp2
                  go_roundw
                  case rel =>
                    refine ⟨a + 1, q', gq', cap', by omega, ?_, by go_num, ?_, ?_, ?_, hp2, hB2⟩ <;> rw [HS1.out, HSY.out (.inr hmem)]
                    · exact hown2
                    · exact hlk
                    · exact hM2
                  case measure => simp [intOf]; omega
                · rw [decide_eq_false hmem] at hsl
                  have HR : Hid (bRow f g kpP ((ps, pt), wd) l (a + 1) = row ++ [((s', t'), wd ++ [(a : Int)])]) := by rw [Hid, HS1.out, HGO.out hkp hmem]
                  have HLK : Hid (Lk (row ++ [((s', t'), wd ++ [(a : Int)])]) (q' ++ [⟨s', t', i, a⟩])) := by
                    have hi : i < row.length := by omega
                    have h := hlk.out.snoc hi s' t' a
                    have e : row[i] = ((ps, pt), wd) := by
                      have := HGEa.out
                      rw [List.getElem?_eq_getElem hi] at this
                      exact Option.some.inj this
                    rw [e] at h; exact h
                  obtain ⟨wm, hst, hM3, hturn⟩ := hM2.store keyP Tryz.underlying135 (s', t') hok true
                  have hst : (Instr.mapUpdate 135 (.map (some mb)) (.agg #[.int .i64 s', .int .i64 t']) (.bool true)).run Tryz.prog wc = .ok () wm := hst
                  have hown3 := hown2.kept hturn.grown (.inr (hM2.cells_ne hown2))
                  have hq3 := hq.grown hturn.grown (fun e => hM2.ne_row hq (by simpa using e))
                  have hp3 := hp2.grown hturn.grown (fun e => hM2.ne_row hp2 (by simpa using e))
                  have hB3 := hB2.grown hturn.grown hB2.size (fun j e => by cases e; exact hwm)
                  have hM3 := hM3.congr (g := seenF (row ++ [((s', t'), wd ++ [(a : Int)])])) (fun p => (seenF_snoc row (s', t') (wd ++ [(a : Int)]) p).symm)
                  have m0 := hq3.at 0 rfl; have m1 := hq3.at 1 rfl
                  have hnew := cell_new4 wm ⟨s', t', i, a⟩
                  have hown8 := hown3.alloc (.cells (fdE ⟨s', t', i, a⟩).toArray 133)
                  have hsz3 := hB3.size
                  have HG2 : Hid (∀ w9, (wm.alloc (.cells (fdE ⟨s', t', i, a⟩).toArray 133)).grownBy w9 (Value.slice (some ⟨gq', 0, none⟩) row.length cap').ownBlock → RowKit.Below w.heap.size w w9 ∧ Mp kP okP Value.bool w9 mb (seenF (row ++ [((s', t'), wd ++ [(a : Int)])])) ∧ VRow w9 pb 104 [.int .i64 ps, .int .i64 pt]) := fun w9 hg => by
                    have hB8 := hB3.alloc hsz3 (.cells (fdE ⟨s', t', i, a⟩).toArray 133)
                    refine ⟨hB8.grown hg (by have := hB8.size; exact this) (fun j e => (hown8.lt j e).1), (hM3.alloc _).kept hg (fun e => (hM3.alloc _).cells_ne hown8 e.symm), (hp3.alloc _).grown hg (fun e => own_ne_row hown8 (hp3.alloc _) (by decide) e.symm)⟩
                  clear hM2 hM3 hturn hown2 hown3 hp2 hp3 hq3 hB3 hq HST HSY HGO HGEa hlk
                  go_wp2_with (at_builtin; refine wpList_append_own _ rfl _ _ 134 rfl w.heap.size 133 i0 _ 4 32 Tryz.underlying134 hi0 hz0 hz1 hz2 rfl (by decide) _ _ _ rfl hown8 ⟨wm.heap.size, 0, none⟩ 1 1 (catF [⟨s', t', i, a⟩]) rfl rfl hnew (catF_one _) (by simp only [maxLen]; omega) (by omega) (by rw [World.size_alloc]; omega) ?_; intro v' w9 hown' hgrow _; rw [← catF_app] at hown'; obtain ⟨hB9, hM9, hp9⟩ := HG2.out w9 hgrow; obtain ⟨g9, cap9, hv9⟩ := ownF_shape hown' (by omega); subst hv9)
                  go_roundw
                  case rel =>
                    refine ⟨a + 1, q' ++ [⟨s', t', i, a⟩], g9, cap9, by omega, ?_, by go_num, ?_, ?_, ?_, hp9, hB9⟩ <;> rw [HR.out]
                    · simp
                    · simpa using hown'
                    · exact HLK
                    · exact hM9
                  case measure => simp [intOf]; omega
          · obtain rfl : L = a := by omega
            have hlaI : ¬ (L : Int) < (L : Int) := by omega
            have hbl := HBL.out _ (HBQ.out L)
            have HQL := HBQ.out L
            have hmm2 := HMM.out
            go_wp2
            go_roundw
            case rel => exact ⟨i + 1, bRow f g kpP ((ps, pt), wd) l L, q', gq', cap', rfl, by go_num, hown, hlk, HQL, hM, by omega, by omega, by rw [Hid, hmm2]; exact HBF.out, hB⟩
            case measure => simp [intOf]; omega
      · obtain ⟨mm, hmm⟩ : ∃ mm, NN - i = mm + 1 := ⟨NN - i - 1, by omega⟩
        have HBA : Hid (bfsA n m f g kpP isb L s0 t0 = some wd) := by rw [Hid, ← hbf.out, hmm]; exact HH1.out mm his
        clear hmm HH1 HH2 HIS his HI HF HG HT1 HT2
        go_wp2
        go_loopw [16, 17] (fun wv kv wx => ∃ (k : Nat) (ws : List Int) (pw : Option Addr) (cw : Nat), k ≤ i ∧ ws.length + k ≤ i ∧ kv = .int .i64 k ∧ wv = .slice pw ws.length cw ∧ wx.ownsRow w5.heap.size 3 1 (.slice pw ws.length cw) ws.length (ws.map (Value.int .i64)) ∧ Hid (∀ h : k < l.length, wd = l[k].2 ++ ws.reverse) ∧ RowKit.Below w5.heap.size w5 wx) (fun _ kv _ => (intOf kv).toNat)
        case atStart => exact ⟨i, [], none, 0, by omega, by simp, rfl, rfl, World.ownsRow_nil _ _ _ _, fun h => by have := HX.out; simp only [List.reverse_nil, List.append_nil]; rw [← this], RowKit.Below.refl _ _⟩
        case round =>
          obtain ⟨k, ws, pw, cw, hk, hwk, rfl, rfl, hownW, hwd, hBx⟩ := hrel
          have hkl : k < l.length := by omega
          have hkq : k < q.length := by omega
          obtain ⟨_, hlk2⟩ := hlk.out
          obtain ⟨_, _, h3⟩ := hlk2 k hkl hkq
          have hownQ := hown5.below hBx
          have k2 : wr.cell? ⟨gq, k * 4 + 2, none⟩ = some (.int .i64 q[k].b) := by have := ownF_cell hownQ k hkq 2 (by omega); simpa [fdE] using this
          have k3 : wr.cell? ⟨gq, k * 4 + 3, none⟩ = some (.int .i64 q[k].l) := by have := ownF_cell hownQ k hkq 3 (by omega); simpa [fdE] using this
          have hkI : (k : Int) < (l.length : Int) := by omega
          have hwd1 := hwd.out hkl
          have hsz := hBx.size
          clear hlk2
          rcases h3 with ⟨hb, hw⟩ | ⟨jj, hjj, hb, hw⟩
          · have HW : Hid (wd = ws.reverse) := by rw [Hid, hwd1, hw, List.nil_append]
            rw [hb] at k2
            have HRV := hidI (reverseI_own ws w5.heap.size 3 ws.length pw cw wr hownW (by omega) hsz)
            clear hw hwd1 hwd hb k3
            go_wp2_with fail
            refine HRV.out.mono ?_
            rintro e w7 ⟨rfl, hsl, hB7⟩
            go_wp2
            go_ret2
            rw [HBA.out]
            refine ⟨pw, cw, ?_, ?_, hBw5.trans ((hBx.trans hB7).mono hBw5.size)⟩
            · show _ = Ending.returned (.tuple #[.slice pw wd.length cw, .bool true])
              rw [HW.out, List.length_reverse]; rfl
            · show Sl w7 (Value.int .i64) pw wd
              rw [HW.out]; exact hsl
          · have hbn : (((jj : Int)) != -1) = true := by simp
            rw [hb] at k2
            have hnew := cell_one_new wr (.int .i64 q[k].l) 3
            have hown8 := hownW.alloc (.cells #[.int .i64 q[k].l] 3)
            have HWN : Hid (∀ h : jj < l.length, wd = l[jj].2 ++ (ws ++ [q[k].l]).reverse) := fun h => by
              rw [hwd1, hw, List.reverse_append]; simp
            have HG2 : Hid (∀ w9, (wr.alloc (.cells #[.int .i64 q[k].l] 3)).grownBy w9 (Value.slice pw ws.length cw).ownBlock → RowKit.Below w5.heap.size w5 w9 ∧ w9.cell? ⟨gq, k * 4 + 2, none⟩ = some (.int .i64 jj)) := fun w9 hg => by
              have hB8 := hBx.alloc hsz (.cells #[.int .i64 q[k].l] 3)
              refine ⟨hB8.grown hg (by have := hB8.size; exact this) (fun j e => (hown8.lt j e).1), ?_⟩
              have hgq : gq < w5.heap.size := by
                rcases hown5.2 with ⟨e0, _⟩ | ⟨g', cap', cur, e0, hg0, hh, _⟩
                · cases e0
                · cases e0; exact (Array.getElem?_eq_some_iff.1 hh).1
              exact hg.cell (cell_al _ k2) (fun h => by have := (hown8.lt _ h.symm).1; simp at this; omega)
            generalize q[k].l = lab at *
            clear hw hwd1 hwd hb hownQ
            go_wp2_with (at_builtin; refine wpList_append_own _ rfl _ _ 34 rfl w5.heap.size 3 j0 (.int .i64 0) 1 8 Tryz.underlying34 hj0 hy0 hy1 hy2 rfl (by decide) _ _ _ rfl hown8 ⟨wr.heap.size, 0, none⟩ 1 1 [.int .i64 lab] rfl rfl hnew (by simp [Value.oneCell']) (by simp only [maxLen]; omega) (by omega) (by rw [World.size_alloc]; omega) ?_; intro v' w9 hown' hgrow _; obtain ⟨hB9, hk9⟩ := HG2.out w9 hgrow)
            have e1 : ws.map (Value.int .i64) ++ [.int .i64 lab] = (ws ++ [lab]).map (Value.int .i64) := by simp
            rw [e1] at hown'
            obtain ⟨pw', cw', hv', _⟩ := own_sl hown'
            subst hv'
            go_roundw
            case rel => exact ⟨jj, ws ++ [lab], pw', cw', by omega, by simp; omega, rfl, rfl, by simpa using hown', HWN, hB9⟩
            case measure => simp [intOf]; omega
    · have hltI : ¬ (i : Int) < (l.length : Int) := by omega
      have HX : Hid (bfsA n m f g kpP isb L s0 t0 = none) := by rw [Hid, ← hbf.out]; exact bfs_end (by omega)
      go_wp2
      go_ret2
      rw [HX.out]
      exact ⟨none, 0, rfl, Sl.nil _ _ _, hB⟩
end Go.Proofs.YtaclgmhinljkbaaGreatDoor
namespace Go.Proofs.YtaclgmhinljkbaaGreatDoor
open Go.RowKit Go.Sort

theorem list_ne {a b : List Int} {k : Nat} (h1 : k < a.length) (h2 : k < b.length) (h : a[k] ≠ b[k]) : a ≠ b := fun e => by subst e; exact h rfl
def CutS (R : Nat → Nat → Bool) (N s b3 : Nat) (wo wx : World) : Prop := ∃ v : Int, VRow wx b3 3 ((nowV R N s).set s (.int .i64 v)) ∧ ((fstR R s = false ∧ v = numR R s ∧ 0 ≤ v) ∨ (fstR R s = true ∧ v = -1)) ∧ RowKit.Below wo.heap.size wo wx
end Go.Proofs.YtaclgmhinljkbaaGreatDoor
namespace Go.Proofs.YtaclgmhinljkbaaGreatDoor
open Go.RowKit Go.Sort Go.Shelf Go.Lib

def chkD (G : Gr) : Int := if chkG G = 0 then (if detB G.es = true then 0 else 8) else 1
theorem chkD_bad {G : Gr} (h : chkG G ≠ 0) : chkD G = 1 := if_neg h
theorem chkD_two {G : Gr} (h : chkG G = 0) (h2 : detB G.es = false) : chkD G = 8 := by unfold chkD; rw [if_pos h, if_neg (by simp [h2])]
theorem chkD_ok {G : Gr} (h : chkG G = 0) (h2 : detB G.es = true) : chkD G = 0 := by unfold chkD; rw [if_pos h, if_pos h2]
theorem chkD_iff {G : Gr} : chkD G = 0 ↔ Vg G ∧ detB G.es = true := by
  unfold chkD
  constructor
  · intro h
    split at h
    · rename_i h1
      split at h
      · rename_i h2; exact ⟨chkG_ok.1 h1, h2⟩
      · omega
    · omega
  · rintro ⟨h1, h2⟩; rw [if_pos (chkG_ok.2 h1), if_pos h2]

/-! ### Partition -/
def parA (G : Gr) : List Int × Int := if chkD G = 0 then (clA G, 0) else ([], chkD G)
theorem parA_ok {G : Gr} (h : chkD G = 0) : parA G = (clA G, 0) := if_pos h
theorem parA_bad {G : Gr} (h : chkD G ≠ 0) : parA G = ([], chkD G) := if_neg h
/-- Numbers, and an error. -/
def RetLe (l : List Int) (k : Int) (w : World) (e : Ending) (w' : World) : Prop := ∃ q d, e = .returned (.tuple #[.slice q l.length d, .int .i64 k]) ∧ Sl w' (Value.int .i64) q l ∧ RowKit.Below w.heap.size w w'
theorem RetLe.of {x : List Int × Int} {l : List Int} {k : Int} {w w' : World} {q : Option Addr} {d : Nat} (h : x = (l, k)) (hs : Sl w' (Value.int .i64) q l) (hB : RowKit.Below w.heap.size w w') :
    RetLe x.1 x.2 w (.returned (.tuple #[.slice q l.length d, .int .i64 k])) w' := by subst h; exact ⟨q, d, rfl, hs, hB⟩

end Go.Proofs.YtaclgmhinljkbaaGreatDoor
namespace Go.Proofs.YtaclgmhinljkbaaGreatDoor
open Go.RowKit Go.Sort Go.Shelf Go.Lib

def sepO (G : Gr) (s t : Int) : Option (List Int) := bfsA G.n.toNat G.n.toNat G.es G.es kpP oneB G.q.toNat s t
def sepA (G : Gr) (s t : Int) : List Int × Bool × Int := if chkD G = 0 then (if min s t < 0 ∨ G.n ≤ max s t then ([], false, 25) else ((fwA (sepO G s t)).1, (fwA (sepO G s t)).2, 0)) else ([], false, chkD G)
theorem sepA_bad {G : Gr} {s t : Int} (h : chkD G ≠ 0) : sepA G s t = ([], false, chkD G) := if_neg h
theorem sepA_out {G : Gr} {s t : Int} (h : chkD G = 0) (h2 : min s t < 0 ∨ G.n ≤ max s t) : sepA G s t = ([], false, 25) := by unfold sepA; rw [if_pos h, if_pos h2]
theorem sepA_ok {G : Gr} {s t : Int} (h : chkD G = 0) (h2 : ¬ (min s t < 0 ∨ G.n ≤ max s t)) : sepA G s t = ((fwA (sepO G s t)).1, (fwA (sepO G s t)).2, 0) := by unfold sepA; rw [if_pos h, if_neg h2]
/-- A word, whether there is one, and an error. -/
def RetSp (l : List Int) (b : Bool) (k : Int) (w : World) (e : Ending) (w' : World) : Prop := ∃ q d, e = .returned (.tuple #[.slice q l.length d, .bool b, .int .i64 k]) ∧ Sl w' (Value.int .i64) q l ∧ RowKit.Below w.heap.size w w'
theorem RetSp.of {x : List Int × Bool × Int} {l : List Int} {b : Bool} {k : Int} {w w' : World} {q : Option Addr} {d : Nat} (h : x = (l, b, k)) (hs : Sl w' (Value.int .i64) q l) (hB : RowKit.Below w.heap.size w w') :
    RetSp x.1 x.2.1 x.2.2 w (.returned (.tuple #[.slice q l.length d, .bool b, .int .i64 k])) w' := by subst h; exact ⟨q, d, rfl, hs, hB⟩
theorem one_at (n m : Nat) (w : World) : IsAt n m oneB 29 #[] w := fun W s t _ h1 _ h2 _ => by
  show Calls Tryz.prog 29 #[.agg #[.int .i64 s, .int .i64 t]] W _
  exact mone_any s t W h1 h2

end Go.Proofs.YtaclgmhinljkbaaGreatDoor
namespace Go.Proofs.YtaclgmhinljkbaaGreatDoor
open Go.RowKit Go.Sort Go.Shelf Go.Lib

/-! ### Places -/
structure Pd where
  s : Int
  t : Int
  q : Option Addr
  n : Nat
  c : Nat
def pdE (x : Pd) : List Value := [.int .i64 x.s, .int .i64 x.t, .slice x.q x.n x.c]
def catP (l : List Pd) : List Value := l.flatMap pdE
theorem catP_len (l : List Pd) : (catP l).length = l.length * 3 := by
  induction l with
  | nil => rfl
  | cons x l ih =>
    have e : catP (x :: l) = pdE x ++ catP l := rfl
    have e2 : (pdE x).length = 3 := rfl
    rw [e, List.length_append, ih, e2, List.length_cons]; omega
theorem catP_app (a b : List Pd) : catP (a ++ b) = catP a ++ catP b := List.flatMap_append
theorem catP_get : ∀ (l : List Pd) (k : Nat) (h : k < l.length) (j : Nat), j < 3 → (catP l)[k * 3 + j]? = (pdE l[k])[j]?
  | [], k, h, j, hj => by simp at h
  | x :: l, 0, h, j, hj => by
    show (pdE x ++ catP l)[0 * 3 + j]? = _
    rw [Nat.zero_mul, Nat.zero_add, List.getElem?_append_left (by show j < 3; exact hj)]; rfl
  | x :: l, k + 1, h, j, hj => by
    show (pdE x ++ catP l)[(k + 1) * 3 + j]? = _
    rw [List.getElem?_append_right (by show 3 ≤ _; omega), show (k + 1) * 3 + j - (pdE x).length = k * 3 + j by show (k + 1) * 3 + j - 3 = _; omega]
    exact catP_get l k (by simpa using h) j hj
theorem catP_one (l : List Pd) : ∀ v ∈ catP l, v.oneCell' = true := by
  intro v hv
  obtain ⟨x, _, hx⟩ := List.mem_flatMap.1 hv
  simp only [pdE, List.mem_cons, List.not_mem_nil, or_false] at hx
  rcases hx with rfl | rfl | rfl <;> rfl
theorem ownP_cell {w : World} {B e n cap g : Nat} {l : List Pd} (h : w.ownsRow B e 3 (.slice (some ⟨g, 0, none⟩) n cap) n (catP l)) (k : Nat) (hk : k < l.length) (j : Nat) (hj : j < 3) : w.cell? ⟨g, k * 3 + j, none⟩ = (pdE l[k])[j]? := by
  have hn : l.length = n := by have := h.1; rw [catP_len] at this; omega
  rcases h.2 with ⟨e0, _⟩ | ⟨g', cap', cur, e0, hg, hh, hc, hm, hs, ht⟩
  · cases e0
  · cases e0
    rw [← catP_get l k hk j hj, ← ht]
    have hlt : k * 3 + j < n * 3 := by omega
    simp only [World.cell?, hh]
    rw [List.getElem?_take, if_pos hlt, Array.getElem?_toList]
    simp
/-- The places of a queue of pairs: their words lie in blocks of their own. -/
structure Lp (w : World) (B : Nat) (l : List Pw) (q : List Pd) : Prop where
  len : q.length = l.length
  at_ : ∀ i (h : i < l.length) (h' : i < q.length), q[i].s = l[i].1.1 ∧ q[i].t = l[i].1.2 ∧ q[i].n = l[i].2.length ∧ w.ownsRow B 3 1 (.slice q[i].q q[i].n q[i].c) q[i].n (l[i].2.map (Value.int .i64))
theorem own_ne_own {w : World} {B e size n B' e' size' n' : Nat} {v v' : Value} {xs xs' : List Value} (h : w.ownsRow B e size v n xs) (h' : w.ownsRow B' e' size' v' n' xs') (hne : e ≠ e') : v.ownBlock = none ∨ v.ownBlock ≠ v'.ownBlock := by
  rcases h.2 with ⟨rfl, _⟩ | ⟨g, cap, cur, rfl, hg, hh, _⟩
  · exact .inl rfl
  · right
    rcases h'.2 with ⟨rfl, _⟩ | ⟨g', cap', cur', rfl, hg', hh', _⟩
    · intro e; cases e
    · intro e1
      have e1 : g = g' := by simpa [Value.ownBlock] using e1
      subst e1
      rw [hh] at hh'
      simp at hh'
      exact hne hh'.2
theorem Lp.first (w : World) (B : Nat) (s t : Int) : Lp w B [((s, t), [])] [⟨s, t, none, 0, 0⟩] :=
  ⟨rfl, fun i h h' => by
    obtain rfl : i = 0 := by simp at h; exact h
    exact ⟨rfl, rfl, rfl, World.ownsRow_nil _ _ _ _⟩⟩
section
variable {w w' : World} {B : Nat} {l : List Pw} {q : List Pd}
theorem Lp.alloc (h : Lp w B l q) (o : Obj) : Lp (w.alloc o) B l q := ⟨h.len, fun i a b => ⟨(h.at_ i a b).1, (h.at_ i a b).2.1, (h.at_ i a b).2.2.1, (h.at_ i a b).2.2.2.alloc o⟩⟩
theorem Lp.below (h : Lp w B l q) (hB : RowKit.Below w.heap.size w w') : Lp w' B l q := ⟨h.len, fun i a b => ⟨(h.at_ i a b).1, (h.at_ i a b).2.1, (h.at_ i a b).2.2.1, (h.at_ i a b).2.2.2.below hB⟩⟩
theorem Lp.kept (h : Lp w B l q) {B' e size n : Nat} {v : Value} {xs : List Value} (ho : w.ownsRow B' e size v n xs) (hne : 3 ≠ e) (hg : w.grownBy w' v.ownBlock) : Lp w' B l q :=
  ⟨h.len, fun i a b => ⟨(h.at_ i a b).1, (h.at_ i a b).2.1, (h.at_ i a b).2.2.1, (h.at_ i a b).2.2.2.kept hg (own_ne_own (h.at_ i a b).2.2.2 ho hne)⟩⟩
theorem Lp.snoc (h : Lp w B l q) (s t : Int) (wd : List Int) (p : Option Addr) (c : Nat) (ho : w.ownsRow B 3 1 (.slice p wd.length c) wd.length (wd.map (Value.int .i64))) : Lp w B (l ++ [((s, t), wd)]) (q ++ [⟨s, t, p, wd.length, c⟩]) := by
  refine ⟨by simp [h.len], fun i hi hi' => ?_⟩
  have hlen := h.len
  by_cases e : i < l.length
  · have e' : i < q.length := by omega
    simp only [List.getElem_append_left e, List.getElem_append_left e']
    exact h.at_ i e e'
  · have e2 : i = l.length := by simp at hi; omega
    subst e2
    have e3 : (q ++ [(⟨s, t, p, wd.length, c⟩ : Pd)])[l.length]'hi' = ⟨s, t, p, wd.length, c⟩ := by
      rw [List.getElem_append_right (by omega)]
      simp [hlen]
    have e4 : (l ++ [((s, t), wd)])[l.length]'hi = ((s, t), wd) := by
      rw [List.getElem_append_right (Nat.le_refl _)]
      simp
    rw [e3, e4]
    exact ⟨rfl, rfl, rfl, ho⟩
end

end Go.Proofs.YtaclgmhinljkbaaGreatDoor
namespace Go.Proofs.YtaclgmhinljkbaaGreatDoor
open Go.RowKit Go.Sort Go.Shelf Go.Lib

def kpR (both : Bool) (x : Int × Int) : Bool := decide (0 ≤ x.1) || (both && decide (0 ≤ x.2))
def isR (both : Bool) (x : Int × Int) : Bool := (decide (0 ≤ x.1) && decide (x.2 < 0)) || (both && (decide (x.1 < 0) && decide (0 ≤ x.2)))

theorem bAdd_lens {f g : List Ed} {kp : Int × Int → Bool} {x : Pw} {l : List Pw} {a k : Nat} (h1 : x.2.length ≤ k) (h2 : ∀ y ∈ l, y.2.length ≤ k + 1) : ∀ y ∈ bAdd f g kp x l a, y.2.length ≤ k + 1 := by
  unfold bAdd; split
  · intro y hy
    rcases List.mem_append.1 hy with hy | hy
    · exact h2 y hy
    · obtain rfl := List.mem_singleton.1 hy
      simpa using h1
  · exact h2
theorem bRow_lens {f g : List Ed} {kp : Int × Int → Bool} {x : Pw} {l : List Pw} {k : Nat} (h1 : x.2.length ≤ k) (h2 : ∀ y ∈ l, y.2.length ≤ k + 1) : ∀ L, ∀ y ∈ bRow f g kp x l L, y.2.length ≤ k + 1
  | 0 => h2
  | L + 1 => by rw [bRow_succ]; exact bAdd_lens h1 (bRow_lens h1 h2 L)

/-! ### Words, joined in memory -/
theorem wpList_app_both {ops : Array Oper} {rest : List Oper} {o : Oper} {a : Act} {Q : Exit → Act → World → Prop} {w : World} (hgd : o.guard = none) (s x : Operand)
    (ho : o.op = .call { callee := .builtin .append, args := #[s, x], argTypes := #[34, 34] }) (v u : Value) (hs : a.eval s = v) (hx : a.eval x = u) (B B2 n m : Nat) (xs ys : List Int)
    (h1 : w.ownsRow B 3 1 v n (xs.map (Value.int .i64))) (h2 : w.ownsRow B2 3 1 u m (ys.map (Value.int .i64))) (hb : n + m ≤ 100000) (hB : B ≤ w.heap.size)
    (h : ∀ v' w', w'.ownsRow B 3 1 v' (n + m) ((xs ++ ys).map (Value.int .i64)) → w.grownBy w' v.ownBlock → wpList Tryz.prog ops Q rest (a.put o.dst v') w') : wpList Tryz.prog ops Q (o :: rest) a w := by
  obtain ⟨j0, hj0, hy0, hy1, hy2⟩ := info_parts infoJ
  rcases h2.2 with ⟨rfl, h0⟩ | ⟨g, cap, cur, rfl, _⟩
  · subst h0
    have hm := h2.1
    have : ys = [] := List.length_eq_zero_iff.1 (by simpa using hm)
    subst this
    refine wpList_append_own_none hgd s x 34 ho B 3 j0 1 Tryz.underlying34 hj0 v n _ hs h1 hx ?_
    exact h v w (by simpa using h1) ⟨rfl, rfl, rfl, Nat.le_refl _, fun _ _ _ => rfl⟩
  · have hl : (ys.map (Value.int .i64)).length = m * 1 := h2.1
    refine wpList_append_own _ hgd s x 34 ho B 3 j0 (.int .i64 0) 1 8 Tryz.underlying34 hj0 hy0 hy1 hy2 rfl (by decide) v n _ hs h1 ⟨g, 0, none⟩ m cap _ hx hl (h2.cells (g := g) rfl) (by simp [Value.oneCell']) (by simp only [maxLen]; omega) (by omega) hB ?_
    intro v' w' hown hg _
    exact h v' w' (by rw [List.map_append]; exact hown) hg
theorem own_emptyI (w : World) : (w.alloc (.cells #[] 3)).ownsRow w.heap.size 3 1 (.slice (some ⟨w.heap.size, 0, none⟩) 0 0) 0 (([] : List Int).map (Value.int .i64)) :=
  ⟨rfl, .inr ⟨w.heap.size, 0, _, rfl, Nat.le_refl _, heap_alloc_new w _, Nat.le_refl _, by simp [maxLen], rfl, rfl⟩⟩
theorem own_oneI (w : World) (a : Int) : (w.alloc (.cells #[.int .i64 a] 3)).ownsRow w.heap.size 3 1 (.slice (some ⟨w.heap.size, 0, none⟩) 1 1) 1 ([a].map (Value.int .i64)) :=
  ⟨rfl, .inr ⟨w.heap.size, 1, _, rfl, Nat.le_refl _, heap_alloc_new w _, Nat.le_refl _, by simp [maxLen], rfl, rfl⟩⟩
theorem own_slP {w : World} {B e n c : Nat} {p : Option Addr} {l : List Int} (h : w.ownsRow B e 1 (.slice p l.length c) n (l.map (Value.int .i64))) : Sl w (Value.int .i64) p l := by
  obtain ⟨p', c', he, hs⟩ := own_sl h
  cases he
  exact hs
theorem ownP_shape {w : World} {B e n : Nat} {v : Value} {l : List Pd} (h : w.ownsRow B e 3 v n (catP l)) (hn : 0 < n) : ∃ g cap, v = .slice (some ⟨g, 0, none⟩) n cap := by
  rcases h.2 with ⟨rfl, h0⟩ | ⟨g, cap, cur, rfl, _⟩
  · omega
  · exact ⟨g, cap, rfl⟩
theorem own_ne_row3 {w : World} {B e n b cap g t : Nat} {xs l : List Value} (h : w.ownsRow B e 3 (.slice (some ⟨g, 0, none⟩) n cap) n xs) (hn : 2 ≤ n) (r : VRow w b t l) (hl : l.length = 3) : g ≠ b := by
  rintro rfl
  rcases h.2 with ⟨e0, _⟩ | ⟨g', cap', cur, e0, hg, hh, hc, hm, hs, ht⟩
  · cases e0
  · cases e0
    rw [show w.heap[g]? = _ from r] at hh
    simp at hh
    have : cur.size = 3 := by rw [← hh.1]; simpa using hl
    omega

end Go.Proofs.YtaclgmhinljkbaaGreatDoor
namespace Go.Proofs.YtaclgmhinljkbaaGreatDoor
open Go.RowKit Go.Sort Go.Shelf Go.Lib

theorem bAdd_congr {f g : List Ed} {kp kp' : Int × Int → Bool} (hk : ∀ x a, kp (stp f g x a) = kp' (stp f g x a)) (x : Pw) : bAdd f g kp x = bAdd f g kp' x := by
  funext l a; unfold bAdd; rw [hk]
theorem bfs_congr {f g : List Ed} {kp kp' is is' : Int × Int → Bool} {L : Nat} (hk : ∀ x a, kp (stp f g x a) = kp' (stp f g x a)) (hi : ∀ x, is x = is' x) : ∀ m i l, bfs f g kp is L m i l = bfs f g kp' is' L m i l
  | 0, _, _ => rfl
  | m + 1, i, l => by
    unfold bfs bRow
    cases h : l[i]? with
    | none => rfl
    | some x => simp only [hi, bAdd_congr hk x]; rw [show ∀ l', bfs f g kp is L m (i + 1) l' = bfs f g kp' is' L m (i + 1) l' from fun l' => bfs_congr hk hi m (i + 1) l']
theorem isR_true (x : Int × Int) : isR true x = oneB x := by
  obtain ⟨s, t⟩ := x
  unfold isR oneB
  by_cases h1 : s < 0 <;> by_cases h2 : t < 0 <;> simp [h1, h2] <;> omega
theorem kpR_true {x : Int × Int} (h1 : -1 ≤ x.1) (h2 : -1 ≤ x.2) : kpR true x = kpP x := by
  obtain ⟨s, t⟩ := x
  unfold kpR kpP
  rw [Bool.eq_iff_iff]
  simp only [Bool.true_and, Bool.or_eq_true, decide_eq_true_iff, Bool.not_eq_true', decide_eq_false_iff_not, Prod.mk.injEq]
  simp only at h1 h2
  omega
theorem sepR_eq {G : Gr} (hv : Vg G) (n m L : Nat) (s t : Int) : bfsA n m G.es G.es (kpR true) (isR true) L s t = bfsA n m G.es G.es kpP oneB L s t :=
  bfs_congr (fun x a => kpR_true (nxt_bd hv _ _).1 (nxt_bd hv _ _).1) isR_true _ _ _

end Go.Proofs.YtaclgmhinljkbaaGreatDoor
namespace Go.Proofs.YtaclgmhinljkbaaGreatDoor
open Go.RowKit

/-! ### The order of words -/
def lxt : List Int → List Int → Prop
  | a :: x, b :: y => a < b ∨ (a = b ∧ lxt x y)
  | _, _ => False
def slt (a b : List Int) : Prop := a.length < b.length ∨ (a.length = b.length ∧ lxt a b)
def sle (a b : List Int) : Prop := a = b ∨ slt a b
theorem lxt_irrefl : ∀ a : List Int, ¬ lxt a a
  | [], h => h
  | _ :: x, h => by rcases h with h | ⟨_, h⟩
                    · omega
                    · exact lxt_irrefl x h
theorem lxt_trans : ∀ {a b c : List Int}, lxt a b → lxt b c → lxt a c
  | a :: x, b :: y, c :: z, h, k => by
    rcases h with h | ⟨rfl, h⟩
    · rcases k with k | ⟨rfl, _⟩
      · exact .inl (by omega)
      · exact .inl h
    · rcases k with k | ⟨rfl, k⟩
      · exact .inl k
      · exact .inr ⟨rfl, lxt_trans h k⟩
theorem lxt_total : ∀ {a b : List Int}, a.length = b.length → a = b ∨ lxt a b ∨ lxt b a
  | [], [], _ => .inl rfl
  | [], _ :: _, h => by simp at h
  | _ :: _, [], h => by simp at h
  | a :: x, b :: y, h => by
    rcases Int.lt_trichotomy a b with h1 | h1 | h1
    · exact .inr (.inl (.inl h1))
    · subst h1
      rcases lxt_total (a := x) (b := y) (by simpa using h) with h2 | h2 | h2
      · subst h2; exact .inl rfl
      · exact .inr (.inl (.inr ⟨rfl, h2⟩))
      · exact .inr (.inr (.inr ⟨rfl, h2⟩))
    · exact .inr (.inr (.inl h1))
theorem lxt_app : ∀ {a b x y : List Int}, a.length = b.length → lxt a b → lxt (a ++ x) (b ++ y)
  | a :: u, b :: v, x, y, hl, h => by
    rcases h with h | ⟨rfl, h⟩
    · exact .inl h
    · exact .inr ⟨rfl, lxt_app (by simpa using hl) h⟩
theorem lxt_last : ∀ (u : List Int) {a b : Int}, a < b → lxt (u ++ [a]) (u ++ [b])
  | [], _, _, h => .inl h
  | _ :: u, _, _, h => .inr ⟨rfl, lxt_last u h⟩
theorem slt_irrefl (a : List Int) : ¬ slt a a := by
  rintro (h | ⟨_, h⟩)
  · omega
  · exact lxt_irrefl a h
theorem slt_trans {a b c : List Int} (h : slt a b) (k : slt b c) : slt a c := by
  rcases h with h | ⟨h, h'⟩ <;> rcases k with k | ⟨k, k'⟩
  · exact .inl (by omega)
  · exact .inl (by omega)
  · exact .inl (by omega)
  · exact .inr ⟨by omega, lxt_trans h' k'⟩
theorem slt_total (a b : List Int) : a = b ∨ slt a b ∨ slt b a := by
  rcases Nat.lt_trichotomy a.length b.length with h | h | h
  · exact .inr (.inl (.inl h))
  · rcases lxt_total h with h1 | h1 | h1
    · exact .inl h1
    · exact .inr (.inl (.inr ⟨h, h1⟩))
    · exact .inr (.inr (.inr ⟨h.symm, h1⟩))
  · exact .inr (.inr (.inl h))
theorem slt_snoc {u v : List Int} (h : slt u v) (a b : Int) : slt (u ++ [a]) (v ++ [b]) := by
  rcases h with h | ⟨h, h'⟩
  · exact .inl (by simp; omega)
  · exact .inr ⟨by simp [h], lxt_app h h'⟩
theorem slt_last (u : List Int) {a b : Int} (h : a < b) : slt (u ++ [a]) (u ++ [b]) := .inr ⟨by simp, lxt_last u h⟩
theorem slt_more (u : List Int) (b : Int) : slt u (u ++ [b]) := .inl (by simp)
theorem sle_snoc {u v : List Int} (h : sle u v) (b : Int) : sle (u ++ [b]) (v ++ [b]) := by
  rcases h with h | h
  · subst h; exact .inl rfl
  · exact .inr (slt_snoc h b b)
theorem sle_trans {a b c : List Int} (h : sle a b) (k : sle b c) : sle a c := by
  rcases h with rfl | h
  · exact k
  · rcases k with rfl | k
    · exact .inr h
    · exact .inr (slt_trans h k)
theorem sle_slt {a b c : List Int} (h : sle a b) (k : slt b c) : slt a c := by
  rcases h with rfl | h
  · exact k
  · exact slt_trans h k
theorem sle_app (u v : List Int) : sle u (u ++ v) := by
  cases v with
  | nil => exact .inl (by simp)
  | cons b v => exact .inr (.inl (by simp))

/-! ### Where words lead -/
def runP (f g : List Ed) (p : Int × Int) (w : List Int) : Int × Int := w.foldl (stp f g) p
theorem runP_snoc (f g : List Ed) (p : Int × Int) (w : List Int) (a : Int) : runP f g p (w ++ [a]) = stp f g (runP f g p w) a := by simp [runP]
theorem runP_app (f g : List Ed) (p : Int × Int) (w v : List Int) : runP f g p (w ++ v) = runP f g (runP f g p w) v := by simp [runP]
def Lab (L : Nat) (w : List Int) : Prop := ∀ a ∈ w, 0 ≤ a ∧ a < L
/-- What is not kept never leads to the property. -/
def Dead (f g : List Ed) (kp is : Int × Int → Bool) : Prop := ∀ p a, kp (stp f g p a) = false → ∀ w, is (runP f g (stp f g p a) w) = false
/-- A queue, of which the first i pairs were looked at, and number i for the first a labels. -/
structure Bi (f g : List Ed) (kp is : Int × Int → Bool) (L : Nat) (p0 : Int × Int) (i a : Nat) (l : List Pw) : Prop where
  run : ∀ x ∈ l, x.1 = runP f g p0 x.2 ∧ Lab L x.2
  one : ∃ h : 0 < l.length, l[0] = (p0, [])
  inc : l.Pairwise (fun x y => slt x.2 y.2)
  not_ : ∀ j (h : j < l.length), j < i → is l[j].1 = false
  clo : ∀ j (h : j < l.length) (b : Nat), b < L → (j < i ∨ (j = i ∧ b < a)) → kp (stp f g l[j].1 b) = true → ∃ x ∈ l, x.1 = stp f g l[j].1 b ∧ sle x.2 (l[j].2 ++ [(b : Int)])
  frm : ∀ x ∈ l, x.2 = [] ∨ ∃ j, ∃ h : j < l.length, ∃ b : Nat, (j < i ∨ (j = i ∧ b < a)) ∧ x.2 = l[j].2 ++ [(b : Int)]
section
variable {f g : List Ed} {kp is : Int × Int → Bool} {L : Nat} {p0 : Int × Int}
theorem Bi.start : Bi f g kp is L p0 0 0 [(p0, [])] where
  run x hx := by obtain rfl := List.mem_singleton.1 hx; exact ⟨rfl, fun a ha => by simp at ha⟩
  one := ⟨by simp, rfl⟩
  inc := by simp
  not_ j _ h := absurd h (by omega)
  clo j _ b _ h := by omega
  frm x hx := by obtain rfl := List.mem_singleton.1 hx; exact .inl rfl
theorem Bi.new {i a : Nat} {l : List Pw} (h : Bi f g kp is L p0 i a l) (hi : i < l.length) : ∀ x ∈ l, slt x.2 (l[i].2 ++ [(a : Int)]) := by
  intro x hx
  rcases h.frm x hx with e | ⟨j, hj, b, hjb, e⟩
  · rw [e]; exact .inl (by simp)
  · rw [e]
    rcases hjb with hji | ⟨rfl, hb⟩
    · exact slt_snoc (List.pairwise_iff_getElem.1 h.inc j i hj hi hji) _ _
    · exact slt_last _ (by omega)
theorem Bi.add {i a : Nat} {l : List Pw} (h : Bi f g kp is L p0 i a l) (hi : i < l.length) (ha : a < L) : Bi f g kp is L p0 i (a + 1) (bAdd f g kp l[i] l a) := by
  have hnew := h.new hi
  unfold bAdd
  split
  · rename_i hc
    have hg : ∀ j (hj : j < l.length), (l ++ [(stp f g l[i].1 a, l[i].2 ++ [(a : Int)])])[j]'(by simp; omega) = l[j] := fun j hj => List.getElem_append_left hj
    refine ⟨fun x hx => ?_, ?_, ?_, fun j hj hji => ?_, fun j hj b hb hjb hk => ?_, fun x hx => ?_⟩
    · rcases List.mem_append.1 hx with hx | hx
      · exact h.run x hx
      · obtain rfl := List.mem_singleton.1 hx
        obtain ⟨r1, r2⟩ := h.run _ (List.getElem_mem hi)
        refine ⟨?_, fun b hb => ?_⟩
        · show stp f g l[i].1 a = runP f g p0 (l[i].2 ++ [(a : Int)])
          rw [runP_snoc, ← r1]
        · rcases List.mem_append.1 hb with hb | hb
          · exact r2 b hb
          · obtain rfl := List.mem_singleton.1 hb; omega
    · obtain ⟨h0, h1⟩ := h.one
      exact ⟨by simp, by rw [hg 0 h0]; exact h1⟩
    · refine List.pairwise_append.2 ⟨h.inc, by simp, fun x hx y hy => ?_⟩
      obtain rfl := List.mem_singleton.1 hy
      exact hnew x hx
    · have hj' : j < l.length := by omega
      rw [hg j hj']; exact h.not_ j hj' hji
    · have hj' : j < l.length := by rcases hjb with h1 | ⟨h1, _⟩ <;> omega
      rw [hg j hj'] at hk ⊢
      by_cases e : j < i ∨ (j = i ∧ b < a)
      · obtain ⟨x, hx, e1, e2⟩ := h.clo j hj' b hb e hk
        exact ⟨x, List.mem_append_left _ hx, e1, e2⟩
      · have e1 : j = i := by omega
        have e2 : b = a := by omega
        subst e1; subst e2
        exact ⟨_, List.mem_append_right _ (List.mem_singleton.2 rfl), rfl, .inl rfl⟩
    · rcases List.mem_append.1 hx with hx | hx
      · rcases h.frm x hx with e | ⟨j, hj, b, hjb, e⟩
        · exact .inl e
        · exact .inr ⟨j, by simp; omega, b, by omega, by rw [hg j hj]; exact e⟩
      · obtain rfl := List.mem_singleton.1 hx
        exact .inr ⟨i, by simp; omega, a, .inr ⟨rfl, by omega⟩, by rw [hg i hi]⟩
  · rename_i hc
    refine ⟨h.run, h.one, h.inc, h.not_, fun j hj b hb hjb hk => ?_, fun x hx => ?_⟩
    · by_cases e : j < i ∨ (j = i ∧ b < a)
      · exact h.clo j hj b hb e hk
      · have e1 : j = i := by omega
        have e2 : b = a := by omega
        subst e1; subst e2
        have hm : stp f g l[j].1 b ∈ l.map Prod.fst := by
          by_cases hm : stp f g l[j].1 b ∈ l.map Prod.fst
          · exact hm
          · exact absurd ⟨hk, hm⟩ hc
        obtain ⟨x, hx, ex⟩ := List.mem_map.1 hm
        exact ⟨x, hx, ex, .inr (hnew x hx)⟩
    · rcases h.frm x hx with e | ⟨j, hj, b, hjb, e⟩
      · exact .inl e
      · exact .inr ⟨j, hj, b, by omega, e⟩
theorem Bi.row {i : Nat} {l : List Pw} (h : Bi f g kp is L p0 i 0 l) (hi : i < l.length) : ∀ a, a ≤ L → Bi f g kp is L p0 i a (bRow f g kp l[i] l a)
  | 0, _ => h
  | a + 1, ha => by
    have ih := h.row hi a (by omega)
    rw [bRow_succ]
    have hlen := bRow_len f g kp l[i] l a
    have e : (bRow f g kp l[i] l a)[i]'(by omega) = l[i] := by
      have := bRow_get f g kp l[i] l a i hi
      rw [List.getElem?_eq_getElem (by omega)] at this
      exact Option.some.inj this
    have := ih.add (by omega) (by omega : a < L)
    rw [e] at this; exact this
theorem Bi.next {i : Nat} {l : List Pw} (h : Bi f g kp is L p0 i L l) (hi : i < l.length) (hn : is l[i].1 = false) : Bi f g kp is L p0 (i + 1) 0 l where
  run := h.run
  one := h.one
  inc := h.inc
  not_ j hj hji := by
    by_cases e : j = i
    · subst e; exact hn
    · exact h.not_ j hj (by omega)
  clo j hj b hb hjb hk := h.clo j hj b hb (by omega) hk
  frm x hx := (h.frm x hx).imp id (fun ⟨j, hj, b, hjb, e⟩ => ⟨j, hj, b, by omega, e⟩)
/-- A word less than number i's that leads on is found below i. -/
theorem Bi.below {i : Nat} {l : List Pw} (h : Bi f g kp is L p0 i 0 l) (hd : Dead f g kp is) (bound : List Int → Prop) (hb1 : ∀ w x, x ∈ l → bound w → sle x.2 w → ∃ j, ∃ hj : j < l.length, j < i ∧ l[j] = x) (hpre : ∀ w v, bound (w ++ v) → bound w) (v : List Int) (hv : Lab L v) (hbv : bound v) (hi0 : 0 < i) (his : is (runP f g p0 v) = true) : False := by
  have key : ∀ (u r : List Int), u ++ r = v → ∃ j, ∃ hj : j < l.length, j < i ∧ l[j].1 = runP f g p0 u ∧ sle l[j].2 u := by
    intro u
    induction hlen : u.length generalizing u with
    | zero =>
      intro r _
      obtain rfl : u = [] := List.length_eq_zero_iff.1 hlen
      obtain ⟨h0, h1⟩ := h.one
      exact ⟨0, h0, hi0, by rw [h1]; rfl, by rw [h1]; exact .inl rfl⟩
    | succ n ih =>
      intro r hr
      obtain ⟨u', b, rfl⟩ : ∃ u' b, u = u' ++ [b] := ⟨u.dropLast, u.getLast (by intro e; subst e; simp at hlen), (List.dropLast_concat_getLast _).symm⟩
      obtain ⟨j, hj, hji, e1, e2⟩ := ih u' (by simpa using hlen) ([b] ++ r) (by rw [← hr]; simp)
      have hbm : b ∈ v := by rw [← hr]; simp
      have hbb := hv b hbm
      obtain ⟨B, rfl⟩ : ∃ B : Nat, b = B := ⟨b.toNat, by omega⟩
      have hk : kp (stp f g l[j].1 B) = true := by
        cases hk : kp (stp f g l[j].1 B)
        · have := hd _ _ hk r
          rw [e1, ← runP_snoc, ← runP_app, hr, his] at this; cases this
        · rfl
      obtain ⟨x, hx, x1, x2⟩ := h.clo j hj B (by omega) (.inl hji) hk
      have hle : sle x.2 (u' ++ [(B : Int)]) := sle_trans x2 (sle_snoc e2 _)
      obtain ⟨k, hk2, hki, hkx⟩ := hb1 (u' ++ [(B : Int)]) x hx (hpre _ r (by rw [hr]; exact hbv)) hle
      refine ⟨k, hk2, hki, ?_, by rw [hkx]; exact hle⟩
      rw [hkx, x1, e1, ← runP_snoc]
  obtain ⟨j, hj, hji, e1, _⟩ := key v [] (by simp)
  have := h.not_ j hj hji
  rw [e1, his] at this; cases this
/-- What the search answers. -/
theorem bfs_spec (hd : Dead f g kp is) : ∀ (m i : Nat) (l : List Pw), Bi f g kp is L p0 i 0 l → i ≤ l.length →
    (∀ w, bfs f g kp is L m i l = some w → Lab L w ∧ is (runP f g p0 w) = true ∧ ∀ v, Lab L v → is (runP f g p0 v) = true → sle w v)
  | 0, _, _, _, _, w, h => by cases h
  | m + 1, i, l, hB, hil, w, h => by
    by_cases hlt : i < l.length
    · cases his : is l[i].1
      · rw [bfs_next hlt his] at h
        have h1 := hB.row hlt L (Nat.le_refl _)
        have hlen := bRow_len f g kp l[i] l L
        have e : (bRow f g kp l[i] l L)[i]'(by omega) = l[i] := by
          have := bRow_get f g kp l[i] l L i hlt
          rw [List.getElem?_eq_getElem (by omega)] at this
          exact Option.some.inj this
        exact bfs_spec hd m (i + 1) _ (h1.next (by omega) (by rw [e]; exact his)) (by omega) w h
      · rw [bfs_hit hlt his] at h
        cases h
        obtain ⟨r1, r2⟩ := hB.run _ (List.getElem_mem hlt)
        refine ⟨r2, by rw [← r1]; exact his, fun v hv hvi => ?_⟩
        rcases slt_total l[i].2 v with e | e | e
        · exact .inl e
        · exact .inr e
        · exfalso
          have hi0 : 0 < i := by
            rcases Nat.eq_zero_or_pos i with h0 | h0
            · subst h0
              obtain ⟨g0, g1⟩ := hB.one
              rw [g1] at e
              rcases e with e | ⟨_, e⟩
              · simp at e
              · cases v with
                | nil => exact e.elim
                | cons b v => exact e.elim
            · exact h0
          refine hB.below hd (fun w => slt w l[i].2) (fun u x hx hu hle => ?_) (fun u r hur => sle_slt (sle_app u r) hur) v hv e hi0 hvi
          obtain ⟨j, hj, rfl⟩ := List.mem_iff_getElem.1 hx
          refine ⟨j, hj, ?_, rfl⟩
          have hlt2 := sle_slt hle hu
          rcases Nat.lt_trichotomy j i with h1 | h1 | h1
          · exact h1
          · subst h1; exact absurd hlt2 (slt_irrefl _)
          · exact absurd (slt_trans hlt2 (List.pairwise_iff_getElem.1 hB.inc i j hlt hj h1)) (slt_irrefl _)
    · rw [bfs_end (by omega)] at h; cases h
theorem bfs_none (hd : Dead f g kp is) {n k : Nat} (hf : ∀ s a, -1 ≤ nxt f s a ∧ nxt f s a < n) (hg : ∀ s a, -1 ≤ nxt g s a ∧ nxt g s a < k) : ∀ (m i : Nat) (l : List Pw), Bi f g kp is L p0 i 0 l → Bq n k l → i ≤ l.length → (n + 1) * (k + 1) < m + i → bfs f g kp is L m i l = none →
    ∀ v, Lab L v → is (runP f g p0 v) = false
  | 0, i, l, hB, hq, hil, hm, _, v, hv => by
    have := hq.len; omega
  | m + 1, i, l, hB, hq, hil, hm, h, v, hv => by
    by_cases hlt : i < l.length
    · cases his : is l[i].1
      · rw [bfs_next hlt his] at h
        have h1 := hB.row hlt L (Nat.le_refl _)
        have hlen := bRow_len f g kp l[i] l L
        have e : (bRow f g kp l[i] l L)[i]'(by omega) = l[i] := by
          have := bRow_get f g kp l[i] l L i hlt
          rw [List.getElem?_eq_getElem (by omega)] at this
          exact Option.some.inj this
        exact bfs_none hd hf hg m (i + 1) _ (h1.next (by omega) (by rw [e]; exact his)) (hq.row hf hg L) (by omega) (by omega) h v hv
      · rw [bfs_hit hlt his] at h; cases h
    · cases hvi : is (runP f g p0 v)
      · rfl
      · exfalso
        obtain ⟨g0, _⟩ := hB.one
        refine hB.below hd (fun _ => True) (fun u x hx _ _ => ?_) (fun _ _ _ => trivial) v hv trivial (by omega) hvi
        obtain ⟨j, hj, rfl⟩ := List.mem_iff_getElem.1 hx
        exact ⟨j, hj, by omega, rfl⟩
end
/-- The search, from its beginning. -/
theorem bfsA_some {f g : List Ed} {kp is : Int × Int → Bool} {L n k : Nat} {s t : Int} (hd : Dead f g kp is) {w : List Int} (h : bfsA n k f g kp is L s t = some w) : Lab L w ∧ is (runP f g (s, t) w) = true ∧ ∀ v, Lab L v → is (runP f g (s, t) v) = true → sle w v :=
  bfs_spec hd _ 0 _ Bi.start (by simp) w h
theorem bfsA_none {f g : List Ed} {kp is : Int × Int → Bool} {L n k : Nat} {s t : Int} (hd : Dead f g kp is) (hf : ∀ s a, -1 ≤ nxt f s a ∧ nxt f s a < n) (hg : ∀ s a, -1 ≤ nxt g s a ∧ nxt g s a < k) (h1 : -1 ≤ s) (h2 : s < n) (h3 : -1 ≤ t) (h4 : t < k) (h : bfsA n k f g kp is L s t = none) :
    ∀ v, Lab L v → is (runP f g (s, t) v) = false :=
  bfs_none hd hf hg _ 0 _ Bi.start (Bq.one h1 h2 h3 h4) (by simp) (by omega) h
theorem sle_anti {a b : List Int} (h : sle a b) (k : sle b a) : a = b := by
  rcases h with h | h
  · exact h
  · rcases k with k | k
    · exact k.symm
    · exact absurd (slt_trans h k) (slt_irrefl _)
/-- Two searches for the same property answer alike. -/
theorem bfsA_same {f g : List Ed} {kp kp' is is' : Int × Int → Bool} {L n k n' k' : Nat} {s t : Int} (hd : Dead f g kp is) (hd' : Dead f g kp' is') (hf : ∀ s a, -1 ≤ nxt f s a ∧ nxt f s a < n) (hg : ∀ s a, -1 ≤ nxt g s a ∧ nxt g s a < k) (hf' : ∀ s a, -1 ≤ nxt f s a ∧ nxt f s a < n') (hg' : ∀ s a, -1 ≤ nxt g s a ∧ nxt g s a < k')
    (h1 : -1 ≤ s) (h2 : s < n) (h3 : -1 ≤ t) (h4 : t < k) (h2' : s < n') (h4' : t < k') (hs : ∀ p, is p = is' p) : bfsA n k f g kp is L s t = bfsA n' k' f g kp' is' L s t := by
  cases e : bfsA n k f g kp is L s t with
  | none =>
    have a := bfsA_none hd hf hg h1 h2 h3 h4 e
    cases e' : bfsA n' k' f g kp' is' L s t with
    | none => rfl
    | some w =>
      obtain ⟨b1, b2, _⟩ := bfsA_some hd' e'
      rw [← hs, a w b1] at b2; cases b2
  | some w =>
    obtain ⟨a1, a2, a3⟩ := bfsA_some hd e
    cases e' : bfsA n' k' f g kp' is' L s t with
    | none =>
      have b := bfsA_none hd' hf' hg' h1 h2' h3 h4' e' w a1
      rw [← hs, a2] at b; cases b
    | some v =>
      obtain ⟨b1, b2, b3⟩ := bfsA_some hd' e'
      rw [sle_anti (a3 v b1 (by rw [hs]; exact b2)) (b3 w a1 (by rw [← hs]; exact a2))]
end Go.Proofs.YtaclgmhinljkbaaGreatDoor
namespace Go.Proofs.YtaclgmhinljkbaaGreatDoor
open Go.RowKit

/-! ### Runs of one state -/
def run1 (es : List Ed) (s : Int) (w : List Int) : Int := w.foldl (nxt es) s
theorem run1_cons (es : List Ed) (s a : Int) (w : List Int) : run1 es s (a :: w) = run1 es (nxt es s a) w := rfl
theorem run1_neg {es : List Ed} : ∀ (w : List Int) {s : Int}, s < 0 → run1 es s w < 0
  | [], s, h => h
  | a :: w, s, h => by rw [run1_cons, nxt_neg h]; exact run1_neg w (by omega)
theorem run1_bd {es : List Ed} {n : Nat} (hb : ∀ s a, -1 ≤ nxt es s a ∧ nxt es s a < n) : ∀ (w : List Int) {s : Int}, -1 ≤ s → s < n → -1 ≤ run1 es s w ∧ run1 es s w < n
  | [], s, h, h2 => ⟨h, h2⟩
  | a :: w, s, _, _ => by rw [run1_cons]; exact run1_bd hb w (hb s a).1 (hb s a).2
theorem runP_run1 (f g : List Ed) : ∀ (w : List Int) (s t : Int), runP f g (s, t) w = (run1 f s w, run1 g t w)
  | [], s, t => rfl
  | a :: w, s, t => by
    show runP f g (stp f g (s, t) a) w = _
    rw [show stp f g (s, t) a = (nxt f s a, nxt g t a) from rfl, runP_run1 f g w, run1_cons, run1_cons]
theorem oneB_iff (s t : Int) : oneB (s, t) = false ↔ (s < 0 ↔ t < 0) := by
  unfold oneB
  by_cases h1 : s < 0 <;> by_cases h2 : t < 0 <;> simp [h1, h2]
theorem dead_one (es : List Ed) : Dead es es kpP oneB := by
  intro p a h w
  have e : stp es es p a = (-1, -1) := by
    unfold kpP at h
    simpa using h
  rw [e, runP_run1, oneB_iff]

/-! ### Classes -/
theorem cls_agree {q n : Nat} {es : List Ed} (hb : ∀ s a, tgt es s a < n) {r s : Nat} (hr : r < n) (hs : s < n) (h : cg (clsN q n es n) r = cg (clsN q n es n) s) :
    ∀ w, Lab q w → (run1 es r w < 0 ↔ run1 es s w < 0) := by
  intro w
  induction w generalizing r s with
  | nil => intro _; show ((r : Int) < 0 ↔ (s : Int) < 0); omega
  | cons a w ih =>
    intro hl
    have ha := hl a (by simp)
    obtain ⟨A, rfl⟩ : ∃ A : Nat, a = A := ⟨a.toNat, by omega⟩
    have h2 : relA q es (clsN q n es n) r s = true := by
      rw [← eqA_succ n hr hs, cls_fix]
      unfold eqA
      rw [decide_eq_true_iff]; exact h
    obtain ⟨_, h3⟩ := relA_iff.1 h2
    obtain ⟨h4, h5⟩ := h3 A (by omega)
    rw [run1_cons, run1_cons, nxt_pos (by omega), nxt_pos (by omega)]
    by_cases hn : tgt es (r : Int) (A : Int) < 0
    · have hn2 := h4.1 hn
      have e1 := run1_neg (es := es) w hn
      have e2 := run1_neg (es := es) w hn2
      exact ⟨fun _ => e2, fun _ => e1⟩
    · have hn2 : ¬ tgt es (s : Int) (A : Int) < 0 := fun h => hn (h4.2 h)
      have hc := h5 (by omega)
      have hb1 := hb r A
      have hb2 := hb s A
      obtain ⟨r', hr'⟩ : ∃ r' : Nat, tgt es (r : Int) (A : Int) = r' := ⟨(tgt es (r : Int) (A : Int)).toNat, by omega⟩
      obtain ⟨s', hs'⟩ : ∃ s' : Nat, tgt es (s : Int) (A : Int) = s' := ⟨(tgt es (s : Int) (A : Int)).toNat, by omega⟩
      rw [hr'] at hc hb1 ⊢
      rw [hs'] at hc hb2 ⊢
      exact ih (by omega) (by omega) hc (fun x hx => hl x (by simp [hx]))
theorem cls_of_agree {q n : Nat} {es : List Ed} (hb : ∀ s a, tgt es s a < n) : ∀ (k : Nat) {r s : Nat}, r < n → s < n → (∀ w, Lab q w → (run1 es r w < 0 ↔ run1 es s w < 0)) → cg (clsN q n es k) r = cg (clsN q n es k) s
  | 0, r, s, _, _, _ => by rw [cg_zero, cg_zero]
  | k + 1, r, s, hr, hs, h => by
    rw [cg_succ k hr, cg_succ k hs]
    refine (numR_iff (relA_eqv _ _ _)).2 (relA_iff.2 ⟨cls_of_agree hb k hr hs h, fun a ha => ?_⟩)
    have h1 := h [(a : Int)] (fun x hx => by obtain rfl := List.mem_singleton.1 hx; omega)
    have e1 : ∀ x : Nat, run1 es x [(a : Int)] = tgt es x a := fun x => by rw [run1_cons, nxt_pos (by omega)]; rfl
    rw [e1, e1] at h1
    refine ⟨h1, fun h0 => ?_⟩
    have h02 : ¬ tgt es (s : Int) (a : Int) < 0 := fun h => by have := h1.2 h; omega
    have hb1 := hb r a
    have hb2 := hb s a
    have hw : ∀ w, Lab q w → (run1 es (tgt es (r : Int) (a : Int)) w < 0 ↔ run1 es (tgt es (s : Int) (a : Int)) w < 0) := fun w hw => by
      have h2 := h ((a : Int) :: w) (fun x hx => by
        rcases List.mem_cons.1 hx with rfl | hx
        · omega
        · exact hw x hx)
      rw [run1_cons, run1_cons, nxt_pos (by omega), nxt_pos (by omega)] at h2
      exact h2
    obtain ⟨r', hr'⟩ : ∃ r' : Nat, tgt es (r : Int) (a : Int) = r' := ⟨(tgt es (r : Int) (a : Int)).toNat, by omega⟩
    obtain ⟨s', hs'⟩ : ∃ s' : Nat, tgt es (s : Int) (a : Int) = s' := ⟨(tgt es (s : Int) (a : Int)).toNat, by omega⟩
    rw [hr'] at hw hb1 ⊢
    rw [hs'] at hw hb2 ⊢
    exact cls_of_agree hb k (by omega) (by omega) hw
theorem tgt_lt {G : Gr} (hv : Vg G) (s a : Int) : tgt G.es s a < (G.n.toNat : Int) ∨ G.n.toNat = 0 := by
  have := tgt_bd hv s a; have := hv.n1; omega
/-- A word separates two states exactly if their classes differ. -/
theorem sep_cls {G : Gr} (hv : Vg G) {r s : Nat} (hr : r < G.n.toNat) (hs : s < G.n.toNat) : (fwA (sepO G r s)).2 = !decide (cg (clA G) r = cg (clA G) s) := by
  have hb : ∀ s a, tgt G.es s a < (G.n.toNat : Int) := fun s a => by rcases tgt_lt hv s a with h | h <;> omega
  have hx : ∀ s a, -1 ≤ nxt G.es s a ∧ nxt G.es s a < (G.n.toNat : Int) := fun s a => by have := nxt_bd hv s a; have := hv.n1; omega
  cases ho : sepO G r s with
  | none =>
    have h := bfsA_none (dead_one G.es) hx hx (by omega) (by omega) (by omega) (by omega) ho
    have e : cg (clA G) r = cg (clA G) s := cls_of_agree hb _ hr hs (fun w hw => by have := h w hw; rw [runP_run1, oneB_iff] at this; exact this)
    simp [fwA, e]
  | some w =>
    obtain ⟨h1, h2, _⟩ := bfsA_some (dead_one G.es) ho
    have e : cg (clA G) r ≠ cg (clA G) s := fun e => by
      have h3 := cls_agree hb hr hs e w h1
      rw [runP_run1, (oneB_iff _ _).2 h3] at h2
      cases h2
    simp [fwA, e]
/-- A word that is found is one of exactly one of the two states. -/
theorem sep_word {G : Gr} {r s : Int} {w : List Int} (h : sepO G r s = some w) : Lab G.q.toNat w ∧ (decide (0 ≤ run1 G.es r w) != decide (0 ≤ run1 G.es s w)) = true := by
  obtain ⟨h1, h2, _⟩ := bfsA_some (dead_one G.es) h
  refine ⟨h1, ?_⟩
  rw [runP_run1] at h2
  unfold oneB at h2
  by_cases h3 : run1 G.es r w < 0 <;> by_cases h4 : run1 G.es s w < 0 <;> simp_all <;> omega

/-! ### Sets of one state, at most -/
def toS (x : Int) : List Int := if x < 0 then [] else [x]
theorem toS_pos (x : Int) : (0 < (toS x).length) ↔ 0 ≤ x := by unfold toS; split <;> simp <;> omega
theorem filter_one : ∀ (n : Nat) (p : Int → Bool) (y : Int), 0 ≤ y → y < n → (∀ x, p x = true ↔ x = y) → (upto n).filter p = [y]
  | 0, p, y, h1, h2, _ => by omega
  | n + 1, p, y, h1, h2, h => by
    rw [uptof_succ]
    by_cases e : y = n
    · have h3 : (upto n).filter p = [] := by
        rw [List.filter_eq_nil_iff]
        intro a ha hp
        have := (h a).1 hp
        simp only [upto, List.mem_map, List.mem_range] at ha
        obtain ⟨i, hi, rfl⟩ := ha
        omega
      rw [h3, if_pos ((h _).2 e.symm), e]; rfl
    · rw [filter_one n p y h1 (by omega) h, if_neg (fun hp => e ((h _).1 hp).symm)]; simp
theorem next_toS {G : Gr} (hv : Vg G) (hu : Uq G.es) (x b : Int) : nextA G (toS x) b = toS (nxt G.es x b) := by
  unfold toS
  by_cases hx : x < 0
  · rw [if_pos hx, nxt_neg hx, if_pos (by omega)]
    unfold nextA
    rw [List.filter_eq_nil_iff]
    intro a _ h
    obtain ⟨y, _, hy⟩ := List.any_eq_true.1 h
    simp [nxE] at hy
  · rw [if_neg hx, nxt_pos hx]
    by_cases ht : tgt G.es x b < 0
    · rw [if_pos ht]
      unfold nextA
      rw [List.filter_eq_nil_iff]
      intro a _ h
      obtain ⟨y, hy, h2⟩ := List.any_eq_true.1 h
      simp [nxE] at h2
      have := tgt_at hu hy
      rw [h2.2.2, h2.2.1] at this
      have h5 := hv.ins y hy
      omega
    · rw [if_neg ht]
      have hb := tgt_bd hv x b
      refine filter_one _ _ _ (by omega) (by have := hv.n1; omega) (fun a => ?_)
      constructor
      · intro h
        obtain ⟨y, hy, h2⟩ := List.any_eq_true.1 h
        simp [nxE] at h2
        have := tgt_at hu hy
        rw [h2.2.2, h2.2.1] at this
        rw [this]; exact h2.1.symm
      · rintro rfl
        obtain ⟨y, hy, h2, h3, h4⟩ := tgt_mem (es := G.es) (s := x) (a := b) (by omega)
        refine List.any_eq_true.2 ⟨y, hy, ?_⟩
        simp [nxE, h2, h3, h4]
end Go.Proofs.YtaclgmhinljkbaaGreatDoor
namespace Go.Proofs.YtaclgmhinljkbaaGreatDoor
open Go.RowKit

def incB (x : Int × Int) : Bool := decide (0 ≤ x.1) && decide (x.2 < 0)
theorem oneB_inc (s t : Int) : oneB (s, t) = (incB (s, t) || incB (t, s)) := by
  unfold oneB incB
  by_cases h1 : s < 0 <;> by_cases h2 : t < 0 <;> simp [h1, h2] <;> omega
theorem dead_of {f g : List Ed} {is : Int × Int → Bool} (h : ∀ s t, s < 0 → t < 0 → is (s, t) = false) : Dead f g kpP is := by
  intro p a hk w
  have e : stp f g p a = (-1, -1) := by
    unfold kpP at hk
    simpa using hk
  rw [e, runP_run1]
  exact h _ _ (run1_neg w (by omega)) (run1_neg w (by omega))
theorem dead_inc (f g : List Ed) : Dead f g kpP incB := dead_of (fun s t h1 h2 => by unfold incB; simp; omega)
theorem dead_one2 (f g : List Ed) : Dead f g kpP oneB := dead_of (fun s t h1 h2 => by unfold oneB; simp [h1, h2])

section
variable {f g : List Ed} {n m L : Nat} {s t : Int}
variable (hf : ∀ s a, -1 ≤ nxt f s a ∧ nxt f s a < n) (hg : ∀ s a, -1 ≤ nxt g s a ∧ nxt g s a < m) (h1 : -1 ≤ s) (h2 : s < n) (h3 : -1 ≤ t) (h4 : t < m)
/-- What a search finds: the least word of a kind; none if there is none. -/
def Least (L : Nat) (P : List Int → Bool) (o : Option (List Int)) : Prop := match o with
  | some w => Lab L w ∧ P w = true ∧ ∀ v, Lab L v → P v = true → sle w v
  | none => ∀ v, Lab L v → P v = false
theorem Least.same {P Q : List Int → Bool} {o o' : Option (List Int)} (h : Least L P o) (k : Least L Q o') (e : ∀ v, Lab L v → P v = Q v) : o = o' := by
  cases o with
  | none =>
    cases o' with
    | none => rfl
    | some w => have := h w k.1; rw [e w k.1, k.2.1] at this; cases this
  | some w =>
    cases o' with
    | none => have := k w h.1; rw [← e w h.1, h.2.1] at this; cases this
    | some v =>
      have a := h.2.2 v k.1 (by rw [e v k.1]; exact k.2.1)
      have b := k.2.2 w h.1 (by rw [← e w h.1]; exact h.2.1)
      rw [sle_anti a b]
include hf hg h1 h2 h3 h4 in
theorem least_of {is : Int × Int → Bool} (hd : Dead f g kpP is) : Least L (fun w => is (runP f g (s, t) w)) (bfsA n m f g kpP is L s t) := by
  cases h : bfsA n m f g kpP is L s t with
  | none => exact bfsA_none hd hf hg h1 h2 h3 h4 h
  | some w => exact bfsA_some hd h
/-- The least word of two kinds together. -/
theorem Least.or {P Q R : List Int → Bool} {a b x : Option (List Int)} (ha : Least L P a) (hb : Least L Q b) (hx : Least L R x) (e : ∀ v, Lab L v → R v = (P v || Q v)) :
    (x = none ↔ a = none ∧ b = none) ∧ (a = none → x = b) ∧ (b = none → x = a) ∧ (∀ u v, a = some u → b = some v → (slt v u → x = b) ∧ (¬ slt v u → x = a)) := by
  refine ⟨⟨?_, ?_⟩, ?_, ?_, ?_⟩
  · rintro rfl
    refine ⟨?_, ?_⟩
    · cases a with
      | none => rfl
      | some u => have := hx u ha.1; rw [e u ha.1, ha.2.1] at this; cases this
    · cases b with
      | none => rfl
      | some u => have := hx u hb.1; rw [e u hb.1, hb.2.1, Bool.or_true] at this; cases this
  · rintro ⟨rfl, rfl⟩
    cases x with
    | none => rfl
    | some w => have := hx.2.1; rw [e w hx.1, ha w hx.1, hb w hx.1] at this; cases this
  · rintro rfl
    exact hx.same hb (fun v hv => by rw [e v hv, ha v hv, Bool.false_or])
  · rintro rfl
    exact hx.same ha (fun v hv => by rw [e v hv, hb v hv, Bool.or_false])
  · rintro u v rfl rfl
    refine ⟨fun hlt => ?_, fun hlt => ?_⟩
    · refine hx.same (Q := R) (o' := some v) ⟨hb.1, by rw [e v hb.1, hb.2.1, Bool.or_true], fun z hz hr => ?_⟩ (fun _ _ => rfl)
      rw [e z hz, Bool.or_eq_true] at hr
      rcases hr with hr | hr
      · have := ha.2.2 z hz hr
        rcases this with rfl | h
        · exact .inr hlt
        · exact .inr (slt_trans hlt h)
      · exact hb.2.2 z hz hr
    · refine hx.same (Q := R) (o' := some u) ⟨ha.1, by rw [e u ha.1, ha.2.1, Bool.true_or], fun z hz hr => ?_⟩ (fun _ _ => rfl)
      rw [e z hz, Bool.or_eq_true] at hr
      have huv : sle u v := by
        rcases slt_total u v with h | h | h
        · exact .inl h
        · exact .inr h
        · exact absurd h hlt
      rcases hr with hr | hr
      · exact ha.2.2 z hz hr
      · exact sle_trans huv (hb.2.2 z hz hr)
end
/-- The laws of MinimalEquals: for two graphs, from their states. -/
theorem equal_laws {f g : List Ed} {n m L : Nat} {s t : Int} (hf : ∀ s a, -1 ≤ nxt f s a ∧ nxt f s a < n) (hg : ∀ s a, -1 ≤ nxt g s a ∧ nxt g s a < m) (h1 : -1 ≤ s) (h2 : s < n) (h3 : -1 ≤ t) (h4 : t < m) :
    bfsA n m f g kpP oneB L s t = bfsA m n g f kpP oneB L t s ∧
    ((bfsA n m f g kpP oneB L s t = none ↔ bfsA n m f g kpP incB L s t = none ∧ bfsA m n g f kpP incB L t s = none) ∧
      (bfsA n m f g kpP incB L s t = none → bfsA n m f g kpP oneB L s t = bfsA m n g f kpP incB L t s) ∧
      (bfsA m n g f kpP incB L t s = none → bfsA n m f g kpP oneB L s t = bfsA n m f g kpP incB L s t) ∧
      (∀ u v, bfsA n m f g kpP incB L s t = some u → bfsA m n g f kpP incB L t s = some v → (slt v u → bfsA n m f g kpP oneB L s t = bfsA m n g f kpP incB L t s) ∧ (¬ slt v u → bfsA n m f g kpP oneB L s t = bfsA n m f g kpP incB L s t))) := by
  have hE := least_of (L := L) hf hg h1 h2 h3 h4 (dead_one2 f g)
  have hY := least_of (L := L) hg hf h3 h4 h1 h2 (dead_one2 g f)
  have hA := least_of (L := L) hf hg h1 h2 h3 h4 (dead_inc f g)
  have hB := least_of (L := L) hg hf h3 h4 h1 h2 (dead_inc g f)
  refine ⟨hE.same hY (fun v _ => ?_), hA.or hB hE (fun v _ => ?_)⟩
  · simp only [runP_run1, oneB_inc]
    exact Bool.or_comm _ _
  · simp only [runP_run1, oneB_inc]
/-- The law of MinimalIncludes: no word found means that all words of the one are words of the other; a word found is one of exactly the first. -/
theorem include_laws {f g : List Ed} {n m L : Nat} {s t : Int} (hf : ∀ s a, -1 ≤ nxt f s a ∧ nxt f s a < n) (hg : ∀ s a, -1 ≤ nxt g s a ∧ nxt g s a < m) (h1 : -1 ≤ s) (h2 : s < n) (h3 : -1 ≤ t) (h4 : t < m) :
    match bfsA n m f g kpP incB L s t with
    | some w => Lab L w ∧ 0 ≤ run1 f s w ∧ run1 g t w < 0
    | none => ∀ v, Lab L v → 0 ≤ run1 f s v → 0 ≤ run1 g t v := by
  have hA := least_of (L := L) hf hg h1 h2 h3 h4 (dead_inc f g)
  cases h : bfsA n m f g kpP incB L s t with
  | none =>
    rw [h] at hA
    intro v hv h0
    have := hA v hv
    simp only [runP_run1, incB] at this
    by_cases h5 : run1 g t v < 0
    · simp [h0, h5] at this
    · omega
  | some w =>
    rw [h] at hA
    obtain ⟨k1, k2, _⟩ := hA
    simp only [runP_run1, incB, Bool.and_eq_true, decide_eq_true_iff] at k2
    exact ⟨k1, k2.1, k2.2⟩
end Go.Proofs.YtaclgmhinljkbaaGreatDoor
