/-
  Words, plain lemmas and walks, merged: Nn, Nh, Ni, Nq, No.
-/
import Derived.Test.YtocbhlohcikapaaGreatDoorZqg
import Derived.Test.YtocbhlohcikapaaGreatDoorZqa
import Derived.Lib.OwnBridge
import Derived.Test.YtocbhlohcikapaaGreatDoorZqc
set_option linter.unusedVariables false
set_option linter.unusedSimpArgs false
namespace Go.Proofs.YtocbhlohcikapaaGreatDoor
open Go.RowKit Go.Sort Go.Shelf Go.Lib

def fwA (o : Option (List Int)) : List Int × Bool := match o with
  | some w => (w, true)
  | none => ([], false)
def kpP (q : Int × Int) : Bool := !decide (q = (-1, -1))
/-- What a function value for a condition gives. -/
def IsAt (n m : Nat) (isb : Int × Int → Bool) (g : Nat) (lb : Array Value) (w : World) : Prop :=
  ∀ (W : World) (s t : Int), RowKit.Below w.heap.size w W → -1 ≤ s → s < n → -1 ≤ t → t < m → Calls Tryz.prog g (#[.agg #[.int .i64 s, .int .i64 t]] ++ lb) W fun e w' => e = .returned (.bool (isb (s, t))) ∧ RowKit.Below W.heap.size W w'
def RetFw (o : Option (List Int)) (w : World) (e : Ending) (w' : World) : Prop :=
  ∃ q d, e = .returned (.tuple #[.slice q (fwA o).1.length d, .bool (fwA o).2]) ∧ Sl w' (Value.int .i64) q (fwA o).1 ∧ RowKit.Below w.heap.size w w'
theorem Mp.cells_ne {α β : Type} {kv : α → Value} {ok : α → Prop} {vv : β → Value} {w : World} {b : Nat} {f : α → Option β} (h : Mp kv ok vv w b f) {B e size n : Nat} {v : Value} {xs : List Value} (ho : w.ownsRow B e size v n xs) : v.ownBlock ≠ some b := by
  obtain ⟨es, cl, hb, _⟩ := h
  rcases ho.2 with ⟨rfl, _⟩ | ⟨g, cap, cur, rfl, hg, hh, _⟩
  · intro e; cases e
  · intro e
    have e : g = b := by simpa [Value.ownBlock] using e
    subst e
    rw [hb] at hh; cases hh
theorem ownF_new (w : World) (x : Fd) (B : Nat) (hB : B ≤ w.heap.size) : (w.alloc (.cells (fdE x).toArray 170)).ownsRow B 170 4 (.slice (some ⟨w.heap.size, 0, none⟩) 1 1) 1 (catF [x]) :=
  ⟨rfl, .inr ⟨w.heap.size, 1, _, rfl, hB, heap_alloc_new w _, Nat.le_refl _, by simp [maxLen], rfl, rfl⟩⟩
theorem cell_new4 (w : World) (x : Fd) : ∀ (j : Nat) (u : Value), (catF [x])[j]? = some u → (w.alloc (.cells (fdE x).toArray 170)).cell? ((⟨w.heap.size, 0, none⟩ : Addr).add j) = some u := by
  intro j u hu
  rw [show (⟨w.heap.size, 0, none⟩ : Addr).add j = ⟨w.heap.size, 0 + j, none⟩ by unfold Addr.add; split <;> simp_all, Nat.zero_add]
  have h : VRow (w.alloc (.cells (fdE x).toArray 170)) w.heap.size 170 (fdE x) := VRow.new w _ _
  rw [h.cell]
  simpa [catF] using hu
theorem own_downN {w : World} {B B' e n size : Nat} {v : Value} {xs : List Value} (h : w.ownsRow B' e size v n xs) (hB : B ≤ B') : w.ownsRow B e size v n xs := ⟨h.1, h.2.imp id (fun ⟨g, cap, cur, a, b, z⟩ => ⟨g, cap, cur, a, Nat.le_trans hB b, z⟩)⟩
theorem Mp.below' {α β : Type} {kv : α → Value} {ok : α → Prop} {vv : β → Value} {w w' : World} {b : Nat} {f : α → Option β} (h : Mp kv ok vv w b f) (hB : RowKit.Below w.heap.size w w') : Mp kv ok vv w' b f := h.below hB h.lt

theorem own_ne_row {w : World} {B e size n b t : Nat} {v : Value} {xs l : List Value} (h : w.ownsRow B e size v n xs) (r : VRow w b t l) (hne : t ≠ e) : v.ownBlock ≠ some b := by
  rcases h.2 with ⟨rfl, _⟩ | ⟨g, cap, cur, rfl, hg, hh, _⟩
  · intro e; cases e
  · intro e1
    have e1 : g = b := by simpa [Value.ownBlock] using e1
    subst e1
    rw [show w.heap[g]? = _ from r] at hh
    simp at hh
    exact hne hh.2
theorem Mp.ne_row {α β : Type} {kv : α → Value} {ok : α → Prop} {vv : β → Value} {w : World} {b : Nat} {f : α → Option β} (h : Mp kv ok vv w b f) {b' t : Nat} {l : List Value} (r : VRow w b' t l) : b' ≠ b := by
  obtain ⟨es, cl, hb, _⟩ := h
  intro e; subst e
  rw [show w.heap[b']? = _ from r] at hb; cases hb
theorem seen_look {w : World} {b : Nat} {l : List Pw} (h : Mp kP okP Value.bool w b (seenF l)) {s t : Int} (hs : okP (s, t)) : (Instr.lookup 172 (.map (some b)) (.agg #[.int .i64 s, .int .i64 t]) false).run Tryz.prog w = .ok (.bool (decide ((s, t) ∈ l.map Prod.fst))) w := by
  have hl : (Instr.lookup 172 (.map (some b)) (.agg #[.int .i64 s, .int .i64 t]) false).run Tryz.prog w = _ := h.look keyP Tryz.underlying172 (zeroB w) (s, t) hs false
  rw [hl]
  unfold seenF
  by_cases hm : (s, t) ∈ l.map Prod.fst
  · rw [if_pos hm, decide_eq_true hm]; rfl
  · rw [if_neg hm, decide_eq_false hm]; rfl
theorem ownF_shape {w : World} {B e n : Nat} {v : Value} {l : List Fd} (h : w.ownsRow B e 4 v n (catF l)) (hn : 0 < n) : ∃ g cap, v = .slice (some ⟨g, 0, none⟩) n cap := by
  rcases h.2 with ⟨rfl, h0⟩ | ⟨g, cap, cur, rfl, _⟩
  · omega
  · exact ⟨g, cap, rfl⟩
theorem own_holdsI {w : World} {B e n cap g : Nat} {zs : List Int} (h : w.ownsRow B e 1 (.slice (some ⟨g, 0, none⟩) n cap) n (zs.map (Value.int .i64))) : Holds (Value.int .i64) w g 0 zs.toArray := by
  have hn : zs.length = n := by have := h.1; simpa using this
  intro j hj
  have hj' : j < zs.length := by simpa using hj
  rw [Nat.zero_add, h.cellAt j (by omega), getElem!_pos _ j hj]
  refine ⟨by simp [hj'], ?_⟩
  rcases h.2 with ⟨e0, _⟩ | ⟨g', cap', cur, e0, hg, hh, _⟩
  · cases e0
  · cases e0
    simp [World.frozen?, hh]
/-- A word turned round, in memory of the call's own. -/
theorem reverseI_own (zs : List Int) (B e n : Nat) (p : Option Addr) (c : Nat) (w : World) (h : w.ownsRow B e 1 (.slice p n c) n (zs.map (Value.int .i64))) (hz : zs.length ≤ 100000) (hb : B ≤ w.heap.size) :
    Calls Tryz.prog 164 #[.slice p n c] w fun e w' => e = .returned (.tuple #[]) ∧ Sl w' (Value.int .i64) p zs.reverse ∧ RowKit.Below B w w' := by
  have hn : zs.length = n := by have := h.1; simpa using this
  rcases h.2 with ⟨e0, h0⟩ | ⟨g, cap, cur, e0, hg, hh, _⟩
  · cases e0
    have : zs = [] := List.length_eq_zero_iff.1 (by omega)
    subst this
    refine (Tryz.slices_Reverse_int_empty none 0 w).mono ?_
    rintro e w' ⟨rfl, rfl⟩
    exact ⟨rfl, .inl rfl, RowKit.Below.refl _ _⟩
  · cases e0
    subst hn
    have hH := own_holdsI h
    refine (Tryz.slices_Reverse_int g 0 _ zs w hH (by omega)).mono ?_
    rintro e w' ⟨rfl, k, rfl⟩
    have hH2 := Sort.holds_putRow (Value.int .i64) (Sort.ahead w k) g 0 zs.toArray zs.reverse.toArray hH (by simp)
    refine ⟨rfl, ?_, Go.Lib.below_putRow (RowKit.Below.refl _ _) hg⟩
    refine .inr ⟨g, 0, rfl, ?_, fun i hi => ?_⟩
    · have hlt : g < w.heap.size := (Array.getElem?_eq_some_iff.1 hh).1
      simpa [putRow, mapBlock, Sort.ahead] using hlt
    · have h2 := (hH2 i (by simpa using hi)).1
      rw [h2, getElem!_pos _ i (by simpa using hi)]
      simp

set_option maxRecDepth 100000 in
set_option maxHeartbeats 8000000 in
theorem mfirst_any (f g : List Ed) (n m L base1 B1 base2 B2 : Nat) (bs1 bs2 : Nat → Nat) (s0 t0 : Int) (isb : Int × Int → Bool) (gi : Nat) (lb : Array Value) (w : World)
    (hT1 : Tab w base1 B1 n L bs1 (fun s a => tgt f s a)) (hT2 : Tab w base2 B2 m L bs2 (fun s a => tgt g s a)) (hf : ∀ s a, -1 ≤ nxt f s a ∧ nxt f s a < n) (hg : ∀ s a, -1 ≤ nxt g s a ∧ nxt g s a < m)
    (hn : n ≤ 64) (hm : m ≤ 64) (hL : L ≤ 256) (h0 : -1 ≤ s0) (h1 : s0 < n) (h2 : -1 ≤ t0) (h3 : t0 < m) (eg : ∀ args w, (callFunc gi args).run Tryz.prog w = .ok (.enter gi args) w) (hi : IsAt n m isb gi lb w) :
    Calls Tryz.prog 112 #[.slice (some ⟨B1, 0, none⟩) n n, .slice (some ⟨B2, 0, none⟩) m m, .int .i64 L, .agg #[.int .i64 s0, .int .i64 t0], .func (.func gi) #[] lb] w (RetFw (bfsA n m f g kpP isb L s0 t0) w) := by
  obtain ⟨i0, hi0, hz0, hz1, hz2⟩ := info_parts infoF
  obtain ⟨j0, hj0, hy0, hy1, hy2⟩ := info_parts infoJ
  have HT1 := hidI hT1; have HT2 := hidI hT2; have HF := hidI hf; have HG := hidI hg; have HI := hidI hi
  have hmm := @run_makeMap Tryz.prog
  obtain ⟨NN, hNN⟩ : ∃ NN, NN = (n + 1) * (m + 1) + 1 := ⟨_, rfl⟩
  have hNL : NN ≤ 4226 := by
    have := Nat.mul_le_mul (show n + 1 ≤ 65 by omega) (show m + 1 ≤ 65 by omega)
    omega
  have HNN := hidI hNN
  have HAN : Hid (bfsA n m f g kpP isb L s0 t0 = bfs f g kpP isb L NN 0 [((s0, t0), [])]) := by rw [Hid, hNN]; rfl
  have HBL : Hid (∀ l, Bq n m l → l.length < NN) := fun l h => by have := h.len; omega
  obtain ⟨w0, hw0⟩ : ∃ w0, w0 = w.alloc (.cells #[.int .i64 s0, .int .i64 t0] 82) := ⟨_, rfl⟩
  have hB0 : RowKit.Below w.heap.size w w0 := by subst hw0; exact (RowKit.Below.refl _ _).alloc (Nat.le_refl _) _
  have r0 : VRow w0 w.heap.size 82 [.int .i64 s0, .int .i64 t0] := by subst hw0; exact VRow.new w _ _
  obtain ⟨w1, hw1⟩ : ∃ w1, w1 = w0.alloc (.cells #[.int .i64 s0, .int .i64 t0, .int .i64 (-1), .int .i64 (-1)] 170) := ⟨_, rfl⟩
  have hown1 : w1.ownsRow w0.heap.size 170 4 (.slice (some ⟨w0.heap.size, 0, none⟩) 1 1) 1 (catF [⟨s0, t0, -1, -1⟩]) := by subst hw1; exact ownF_new w0 ⟨s0, t0, -1, -1⟩ _ (Nat.le_refl _)
  have hB1 : RowKit.Below w0.heap.size w0 w1 := by subst hw1; exact (RowKit.Below.refl _ _).alloc (Nat.le_refl _) _
  have r1 := r0.below hB1 r0.lt
  have hM2 : Mp kP okP Value.bool (w1.alloc (.map #[] 0)) w1.heap.size (fun _ => none) := Mp.made w1
  obtain ⟨w3, hst, hM3, hturn⟩ := hM2.store keyP Tryz.underlying172 (s0, t0) (okP_of (by omega) (by omega)) true
  have hst : (Instr.mapUpdate 172 (.map (some w1.heap.size)) (.agg #[.int .i64 s0, .int .i64 t0]) (.bool true)).run Tryz.prog (w1.alloc (.map #[] 0)) = .ok () w3 := hst
  have hown2 := hown1.alloc (.map #[] 0)
  have hown3 := hown2.kept hturn.grown (.inr (hM2.cells_ne hown2))
  have hB2 : RowKit.Below w1.heap.size w1 (w1.alloc (.map #[] 0)) := (RowKit.Below.refl _ _).alloc (Nat.le_refl _) _
  have x1 := hB0.trans (hB1.mono hB0.size)
  have x2 := x1.trans (hB2.mono x1.size)
  have x3 := x2.grown hturn.grown (by have := x2.size; exact this) (fun j e => by cases e; exact x1.size)
  have hz : w0.heap.size ≤ w1.heap.size := hB1.size
  have hM3 := hM3.congr (g := seenF [((s0, t0), [])]) (fun p => (seenF_first s0 t0 p).symm)
  clear hT1 hT2 hf hg hi hNN hown1 hown2 hM2 hturn
  go_enter Tryz.func112, Tryz.ntmps112
  go_upto_region 1 with fail
  rw [← hw0]
  clear hw0
  have g0 := r0.at 0 rfl; have g1 := r0.at 1 rfl
  go_upto_region 2 with fail
  rw [← hw1]
  clear hw1 g0 g1
  have g0 := cell_al (.map #[] 0) (r1.at 0 rfl); have g1 := cell_al (.map #[] 0) (r1.at 1 rfl)
  go_wp2
  clear g0 g1 hst r0 r1
  obtain ⟨mb, hmb⟩ : ∃ mb, mb = w1.heap.size := ⟨_, rfl⟩
  obtain ⟨qb, hqb⟩ : ∃ qb, qb = w0.heap.size := ⟨_, rfl⟩
  have hqb0 : w0.heap.size ≤ qb := by omega
  have hwq : w.heap.size ≤ w0.heap.size := hB0.size
  have hwm : w.heap.size ≤ mb := by omega
  rw [← hmb] at hM3 ⊢
  rw [← hqb] at hown3 ⊢
  clear hmb
  clear hqb hz
  go_loopw [12, 14] (fun qv iv wr => ∃ (i : Nat) (l : List Pw) (q : List Fd) (gq cap : Nat), qv = .slice (some ⟨gq, 0, none⟩) l.length cap ∧ iv = .int .i64 i ∧ wr.ownsRow w.heap.size 170 4 (.slice (some ⟨gq, 0, none⟩) l.length cap) l.length (catF q) ∧ Hid (Lk l q) ∧ Bq n m l ∧ Mp kP okP Value.bool wr mb (seenF l) ∧ i ≤ l.length ∧ 0 < l.length ∧ Hid (bfs f g kpP isb L (NN - i) i l = bfsA n m f g kpP isb L s0 t0) ∧ RowKit.Below w.heap.size w wr) (fun _ iv _ => NN - (intOf iv).toNat)
  case atStart => exact ⟨0, [((s0, t0), [])], [⟨s0, t0, -1, -1⟩], qb, 1, rfl, rfl, own_downN hown3 (Nat.le_trans hwq hqb0), Lk.first s0 t0, Bq.one h0 h1 h2 h3, hM3, by simp, by simp, HAN.out.symm, x3⟩
  case round =>
    clear hM3 hown3 x1 x2 x3
    obtain ⟨i, l, q, gq, cap, rfl, rfl, hown, hlk, hbq, hM, hil, hl0, hbf, hB⟩ := hrel
    have hlN := HBL.out l hbq
    by_cases hlt : i < l.length
    · have hltI : (i : Int) < (l.length : Int) := by omega
      obtain ⟨hlq, hlk2⟩ := hlk.out
      have hiq : i < q.length := by omega
      obtain ⟨q1, q2, q3⟩ := hlk2 i hlt hiq
      have k0 : wr.cell? ⟨gq, i * 4, none⟩ = some (.int .i64 l[i].1.1) := by have := ownF_cell hown i hiq 0 (by omega); rw [← q1]; simpa [fdE] using this
      have k1 : wr.cell? ⟨gq, i * 4 + 1, none⟩ = some (.int .i64 l[i].1.2) := by have := ownF_cell hown i hiq 1 (by omega); rw [← q2]; simpa [fdE] using this
      have hins := hbq.ins _ (List.getElem_mem hlt)
      have HH1 := hidI (fun mm h => @bfs_hit f g kpP isb L mm i l hlt h)
      have HH2 := hidI (fun mm h => @bfs_next f g kpP isb L mm i l hlt h)
      obtain ⟨x, hx⟩ : ∃ x, x = l[i] := ⟨_, rfl⟩
      have HX := hidI hx
      rw [← hx] at k0 k1 hins HH1 HH2
      obtain ⟨⟨ps, pt⟩, wd⟩ := x
      have hins : -1 ≤ ps ∧ ps < n ∧ -1 ≤ pt ∧ pt < m := hins
      change wr.cell? ⟨gq, i * 4, none⟩ = some (.int .i64 ps) at k0
      change wr.cell? ⟨gq, i * 4 + 1, none⟩ = some (.int .i64 pt) at k1
      have HH1 : Hid (∀ mm, isb (ps, pt) = true → bfs f g kpP isb L (mm + 1) i l = some wd) := HH1
      have HH2 : Hid (∀ mm, isb (ps, pt) = false → bfs f g kpP isb L (mm + 1) i l = bfs f g kpP isb L mm (i + 1) (bRow f g kpP ((ps, pt), wd) l L)) := HH2
      obtain ⟨wb, hwb⟩ : ∃ wb, wb = wr.alloc (.cells #[.int .i64 ps, .int .i64 pt] 82) := ⟨_, rfl⟩
      have bx : VRow wb wr.heap.size 82 [.int .i64 ps, .int .i64 pt] := by subst hwb; exact VRow.new wr _ _
      have hBb : RowKit.Below wr.heap.size wr wb := by subst hwb; exact (RowKit.Below.refl _ _).alloc (Nat.le_refl _) _
      have hownb := hown.below hBb
      have hMb := Mp.below' hM hBb
      have hBw := hB.trans (hBb.mono hB.size)
      have HIS := hidI (HI.out wb ps pt hBw hins.1 hins.2.1 hins.2.2.1 hins.2.2.2)
      obtain ⟨pb, hpb⟩ : ∃ pb, pb = wr.heap.size := ⟨_, rfl⟩
      rw [← hpb] at bx
      have g0 := bx.at 0 rfl; have g1 := bx.at 1 rfl
      go_upto_region 7 with fail
      rw [← hwb, ← hpb]
      have hpw : w.heap.size ≤ pb := by rw [hpb]; exact hB.size
      clear hwb hpb k0 k1 q1 q2 q3 hlk2 hBb hown hM hx
      go_wp2_with fail
      go_at_fn gi
      refine HIS.out.mono ?_
      rintro e w5 ⟨rfl, hB5⟩
      have hown5 := hownb.below hB5
      have hM5 := Mp.below' hMb hB5
      have hb5 := bx.below hB5 bx.lt
      have hBw5 := hBw.trans (hB5.mono hBw.size)
      clear g0 g1 hownb hMb hB5 hBw bx
      cases his : isb (ps, pt)
      · obtain ⟨mm, hmm⟩ : ∃ mm, NN - i = mm + 1 := ⟨NN - i - 1, by omega⟩
        have HBF : Hid (bfs f g kpP isb L mm (i + 1) (bRow f g kpP ((ps, pt), wd) l L) = bfsA n m f g kpP isb L s0 t0) := by rw [Hid, ← HH2.out mm his, ← hmm]; exact hbf.out
        have hmm2 : NN - (i + 1) = mm := by omega
        have HMM := hidI hmm2
        have HZ : Hid (bRow f g kpP ((ps, pt), wd) l 0 = l) := rfl
        have HSU := hidI (bRow_succ f g kpP ((ps, pt), wd) l)
        have HLE := hidI (bRow_len f g kpP ((ps, pt), wd) l)
        have HGE : Hid (∀ a, (bRow f g kpP ((ps, pt), wd) l a)[i]? = some ((ps, pt), wd)) := fun a => by
          rw [bRow_get f g kpP ((ps, pt), wd) l a i hlt, ← HX.out]
        have HBQ : Hid (∀ a, Bq n m (bRow f g kpP ((ps, pt), wd) l a)) := fun a => hbq.row HF.out HG.out a
        have hlk0 := hlk.out
        clear hmm hmm2 HH1 HH2 HIS his hbf hlk hlq hiq
        go_wp2
        go_loopw [12, 64] (fun qv av wx => ∃ (a : Nat) (q' : List Fd) (gq' cap' : Nat), a ≤ L ∧ qv = .slice (some ⟨gq', 0, none⟩) (bRow f g kpP ((ps, pt), wd) l a).length cap' ∧ av = .int .i64 a ∧ wx.ownsRow w.heap.size 170 4 (.slice (some ⟨gq', 0, none⟩) (bRow f g kpP ((ps, pt), wd) l a).length cap') (bRow f g kpP ((ps, pt), wd) l a).length (catF q') ∧ Hid (Lk (bRow f g kpP ((ps, pt), wd) l a) q') ∧ Mp kP okP Value.bool wx mb (seenF (bRow f g kpP ((ps, pt), wd) l a)) ∧ VRow wx pb 82 [.int .i64 ps, .int .i64 pt] ∧ RowKit.Below w.heap.size w wx) (fun _ av _ => L - (intOf av).toNat)
        case atStart => exact ⟨0, q, gq, cap, by omega, rfl, rfl, hown5, hlk0, hM5, hb5, hBw5⟩
        case round =>
          clear hown5 hlk0 hM5 hb5 hBw5 hbq hlN
          obtain ⟨a, q', gq', cap', ha, rfl, rfl, hown, hlk, hM, hpb, hB⟩ := hrel
          have hlen := HLE.out a
          by_cases hla : a < L
          · have hlaI : (a : Int) < (L : Int) := by omega
            have hbl := HBL.out _ (HBQ.out a)
            have HS1 := hidI (HSU.out a)
            have HGEa := hidI (HGE.out a)
            have hnf := hidI (HF.out ps a)
            have hng := hidI (HG.out pt a)
            have HN1 := hidI (fun W (hW : RowKit.Below w.heap.size w W) => mnext_any f ps a base1 B1 n L bs1 W (HT1.out.later hW) hins.1 hins.2.1 hla)
            have HN2 := hidI (fun W (hW : RowKit.Below w.heap.size w W) => mnext_any g pt a base2 B2 m L bs2 W (HT2.out.later hW) hins.2.2.1 hins.2.2.2 hla)
            have HST : Hid (stp f g (ps, pt) a = (nxt f ps a, nxt g pt a)) := rfl
            have HGO := hidI (@bAdd_go f g kpP ((ps, pt), wd) (bRow f g kpP ((ps, pt), wd) l a) a)
            have HSY := hidI (@bAdd_stay f g kpP ((ps, pt), wd) (bRow f g kpP ((ps, pt), wd) l a) a)
            simp only at HGO HSY
            rw [HST.out] at HGO HSY
            have HQ1 := HBQ.out (a + 1)
            generalize nxt f ps a = s' at *
            generalize nxt g pt a = t' at *
            generalize bRow f g kpP ((ps, pt), wd) l a = row at *
            have k0 := hpb.at 0 rfl; have k1 := hpb.at 1 rfl
            have hpblt := hpb.lt
            go_upto_region 18 with fail
            go_cut [19] (fun v wx => ∃ qx, v = .pointer (some ⟨qx, 0, none⟩) ∧ VRow wx qx 82 [.int .i64 s', .int .i64 t'] ∧ RowKit.Below wr.heap.size wr wx)
            case first =>
              go_region_held3 (fun w' => w'.cell? ⟨pb, 0, none⟩ = some (.int .i64 ps) ∧ w'.cell? ⟨pb, 1, none⟩ = some (.int .i64 pt) ∧ RowKit.Below wr.heap.size wr w')
                (first | (go_split_ands; refine ⟨?_, ?_, ?_⟩ <;> first | assumption | (go_keep; done) | exact below_dN (RowKit.Below.refl _ _) 1 | exact RowKit.Below.alloc (by assumption) (RowKit.Below.size (by assumption)) _ | exact below_dN ((RowKit.Below.refl _ _).alloc (Nat.le_refl _) _) 1))
                (first
                  | (go_at_call 165; go_split_ands; with_reducible refine (HN1.out _ (hB.trans (RowKit.Below.mono (show RowKit.Below wr.heap.size wr _ by assumption) hB.size))).mono ?_; rintro e wA ⟨rfl, rfl⟩)
                  | (go_at_call 165; go_split_ands; with_reducible refine (HN2.out _ (hB.trans (RowKit.Below.mono (show RowKit.Below wr.heap.size wr _ by assumption) hB.size))).mono ?_; rintro e wB ⟨rfl, rfl⟩))
              all_goals
                go_wp2_with fail
                go_meet
                exact ⟨_, rfl, VRow.new _ _ _, below_dN ((RowKit.Below.refl _ _).alloc (Nat.le_refl _) _) 1⟩
            case rest =>
              obtain ⟨qx, rfl, hq, hBq⟩ := hcut
              have hnf := hnf.out; have hng := hng.out
              have hok : okP (s', t') := okP_of (by omega) (by omega)
              have hown2 := hown.below hBq
              have hM2 := Mp.below' hM hBq
              have hp2 := hpb.below hBq hpblt
              have hB2 := hB.trans (hBq.mono hB.size)
              have q0 := hq.at 0 rfl; have q1 := hq.at 1 rfl
              have hne := neqP s' t' (-1) (-1)
              have hsl := seen_look hM2 hok
              clear hown hM hpb hB k0 k1
              by_cases hd : (s', t') = (-1, -1)
              · have hkp : kpP (s', t') = false := by unfold kpP; rw [hd]; rfl
                rw [decide_eq_true hd] at hne
                go_wp2
                go_roundw
                case rel =>
                  refine ⟨a + 1, q', gq', cap', by omega, ?_, by go_num, ?_, ?_, ?_, hp2, hB2⟩ <;> rw [HS1.out, HSY.out (.inl hkp)]
                  · exact hown2
                  · exact hlk
                  · exact hM2
                case measure => simp [intOf]; omega
              · have hkp : kpP (s', t') = true := by unfold kpP; rw [decide_eq_false hd]; rfl
                rw [decide_eq_false hd] at hne
                by_cases hmem : (s', t') ∈ row.map Prod.fst
                · rw [decide_eq_true hmem] at hsl
                  go_wp2
                  go_roundw
                  case rel =>
                    refine ⟨a + 1, q', gq', cap', by omega, ?_, by go_num, ?_, ?_, ?_, hp2, hB2⟩ <;> rw [HS1.out, HSY.out (.inr hmem)]
                    · exact hown2
                    · exact hlk
                    · exact hM2
                  case measure => simp [intOf]; omega
                · rw [decide_eq_false hmem] at hsl
                  have HR : Hid (bRow f g kpP ((ps, pt), wd) l (a + 1) = row ++ [((s', t'), wd ++ [(a : Int)])]) := by rw [Hid, HS1.out, HGO.out hkp hmem]
                  have HLK : Hid (Lk (row ++ [((s', t'), wd ++ [(a : Int)])]) (q' ++ [⟨s', t', i, a⟩])) := by
                    have hi : i < row.length := by omega
                    have h := hlk.out.snoc hi s' t' a
                    have e : row[i] = ((ps, pt), wd) := by
                      have := HGEa.out
                      rw [List.getElem?_eq_getElem hi] at this
                      exact Option.some.inj this
                    rw [e] at h; exact h
                  obtain ⟨wm, hst, hM3, hturn⟩ := hM2.store keyP Tryz.underlying172 (s', t') hok true
                  have hst : (Instr.mapUpdate 172 (.map (some mb)) (.agg #[.int .i64 s', .int .i64 t']) (.bool true)).run Tryz.prog wc = .ok () wm := hst
                  have hown3 := hown2.kept hturn.grown (.inr (hM2.cells_ne hown2))
                  have hq3 := hq.grown hturn.grown (fun e => hM2.ne_row hq (by simpa using e))
                  have hp3 := hp2.grown hturn.grown (fun e => hM2.ne_row hp2 (by simpa using e))
                  have hB3 := hB2.grown hturn.grown hB2.size (fun j e => by cases e; exact hwm)
                  have hM3 := hM3.congr (g := seenF (row ++ [((s', t'), wd ++ [(a : Int)])])) (fun p => (seenF_snoc row (s', t') (wd ++ [(a : Int)]) p).symm)
                  have m0 := hq3.at 0 rfl; have m1 := hq3.at 1 rfl
                  have hnew := cell_new4 wm ⟨s', t', i, a⟩
                  have hown8 := hown3.alloc (.cells (fdE ⟨s', t', i, a⟩).toArray 170)
                  have hsz3 := hB3.size
                  have HG2 : Hid (∀ w9, (wm.alloc (.cells (fdE ⟨s', t', i, a⟩).toArray 170)).grownBy w9 (Value.slice (some ⟨gq', 0, none⟩) row.length cap').ownBlock → RowKit.Below w.heap.size w w9 ∧ Mp kP okP Value.bool w9 mb (seenF (row ++ [((s', t'), wd ++ [(a : Int)])])) ∧ VRow w9 pb 82 [.int .i64 ps, .int .i64 pt]) := fun w9 hg => by
                    have hB8 := hB3.alloc hsz3 (.cells (fdE ⟨s', t', i, a⟩).toArray 170)
                    refine ⟨hB8.grown hg (by have := hB8.size; exact this) (fun j e => (hown8.lt j e).1), (hM3.alloc _).kept hg (fun e => (hM3.alloc _).cells_ne hown8 e.symm), (hp3.alloc _).grown hg (fun e => own_ne_row hown8 (hp3.alloc _) (by decide) e.symm)⟩
                  clear hM2 hM3 hturn hown2 hown3 hp2 hp3 hq3 hB3 hq HST HSY HGO HGEa hlk
                  go_wp2_with (at_builtin; refine wpList_append_own _ rfl _ _ 171 rfl w.heap.size 170 i0 _ 4 32 Tryz.underlying171 hi0 hz0 hz1 hz2 rfl (by decide) _ _ _ rfl hown8 ⟨wm.heap.size, 0, none⟩ 1 1 (catF [⟨s', t', i, a⟩]) rfl rfl hnew (catF_one _) (by simp only [maxLen]; omega) (by omega) (by rw [World.size_alloc]; omega) ?_; intro v' w9 hown' hgrow _; rw [← catF_app] at hown'; obtain ⟨hB9, hM9, hp9⟩ := HG2.out w9 hgrow; obtain ⟨g9, cap9, hv9⟩ := ownF_shape hown' (by omega); subst hv9)
                  go_roundw
                  case rel =>
                    refine ⟨a + 1, q' ++ [⟨s', t', i, a⟩], g9, cap9, by omega, ?_, by go_num, ?_, ?_, ?_, hp9, hB9⟩ <;> rw [HR.out]
                    · simp
                    · simpa using hown'
                    · exact HLK
                    · exact hM9
                  case measure => simp [intOf]; omega
          · obtain rfl : L = a := by omega
            have hlaI : ¬ (L : Int) < (L : Int) := by omega
            have hbl := HBL.out _ (HBQ.out L)
            have HQL := HBQ.out L
            have hmm2 := HMM.out
            go_wp2
            go_roundw
            case rel => exact ⟨i + 1, bRow f g kpP ((ps, pt), wd) l L, q', gq', cap', rfl, by go_num, hown, hlk, HQL, hM, by omega, by omega, by rw [Hid, hmm2]; exact HBF.out, hB⟩
            case measure => simp [intOf]; omega
      · obtain ⟨mm, hmm⟩ : ∃ mm, NN - i = mm + 1 := ⟨NN - i - 1, by omega⟩
        have HBA : Hid (bfsA n m f g kpP isb L s0 t0 = some wd) := by rw [Hid, ← hbf.out, hmm]; exact HH1.out mm his
        clear hmm HH1 HH2 HIS his HI HF HG HT1 HT2
        go_wp2
        go_loopw [16, 17] (fun wv kv wx => ∃ (k : Nat) (ws : List Int) (pw : Option Addr) (cw : Nat), k ≤ i ∧ ws.length + k ≤ i ∧ kv = .int .i64 k ∧ wv = .slice pw ws.length cw ∧ wx.ownsRow w5.heap.size 3 1 (.slice pw ws.length cw) ws.length (ws.map (Value.int .i64)) ∧ Hid (∀ h : k < l.length, wd = l[k].2 ++ ws.reverse) ∧ RowKit.Below w5.heap.size w5 wx) (fun _ kv _ => (intOf kv).toNat)
        case atStart => exact ⟨i, [], none, 0, by omega, by simp, rfl, rfl, World.ownsRow_nil _ _ _ _, fun h => by have := HX.out; simp only [List.reverse_nil, List.append_nil]; rw [← this], RowKit.Below.refl _ _⟩
        case round =>
          obtain ⟨k, ws, pw, cw, hk, hwk, rfl, rfl, hownW, hwd, hBx⟩ := hrel
          have hkl : k < l.length := by omega
          have hkq : k < q.length := by omega
          obtain ⟨_, hlk2⟩ := hlk.out
          obtain ⟨_, _, h3⟩ := hlk2 k hkl hkq
          have hownQ := hown5.below hBx
          have k2 : wr.cell? ⟨gq, k * 4 + 2, none⟩ = some (.int .i64 q[k].b) := by have := ownF_cell hownQ k hkq 2 (by omega); simpa [fdE] using this
          have k3 : wr.cell? ⟨gq, k * 4 + 3, none⟩ = some (.int .i64 q[k].l) := by have := ownF_cell hownQ k hkq 3 (by omega); simpa [fdE] using this
          have hkI : (k : Int) < (l.length : Int) := by omega
          have hwd1 := hwd.out hkl
          have hsz := hBx.size
          clear hlk2
          rcases h3 with ⟨hb, hw⟩ | ⟨jj, hjj, hb, hw⟩
          · have HW : Hid (wd = ws.reverse) := by rw [Hid, hwd1, hw, List.nil_append]
            rw [hb] at k2
            have HRV := hidI (reverseI_own ws w5.heap.size 3 ws.length pw cw wr hownW (by omega) hsz)
            clear hw hwd1 hwd hb k3
            go_wp2_with fail
            refine HRV.out.mono ?_
            rintro e w7 ⟨rfl, hsl, hB7⟩
            go_wp2
            go_ret2
            rw [HBA.out]
            refine ⟨pw, cw, ?_, ?_, hBw5.trans ((hBx.trans hB7).mono hBw5.size)⟩
            · show _ = Ending.returned (.tuple #[.slice pw wd.length cw, .bool true])
              rw [HW.out, List.length_reverse]; rfl
            · show Sl w7 (Value.int .i64) pw wd
              rw [HW.out]; exact hsl
          · have hbn : (((jj : Int)) != -1) = true := by simp
            rw [hb] at k2
            have hnew := cell_one_new wr (.int .i64 q[k].l) 3
            have hown8 := hownW.alloc (.cells #[.int .i64 q[k].l] 3)
            have HWN : Hid (∀ h : jj < l.length, wd = l[jj].2 ++ (ws ++ [q[k].l]).reverse) := fun h => by
              rw [hwd1, hw, List.reverse_append]; simp
            have HG2 : Hid (∀ w9, (wr.alloc (.cells #[.int .i64 q[k].l] 3)).grownBy w9 (Value.slice pw ws.length cw).ownBlock → RowKit.Below w5.heap.size w5 w9 ∧ w9.cell? ⟨gq, k * 4 + 2, none⟩ = some (.int .i64 jj)) := fun w9 hg => by
              have hB8 := hBx.alloc hsz (.cells #[.int .i64 q[k].l] 3)
              refine ⟨hB8.grown hg (by have := hB8.size; exact this) (fun j e => (hown8.lt j e).1), ?_⟩
              have hgq : gq < w5.heap.size := by
                rcases hown5.2 with ⟨e0, _⟩ | ⟨g', cap', cur, e0, hg0, hh, _⟩
                · cases e0
                · cases e0; exact (Array.getElem?_eq_some_iff.1 hh).1
              exact hg.cell (cell_al _ k2) (fun h => by have := (hown8.lt _ h.symm).1; simp at this; omega)
            generalize q[k].l = lab at *
            clear hw hwd1 hwd hb hownQ
            go_wp2_with (at_builtin; refine wpList_append_own _ rfl _ _ 30 rfl w5.heap.size 3 j0 (.int .i64 0) 1 8 Tryz.underlying30 hj0 hy0 hy1 hy2 rfl (by decide) _ _ _ rfl hown8 ⟨wr.heap.size, 0, none⟩ 1 1 [.int .i64 lab] rfl rfl hnew (by simp [Value.oneCell']) (by simp only [maxLen]; omega) (by omega) (by rw [World.size_alloc]; omega) ?_; intro v' w9 hown' hgrow _; obtain ⟨hB9, hk9⟩ := HG2.out w9 hgrow)
            have e1 : ws.map (Value.int .i64) ++ [.int .i64 lab] = (ws ++ [lab]).map (Value.int .i64) := by simp
            rw [e1] at hown'
            obtain ⟨pw', cw', hv', _⟩ := own_sl hown'
            subst hv'
            go_roundw
            case rel => exact ⟨jj, ws ++ [lab], pw', cw', by omega, by simp; omega, rfl, rfl, by simpa using hown', HWN, hB9⟩
            case measure => simp [intOf]; omega
    · have hltI : ¬ (i : Int) < (l.length : Int) := by omega
      have HX : Hid (bfsA n m f g kpP isb L s0 t0 = none) := by rw [Hid, ← hbf.out]; exact bfs_end (by omega)
      go_wp2
      go_ret2
      rw [HX.out]
      exact ⟨none, 0, rfl, Sl.nil _ _ _, hB⟩
end Go.Proofs.YtocbhlohcikapaaGreatDoor
namespace Go.Proofs.YtocbhlohcikapaaGreatDoor
open Go.RowKit Go.Sort

theorem list_ne {a b : List Int} {k : Nat} (h1 : k < a.length) (h2 : k < b.length) (h : a[k] ≠ b[k]) : a ≠ b := fun e => by subst e; exact h rfl
set_option maxRecDepth 100000 in
theorem rSameSet_any (a b : List Int) (p q : Option Addr) (c d : Nat) (w : World) (hp : Sl w (Value.int .i64) p a) (hq : Sl w (Value.int .i64) q b) (la : a.length ≤ 9223372036854775807) (lb : b.length ≤ 9223372036854775807) :
    Calls Tryz.prog 180 #[.slice p a.length c, .slice q b.length d] w fun e w' => e = .returned (.bool (decide (a = b))) ∧ Dr w w' := by
  by_cases hl : a.length = b.length
  · have hle : ((a.length : Int) != (b.length : Int)) = false := by simp [hl]
    have HL := hidI hl
    clear hl
    go_enter Tryz.func180, Tryz.ntmps180
    go_wp2
    clear hle
    go_loopw [5] (fun iv wr => ∃ k : Nat, k ≤ a.length ∧ iv = .int .i64 k ∧ Hid (∀ j (h1 : j < a.length) (h2 : j < b.length), j < k → a[j] = b[j]) ∧ Dr w wr) (fun iv _ => a.length - (intOf iv).toNat)
    case atStart => exact ⟨0, by omega, rfl, fun j _ _ h => absurd h (by omega), Dr.refl _⟩
    case round =>
      obtain ⟨k, hk, rfl, hj, hD⟩ := hrel
      by_cases hlt : k < a.length
      · have hltI : (k : Int) < (a.length : Int) := by omega
        have hlb : k < b.length := by rw [← HL.out]; exact hlt
        have hltJ : (k : Int) < (b.length : Int) := by omega
        obtain ⟨b1, o1, rfl, hb1, hc1⟩ := (hp.dr hD).get k hlt
        obtain ⟨b2, o2, rfl, hb2, hc2⟩ := (hq.dr hD).get k hlb
        have e1 := hc1 k hlt
        have e2 := hc2 k hlb
        clear hc1 hc2
        by_cases he : a[k] = b[k]
        · have d1 : (a[k] != b[k]) = false := by simpa using he
          have HJ : Hid (∀ j (h1 : j < a.length) (h2 : j < b.length), j < k + 1 → a[j] = b[j]) := fun j h1 h2 h => by
            by_cases e : j = k
            · subst e; exact he
            · exact hj.out j h1 h2 (by omega)
          generalize a[k] = x at *
          generalize b[k] = y at *
          clear he
          go_upto_region 6 with fail
          (refine wp_region_quiet_lit (by kernel_rfl) (by kernel_rfl) ?_; (repeat (first | go_big_quiet_step (fail) | quiet_step (fail))); refine wpQuiet_nil ?_; intro _ hwq; obtain ⟨nq, hwq2⟩ := hwq; subst hwq2)
          go_wp2
          go_roundw
          case rel => exact ⟨k + 1, by omega, by go_num, HJ, hD.one _⟩
          case measure => simp [intOf]; omega
        · have d1 : (a[k] != b[k]) = true := by simpa using he
          have HX : Hid (decide (a = b) = false) := decide_eq_false (list_ne hlt hlb he)
          generalize a[k] = x at *
          generalize b[k] = y at *
          clear he
          go_upto_region 6 with fail
          (refine wp_region_quiet_lit (by kernel_rfl) (by kernel_rfl) ?_; (repeat (first | go_big_quiet_step (fail) | quiet_step (fail))); refine wpQuiet_nil ?_; intro _ hwq; obtain ⟨nq, hwq2⟩ := hwq; subst hwq2)
          go_wp2
          go_ret
          exact ⟨ret_bool HX.out.symm, hD.one _⟩
      · have hltI : ¬ (k : Int) < (a.length : Int) := by omega
        have HX : Hid (decide (a = b) = true) := decide_eq_true (List.ext_getElem HL.out (fun j h1 h2 => hj.out j h1 h2 (by omega)))
        go_wp2
        go_ret
        exact ⟨ret_bool HX.out.symm, hD⟩
  · have hle : ((a.length : Int) != (b.length : Int)) = true := by simp; omega
    have HX : Hid (decide (a = b) = false) := decide_eq_false (fun h => hl (by rw [h]))
    clear hl
    go_enter Tryz.func180, Tryz.ntmps180
    go_wp2
    go_ret
    exact ⟨ret_bool HX.out.symm, Dr.refl _⟩

def CutS (R : Nat → Nat → Bool) (N s b3 : Nat) (wo wx : World) : Prop := ∃ v : Int, VRow wx b3 3 ((nowV R N s).set s (.int .i64 v)) ∧ ((fstR R s = false ∧ v = numR R s ∧ 0 ≤ v) ∨ (fstR R s = true ∧ v = -1)) ∧ RowKit.Below wo.heap.size wo wx
set_option maxRecDepth 100000 in
set_option maxHeartbeats 4000000 in
theorem rclasses_any (G : Gr) (p : Option Addr) (c : Nat) (w : World) (hin : Sg 3 w edE p G.es) (hv : Vg G) :
    Calls Tryz.prog 132 #[(.agg #[.int .i64 G.q, .int .i64 G.n, .slice p G.es.length c])] w fun e w' => ∃ b, e = .returned (.slice (some ⟨b, 0, none⟩) (clA G).length (clA G).length) ∧ w.heap.size ≤ b ∧ VRow w' b 3 ((clA G).map (Value.int .i64)) ∧ RowKit.Below w.heap.size w w' := by
  obtain ⟨i0, hi0, hz0, hz1, hz3⟩ := info_parts infoJ
  have HV := hidI hv; have HIN0 := hidI hin
  obtain ⟨N, hN⟩ : ∃ N : Nat, G.n = N := ⟨G.n.toNat, by have := hv.n1; omega⟩
  obtain ⟨Q, hQ⟩ : ∃ Q : Nat, G.q = Q := ⟨G.q.toNat, by have := hv.q1; omega⟩
  have hN64 : N ≤ 64 := by have := hv.n2; omega
  have HCL : Hid (clA G = clsN Q N G.es N) := by unfold Hid clA; rw [hN, hQ]; rfl
  have hlcl : (clA G).length = N := by rw [HCL.out, clsN_len]
  have HAL : Hid (∀ (C : List Int) (b2 : Nat) (s t : Nat) (W : World), C.length = N → Sg 3 W edE p G.es → VRow W b2 3 (C.map (Value.int .i64)) → Calls Tryz.prog 179 #[.agg #[.int .i64 (Q : Int), .int .i64 (N : Int), .slice p G.es.length c], .slice (some ⟨b2, 0, none⟩) N N, .int .i64 s, .int .i64 t] W fun e w' => e = .returned (.bool (alkA Q G.es C s t)) ∧ RowKit.Below W.heap.size W w') := fun C b2 s t W hC hW hr => by
    have h := ralike_any G p c C (some ⟨b2, 0, none⟩) N s t W hW (Sl.of_vrow hr) hv (by rw [hN, hC])
    rw [hC, hN, hQ] at h
    exact h
  rw [hlcl, hN, hQ]
  obtain ⟨w0, hw0⟩ : ∃ w0, w0 = w.alloc (.cells #[.int .i64 (Q : Int), .int .i64 (N : Int), .slice p G.es.length c] 24) := ⟨_, rfl⟩
  have b0 : VRow w0 w.heap.size 24 [.int .i64 (Q : Int), .int .i64 (N : Int), .slice p G.es.length c] := by subst hw0; exact VRow.new w _ _
  have hB0 : RowKit.Below w.heap.size w w0 := by subst hw0; exact (RowKit.Below.refl _ _).alloc (Nat.le_refl _) _
  have zb : w.heap.size < w0.heap.size := b0.lt
  have HIN := hidI (HIN0.out.below hB0)
  clear hin hv hN hQ hlcl
  go_enter Tryz.func132, Tryz.ntmps132
  go_upto_region 1 with fail
  rw [← hw0]
  clear hw0
  have g1 := b0.at 1 rfl
  go_wp2_with (at_make; refine wpList_make_full _ rfl _ _ 30 rfl w0.heap.size 3 i0 (.int .i64 0) 1 Tryz.underlying30 hi0 hz0 hz1 .i64 .i64 _ _ N rfl rfl (by omega) (by omega) (by rw [hz3]; omega) (by unfold maxLen; omega) (Nat.le_refl _) ?_; intro w3 hown hgrow)
  have hr3 := made_rowJ hown
  have hB3 : RowKit.Below w0.heap.size w0 w3 := (RowKit.Below.refl _ _).grown hgrow (Nat.le_refl _) (by simp)
  have hc3 : VRow w3 w0.heap.size 3 ((clsN Q N G.es 0).map (Value.int .i64)) := by simpa [clsN] using hr3
  clear hown hgrow g1 hr3
  obtain ⟨gb, hgb⟩ : ∃ gb, gb = w.heap.size := ⟨_, rfl⟩
  obtain ⟨b20, hb20⟩ : ∃ b20, b20 = w0.heap.size := ⟨_, rfl⟩
  rw [← hgb] at b0 zb ⊢
  rw [← hb20] at hc3
  have hle20 : w0.heap.size ≤ b20 := by omega
  have hle21 : w.heap.size ≤ w0.heap.size := hB0.size
  rw [← hb20]
  clear hgb hb20
  go_loopw [3, 5] (fun nv n5 wr => ∃ (k b2 : Nat), nv = .slice (some ⟨b2, 0, none⟩) N N ∧ ((k = 0 ∧ n5 = undef) ∨ n5 = .int .i64 (mcA N (clsN Q N G.es k) : Nat)) ∧ k ≤ mcA N (clsN Q N G.es k) ∧ VRow wr b2 3 ((clsN Q N G.es k).map (Value.int .i64)) ∧ w0.heap.size ≤ b2 ∧ RowKit.Below w0.heap.size w0 wr) (fun _ n5 _ => N + 1 - (intOf n5).toNat)
  case atStart => exact ⟨0, b20, rfl, .inl ⟨rfl, rfl⟩, Nat.zero_le _, hc3, hle20, hB3⟩
  case round =>
    clear hc3 hB3
    obtain ⟨k, b2, rfl, hn5, hk, hnow, hb2, hB⟩ := hrel
    have hmc := mcA_max (n := N) (clsN Q N G.es k)
    have HSM := hidI (@cls_same Q N G.es k)
    have HMS := hidI (@mcA_succ Q N G.es k)
    have HEND := hidI (fun h => @cls_end Q N G.es k hk h)
    have HMO := hidI (fun h => @cls_more Q N G.es k hk h)
    have hCl := @clsN_len Q N G.es k
    have HC1 : Hid (clsN Q N G.es (k + 1) = (List.range N).map (numR (relA Q G.es (clsN Q N G.es k)))) := rfl
    have hg := b0.below hB zb
    have gx := hg.at 1 rfl
    obtain ⟨wo, rfl⟩ : ∃ wo : World, wo = wr := ⟨_, rfl⟩
    go_wp2_with (at_make; refine wpList_make_full _ rfl _ _ 30 rfl wo.heap.size 3 i0 (.int .i64 0) 1 Tryz.underlying30 hi0 hz0 hz1 .i64 .i64 _ _ N rfl rfl (by omega) (by omega) (by rw [hz3]; omega) (by unfold maxLen; omega) (Nat.le_refl _) ?_; intro w5 hown hgrow)
    have hr5 := made_rowJ hown
    have hB5 : RowKit.Below wo.heap.size wo w5 := (RowKit.Below.refl _ _).grown hgrow (Nat.le_refl _) (by simp)
    clear hown hgrow gx
    rw [← nowV_zero (relA Q G.es (clsN Q N G.es k)) N] at hr5
    generalize hCC : clsN Q N G.es k = C at *
    obtain ⟨R, hRR⟩ : ∃ R, R = relA Q G.es C := ⟨_, rfl⟩
    have HRR := hidI hRR
    have HE : Hid (Eqv R) := by rw [Hid, hRR]; exact relA_eqv _ _ _
    rw [← hRR] at hr5 HC1 HMS
    clear hRR
    go_loopw [5, 6] (fun nv sv wx => ∃ s : Nat, s ≤ N ∧ nv = .int .i64 ((frsR R s).length : Nat) ∧ sv = .int .i64 s ∧ VRow wx wo.heap.size 3 (nowV R N s) ∧ RowKit.Below wo.heap.size wo wx) (fun _ sv _ => N - (intOf sv).toNat)
    case atStart => exact ⟨0, by omega, rfl, rfl, hr5, hB5⟩
    case round =>
      clear hr5 hB5
      obtain ⟨s, hs, rfl, rfl, hrow, hBx⟩ := hrel
      have hgx := hg.below hBx hg.lt
      have g1 := hgx.at 1 rfl
      by_cases hlt : s < N
      · have hltI : (s : Int) < (N : Int) := by omega
        have HGET := hidI (nowV_get R hlt)
        have hc0 := hrow.at s HGET.out
        have hf0 := hrow.frozen s
        have hr1 : VRow (wr.setCell ⟨wo.heap.size, s, none⟩ (.int .i64 (-1))) wo.heap.size 3 ((nowV R N s).set s (.int .i64 (-1))) := hrow.set (i := s) _
        have hB1 : RowKit.Below wo.heap.size wo (wr.setCell ⟨wo.heap.size, s, none⟩ (.int .i64 (-1))) := hBx.setCell (p := ⟨wo.heap.size, s, none⟩) (Nat.le_refl _) _
        go_upto_region 7 with fail
        obtain ⟨ws, hws⟩ : ∃ ws, ws = wr.setCell ⟨wo.heap.size, s, none⟩ (.int .i64 (-1)) := ⟨_, rfl⟩
        rw [← hws] at hr1 hB1 ⊢
        have hblt : wo.heap.size < ws.heap.size := hr1.lt
        clear hws hrow hBx hc0 hf0 g1 hgx
        go_upto_block 4 with fail
        go_cut [7] (fun t7 wx => CutS R N s wo.heap.size wo wx)
        case first =>
          obtain ⟨wq, rfl⟩ : ∃ wq : World, wq = wr := ⟨_, rfl⟩
          go_wp2_with fail
          go_loopw [7] (fun tv wx => ∃ t : Nat, t ≤ s ∧ tv = .int .i64 t ∧ Hid (∀ u, u < t → R u s = false) ∧ RowKit.Below ws.heap.size ws wx) (fun tv _ => s - (intOf tv).toNat)
          case atStart => exact ⟨0, by omega, rfl, fun u hu => absurd hu (by omega), RowKit.Below.refl _ _⟩
          case round =>
            obtain ⟨t, ht, rfl, hj, hBt⟩ := hrel
            have hB2 := hB1.trans (hBt.mono hB1.size)
            have hB3 := hB.trans (hB2.mono hB.size)
            have hrow := hr1.below hBt hblt
            by_cases htl : t < s
            · have htI : (t : Int) < (s : Int) := by omega
              have htN : (t : Int) < (N : Int) := by omega
              have hn2 := hnow.below hB2 hnow.lt
              have hsC : s < C.length := by omega
              have htC : t < C.length := by omega
              have e1 := hn2.at s (v := .int .i64 (C[s]'hsC)) (by simp [hsC])
              have e2 := hn2.at t (v := .int .i64 (C[t]'htC)) (by simp [htC])
              have hg2 := hg.below hB2 hg.lt
              have g0 := hg2.at 0 rfl; have g1 := hg2.at 1 rfl; have g2 := hg2.at 2 rfl
              have HSY : Hid (R t s = R s t) := by
                rw [Hid, Bool.eq_iff_iff]; exact ⟨HE.out.symm t s, HE.out.symm s t⟩
              have HRS : Hid (R s t = (decide (C[s]'hsC = C[t]'htC) && alkA Q G.es C s t)) := by
                rw [Hid, HRR.out]; unfold relA; rw [cg_get hsC, cg_get htC]
              have HCA := hidI (fun W (hW : RowKit.Below wr.heap.size wr W) => HAL.out C b2 s t W hCl (HIN.out.below (hB3.trans (hW.mono hB3.size))) (hn2.below hW hn2.lt))
              have hj2 := hj.out
              cases hst : R t s
              · have HJ : Hid (∀ u, u < t + 1 → R u s = false) := fun u hu => by
                  by_cases e : u = t
                  · subst e; exact hst
                  · exact hj2 u (by omega)
                clear hj2
                by_cases hcc : C[s]'hsC = C[t]'htC
                · have HAK : Hid (alkA Q G.es C s t = false) := by rw [Hid, ← hst, HSY.out, HRS.out, decide_eq_true hcc]; rfl
                  have d1 : (C[s]'hsC == C[t]'htC) = true := by simpa using hcc
                  rw [HAK.out] at HCA
                  clear hst
                  generalize C[s]'hsC = cs at *
                  generalize C[t]'htC = ct at *
                  have z2 := Nat.lt_of_lt_of_le hnow.lt hB2.size
                  have zg := hg2.lt
                  clear hcc HAK HSY HRS
                  go_upto_region 10 with fail
                  go_cut [43] (fun v wx => v = .bool false ∧ RowKit.Below wr.heap.size wr wx)
                  case first =>
                    go_region_held3 (fun w' => w'.cell? ⟨b2, s, none⟩ = some (.int .i64 cs) ∧ w'.cell? ⟨b2, t, none⟩ = some (.int .i64 ct) ∧ w'.cell? ⟨gb, 0, none⟩ = some (.int .i64 Q) ∧ w'.cell? ⟨gb, 1, none⟩ = some (.int .i64 N) ∧ w'.cell? ⟨gb, 2, none⟩ = some (.slice p G.es.length c) ∧ RowKit.Below wr.heap.size wr w')
                      (first | (go_split_ands; refine ⟨?_, ?_, ?_, ?_, ?_, ?_⟩ <;> first | assumption | (go_keep; done) | exact below_dN (RowKit.Below.refl _ _) 1 | exact (hBa.cell (Nat.lt_of_lt_of_le z2 (RowKit.Below.size (by assumption)))).trans (by assumption) | exact (hBa.cell (Nat.lt_of_lt_of_le zg (RowKit.Below.size (by assumption)))).trans (by assumption) | exact RowKit.Below.trans (by assumption) (hBa.mono (RowKit.Below.size (by assumption)))))
                      (first
                        | (go_at_call 179; go_split_ands; with_reducible refine (HCA.out _ (by assumption)).mono ?_; rintro e wA ⟨rfl, hBa⟩))
                    all_goals
                      go_split_ands
                      go_wp2_with fail
                      go_meet
                      exact ⟨rfl, by assumption⟩
                  case rest =>
                    obtain ⟨rfl, hBr⟩ := hcut
                    go_wp2
                    go_roundw
                    case rel => exact ⟨t + 1, by omega, by go_num, HJ, hBt.trans (hBr.mono hBt.size)⟩
                    case measure => simp [intOf]; omega
                · have d1 : (C[s]'hsC == C[t]'htC) = false := by simpa using hcc
                  clear hst HCA HSY HRS
                  generalize C[s]'hsC = cs at *
                  generalize C[t]'htC = ct at *
                  clear hcc
                  go_upto_region 10 with fail
                  (refine wp_region_quiet_lit (by kernel_rfl) (by kernel_rfl) ?_; (repeat (first | go_big_quiet_step (fail) | quiet_step (fail))); refine wpQuiet_nil ?_; intro _ hwq; obtain ⟨nq, hwq2⟩ := hwq; subst hwq2)
                  go_wp2
                  go_roundw
                  case rel => exact ⟨t + 1, by omega, by go_num, HJ, below_dN hBt _⟩
                  case measure => simp [intOf]; omega
              · have hcc : C[s]'hsC = C[t]'htC := by
                  have := HSY.out.symm.trans hst
                  rw [HRS.out, Bool.and_eq_true, decide_eq_true_eq] at this
                  exact this.1
                have HAK : Hid (alkA Q G.es C s t = true) := by
                  have := HSY.out.symm.trans hst
                  rw [HRS.out, Bool.and_eq_true] at this
                  exact this.2
                have d1 : (C[s]'hsC == C[t]'htC) = true := by simpa using hcc
                rw [HAK.out] at HCA
                have HFS : Hid (fstR R s = false) := by
                  rw [Hid, Bool.eq_false_iff]; intro h
                  rw [fstR_iff.1 h t htl] at hst; cases hst
                have HNM : Hid (numR R s = numR R t) := numR_like HE.out hst
                have hnb := numR_bd HE.out t N (by omega)
                clear hst hj2
                generalize C[s]'hsC = cs at *
                generalize C[t]'htC = ct at *
                have z2 := Nat.lt_of_lt_of_le hnow.lt hB2.size
                have zg := hg2.lt
                clear hcc HAK HSY HRS
                go_upto_region 10 with fail
                go_cut [43] (fun v wx => v = .bool true ∧ RowKit.Below wr.heap.size wr wx)
                case first =>
                  go_region_held3 (fun w' => w'.cell? ⟨b2, s, none⟩ = some (.int .i64 cs) ∧ w'.cell? ⟨b2, t, none⟩ = some (.int .i64 ct) ∧ w'.cell? ⟨gb, 0, none⟩ = some (.int .i64 Q) ∧ w'.cell? ⟨gb, 1, none⟩ = some (.int .i64 N) ∧ w'.cell? ⟨gb, 2, none⟩ = some (.slice p G.es.length c) ∧ RowKit.Below wr.heap.size wr w')
                    (first | (go_split_ands; refine ⟨?_, ?_, ?_, ?_, ?_, ?_⟩ <;> first | assumption | (go_keep; done) | exact below_dN (RowKit.Below.refl _ _) 1 | exact (hBa.cell (Nat.lt_of_lt_of_le z2 (RowKit.Below.size (by assumption)))).trans (by assumption) | exact (hBa.cell (Nat.lt_of_lt_of_le zg (RowKit.Below.size (by assumption)))).trans (by assumption) | exact RowKit.Below.trans (by assumption) (hBa.mono (RowKit.Below.size (by assumption)))))
                    (first
                      | (go_at_call 179; go_split_ands; with_reducible refine (HCA.out _ (by assumption)).mono ?_; rintro e wA ⟨rfl, hBa⟩))
                  all_goals
                    go_split_ands
                    go_wp2_with fail
                    go_meet
                    exact ⟨rfl, by assumption⟩
                case rest =>
                  obtain ⟨rfl, hBr⟩ := hcut
                  have hrow2 := hrow.below hBr (Nat.lt_of_lt_of_le hblt hBt.size)
                  have hct := hrow2.at t (v := .int .i64 (numR R t)) (by rw [List.getElem?_set_ne (by omega)]; unfold nowV; rw [List.getElem?_map, List.getElem?_append_left (by simpa using htl)]; simp [htl])
                  have hcs := hrow2.at s (v := .int .i64 (-1)) (by rw [List.getElem?_set_self]; unfold nowV; simp; omega)
                  have hcf := hrow2.frozen s
                  have hrow3 := hrow2.set (i := s) (.int .i64 (numR R t))
                  rw [List.set_set] at hrow3
                  have hBz := (hB2.trans (hBr.mono hB2.size)).setCell (p := ⟨wo.heap.size, s, none⟩) (Nat.le_refl _) (.int .i64 (numR R t))
                  generalize numR R t = m at *
                  go_wp2_with fail
                  go_meet
                  exact ⟨m, hrow3, .inl ⟨HFS.out, HNM.out.symm, hnb.1⟩, hBz⟩
            · have htI : ¬ (t : Int) < (s : Int) := by omega
              have hfst : Hid (fstR R s = true) := fstR_iff.2 (fun u hu => hj.out u (by omega))
              go_wp2_with fail
              go_meet
              exact ⟨-1, hrow, .inr ⟨hfst.out, rfl⟩, hB2⟩
        case rest =>
          obtain ⟨v, hrow, hv, hBv⟩ := hcut
          have HSET := hidI (nowV_set R hlt)
          have hlen := frsR_len R s
          have hsl : s < (nowV R N s).length := by unfold nowV; simp; omega
          have hc1 := hrow.at s (v := .int .i64 v) (by rw [List.getElem?_set_self hsl])
          have hf1 := hrow.frozen s
          have hlow : wo.heap.size ≤ wo.heap.size := Nat.le_refl _
          rcases hv with ⟨hfs, rfl, hv0⟩ | ⟨hfs, rfl⟩
          · have HF2 := hidI (frsR_stay hfs)
            rw [HSET.out] at hrow
            generalize numR R s = m at *
            have hm0 : ¬ m < 0 := by omega
            clear hfs
            go_wp2
            go_roundw
            case rel => exact ⟨s + 1, by omega, by rw [HF2.out], by go_num, hrow, hBv⟩
            case measure => simp [intOf]; omega
          · have HF2 : Hid ((frsR R (s + 1)).length = (frsR R s).length + 1) := by rw [Hid, frsR_go hfs, List.length_append]; rfl
            have HNW := hidI (numR_new hfs)
            have hrow2 := hrow.set (i := s) (.int .i64 (numR R s))
            rw [List.set_set, HSET.out, HNW.out] at hrow2
            have hBz := hBv.setCell (p := ⟨wo.heap.size, s, none⟩) hlow (.int .i64 ((frsR R s).length : Nat))
            clear hfs
            go_wp2
            go_roundw
            case rel => exact ⟨s + 1, by omega, by rw [HF2.out]; rfl, by go_num, hrow2, hBz⟩
            case measure => simp [intOf]; omega
      · have hltI : ¬ (s : Int) < (N : Int) := by omega
        obtain rfl : N = s := by omega
        rw [nowV_end, ← HC1.out] at hrow
        have hB2 := hB.trans (hBx.mono hB.size)
        have hn2 := hnow.below hBx hnow.lt
        have hlk := @clsN_len Q N G.es (k + 1)
        have HSS := hidI (fun W (hD : RowKit.Below wr.heap.size wr W) => rSameSet_any (clsN Q N G.es (k + 1)) C (some ⟨wo.heap.size, 0, none⟩) (some ⟨b2, 0, none⟩) N N W (Sl.of_vrow (hrow.below hD hrow.lt)) (Sl.of_vrow (hn2.below hD hn2.lt)) (by omega) (by omega))
        rw [hlk, hCl] at HSS
        have hgw := hB.size
        cases hd : decide (clsN Q N G.es (k + 1) = C)
        · have hne := of_decide_eq_false hd
          obtain ⟨m1, m2⟩ := HMO.out hne
          have hmm := mcA_max (n := N) (clsN Q N G.es (k + 1))
          have HMS2 := HMS.out
          rw [hd] at HSS
          clear hd hne hlk hCl
          go_wp2_with fail
          refine (HSS.out wr (RowKit.Below.refl _ _)).mono ?_
          rintro e wz ⟨rfl, hD⟩
          have hrz := hrow.dr hD
          have hBz := hB2.trans (hD.below _)
          go_wp2
          go_roundw
          case rel => exact ⟨k + 1, wo.heap.size, rfl, .inr (by rw [HMS2]), m1, hrz, hgw, hBz⟩
          case measure =>
            rw [HMS2] at m2 hmm
            rcases hn5 with ⟨rfl, rfl⟩ | rfl
            · simp only [intOf, Int.toNat_natCast]
              have : intOf undef = 0 := rfl
              simp [intOf, undef] at *
              omega
            · simp only [intOf, Int.toNat_natCast]
              omega
        · have hsame := of_decide_eq_true hd
          have hfin : Hid (clA G = C) := by rw [Hid, HCL.out, HEND.out hsame]
          rw [hd] at HSS
          clear hd hlk hCl
          go_wp2_with fail
          refine (HSS.out wr (RowKit.Below.refl _ _)).mono ?_
          rintro e wz ⟨rfl, hD⟩
          have hrz := hn2.dr hD
          have hBz := hB0.trans ((hB2.trans (hD.below _)).mono hB0.size)
          go_wp2
          go_ret
          exact ⟨b2, rfl, by omega, by rw [hfin.out]; exact hrz, hBz⟩
end Go.Proofs.YtocbhlohcikapaaGreatDoor
namespace Go.Proofs.YtocbhlohcikapaaGreatDoor
open Go.RowKit Go.Sort Go.Shelf Go.Lib

def chkD (G : Gr) : Int := if chkG G = 0 then (if detB G.es = true then 0 else 8) else 1
theorem chkD_bad {G : Gr} (h : chkG G ≠ 0) : chkD G = 1 := if_neg h
theorem chkD_two {G : Gr} (h : chkG G = 0) (h2 : detB G.es = false) : chkD G = 8 := by unfold chkD; rw [if_pos h, if_neg (by simp [h2])]
theorem chkD_ok {G : Gr} (h : chkG G = 0) (h2 : detB G.es = true) : chkD G = 0 := by unfold chkD; rw [if_pos h, if_pos h2]
theorem chkD_iff {G : Gr} : chkD G = 0 ↔ Vg G ∧ detB G.es = true := by
  unfold chkD
  constructor
  · intro h
    split at h
    · rename_i h1
      split at h
      · rename_i h2; exact ⟨chkG_ok.1 h1, h2⟩
      · omega
    · omega
  · rintro ⟨h1, h2⟩; rw [if_pos (chkG_ok.2 h1), if_pos h2]

set_option maxRecDepth 100000 in
theorem mcheck_any (G : Gr) (p : Option Addr) (c : Nat) (w : World) (hin : Sg 3 w edE p G.es) (hl : G.es.length ≤ 9223372036854775807) :
    Calls Tryz.prog 111 #[(.agg #[.int .i64 G.q, .int .i64 G.n, .slice p G.es.length c])] w fun e w' => e = .returned (.int .i64 (chkD G)) ∧ RowKit.Below w.heap.size w w' := by
  obtain ⟨w0, hw0⟩ : ∃ w0, w0 = w.alloc (.cells #[.int .i64 G.q, .int .i64 G.n, .slice p G.es.length c] 24) := ⟨_, rfl⟩
  have b0 : VRow w0 w.heap.size 24 [.int .i64 G.q, .int .i64 G.n, .slice p G.es.length c] := by subst hw0; exact VRow.new w _ _
  have hB0 : RowKit.Below w.heap.size w w0 := by subst hw0; exact (RowKit.Below.refl _ _).alloc (Nat.le_refl _) _
  have HIN := hidI (hin.below hB0)
  have HD := hidI (gDet_any G p c w0 HIN.out hl)
  clear hin
  by_cases h1 : chkG G = 0
  · rw [detA_ok h1] at HD
    cases h2 : detB G.es
    · have HK := hidI (chkD_two h1 h2)
      rw [h2] at HD
      clear h1 h2
      go_enter Tryz.func111, Tryz.ntmps111
      go_wp2_with fail
      rw [← hw0]
      clear hw0
      refine HD.out.mono ?_
      rintro e w1 ⟨rfl, hB1⟩
      go_wp2
      go_ret
      exact ⟨ret_int HK.out.symm, hB0.trans (hB1.mono hB0.size)⟩
    · have HK := hidI (chkD_ok h1 h2)
      rw [h2] at HD
      clear h1 h2
      go_enter Tryz.func111, Tryz.ntmps111
      go_wp2_with fail
      rw [← hw0]
      clear hw0
      refine HD.out.mono ?_
      rintro e w1 ⟨rfl, hB1⟩
      go_wp2
      go_ret
      exact ⟨ret_int HK.out.symm, hB0.trans (hB1.mono hB0.size)⟩
  · have HK := hidI (chkD_bad h1)
    rw [detA_bad h1] at HD
    clear h1
    go_enter Tryz.func111, Tryz.ntmps111
    go_wp2_with fail
    rw [← hw0]
    clear hw0
    refine HD.out.mono ?_
    rintro e w1 ⟨rfl, hB1⟩
    go_wp2
    go_ret
    exact ⟨ret_int HK.out.symm, hB0.trans (hB1.mono hB0.size)⟩

set_option maxRecDepth 100000 in
theorem rmcheck_any (G : Gr) (p : Option Addr) (c : Nat) (w : World) (hin : Sg 3 w edE p G.es) (hl : G.es.length ≤ 9223372036854775807) :
    Calls Tryz.prog 131 #[(.agg #[.int .i64 G.q, .int .i64 G.n, .slice p G.es.length c])] w fun e w' => e = .returned (.int .i64 (chkD G)) ∧ RowKit.Below w.heap.size w w' := by
  obtain ⟨w0, hw0⟩ : ∃ w0, w0 = w.alloc (.cells #[.int .i64 G.q, .int .i64 G.n, .slice p G.es.length c] 24) := ⟨_, rfl⟩
  have b0 : VRow w0 w.heap.size 24 [.int .i64 G.q, .int .i64 G.n, .slice p G.es.length c] := by subst hw0; exact VRow.new w _ _
  have hB0 : RowKit.Below w.heap.size w w0 := by subst hw0; exact (RowKit.Below.refl _ _).alloc (Nat.le_refl _) _
  have HIN := hidI (hin.below hB0)
  have HC := hidI (rCheck_any G p c w0 HIN.out hl)
  clear hin
  obtain ⟨r, hr⟩ : ∃ r, chkG G = r := ⟨_, rfl⟩
  rw [hr] at HC
  by_cases h1 : r = 0
  · subst h1
    have HD := hidI (fun W (hW : RowKit.Below w0.heap.size w0 W) => rDet_any G p c W (HIN.out.below hW) hl)
    rw [detA_ok hr] at HD
    cases h2 : detB G.es
    · have HK := hidI (chkD_two hr h2)
      rw [h2] at HD
      clear hr h2
      go_enter Tryz.func131, Tryz.ntmps131
      go_wp2_with fail
      rw [← hw0]
      clear hw0
      refine HC.out.mono ?_
      rintro e w1 ⟨rfl, hB1⟩
      have c0 := b0.below hB1 b0.lt
      have f0 := c0.at 0 rfl; have f1 := c0.at 1 rfl; have f2 := c0.at 2 rfl
      go_wp2_with fail
      refine (HD.out w1 hB1).mono ?_
      rintro e w2 ⟨rfl, hB2⟩
      go_wp2
      go_ret
      exact ⟨ret_int HK.out.symm, (hB0.trans (hB1.mono hB0.size)).trans (hB2.mono (hB0.trans (hB1.mono hB0.size)).size)⟩
    · have HK := hidI (chkD_ok hr h2)
      rw [h2] at HD
      clear hr h2
      go_enter Tryz.func131, Tryz.ntmps131
      go_wp2_with fail
      rw [← hw0]
      clear hw0
      refine HC.out.mono ?_
      rintro e w1 ⟨rfl, hB1⟩
      have c0 := b0.below hB1 b0.lt
      have f0 := c0.at 0 rfl; have f1 := c0.at 1 rfl; have f2 := c0.at 2 rfl
      go_wp2_with fail
      refine (HD.out w1 hB1).mono ?_
      rintro e w2 ⟨rfl, hB2⟩
      go_wp2
      go_ret
      exact ⟨ret_int HK.out.symm, (hB0.trans (hB1.mono hB0.size)).trans (hB2.mono (hB0.trans (hB1.mono hB0.size)).size)⟩
  · have HK := hidI (chkD_bad (G := G) (by rw [hr]; exact h1))
    have hrb : (r == 0) = false := by simpa using h1
    have hrc : (r != 0) = true := by simpa using h1
    clear hr h1
    go_enter Tryz.func131, Tryz.ntmps131
    go_wp2_with fail
    rw [← hw0]
    clear hw0
    refine HC.out.mono ?_
    rintro e w1 ⟨rfl, hB1⟩
    go_wp2
    go_ret
    exact ⟨ret_int HK.out.symm, hB0.trans (hB1.mono hB0.size)⟩

/-! ### Partition -/
def parA (G : Gr) : List Int × Int := if chkD G = 0 then (clA G, 0) else ([], chkD G)
theorem parA_ok {G : Gr} (h : chkD G = 0) : parA G = (clA G, 0) := if_pos h
theorem parA_bad {G : Gr} (h : chkD G ≠ 0) : parA G = ([], chkD G) := if_neg h
/-- Numbers, and an error. -/
def RetLe (l : List Int) (k : Int) (w : World) (e : Ending) (w' : World) : Prop := ∃ q d, e = .returned (.tuple #[.slice q l.length d, .int .i64 k]) ∧ Sl w' (Value.int .i64) q l ∧ RowKit.Below w.heap.size w w'
theorem RetLe.of {x : List Int × Int} {l : List Int} {k : Int} {w w' : World} {q : Option Addr} {d : Nat} (h : x = (l, k)) (hs : Sl w' (Value.int .i64) q l) (hB : RowKit.Below w.heap.size w w') :
    RetLe x.1 x.2 w (.returned (.tuple #[.slice q l.length d, .int .i64 k])) w' := by subst h; exact ⟨q, d, rfl, hs, hB⟩

end Go.Proofs.YtocbhlohcikapaaGreatDoor
namespace Go.Proofs.YtocbhlohcikapaaGreatDoor
open Go.RowKit Go.Sort Go.Shelf Go.Lib

def sepO (G : Gr) (s t : Int) : Option (List Int) := bfsA G.n.toNat G.n.toNat G.es G.es kpP oneB G.q.toNat s t
def sepA (G : Gr) (s t : Int) : List Int × Bool × Int := if chkD G = 0 then (if min s t < 0 ∨ G.n ≤ max s t then ([], false, 25) else ((fwA (sepO G s t)).1, (fwA (sepO G s t)).2, 0)) else ([], false, chkD G)
theorem sepA_bad {G : Gr} {s t : Int} (h : chkD G ≠ 0) : sepA G s t = ([], false, chkD G) := if_neg h
theorem sepA_out {G : Gr} {s t : Int} (h : chkD G = 0) (h2 : min s t < 0 ∨ G.n ≤ max s t) : sepA G s t = ([], false, 25) := by unfold sepA; rw [if_pos h, if_pos h2]
theorem sepA_ok {G : Gr} {s t : Int} (h : chkD G = 0) (h2 : ¬ (min s t < 0 ∨ G.n ≤ max s t)) : sepA G s t = ((fwA (sepO G s t)).1, (fwA (sepO G s t)).2, 0) := by unfold sepA; rw [if_pos h, if_neg h2]
/-- A word, whether there is one, and an error. -/
def RetSp (l : List Int) (b : Bool) (k : Int) (w : World) (e : Ending) (w' : World) : Prop := ∃ q d, e = .returned (.tuple #[.slice q l.length d, .bool b, .int .i64 k]) ∧ Sl w' (Value.int .i64) q l ∧ RowKit.Below w.heap.size w w'
theorem RetSp.of {x : List Int × Bool × Int} {l : List Int} {b : Bool} {k : Int} {w w' : World} {q : Option Addr} {d : Nat} (h : x = (l, b, k)) (hs : Sl w' (Value.int .i64) q l) (hB : RowKit.Below w.heap.size w w') :
    RetSp x.1 x.2.1 x.2.2 w (.returned (.tuple #[.slice q l.length d, .bool b, .int .i64 k])) w' := by subst h; exact ⟨q, d, rfl, hs, hB⟩
theorem one_at (n m : Nat) (w : World) : IsAt n m oneB 69 #[] w := fun W s t _ h1 _ h2 _ => by
  show Calls Tryz.prog 69 #[.agg #[.int .i64 s, .int .i64 t]] W _
  exact mone_any s t W h1 h2

set_option maxRecDepth 100000 in
set_option maxHeartbeats 2000000 in
theorem mSeparate_any (G : Gr) (p : Option Addr) (c : Nat) (s t : Int) (w : World) (hin : Sg 3 w edE p G.es) (hl : G.es.length ≤ 9223372036854775807) :
    Calls Tryz.prog 50 #[(.agg #[.int .i64 G.q, .int .i64 G.n, .slice p G.es.length c]), .int .i64 s, .int .i64 t] w (RetSp (sepA G s t).1 (sepA G s t).2.1 (sepA G s t).2.2 w) := by
  obtain ⟨w0, hw0⟩ : ∃ w0, w0 = w.alloc (.cells #[.int .i64 G.q, .int .i64 G.n, .slice p G.es.length c] 24) := ⟨_, rfl⟩
  have b0 : VRow w0 w.heap.size 24 [.int .i64 G.q, .int .i64 G.n, .slice p G.es.length c] := by subst hw0; exact VRow.new w _ _
  have hB0 : RowKit.Below w.heap.size w w0 := by subst hw0; exact (RowKit.Below.refl _ _).alloc (Nat.le_refl _) _
  have HIN := hidI (hin.below hB0)
  have HC := hidI (mcheck_any G p c w0 HIN.out hl)
  clear hin
  obtain ⟨r, hr⟩ : ∃ r, chkD G = r := ⟨_, rfl⟩
  rw [hr] at HC
  by_cases h1 : r = 0
  · subst h1
    obtain ⟨hv, hd⟩ := chkD_iff.1 hr
    by_cases hmn : min s t < 0
    · have HK := hidI (sepA_out hr (.inl hmn))
      clear hr hv hd
      go_enter Tryz.func50, Tryz.ntmps50
      go_wp2_with fail
      rw [← hw0]
      clear hw0
      refine HC.out.mono ?_
      rintro e w1 ⟨rfl, hB1⟩
      go_wp2
      go_ret3
      exact RetSp.of (l := []) HK.out (Sl.nil _ _ _) (hB0.trans (hB1.mono hB0.size))
    by_cases hmx : G.n ≤ max s t
    · have HK := hidI (sepA_out hr (.inr hmx))
      clear hr hv hd
      go_enter Tryz.func50, Tryz.ntmps50
      go_wp2_with fail
      rw [← hw0]
      clear hw0
      refine HC.out.mono ?_
      rintro e w1 ⟨rfl, hB1⟩
      have c0 := b0.below hB1 b0.lt
      have f1 := c0.at 1 rfl
      go_wp2
      go_ret3
      exact RetSp.of (l := []) HK.out (Sl.nil _ _ _) (hB0.trans (hB1.mono hB0.size))
    · have HK := hidI (sepA_ok hr (fun h => h.elim hmn hmx))
      have hu := uq_det hv hd
      obtain ⟨N, hN⟩ : ∃ N : Nat, G.n = N := ⟨G.n.toNat, by have := hv.n1; omega⟩
      obtain ⟨Q, hQ⟩ : ∃ Q : Nat, G.q = Q := ⟨G.q.toNat, by have := hv.q1; omega⟩
      have hN64 : N ≤ 64 := by have := hv.n2; omega
      have hQ256 : Q ≤ 256 := by have := hv.q2; omega
      have hst : 0 ≤ s ∧ s < N ∧ 0 ≤ t ∧ t < N := by omega
      have hnt : G.n.toNat = N := by omega
      have hqt : G.q.toNat = Q := by omega
      have hNX : ∀ s a, -1 ≤ nxt G.es s a ∧ nxt G.es s a < (N : Int) := fun s a => by have := nxt_bd hv s a; rw [hN] at this; exact this
      have HOF := hidI (fun W (hW : RowKit.Below w0.heap.size w0 W) => mof_any G p c Q W (HIN.out.below hW) hv hu (by omega) hQ256)
      have HFI := hidI (fun W B (bs : Nat → Nat) base (hT : Tab W base B N Q bs (fun s a => tgt G.es s a)) => mfirst_any G.es G.es N N Q base B base B bs bs s t oneB 69 #[] W hT hT hNX hNX hN64 hN64 hQ256 (by omega) hst.2.1 (by omega) hst.2.2.2 (enters_of Tryz.func69 (by kernel_rfl) rfl) (one_at N N W))
      have HSO : Hid (sepO G s t = bfsA N N G.es G.es kpP oneB Q s t) := by unfold Hid sepO; rw [hnt, hqt]
      rw [hnt] at HOF
      rw [← HSO.out] at HFI
      rw [hN] at b0
      rw [hQ] at b0
      generalize sepO G s t = o at *
      have HQ := hidI hQ
      have HN := hidI hN
      clear hr hv hd hu hN hQ hnt hqt hNX HSO
      go_enter Tryz.func50, Tryz.ntmps50
      go_wp2_with fail
      rw [← hw0]
      clear hw0
      refine HC.out.mono ?_
      rintro e w1 ⟨rfl, hB1⟩
      have c0 := b0.below hB1 b0.lt
      have f0 := c0.at 0 rfl; have f1 := c0.at 1 rfl; have f2 := c0.at 2 rfl
      have x1 := hB0.trans (hB1.mono hB0.size)
      have hmx2 : ¬ (N : Int) ≤ max s t := by omega
      have HOF2 := HOF.out w1 hB1
      rw [HQ.out, HN.out] at HOF2
      have HOF2 := hidI HOF2
      go_wp2_with fail
      refine HOF2.out.mono ?_
      rintro e w2 ⟨B, bs, rfl, hT, hB2⟩
      have c2 := c0.below hB2 c0.lt
      have x2 := x1.trans (hB2.mono x1.size)
      clear f0 f1 f2
      have f0 := c2.at 0 rfl
      have HF2 := hidI (HFI.out w2 B bs w1.heap.size hT)
      go_wp2_with fail
      refine HF2.out.mono ?_
      rintro e w3 ⟨q3, d3, rfl, hs3, hB3⟩
      have x3 := x2.trans (hB3.mono x2.size)
      go_wp2
      go_ret3
      exact RetSp.of HK.out hs3 x3
  · have HK := hidI (sepA_bad (G := G) (s := s) (t := t) (by rw [hr]; exact h1))
    rw [hr] at HK
    have hrb : (r == 0) = false := by simpa using h1
    have hrc : (r != 0) = true := by simpa using h1
    clear hr h1
    go_enter Tryz.func50, Tryz.ntmps50
    go_wp2_with fail
    rw [← hw0]
    clear hw0
    refine HC.out.mono ?_
    rintro e w1 ⟨rfl, hB1⟩
    go_wp2
    go_ret3
    exact RetSp.of (l := []) HK.out (Sl.nil _ _ _) (hB0.trans (hB1.mono hB0.size))
end Go.Proofs.YtocbhlohcikapaaGreatDoor
namespace Go.Proofs.YtocbhlohcikapaaGreatDoor
open Go.RowKit Go.Sort Go.Shelf Go.Lib

/-! ### Places -/
structure Pd where
  s : Int
  t : Int
  q : Option Addr
  n : Nat
  c : Nat
def pdE (x : Pd) : List Value := [.int .i64 x.s, .int .i64 x.t, .slice x.q x.n x.c]
def catP (l : List Pd) : List Value := l.flatMap pdE
theorem catP_len (l : List Pd) : (catP l).length = l.length * 3 := by
  induction l with
  | nil => rfl
  | cons x l ih =>
    have e : catP (x :: l) = pdE x ++ catP l := rfl
    have e2 : (pdE x).length = 3 := rfl
    rw [e, List.length_append, ih, e2, List.length_cons]; omega
theorem catP_app (a b : List Pd) : catP (a ++ b) = catP a ++ catP b := List.flatMap_append
theorem catP_get : ∀ (l : List Pd) (k : Nat) (h : k < l.length) (j : Nat), j < 3 → (catP l)[k * 3 + j]? = (pdE l[k])[j]?
  | [], k, h, j, hj => by simp at h
  | x :: l, 0, h, j, hj => by
    show (pdE x ++ catP l)[0 * 3 + j]? = _
    rw [Nat.zero_mul, Nat.zero_add, List.getElem?_append_left (by show j < 3; exact hj)]; rfl
  | x :: l, k + 1, h, j, hj => by
    show (pdE x ++ catP l)[(k + 1) * 3 + j]? = _
    rw [List.getElem?_append_right (by show 3 ≤ _; omega), show (k + 1) * 3 + j - (pdE x).length = k * 3 + j by show (k + 1) * 3 + j - 3 = _; omega]
    exact catP_get l k (by simpa using h) j hj
theorem catP_one (l : List Pd) : ∀ v ∈ catP l, v.oneCell' = true := by
  intro v hv
  obtain ⟨x, _, hx⟩ := List.mem_flatMap.1 hv
  simp only [pdE, List.mem_cons, List.not_mem_nil, or_false] at hx
  rcases hx with rfl | rfl | rfl <;> rfl
theorem ownP_cell {w : World} {B e n cap g : Nat} {l : List Pd} (h : w.ownsRow B e 3 (.slice (some ⟨g, 0, none⟩) n cap) n (catP l)) (k : Nat) (hk : k < l.length) (j : Nat) (hj : j < 3) : w.cell? ⟨g, k * 3 + j, none⟩ = (pdE l[k])[j]? := by
  have hn : l.length = n := by have := h.1; rw [catP_len] at this; omega
  rcases h.2 with ⟨e0, _⟩ | ⟨g', cap', cur, e0, hg, hh, hc, hm, hs, ht⟩
  · cases e0
  · cases e0
    rw [← catP_get l k hk j hj, ← ht]
    have hlt : k * 3 + j < n * 3 := by omega
    simp only [World.cell?, hh]
    rw [List.getElem?_take, if_pos hlt, Array.getElem?_toList]
    simp
theorem infoP : (Tryz.prog.info? 191).map (fun i => (i.zero, i.size, i.bytes)) = some (some (.agg #[.int .i64 0, .int .i64 0, .slice none 0 0]), 3, 40) := by kernel_rfl
theorem ownP_new (w : World) (x : Pd) (B : Nat) (hB : B ≤ w.heap.size) : (w.alloc (.cells (pdE x).toArray 191)).ownsRow B 191 3 (.slice (some ⟨w.heap.size, 0, none⟩) 1 1) 1 (catP [x]) :=
  ⟨rfl, .inr ⟨w.heap.size, 1, _, rfl, hB, heap_alloc_new w _, Nat.le_refl _, by simp [maxLen], rfl, rfl⟩⟩
theorem cell_newP (w : World) (x : Pd) : ∀ (j : Nat) (u : Value), (catP [x])[j]? = some u → (w.alloc (.cells (pdE x).toArray 191)).cell? ((⟨w.heap.size, 0, none⟩ : Addr).add j) = some u := by
  intro j u hu
  rw [show (⟨w.heap.size, 0, none⟩ : Addr).add j = ⟨w.heap.size, 0 + j, none⟩ by unfold Addr.add; split <;> simp_all, Nat.zero_add]
  have h : VRow (w.alloc (.cells (pdE x).toArray 191)) w.heap.size 191 (pdE x) := VRow.new w _ _
  rw [h.cell]
  simpa [catP] using hu
/-- The places of a queue of pairs: their words lie in blocks of their own. -/
structure Lp (w : World) (B : Nat) (l : List Pw) (q : List Pd) : Prop where
  len : q.length = l.length
  at_ : ∀ i (h : i < l.length) (h' : i < q.length), q[i].s = l[i].1.1 ∧ q[i].t = l[i].1.2 ∧ q[i].n = l[i].2.length ∧ w.ownsRow B 3 1 (.slice q[i].q q[i].n q[i].c) q[i].n (l[i].2.map (Value.int .i64))
theorem own_ne_own {w : World} {B e size n B' e' size' n' : Nat} {v v' : Value} {xs xs' : List Value} (h : w.ownsRow B e size v n xs) (h' : w.ownsRow B' e' size' v' n' xs') (hne : e ≠ e') : v.ownBlock = none ∨ v.ownBlock ≠ v'.ownBlock := by
  rcases h.2 with ⟨rfl, _⟩ | ⟨g, cap, cur, rfl, hg, hh, _⟩
  · exact .inl rfl
  · right
    rcases h'.2 with ⟨rfl, _⟩ | ⟨g', cap', cur', rfl, hg', hh', _⟩
    · intro e; cases e
    · intro e1
      have e1 : g = g' := by simpa [Value.ownBlock] using e1
      subst e1
      rw [hh] at hh'
      simp at hh'
      exact hne hh'.2
theorem Lp.first (w : World) (B : Nat) (s t : Int) : Lp w B [((s, t), [])] [⟨s, t, none, 0, 0⟩] :=
  ⟨rfl, fun i h h' => by
    obtain rfl : i = 0 := by simp at h; exact h
    exact ⟨rfl, rfl, rfl, World.ownsRow_nil _ _ _ _⟩⟩
section
variable {w w' : World} {B : Nat} {l : List Pw} {q : List Pd}
theorem Lp.alloc (h : Lp w B l q) (o : Obj) : Lp (w.alloc o) B l q := ⟨h.len, fun i a b => ⟨(h.at_ i a b).1, (h.at_ i a b).2.1, (h.at_ i a b).2.2.1, (h.at_ i a b).2.2.2.alloc o⟩⟩
theorem Lp.below (h : Lp w B l q) (hB : RowKit.Below w.heap.size w w') : Lp w' B l q := ⟨h.len, fun i a b => ⟨(h.at_ i a b).1, (h.at_ i a b).2.1, (h.at_ i a b).2.2.1, (h.at_ i a b).2.2.2.below hB⟩⟩
theorem Lp.kept (h : Lp w B l q) {B' e size n : Nat} {v : Value} {xs : List Value} (ho : w.ownsRow B' e size v n xs) (hne : 3 ≠ e) (hg : w.grownBy w' v.ownBlock) : Lp w' B l q :=
  ⟨h.len, fun i a b => ⟨(h.at_ i a b).1, (h.at_ i a b).2.1, (h.at_ i a b).2.2.1, (h.at_ i a b).2.2.2.kept hg (own_ne_own (h.at_ i a b).2.2.2 ho hne)⟩⟩
theorem Lp.snoc (h : Lp w B l q) (s t : Int) (wd : List Int) (p : Option Addr) (c : Nat) (ho : w.ownsRow B 3 1 (.slice p wd.length c) wd.length (wd.map (Value.int .i64))) : Lp w B (l ++ [((s, t), wd)]) (q ++ [⟨s, t, p, wd.length, c⟩]) := by
  refine ⟨by simp [h.len], fun i hi hi' => ?_⟩
  have hlen := h.len
  by_cases e : i < l.length
  · have e' : i < q.length := by omega
    simp only [List.getElem_append_left e, List.getElem_append_left e']
    exact h.at_ i e e'
  · have e2 : i = l.length := by simp at hi; omega
    subst e2
    have e3 : (q ++ [(⟨s, t, p, wd.length, c⟩ : Pd)])[l.length]'hi' = ⟨s, t, p, wd.length, c⟩ := by
      rw [List.getElem_append_right (by omega)]
      simp [hlen]
    have e4 : (l ++ [((s, t), wd)])[l.length]'hi = ((s, t), wd) := by
      rw [List.getElem_append_right (Nat.le_refl _)]
      simp
    rw [e3, e4]
    exact ⟨rfl, rfl, rfl, ho⟩
end

set_option maxRecDepth 100000 in
theorem rreached_any (l : List Pw) (q : List Pd) (B B2 g cap : Nat) (s t : Int) (w : World) (hq : Lp w B2 l q) (ho : w.ownsRow B 191 3 (.slice (some ⟨g, 0, none⟩) l.length cap) l.length (catP q)) (hl : l.length ≤ 100000) :
    Calls Tryz.prog 182 #[.slice (some ⟨g, 0, none⟩) l.length cap, .int .i64 s, .int .i64 t] w fun e w' => e = .returned (.bool (decide ((s, t) ∈ l.map Prod.fst))) ∧ w = w' := by
  have HQ := hidI hq
  go_enter Tryz.func182, Tryz.ntmps182
  go_wp2
  go_loop [7] (fun iv => ∃ k : Nat, k ≤ l.length ∧ iv = .int .i64 k ∧ Hid (∀ j (h : j < l.length), j < k → l[j].1 ≠ (s, t))) (fun iv => l.length - (intOf iv).toNat)
  case atStart => exact ⟨0, by omega, rfl, fun j _ h => absurd h (by omega)⟩
  case round =>
    obtain ⟨k, hk, rfl, hj⟩ := hrel
    by_cases hlt : k < l.length
    · have hltI : (k : Int) < (l.length : Int) := by omega
      have hkq : k < q.length := by rw [HQ.out.len]; exact hlt
      obtain ⟨e1, e2, e3⟩ := HQ.out.at_ k hlt hkq
      have k0 : w.cell? ⟨g, k * 3, none⟩ = some (.int .i64 l[k].1.1) := by have := ownP_cell ho k hkq 0 (by omega); rw [← e1]; simpa [pdE] using this
      have k1 : w.cell? ⟨g, k * 3 + 1, none⟩ = some (.int .i64 l[k].1.2) := by have := ownP_cell ho k hkq 1 (by omega); rw [← e2]; simpa [pdE] using this
      have HN : Hid (l[k].1 ≠ (s, t) → ∀ j (h : j < l.length), j < k + 1 → l[j].1 ≠ (s, t)) := fun h j h1 h2 => by
        by_cases e : j = k
        · subst e; exact h
        · exact hj.out j h1 (by omega)
      have HM : Hid (l[k].1 ∈ l.map Prod.fst) := List.mem_map_of_mem (List.getElem_mem hlt)
      clear e1 e2 e3 hkq
      generalize l[k].1 = x at *
      obtain ⟨x1, x2⟩ := x
      simp only at k0 k1
      by_cases h1 : x1 = s
      · have d1 : (x1 == s) = true := by simpa using h1
        by_cases h2 : x2 = t
        · have d2 : (x2 == t) = true := by simpa using h2
          have HX : Hid (decide ((s, t) ∈ l.map Prod.fst) = true) := decide_eq_true (by rw [← h1, ← h2]; exact HM.out)
          clear h1 h2
          go_wp2
          go_ret
          exact ⟨ret_bool HX.out.symm, rfl⟩
        · have d2 : (x2 == t) = false := by simpa using h2
          have HJ := hidI (HN.out (fun e => h2 (Prod.mk.inj e).2))
          clear h1 h2
          go_wp2
          go_round
          case rel => exact ⟨k + 1, by omega, by go_num, HJ⟩
          case measure => simp [intOf]; omega
      · have d1 : (x1 == s) = false := by simpa using h1
        have HJ := hidI (HN.out (fun e => h1 (Prod.mk.inj e).1))
        clear h1
        go_wp2
        go_round
        case rel => exact ⟨k + 1, by omega, by go_num, HJ⟩
        case measure => simp [intOf]; omega
    · have hltI : ¬ (k : Int) < (l.length : Int) := by omega
      have HX : Hid (decide ((s, t) ∈ l.map Prod.fst) = false) := decide_eq_false (fun hm => by
        obtain ⟨x, hx, e⟩ := List.mem_map.1 hm
        obtain ⟨j, hj2, rfl⟩ := List.mem_iff_getElem.1 hx
        exact hj.out j hj2 (by omega) e)
      go_wp2
      go_ret
      exact ⟨ret_bool HX.out.symm, rfl⟩
end Go.Proofs.YtocbhlohcikapaaGreatDoor
