/-
  Words, plain lemmas and walks, merged: Nr, Ns, Nj, Nk, Nt, Law.
-/
import Derived.Test.YtocbhlohcikapaaGreatDoorZqh
import Derived.Laws.AppendOwnNone
import Derived.Lib.AppendZeros
import Derived.Test.YtocbhlohcikapaaGreatDoorZqc
import Derived.Test.YtocbhlohcikapaaGreatDoorZqb
import Derived.Test.YtocbhlohcikapaaGreatDoorZqa
import Derived.Test.YtocbhlohcikapaaGreatDoorRows
import Derived.ProofKit
import Derived.OpenShut
import Derived.ShutString
import Derived.SliceStrings
set_option linter.unusedVariables false
set_option linter.unusedSimpArgs false
namespace Go.Proofs.YtocbhlohcikapaaGreatDoor
open Go.RowKit Go.Sort Go.Shelf Go.Lib

def kpR (both : Bool) (x : Int × Int) : Bool := decide (0 ≤ x.1) || (both && decide (0 ≤ x.2))
def isR (both : Bool) (x : Int × Int) : Bool := (decide (0 ≤ x.1) && decide (x.2 < 0)) || (both && (decide (x.1 < 0) && decide (0 ≤ x.2)))

theorem bAdd_lens {f g : List Ed} {kp : Int × Int → Bool} {x : Pw} {l : List Pw} {a k : Nat} (h1 : x.2.length ≤ k) (h2 : ∀ y ∈ l, y.2.length ≤ k + 1) : ∀ y ∈ bAdd f g kp x l a, y.2.length ≤ k + 1 := by
  unfold bAdd; split
  · intro y hy
    rcases List.mem_append.1 hy with hy | hy
    · exact h2 y hy
    · obtain rfl := List.mem_singleton.1 hy
      simpa using h1
  · exact h2
theorem bRow_lens {f g : List Ed} {kp : Int × Int → Bool} {x : Pw} {l : List Pw} {k : Nat} (h1 : x.2.length ≤ k) (h2 : ∀ y ∈ l, y.2.length ≤ k + 1) : ∀ L, ∀ y ∈ bRow f g kp x l L, y.2.length ≤ k + 1
  | 0 => h2
  | L + 1 => by rw [bRow_succ]; exact bAdd_lens h1 (bRow_lens h1 h2 L)

/-! ### Words, joined in memory -/
theorem wpList_app_both {ops : Array Oper} {rest : List Oper} {o : Oper} {a : Act} {Q : Exit → Act → World → Prop} {w : World} (hgd : o.guard = none) (s x : Operand)
    (ho : o.op = .call { callee := .builtin .append, args := #[s, x], argTypes := #[30, 30] }) (v u : Value) (hs : a.eval s = v) (hx : a.eval x = u) (B B2 n m : Nat) (xs ys : List Int)
    (h1 : w.ownsRow B 3 1 v n (xs.map (Value.int .i64))) (h2 : w.ownsRow B2 3 1 u m (ys.map (Value.int .i64))) (hb : n + m ≤ 100000) (hB : B ≤ w.heap.size)
    (h : ∀ v' w', w'.ownsRow B 3 1 v' (n + m) ((xs ++ ys).map (Value.int .i64)) → w.grownBy w' v.ownBlock → wpList Tryz.prog ops Q rest (a.put o.dst v') w') : wpList Tryz.prog ops Q (o :: rest) a w := by
  obtain ⟨j0, hj0, hy0, hy1, hy2⟩ := info_parts infoJ
  rcases h2.2 with ⟨rfl, h0⟩ | ⟨g, cap, cur, rfl, _⟩
  · subst h0
    have hm := h2.1
    have : ys = [] := List.length_eq_zero_iff.1 (by simpa using hm)
    subst this
    refine wpList_append_own_none hgd s x 30 ho B 3 j0 1 Tryz.underlying30 hj0 v n _ hs h1 hx ?_
    exact h v w (by simpa using h1) ⟨rfl, rfl, rfl, Nat.le_refl _, fun _ _ _ => rfl⟩
  · have hl : (ys.map (Value.int .i64)).length = m * 1 := h2.1
    refine wpList_append_own _ hgd s x 30 ho B 3 j0 (.int .i64 0) 1 8 Tryz.underlying30 hj0 hy0 hy1 hy2 rfl (by decide) v n _ hs h1 ⟨g, 0, none⟩ m cap _ hx hl (h2.cells (g := g) rfl) (by simp [Value.oneCell']) (by simp only [maxLen]; omega) (by omega) hB ?_
    intro v' w' hown hg _
    exact h v' w' (by rw [List.map_append]; exact hown) hg
theorem own_emptyI (w : World) : (w.alloc (.cells #[] 3)).ownsRow w.heap.size 3 1 (.slice (some ⟨w.heap.size, 0, none⟩) 0 0) 0 (([] : List Int).map (Value.int .i64)) :=
  ⟨rfl, .inr ⟨w.heap.size, 0, _, rfl, Nat.le_refl _, heap_alloc_new w _, Nat.le_refl _, by simp [maxLen], rfl, rfl⟩⟩
theorem own_oneI (w : World) (a : Int) : (w.alloc (.cells #[.int .i64 a] 3)).ownsRow w.heap.size 3 1 (.slice (some ⟨w.heap.size, 0, none⟩) 1 1) 1 ([a].map (Value.int .i64)) :=
  ⟨rfl, .inr ⟨w.heap.size, 1, _, rfl, Nat.le_refl _, heap_alloc_new w _, Nat.le_refl _, by simp [maxLen], rfl, rfl⟩⟩
theorem own_slP {w : World} {B e n c : Nat} {p : Option Addr} {l : List Int} (h : w.ownsRow B e 1 (.slice p l.length c) n (l.map (Value.int .i64))) : Sl w (Value.int .i64) p l := by
  obtain ⟨p', c', he, hs⟩ := own_sl h
  cases he
  exact hs
theorem ownP_shape {w : World} {B e n : Nat} {v : Value} {l : List Pd} (h : w.ownsRow B e 3 v n (catP l)) (hn : 0 < n) : ∃ g cap, v = .slice (some ⟨g, 0, none⟩) n cap := by
  rcases h.2 with ⟨rfl, h0⟩ | ⟨g, cap, cur, rfl, _⟩
  · omega
  · exact ⟨g, cap, rfl⟩
theorem own_ne_row3 {w : World} {B e n b cap g t : Nat} {xs l : List Value} (h : w.ownsRow B e 3 (.slice (some ⟨g, 0, none⟩) n cap) n xs) (hn : 2 ≤ n) (r : VRow w b t l) (hl : l.length = 3) : g ≠ b := by
  rintro rfl
  rcases h.2 with ⟨e0, _⟩ | ⟨g', cap', cur, e0, hg, hh, hc, hm, hs, ht⟩
  · cases e0
  · cases e0
    rw [show w.heap[g]? = _ from r] at hh
    simp at hh
    have : cur.size = 3 := by rw [← hh.1]; simpa using hl
    omega

set_option maxRecDepth 100000 in
set_option maxHeartbeats 8000000 in
theorem rmfirst_any (G H : Gr) (p p2 : Option Addr) (c c2 n m L : Nat) (s0 t0 : Int) (both : Bool) (w : World) (hin : Sg 3 w edE p G.es) (hin2 : Sg 3 w edE p2 H.es) (hl1 : G.es.length ≤ 9223372036854775807) (hl2 : H.es.length ≤ 9223372036854775807)
    (hf : ∀ s a, -1 ≤ nxt G.es s a ∧ nxt G.es s a < n) (hg : ∀ s a, -1 ≤ nxt H.es s a ∧ nxt H.es s a < m)
    (hn : n ≤ 64) (hm : m ≤ 64) (hL : max G.q H.q = (L : Int)) (hL2 : L ≤ 256) (h0 : -1 ≤ s0) (h1 : s0 < n) (h2 : -1 ≤ t0) (h3 : t0 < m) :
    Calls Tryz.prog 138 #[(.agg #[.int .i64 G.q, .int .i64 G.n, .slice p G.es.length c]), (.agg #[.int .i64 H.q, .int .i64 H.n, .slice p2 H.es.length c2]), .int .i64 s0, .int .i64 t0, .bool both] w (RetFw (bfsA n m G.es H.es (kpR both) (isR both) L s0 t0) w) := by
  obtain ⟨i0, hi0, hz0, hz1, hz2⟩ := info_parts infoP
  obtain ⟨f, hfe⟩ : ∃ f, f = G.es := ⟨_, rfl⟩
  obtain ⟨g, hge⟩ : ∃ g, g = H.es := ⟨_, rfl⟩
  have HT1 : Hid (∀ W (s a : Int), RowKit.Below w.heap.size w W → 0 ≤ s → Calls Tryz.prog 135 #[(.agg #[.int .i64 G.q, .int .i64 G.n, .slice p G.es.length c]), .int .i64 s, .int .i64 a] W fun e w' => e = .returned (.int .i64 (nxt f s a)) ∧ RowKit.Below W.heap.size W w') := fun W s a hW hs => by
    rw [nxt_pos (by omega), hfe]; exact rtarget_any G p c s a W (hin.below hW) hl1
  have HT2 : Hid (∀ W (s a : Int), RowKit.Below w.heap.size w W → 0 ≤ s → Calls Tryz.prog 135 #[(.agg #[.int .i64 H.q, .int .i64 H.n, .slice p2 H.es.length c2]), .int .i64 s, .int .i64 a] W fun e w' => e = .returned (.int .i64 (nxt g s a)) ∧ RowKit.Below W.heap.size W w') := fun W s a hW hs => by
    rw [nxt_pos (by omega), hge]; exact rtarget_any H p2 c2 s a W (hin2.below hW) hl2
  rw [← hfe, ← hge]
  have HF : Hid (∀ s a, -1 ≤ nxt f s a ∧ nxt f s a < n) := by rw [hfe]; exact hf
  have HG : Hid (∀ s a, -1 ≤ nxt g s a ∧ nxt g s a < m) := by rw [hge]; exact hg
  obtain ⟨NN, hNN⟩ : ∃ NN, NN = (n + 1) * (m + 1) + 1 := ⟨_, rfl⟩
  have hNL : NN ≤ 4226 := by
    have := Nat.mul_le_mul (show n + 1 ≤ 65 by omega) (show m + 1 ≤ 65 by omega)
    omega
  have HNN := hidI hNN
  have HAN : Hid (bfsA n m f g (kpR both) (isR both) L s0 t0 = bfs f g (kpR both) (isR both) L NN 0 [((s0, t0), [])]) := by rw [Hid, hNN]; rfl
  have HBL : Hid (∀ l, Bq n m l → l.length < NN) := fun l h => by have := h.len; omega
  have HLQ := hidI hL
  obtain ⟨w0, hw0⟩ : ∃ w0, w0 = (w.alloc (.cells #[.int .i64 G.q, .int .i64 G.n, .slice p G.es.length c] 24)).alloc (.cells #[.int .i64 H.q, .int .i64 H.n, .slice p2 H.es.length c2] 24) := ⟨_, rfl⟩
  have b0 : VRow w0 w.heap.size 24 [.int .i64 G.q, .int .i64 G.n, .slice p G.es.length c] := by subst hw0; exact (VRow.new w _ _).alloc _
  have b1 : VRow w0 (w.heap.size + 1) 24 [.int .i64 H.q, .int .i64 H.n, .slice p2 H.es.length c2] := by subst hw0; exact VRow.new1 w _ _ _
  have hB0 : RowKit.Below w.heap.size w w0 := by subst hw0; exact ((RowKit.Below.refl _ _).alloc (Nat.le_refl _) _).alloc (by simp) _
  have hs0 : w.heap.size + 2 ≤ w0.heap.size := by subst hw0; simp
  obtain ⟨w1, hw1⟩ : ∃ w1, w1 = w0.alloc (.cells #[.int .i64 s0, .int .i64 t0, .slice none 0 0] 191) := ⟨_, rfl⟩
  have hown1 : w1.ownsRow w0.heap.size 191 3 (.slice (some ⟨w0.heap.size, 0, none⟩) 1 1) 1 (catP [⟨s0, t0, none, 0, 0⟩]) := by subst hw1; exact ownP_new w0 ⟨s0, t0, none, 0, 0⟩ _ (Nat.le_refl _)
  have hB1 : RowKit.Below w0.heap.size w0 w1 := by subst hw1; exact (RowKit.Below.refl _ _).alloc (Nat.le_refl _) _
  have hp1 := Lp.first w1 w0.heap.size s0 t0
  obtain ⟨qb, hqb⟩ : ∃ qb, qb = w0.heap.size := ⟨_, rfl⟩
  rw [← hfe, ← hge] at hw0
  clear hin hin2 hf hg hNN hL hfe hge
  go_enter Tryz.func138, Tryz.ntmps138
  go_upto_region 1 with fail
  rw [← hw0]
  clear hw0
  go_upto_region 2 with fail
  rw [← hw1, ← hqb]
  rw [show w1.ownsRow w0.heap.size 191 3 (.slice (some ⟨w0.heap.size, 0, none⟩) 1 1) 1 = w1.ownsRow w0.heap.size 191 3 (.slice (some ⟨qb, 0, none⟩) 1 1) 1 by rw [hqb]] at hown1
  clear hw1 hqb
  go_wp2
  go_loopw [12, 13] (fun qv iv wr => ∃ (i : Nat) (l : List Pw) (q : List Pd) (gq cap : Nat), qv = .slice (some ⟨gq, 0, none⟩) l.length cap ∧ iv = .int .i64 i ∧ wr.ownsRow w0.heap.size 191 3 (.slice (some ⟨gq, 0, none⟩) l.length cap) l.length (catP q) ∧ Hid (Lp wr w0.heap.size l q) ∧ Bq n m l ∧ i ≤ l.length ∧ 0 < l.length ∧ Hid (∀ y ∈ l, y.2.length ≤ i) ∧ Hid (bfs f g (kpR both) (isR both) L (NN - i) i l = bfsA n m f g (kpR both) (isR both) L s0 t0) ∧ RowKit.Below w0.heap.size w0 wr) (fun _ iv _ => NN - (intOf iv).toNat)
  case atStart => exact ⟨0, [((s0, t0), [])], [⟨s0, t0, none, 0, 0⟩], qb, 1, rfl, rfl, hown1, hp1, Bq.one h0 h1 h2 h3, by simp, by simp, by intro y hy; simp at hy; simp [hy], HAN.out.symm, hB1⟩
  case round =>
    clear hown1 hp1 hB1
    obtain ⟨i, l, q, gq, cap, rfl, rfl, hown, hlk, hbq, hil, hl0, hwl, hbf, hB⟩ := hrel
    have hlN := HBL.out l hbq
    by_cases hlt : i < l.length
    · have hltI : (i : Int) < (l.length : Int) := by omega
      have hiq : i < q.length := by have := hlk.out.len; omega
      obtain ⟨q1, q2, q3, q4⟩ := hlk.out.at_ i hlt hiq
      have k0 : wr.cell? ⟨gq, i * 3, none⟩ = some (.int .i64 l[i].1.1) := by have := ownP_cell hown i hiq 0 (by omega); rw [← q1]; simpa [pdE] using this
      have k1 : wr.cell? ⟨gq, i * 3 + 1, none⟩ = some (.int .i64 l[i].1.2) := by have := ownP_cell hown i hiq 1 (by omega); rw [← q2]; simpa [pdE] using this
      have k2 : wr.cell? ⟨gq, i * 3 + 2, none⟩ = some (.slice q[i].q l[i].2.length q[i].c) := by have := ownP_cell hown i hiq 2 (by omega); rw [← q3]; simpa [pdE] using this
      rw [q3] at q4
      have hgq : gq < wr.heap.size := by
        rcases hown.2 with ⟨e0, _⟩ | ⟨g', cap', cur, e0, hg0, hh, _⟩
        · cases e0
        · cases e0; exact (Array.getElem?_eq_some_iff.1 hh).1
      have hins := hbq.ins _ (List.getElem_mem hlt)
      have hwi := hwl.out _ (List.getElem_mem hlt)
      have HH1 := hidI (fun mm h => @bfs_hit f g (kpR both) (isR both) L mm i l hlt h)
      have HH2 := hidI (fun mm h => @bfs_next f g (kpR both) (isR both) L mm i l hlt h)
      obtain ⟨x, hx⟩ : ∃ x, x = l[i] := ⟨_, rfl⟩
      have HX := hidI hx
      obtain ⟨pw, hpw⟩ : ∃ pw, pw = q[i].q := ⟨_, rfl⟩
      obtain ⟨cw, hcw⟩ : ∃ cw, cw = q[i].c := ⟨_, rfl⟩
      rw [← hpw, ← hcw] at k2 q4
      rw [← hx] at k0 k1 k2 q4 hins hwi HH1 HH2
      clear q1 q2 q3 hpw hcw hx
      obtain ⟨⟨ps, pt⟩, wd⟩ := x
      have hins : -1 ≤ ps ∧ ps < n ∧ -1 ≤ pt ∧ pt < m := hins
      change wr.cell? ⟨gq, i * 3, none⟩ = some (.int .i64 ps) at k0
      change wr.cell? ⟨gq, i * 3 + 1, none⟩ = some (.int .i64 pt) at k1
      change wr.cell? ⟨gq, i * 3 + 2, none⟩ = some (.slice pw wd.length cw) at k2
      have hwi : wd.length ≤ i := hwi
      have hwo := hidI q4
      change Hid (wr.ownsRow w0.heap.size 3 1 (.slice pw wd.length cw) wd.length (wd.map (Value.int .i64))) at hwo
      have HH1 : Hid (∀ mm, isR both (ps, pt) = true → bfs f g (kpR both) (isR both) L (mm + 1) i l = some wd) := HH1
      have HH2 : Hid (∀ mm, isR both (ps, pt) = false → bfs f g (kpR both) (isR both) L (mm + 1) i l = bfs f g (kpR both) (isR both) L mm (i + 1) (bRow f g (kpR both) ((ps, pt), wd) l L)) := HH2
      obtain ⟨wb, hwb⟩ : ∃ wb, wb = wr.alloc (.cells #[.int .i64 ps, .int .i64 pt, .slice pw wd.length cw] 191) := ⟨_, rfl⟩
      have bx : VRow wb wr.heap.size 191 [.int .i64 ps, .int .i64 pt, .slice pw wd.length cw] := by subst hwb; exact VRow.new wr _ _
      have hBb : RowKit.Below wr.heap.size wr wb := by subst hwb; exact (RowKit.Below.refl _ _).alloc (Nat.le_refl _) _
      have hownb := hown.below hBb
      have hlkb := hidI (hlk.out.below hBb)
      have hwob := hidI (hwo.out.below hBb)
      have hBw := hB.trans (hBb.mono hB.size)
      obtain ⟨pb, hpb⟩ : ∃ pb, pb = wr.heap.size := ⟨_, rfl⟩
      rw [← hpb] at bx hgq
      have g0 := bx.at 0 rfl; have g1 := bx.at 1 rfl; have g2 := bx.at 2 rfl
      have hgqn : gq ≠ pb := by omega
      go_upto_region 6 with fail
      rw [← hwb, ← hpb]
      clear hwb hpb k0 k1 k2 q4 hwo hBb hown hlk hgq
      go_cut [52] (fun v wx => wb = wx ∧ v = .bool (isR both (ps, pt)))
      case first =>
        clear hownb hlkb hwob hbf HH1 HH2
        by_cases a1 : 0 ≤ ps
        · have a1' : ¬ ps < 0 := by omega
          by_cases a2 : pt < 0
          · have HX : Hid (isR both (ps, pt) = true) := by unfold Hid isR; simp [a1, a2]
            cases both <;> (go_wp2; go_meet; exact ⟨rfl, by rw [HX.out]⟩)
          · have HX : Hid (isR both (ps, pt) = false) := by unfold Hid isR; simp [a1', a2]
            cases both <;> (go_wp2; go_meet; exact ⟨rfl, by rw [HX.out]⟩)
        · have a1' : ps < 0 := by omega
          by_cases a2 : pt < 0
          · have a2' : ¬ 0 ≤ pt := by omega
            have HX : Hid (isR both (ps, pt) = false) := by unfold Hid isR; simp [a1, a2']
            cases both <;> (go_wp2; go_meet; exact ⟨rfl, by rw [HX.out]⟩)
          · have a2' : 0 ≤ pt := by omega
            cases both
            · have HX : Hid (isR false (ps, pt) = false) := by unfold Hid isR; simp [a1]
              go_wp2
              go_meet
              exact ⟨rfl, by rw [HX.out]⟩
            · have HX : Hid (isR true (ps, pt) = true) := by unfold Hid isR; simp [a1', a2']
              go_wp2
              go_meet
              exact ⟨rfl, by rw [HX.out]⟩
      case rest =>
        obtain ⟨rfl, rfl⟩ := hcut
        cases his : isR both (ps, pt)
        case true =>
          have hBz := hB0.trans (hBw.mono hB0.size)
          have hslw := hidI (own_slP hwob.out)
          obtain ⟨mm, hmm⟩ : ∃ mm, NN - i = mm + 1 := ⟨NN - i - 1, by omega⟩
          have HBA : Hid (bfsA n m f g (kpR both) (isR both) L s0 t0 = some wd) := by rw [Hid, ← hbf.out, hmm]; exact HH1.out mm his
          clear hmm HH1 HH2 hownb hlkb hwob
          go_wp2
          go_ret2
          rw [HBA.out]
          exact ⟨pw, cw, rfl, hslw.out, hBz⟩
        obtain ⟨mm, hmm⟩ : ∃ mm, NN - i = mm + 1 := ⟨NN - i - 1, by omega⟩
        have HBF : Hid (bfs f g (kpR both) (isR both) L mm (i + 1) (bRow f g (kpR both) ((ps, pt), wd) l L) = bfsA n m f g (kpR both) (isR both) L s0 t0) := by rw [Hid, ← HH2.out mm his, ← hmm]; exact hbf.out
        have hmm2 : NN - (i + 1) = mm := by omega
        have HMM := hidI hmm2
        have HZ : Hid (bRow f g (kpR both) ((ps, pt), wd) l 0 = l) := rfl
        have HSU := hidI (bRow_succ f g (kpR both) ((ps, pt), wd) l)
        have HLE := hidI (bRow_len f g (kpR both) ((ps, pt), wd) l)
        have HBQ : Hid (∀ a, Bq n m (bRow f g (kpR both) ((ps, pt), wd) l a)) := fun a => hbq.row HF.out HG.out a
        have HWL : Hid (∀ y ∈ bRow f g (kpR both) ((ps, pt), wd) l L, y.2.length ≤ i + 1) := bRow_lens hwi (fun y hy => by have := hwl.out y hy; omega) L
        clear hmm hmm2 HH1 HH2 his hbf hiq g0 g1 g2 hwl
        go_wp2
        go_loopw [12, 15] (fun qv av wx => ∃ (a : Nat) (q' : List Pd) (gq' cap' : Nat), a ≤ L ∧ qv = .slice (some ⟨gq', 0, none⟩) (bRow f g (kpR both) ((ps, pt), wd) l a).length cap' ∧ av = .int .i64 a ∧ wx.ownsRow w0.heap.size 191 3 (.slice (some ⟨gq', 0, none⟩) (bRow f g (kpR both) ((ps, pt), wd) l a).length cap') (bRow f g (kpR both) ((ps, pt), wd) l a).length (catP q') ∧ Hid (Lp wx w0.heap.size (bRow f g (kpR both) ((ps, pt), wd) l a) q') ∧ gq' ≠ pb ∧ VRow wx pb 191 [.int .i64 ps, .int .i64 pt, .slice pw wd.length cw] ∧ Hid (wx.ownsRow w0.heap.size 3 1 (.slice pw wd.length cw) wd.length (wd.map (Value.int .i64))) ∧ RowKit.Below w0.heap.size w0 wx) (fun _ av _ => L - (intOf av).toNat)
        case atStart => exact ⟨0, q, gq, cap, by omega, rfl, rfl, hownb, hlkb, hgqn, bx, hwob, hBw⟩
        case round =>
          clear hownb hlkb hgqn bx hwob hBw hbq hlN
          obtain ⟨a, q', gq', cap', ha, rfl, rfl, hown, hlk, hgqn, hpb, hwo, hB⟩ := hrel
          have hlen := HLE.out a
          have hmx := HLQ.out
          have hBg := hB0.trans (hB.mono hB0.size)
          have c0 := b0.below hB b0.lt; have c1 := b1.below hB b1.lt
          have f0 := c0.at 0 rfl; have d0 := c1.at 0 rfl
          by_cases hla : a < L
          · have hlaI : (a : Int) < (L : Int) := by omega
            have hbl := HBL.out _ (HBQ.out a)
            have HS1 := hidI (HSU.out a)
            have hnf := hidI (HF.out ps a)
            have hng := hidI (HG.out pt a)
            have HN1 := hidI (fun W (hW : RowKit.Below w.heap.size w W) h => HT1.out W ps a hW h)
            have HN2 := hidI (fun W (hW : RowKit.Below w.heap.size w W) h => HT2.out W pt a hW h)
            have HE1 := hidI (fun h => @nxt_neg f ps a h)
            have HE2 := hidI (fun h => @nxt_neg g pt a h)
            have HST : Hid (stp f g (ps, pt) a = (nxt f ps a, nxt g pt a)) := rfl
            have HGO := hidI (@bAdd_go f g (kpR both) ((ps, pt), wd) (bRow f g (kpR both) ((ps, pt), wd) l a) a)
            have HSY := hidI (@bAdd_stay f g (kpR both) ((ps, pt), wd) (bRow f g (kpR both) ((ps, pt), wd) l a) a)
            simp only at HGO HSY
            rw [HST.out] at HGO HSY
            have HQ1 := HBQ.out (a + 1)
            generalize nxt f ps a = s' at *
            generalize nxt g pt a = t' at *
            generalize bRow f g (kpR both) ((ps, pt), wd) l a = row at *
            have f1 := c0.at 1 rfl; have f2 := c0.at 2 rfl
            have k0 := hpb.at 0 rfl
            have hpblt := hpb.lt
            go_upto_if 66 with (fail)
            go_cut [16] (fun v wx => v = .int .i64 s' ∧ RowKit.Below wr.heap.size wr wx)
            case first =>
              by_cases a1 : 0 ≤ ps
              · have d1 : decide (0 ≤ ps) = true := by simp [a1]
                go_wp2_with fail
                refine (HN1.out _ hBg a1).mono ?_
                rintro e w5 ⟨rfl, hB5⟩
                go_wp2
                go_meet
                exact ⟨rfl, hB5⟩
              · have d1 : decide (0 ≤ ps) = false := by simp [a1]
                have hx := hidI (HE1.out (by omega))
                go_wp2
                go_meet
                exact ⟨by rw [hx.out], RowKit.Below.refl _ _⟩
            case rest =>
              obtain ⟨rfl, hBc⟩ := hcut
              obtain ⟨w4, rfl⟩ : ∃ w4, w4 = wc := ⟨_, rfl⟩
              have hown4 := hown.below hBc
              have hlk4 := hidI (hlk.out.below hBc)
              have hpb4 := hpb.below hBc hpblt
              have hwo4 := hidI (hwo.out.below hBc)
              have hB4 := hB.trans (hBc.mono hB.size)
              have hpblt4 := hpb4.lt
              clear hown hlk hpb hwo hBc hB f0 d0 f1 f2 k0 c0 c1 hpblt hBg
              have hBg := hB0.trans (hB4.mono hB0.size)
              have c1 := b1.below hB4 b1.lt
              have d0 := c1.at 0 rfl; have d1 := c1.at 1 rfl; have d2 := c1.at 2 rfl
              have k1 := hpb4.at 1 rfl
              go_upto_if 74 with (fail)
              go_cut [17] (fun v wx => v = .int .i64 t' ∧ RowKit.Below w4.heap.size w4 wx)
              case first =>
                by_cases a1 : 0 ≤ pt
                · have d1 : decide (0 ≤ pt) = true := by simp [a1]
                  go_wp2_with fail
                  refine (HN2.out _ hBg a1).mono ?_
                  rintro e w5 ⟨rfl, hB5⟩
                  go_wp2
                  go_meet
                  exact ⟨rfl, hB5⟩
                · have d1 : decide (0 ≤ pt) = false := by simp [a1]
                  have hx := hidI (HE2.out (by omega))
                  go_wp2
                  go_meet
                  exact ⟨by rw [hx.out], RowKit.Below.refl _ _⟩
              case rest =>
                obtain ⟨rfl, hBc⟩ := hcut
                obtain ⟨w5, rfl⟩ : ∃ w5, w5 = wc := ⟨_, rfl⟩
                have hown := hown4.below hBc
                have hlk := hidI (hlk4.out.below hBc)
                have hpb := hpb4.below hBc hpblt4
                have hwo := hidI (hwo4.out.below hBc)
                have hB := hB4.trans (hBc.mono hB4.size)
                clear hown4 hlk4 hpb4 hwo4 hBc hB4 d0 d1 d2 k1 c1 hpblt4 hBg HN1 HN2 HE1 HE2
                have hgq0 : 0 < row.length := by omega
                have HRE := hidI (rreached_any row q' w0.heap.size w0.heap.size gq' cap' s' t' w5 hlk.out hown (by omega))
                by_cases hgo : kpR both (s', t') = true ∧ (s', t') ∉ row.map Prod.fst
                · obtain ⟨hkp, hmem⟩ := hgo
                  obtain ⟨wd2, hwd2⟩ : ∃ wd2, wd2 = wd ++ [(a : Int)] := ⟨_, rfl⟩
                  have HR : Hid (bRow f g (kpR both) ((ps, pt), wd) l (a + 1) = row ++ [((s', t'), wd2)]) := by rw [Hid, HS1.out, HGO.out hkp hmem, hwd2]
                  have HWD := hidI hwd2
                  have HRF : Hid (decide ((s', t') ∈ row.map Prod.fst) = false) := decide_eq_false hmem
                  have hk : 0 ≤ s' ∨ (¬ 0 ≤ s' ∧ both = true ∧ 0 ≤ t') := by
                    by_cases h : 0 ≤ s'
                    · exact .inl h
                    · refine .inr ⟨h, ?_⟩
                      unfold kpR at hkp
                      simpa [h] using hkp
                  have hwl : wd.length ≤ 5000 := by omega
                  have HO8 : Hid (∀ wB x, RowKit.Below w5.heap.size w5 wB → (wB.alloc (.cells (pdE x).toArray 191)).ownsRow w0.heap.size 191 3 (.slice (some ⟨gq', 0, none⟩) row.length cap') row.length (catP q') ∧ w0.heap.size ≤ wB.heap.size) := fun wB x h => ⟨(hown.below h).alloc _, Nat.le_trans hB.size h.size⟩
                  have HG9 : Hid (∀ wB p9 c9 w9, RowKit.Below w5.heap.size w5 wB → wB.ownsRow w5.heap.size 3 1 (.slice p9 wd2.length c9) wd2.length (wd2.map (Value.int .i64)) → (wB.alloc (.cells (pdE ⟨s', t', p9, wd2.length, c9⟩).toArray 191)).grownBy w9 (Value.slice (some ⟨gq', 0, none⟩) row.length cap').ownBlock →
                      RowKit.Below w0.heap.size w0 w9 ∧ Hid (Lp w9 w0.heap.size (row ++ [((s', t'), wd2)]) (q' ++ [⟨s', t', p9, wd2.length, c9⟩])) ∧ VRow w9 pb 191 [.int .i64 ps, .int .i64 pt, .slice pw wd.length cw] ∧ Hid (w9.ownsRow w0.heap.size 3 1 (.slice pw wd.length cw) wd.length (wd.map (Value.int .i64)))) := fun wB p9 c9 w9 h hw2 hgr => by
                    have hB8 := (hB.trans (h.mono hB.size)).alloc (Nat.le_trans hB.size h.size) (.cells (pdE ⟨s', t', p9, wd2.length, c9⟩).toArray 191)
                    have ho := (HO8.out wB ⟨s', t', p9, wd2.length, c9⟩ h).1
                    refine ⟨hB8.grown hgr (by have := hB8.size; exact this) (fun j e => (ho.lt j e).1), ?_, ?_, ?_⟩
                    · exact (((hlk.out.below h).alloc _).kept ho (by decide) hgr).snoc s' t' wd2 p9 c9 ((own_downN (hw2.alloc _) hB.size).kept hgr (own_ne_own (hw2.alloc _) ho (by decide)))
                    · exact ((hpb.below h hpb.lt).alloc _).grown hgr (fun e => hgqn (by simpa [Value.ownBlock] using e.symm))
                    · exact ((hwo.out.below h).alloc _).kept hgr (own_ne_own ((hwo.out.below h).alloc _) ho (by decide))
                  have HW2 : Hid (∀ (W : World) v, W.ownsRow w5.heap.size 3 1 v (0 + wd.length + 1) ((([] : List Int) ++ wd ++ [(a : Int)]).map (Value.int .i64)) → W.ownsRow w5.heap.size 3 1 v wd2.length (wd2.map (Value.int .i64))) := fun W v h => by rw [hwd2]; simpa using h
                  have hwE := hwo.out.alloc (.cells #[] 3)
                  have hE := own_emptyI w5
                  have HBE : Hid (RowKit.Below w5.heap.size w5 (w5.alloc (.cells #[] 3))) := (RowKit.Below.refl _ _).alloc (Nat.le_refl _) _
                  have hpb2 := hpb.alloc (.cells #[] 3)
                  have k2 := hpb2.at 2 rfl
                  have HPB := hidI (fun W (h : RowKit.Below w5.heap.size w5 W) => hpb.below h hpb.lt)
                  have hwd3 : wd2.length = wd.length + 1 := by rw [hwd2]; simp
                  have HL2 := hidI hwd3
                  clear hwd2 hkp hmem HGO HSY HST hlk hwo hown HS1 hpb hpb2 hwd3
                  rcases hk with b1 | ⟨b1, rfl, b2⟩
                  all_goals
                    go_wp2_with fail
                    refine HRE.out.mono ?_
                    rintro e w' ⟨rfl, rfl⟩
                    rw [HRF.out]
                    go_wp2_with (first
                      | (at_builtin; refine wpList_app_both rfl _ _ rfl _ _ rfl rfl w5.heap.size w0.heap.size 0 wd.length [] wd hE hwE (by omega) (by rw [World.size_alloc]; omega) ?_; intro v1 wA hv1 hgA; have hBA := HBE.out.grown hgA (by have := HBE.out.size; exact this) (fun j e => (hE.lt j e).1); have hv1a := hv1.alloc (.cells #[.int .i64 (a : Int)] 3); have hoA := own_oneI wA (a : Int); have hBA2 := hBA.alloc hBA.size (.cells #[.int .i64 (a : Int)] 3))
                      | (at_builtin; refine wpList_app_both rfl _ _ rfl _ _ rfl rfl w5.heap.size wA.heap.size (0 + wd.length) 1 ([] ++ wd) [(a : Int)] hv1a hoA (by omega) (by have := hBA2.size; exact this) ?_; intro v2 wB hv2 hgB; have hBB := hBA2.grown hgB (by have := hBA2.size; exact this) (fun j e => (hv1a.lt j e).1); have hv2b := HW2.out wB v2 hv2; obtain ⟨p9, c9, hv9, _⟩ := own_sl hv2b; subst hv9; have ho8 := (HO8.out wB ⟨s', t', p9, wd2.length, c9⟩ hBB).1; have hsz8 := (HO8.out wB ⟨s', t', p9, wd2.length, c9⟩ hBB).2; have hnew := cell_newP wB ⟨s', t', p9, wd2.length, c9⟩)
                      | (at_builtin; refine wpList_append_own _ rfl _ _ 192 rfl w0.heap.size 191 i0 _ 3 40 Tryz.underlying192 hi0 hz0 hz1 hz2 rfl (by decide) _ _ _ rfl ho8 ⟨wB.heap.size, 0, none⟩ 1 1 (catP [⟨s', t', p9, wd2.length, c9⟩]) rfl rfl hnew (catP_one _) (by simp only [maxLen]; omega) (by omega) (by rw [World.size_alloc]; omega) ?_; intro v' w9 hown' hgrow _; rw [← catP_app] at hown'; obtain ⟨hB9, hlk9, hp9, hwo9⟩ := HG9.out wB p9 c9 w9 hBB hv2b hgrow; obtain ⟨g9, cap9, hv9⟩ := ownP_shape hown' (by omega); subst hv9))
                    go_roundw
                    case rel =>
                      refine ⟨a + 1, q' ++ [⟨s', t', p9, wd2.length, c9⟩], g9, cap9, by omega, ?_, by go_num, ?_, ?_, own_ne_row3 hown' (by omega) hp9 rfl, hp9, hwo9, hB9⟩ <;> rw [HR.out]
                      · simp
                      · simpa using hown'
                      · exact hlk9
                    case measure => simp [intOf]; omega
                · have HY : Hid (bAdd f g (kpR both) ((ps, pt), wd) row a = row) := HSY.out (by
                    cases hc : kpR both (s', t')
                    · exact .inl rfl
                    · exact .inr (Decidable.byContradiction fun h => hgo ⟨hc, h⟩))
                  have hd : kpR both (s', t') = true → decide ((s', t') ∈ row.map Prod.fst) = true := fun h => decide_eq_true (Decidable.byContradiction fun h2 => hgo ⟨h, h2⟩)
                  have HD := hidI hd
                  clear hgo hd HGO HSY HST
                  by_cases b1 : 0 ≤ s'
                  · have HRF := hidI (HD.out (by unfold kpR; simp [b1]))
                    go_wp2_with fail
                    refine HRE.out.mono ?_
                    rintro e w' ⟨rfl, rfl⟩
                    rw [HRF.out]
                    go_wp2
                    go_roundw
                    case rel =>
                      refine ⟨a + 1, q', gq', cap', by omega, ?_, by go_num, ?_, ?_, hgqn, hpb, hwo, hB⟩ <;> rw [HS1.out, HY.out]
                      · exact hown
                      · exact hlk
                    case measure => simp [intOf]; omega
                  · cases both
                    · go_wp2
                      go_roundw
                      case rel =>
                        refine ⟨a + 1, q', gq', cap', by omega, ?_, by go_num, ?_, ?_, hgqn, hpb, hwo, hB⟩ <;> rw [HS1.out, HY.out]
                        · exact hown
                        · exact hlk
                      case measure => simp [intOf]; omega
                    · by_cases b2 : 0 ≤ t'
                      · have HRF := hidI (HD.out (by unfold kpR; simp [b2]))
                        go_wp2_with fail
                        refine HRE.out.mono ?_
                        rintro e w' ⟨rfl, rfl⟩
                        rw [HRF.out]
                        go_wp2
                        go_roundw
                        case rel =>
                          refine ⟨a + 1, q', gq', cap', by omega, ?_, by go_num, ?_, ?_, hgqn, hpb, hwo, hB⟩ <;> rw [HS1.out, HY.out]
                          · exact hown
                          · exact hlk
                        case measure => simp [intOf]; omega
                      · go_wp2
                        go_roundw
                        case rel =>
                          refine ⟨a + 1, q', gq', cap', by omega, ?_, by go_num, ?_, ?_, hgqn, hpb, hwo, hB⟩ <;> rw [HS1.out, HY.out]
                          · exact hown
                          · exact hlk
                        case measure => simp [intOf]; omega
          · obtain rfl : L = a := by omega
            have hlaI : ¬ (L : Int) < (L : Int) := by omega
            have hbl := HBL.out _ (HBQ.out L)
            have HQL := HBQ.out L
            have hmm2 := HMM.out
            go_wp2
            go_roundw
            case rel => exact ⟨i + 1, bRow f g (kpR both) ((ps, pt), wd) l L, q', gq', cap', rfl, by go_num, hown, hlk, HQL, by omega, by omega, HWL, by rw [Hid, hmm2]; exact HBF.out, hB⟩
            case measure => simp [intOf]; omega
    · have hltI : ¬ (i : Int) < (l.length : Int) := by omega
      have HX : Hid (bfsA n m f g (kpR both) (isR both) L s0 t0 = none) := by rw [Hid, ← hbf.out]; exact bfs_end (by omega)
      have hBz := hB0.trans (hB.mono hB0.size)
      go_wp2
      go_ret2
      rw [HX.out]
      exact ⟨none, 0, rfl, Sl.nil _ _ _, hBz⟩
end Go.Proofs.YtocbhlohcikapaaGreatDoor
namespace Go.Proofs.YtocbhlohcikapaaGreatDoor
open Go.RowKit Go.Sort Go.Shelf Go.Lib

theorem bAdd_congr {f g : List Ed} {kp kp' : Int × Int → Bool} (hk : ∀ x a, kp (stp f g x a) = kp' (stp f g x a)) (x : Pw) : bAdd f g kp x = bAdd f g kp' x := by
  funext l a; unfold bAdd; rw [hk]
theorem bfs_congr {f g : List Ed} {kp kp' is is' : Int × Int → Bool} {L : Nat} (hk : ∀ x a, kp (stp f g x a) = kp' (stp f g x a)) (hi : ∀ x, is x = is' x) : ∀ m i l, bfs f g kp is L m i l = bfs f g kp' is' L m i l
  | 0, _, _ => rfl
  | m + 1, i, l => by
    unfold bfs bRow
    cases h : l[i]? with
    | none => rfl
    | some x => simp only [hi, bAdd_congr hk x]; rw [show ∀ l', bfs f g kp is L m (i + 1) l' = bfs f g kp' is' L m (i + 1) l' from fun l' => bfs_congr hk hi m (i + 1) l']
theorem isR_true (x : Int × Int) : isR true x = oneB x := by
  obtain ⟨s, t⟩ := x
  unfold isR oneB
  by_cases h1 : s < 0 <;> by_cases h2 : t < 0 <;> simp [h1, h2] <;> omega
theorem kpR_true {x : Int × Int} (h1 : -1 ≤ x.1) (h2 : -1 ≤ x.2) : kpR true x = kpP x := by
  obtain ⟨s, t⟩ := x
  unfold kpR kpP
  rw [Bool.eq_iff_iff]
  simp only [Bool.true_and, Bool.or_eq_true, decide_eq_true_iff, Bool.not_eq_true', decide_eq_false_iff_not, Prod.mk.injEq]
  simp only at h1 h2
  omega
theorem sepR_eq {G : Gr} (hv : Vg G) (n m L : Nat) (s t : Int) : bfsA n m G.es G.es (kpR true) (isR true) L s t = bfsA n m G.es G.es kpP oneB L s t :=
  bfs_congr (fun x a => kpR_true (nxt_bd hv _ _).1 (nxt_bd hv _ _).1) isR_true _ _ _

end Go.Proofs.YtocbhlohcikapaaGreatDoor
namespace Go.Proofs.YtocbhlohcikapaaGreatDoor
open Go.RowKit Go.Sort Go.Shelf Go.Lib

/-! ### What the functions answer -/
def mxC (l : List Int) : Int := l.foldl (fun n x => max n (x + 1)) 0
theorem mxC_snoc (l : List Int) (x : Int) : mxC (l ++ [x]) = max (mxC l) (x + 1) := by simp [mxC]
theorem mxC_gen : ∀ (l : List Int) (a : Int), (∀ x ∈ l, -1 ≤ x ∧ x ≤ 1000) → 0 ≤ a → a ≤ 1001 → 0 ≤ l.foldl (fun n x => max n (x + 1)) a ∧ l.foldl (fun n x => max n (x + 1)) a ≤ 1001
  | [], a, _, h0, h1 => ⟨h0, h1⟩
  | x :: l, a, h, h0, h1 => by
    have hx := h x (by simp)
    exact mxC_gen l (max a (x + 1)) (fun y hy => h y (by simp [hy])) (by omega) (by omega)
def mgE (C : List Int) (x : Ed) : Ed := ⟨cg C x.f, x.l, cg C x.t⟩
def mgA (G : Gr) : Gr × Int := makeA G.q (mxC (clA G)) (G.es.map (mgE (clA G)))
def merA (G : Gr) : Gr × List Int × Int := if chkD G = 0 then ((mgA G).1, clA G, (mgA G).2) else (⟨0, 0, []⟩, [], chkD G)
theorem merA_ok {G : Gr} (h : chkD G = 0) : merA G = ((mgA G).1, clA G, (mgA G).2) := if_pos h
theorem merA_bad {G : Gr} (h : chkD G ≠ 0) : merA G = (⟨0, 0, []⟩, [], chkD G) := if_neg h
theorem cl_bd {G : Gr} (x : Int) (h : x ∈ clA G) : 0 ≤ x ∧ x < (G.n.toNat : Int) := by
  unfold clA at h
  cases hn : G.n.toNat with
  | zero => rw [hn] at h; simp [clsN] at h
  | succ n =>
    rw [hn] at h
    have h' : x ∈ (List.range (n + 1)).map (numR (relA G.q.toNat G.es (clsN G.q.toNat (n + 1) G.es n))) := h
    obtain ⟨s, hs, rfl⟩ := List.mem_map.1 h'
    have h1 := numR_bd (relA_eqv G.q.toNat G.es (clsN G.q.toNat (n + 1) G.es n)) s (n + 1) (by simpa using hs)
    have h2 := frsR_len (relA G.q.toNat G.es (clsN G.q.toNat (n + 1) G.es n)) (n + 1)
    omega
theorem cl_len (G : Gr) : (clA G).length = G.n.toNat := clsN_len _
theorem mg_snoc (C : List Int) (l : List Ed) (k : Nat) (h : k < l.length) : (l.take (k + 1)).map (mgE C) = (l.take k).map (mgE C) ++ [mgE C l[k]] := by
  rw [List.take_succ_eq_append_getElem h, List.map_append]; rfl
theorem cell_grown {w w' : World} {o : Obj} {row : Option Nat} {n b i : Nat} {v : Value} (hg : ((w.drewN n).alloc o).grownBy w' row) (hc : w.cell? ⟨b, i, none⟩ = some v) (hne : some b ≠ row) : w'.cell? ⟨b, i, none⟩ = some v :=
  hg.cell (cell_al o (show (w.drewN n).cell? ⟨b, i, none⟩ = some v from hc)) hne
/-- Numbers in a block of the call's own. -/
def OwnL (n : Nat) (w' : World) (q : Option Addr) (l : List Int) : Prop := l = [] ∨ ∃ b, q = some ⟨b, 0, none⟩ ∧ n ≤ b ∧ VRow w' b 3 (l.map (Value.int .i64))
theorem OwnL.sl {n : Nat} {w' : World} {q : Option Addr} {l : List Int} (h : OwnL n w' q l) : Sl w' (Value.int .i64) q l := by
  rcases h with h | ⟨b, rfl, _, h⟩
  · exact .inl h
  · exact Sl.of_vrow h
theorem OwnL.mono {n m : Nat} {w' : World} {q : Option Addr} {l : List Int} (h : OwnL n w' q l) (hm : m ≤ n) : OwnL m w' q l := h.imp id (fun ⟨b, a, c, d⟩ => ⟨b, a, Nat.le_trans hm c, d⟩)
theorem OwnL.set {n B i : Nat} {w' : World} {q : Option Addr} {l : List Int} (h : OwnL n w' q l) (hB : B < n) (v : Value) : OwnL n (w'.setCell ⟨B, i, none⟩ v) q l := h.imp id (fun ⟨b, a, c, d⟩ => ⟨b, a, c, d.other _ (by omega)⟩)
theorem OwnL.below {n : Nat} {w w' : World} {q : Option Addr} {l : List Int} (h : OwnL n w q l) (hB : RowKit.Below w.heap.size w w') : OwnL n w' q l := h.imp id (fun ⟨b, a, c, d⟩ => ⟨b, a, c, d.below hB d.lt⟩)
theorem sg_boxN {w : World} {B : Nat} {x y : Int} {q : Option Addr} {n c : Nat} {p : Option Addr} {l : List Ed} (hb : VRow w B 24 [.int .i64 x, .int .i64 y, .slice q n c]) (h : Sg 3 w edE p l) (i : Nat) (v : Value) : Sg 3 (w.setCell ⟨B, i, none⟩ v) edE p l := by
  rcases h with h | ⟨b, off, hp, hlt, hc⟩
  · exact .inl h
  · rcases l with _ | ⟨e, l⟩
    · exact .inl rfl
    · have hne : B ≠ b := by
        intro he
        subst he
        have h2 := hc 0 (by simp) 2 (by omega)
        rw [hb.cell] at h2
        rcases off with _ | off
        · simp [edE] at h2
        · simp [edE] at h2
      exact .inr ⟨b, off, hp, by rw [World.size_setCell]; exact hlt, fun i hi j hj => (World.cell?_setCell_far _ _ _ _ hne).trans (hc i hi j hj)⟩
def set3N (w : World) (B : Nat) (u v x : Value) : World := ((w.setCell ⟨B, 0, none⟩ u).setCell ⟨B, 1, none⟩ v).setCell ⟨B, 2, none⟩ x
theorem box3N {w w4 : World} {B n : Nat} {G : Gr} {p q : Option Addr} {c : Nat} {l : List Int} (e : VRow w4 B 24 [.int .i64 0, .int .i64 0, .slice none 0 0]) (hs : Sg 3 w4 edE p G.es) (hl : OwnL n w4 q l) (hn : B < n) (hB : RowKit.Below w.heap.size w w4) (hw : w.heap.size ≤ B) :
    VRow (set3N w4 B (.int .i64 G.q) (.int .i64 G.n) (.slice p G.es.length c)) B 24 [.int .i64 G.q, .int .i64 G.n, .slice p G.es.length c] ∧ Sg 3 (set3N w4 B (.int .i64 G.q) (.int .i64 G.n) (.slice p G.es.length c)) edE p G.es ∧
      OwnL n (set3N w4 B (.int .i64 G.q) (.int .i64 G.n) (.slice p G.es.length c)) q l ∧ RowKit.Below w.heap.size w (set3N w4 B (.int .i64 G.q) (.int .i64 G.n) (.slice p G.es.length c)) := by
  unfold set3N
  have r1 := VRow.set (i := 0) (.int .i64 G.q) e
  have r2 := VRow.set (i := 1) (.int .i64 G.n) r1
  have r3 := VRow.set (i := 2) (.slice p G.es.length c) r2
  exact ⟨r3, sg_boxN r2 (sg_boxN r1 (sg_boxN e hs _ _) _ _) _ _, ((hl.set hn _).set hn _).set hn _, ((hB.setCell (show w.heap.size ≤ B from hw) _).setCell (show w.heap.size ≤ B from hw) _).setCell (show w.heap.size ≤ B from hw) _⟩
/-- A graph, numbers and an error. -/
def RetMe (H : Gr) (l : List Int) (k : Int) (w : World) (e : Ending) (w' : World) : Prop :=
  ∃ p c q d, e = .returned (.tuple #[(.agg #[.int .i64 H.q, .int .i64 H.n, .slice p H.es.length c]), .slice q l.length d, .int .i64 k]) ∧ Sg 3 w' edE p H.es ∧ H.es.length ≤ c ∧ OwnL w.heap.size w' q l ∧ RowKit.Below w.heap.size w w'
theorem RetMe.of {x : Gr × List Int × Int} {H : Gr} {l : List Int} {k : Int} {w w' : World} {p q : Option Addr} {c d : Nat} (hx : x = (H, l, k)) (h1 : Sg 3 w' edE p H.es) (h2 : H.es.length ≤ c) (h3 : OwnL w.heap.size w' q l) (hB : RowKit.Below w.heap.size w w') :
    RetMe x.1 x.2.1 x.2.2 w (.returned (.tuple #[(.agg #[.int .i64 H.q, .int .i64 H.n, .slice p H.es.length c]), .slice q l.length d, .int .i64 k])) w' := by
  subst hx; exact ⟨p, c, q, d, rfl, h1, h2, h3, hB⟩

set_option maxRecDepth 100000 in
set_option maxHeartbeats 4000000 in
theorem mmerge_any (G : Gr) (p : Option Addr) (c : Nat) (w : World) (hin : Sg 3 w edE p G.es) (hv : Vg G) (hu : Uq G.es) :
    Calls Tryz.prog 52 #[(.agg #[.int .i64 G.q, .int .i64 G.n, .slice p G.es.length c])] w (RetMe (mgA G).1 (clA G) (mgA G).2 w) := by
  obtain ⟨i0, hi0, hz0, hz1, hz2⟩ := info_parts infoE
  have HIN := hidI hin; have HV := hidI hv
  obtain ⟨w0, hw0⟩ : ∃ w0, w0 = (w.alloc (.cells #[.int .i64 G.q, .int .i64 G.n, .slice p G.es.length c] 24)).alloc (.cells #[.int .i64 0, .int .i64 0, .slice none 0 0] 24) := ⟨_, rfl⟩
  have b0 : VRow w0 w.heap.size 24 [.int .i64 G.q, .int .i64 G.n, .slice p G.es.length c] := by subst hw0; exact (VRow.new w _ _).alloc _
  have b1 : VRow w0 (w.heap.size + 1) 24 [.int .i64 0, .int .i64 0, .slice none 0 0] := by subst hw0; exact VRow.new1 w _ _ _
  have hB0 : RowKit.Below w.heap.size w w0 := by subst hw0; exact ((RowKit.Below.refl _ _).alloc (Nat.le_refl _) _).alloc (by simp) _
  have HP := hidI (mpartition_any G p c w0 (HIN.out.below hB0) hv hu)
  have hs0 : w.heap.size + 2 ≤ w0.heap.size := by subst hw0; simp
  have HBD := hidI (@cl_bd G)
  have HCLN := hidI (cl_len G)
  have HMG : Hid (mgA G = makeA G.q (mxC (clA G)) (G.es.map (mgE (clA G)))) := rfl
  have hn64 : G.n.toNat ≤ 64 := by have := hv.n2; omega
  have hlen := hv.len
  generalize clA G = C at *
  clear hin hv hu
  go_enter Tryz.func52, Tryz.ntmps52
  go_wp2_with fail
  rw [← hw0]
  clear hw0
  refine HP.out.mono ?_
  rintro e w1 ⟨cb, rfl, hcb, hrC, hB1⟩
  have x1 := hB0.trans (hB1.mono hB0.size)
  have c0 := b0.below hB1 b0.lt
  have c1 := b1.below hB1 b1.lt
  have f2 := c0.at 2 rfl
  have hcl64 : C.length ≤ 64 := by have := HCLN.out; omega
  clear hB1 b0 b1 hB0 HP
  go_wp2
  go_loop [6, 18] (fun nv iv => ∃ k : Nat, k ≤ C.length ∧ iv = .int .i64 k ∧ nv = .int .i64 (mxC (C.take k))) (fun _ iv => C.length - (intOf iv).toNat)
  case atStart => exact ⟨0, by omega, rfl, rfl⟩
  case round =>
    obtain ⟨k, hk, rfl, rfl⟩ := hrel
    by_cases hlt : k < C.length
    · have hltI : (k : Int) < (C.length : Int) := by omega
      have e1 := hrC.at k (v := .int .i64 C[k]) (by simp [hlt])
      have hb := HBD.out _ (List.getElem_mem hlt)
      have hm := mxC_gen (C.take k) 0 (fun x hx => by have := HBD.out x (List.mem_of_mem_take hx); omega) (by omega) (by omega)
      have HS : Hid (mxC (C.take (k + 1)) = max (mxC (C.take k)) (C[k] + 1)) := by rw [Hid, List.take_succ_eq_append_getElem hlt, mxC_snoc]
      change 0 ≤ mxC (C.take k) ∧ mxC (C.take k) ≤ 1001 at hm
      generalize mxC (C.take k) = m at *
      generalize C[k] = x at *
      go_wp2
      go_round
      case rel => exact ⟨k + 1, by omega, by go_num, by rw [HS.out]⟩
      case measure => simp [intOf]; omega
    · have hltI : ¬ (k : Int) < (C.length : Int) := by omega
      obtain rfl : k = C.length := by omega
      rw [List.take_length]
      have hm := mxC_gen C 0 (fun x hx => by have := HBD.out x hx; omega) (by omega) (by omega)
      change 0 ≤ mxC C ∧ mxC C ≤ 1001 at hm
      generalize hmx : mxC C = m at *
      have hmx := hidI hmx
      go_wp2
      clear f2
      go_loopw [9, 30] (fun ov iv wr => ∃ k : Nat, k ≤ G.es.length ∧ iv = .int .i64 k ∧ wr.ownsRow w1.heap.size 44 3 ov k (cat ((G.es.take k).map (mgE C))) ∧ RowKit.Below w1.heap.size w1 wr) (fun _ iv _ => G.es.length - (intOf iv).toNat)
      case atStart => exact ⟨0, by omega, rfl, World.ownsRow_nil _ _ _ _, RowKit.Below.refl _ _⟩
      case round =>
        obtain ⟨k, hk, rfl, hown, hB⟩ := hrel
        have xr := x1.trans (hB.mono x1.size)
        have cr := c0.below hB c0.lt
        have cs := c1.below hB c1.lt
        have f0 := cr.at 0 rfl; have f1 := cr.at 1 rfl; have f2 := cr.at 2 rfl
        by_cases hlt : k < G.es.length
        · have hltI : (k : Int) < (G.es.length : Int) := by omega
          obtain ⟨b3, o3, rfl, hb3, e0, e1, e2⟩ := (HIN.out.below xr).get3 k hlt rfl
          have hins := HV.out.ins _ (List.getElem_mem hlt)
          have HNN := hidI (mg_snoc C G.es k hlt)
          generalize (G.es.take k).map (mgE C) = M at *
          generalize hx : G.es[k] = x at *
          obtain ⟨xf, xl, xt⟩ := x
          have hins : 0 ≤ xf ∧ 0 ≤ xl ∧ 0 ≤ xt ∧ xf < G.n ∧ xt < G.n ∧ xl < G.q := hins
          have e0 : wr.cell? ⟨b3, o3 + k * 3, none⟩ = some (.int .i64 xf) := e0
          have e1 : wr.cell? ⟨b3, o3 + k * 3 + 1, none⟩ = some (.int .i64 xl) := e1
          have e2 : wr.cell? ⟨b3, o3 + k * 3 + 2, none⟩ = some (.int .i64 xt) := e2
          obtain ⟨F, rfl⟩ : ∃ F : Nat, xf = F := ⟨xf.toNat, by omega⟩
          obtain ⟨T, rfl⟩ : ∃ T : Nat, xt = T := ⟨xt.toNat, by omega⟩
          have hF : F < C.length := by have := HCLN.out; omega
          have hT : T < C.length := by have := HCLN.out; omega
          have hFI : (F : Int) < (C.length : Int) := by omega
          have hTI : (T : Int) < (C.length : Int) := by omega
          have hbF := HBD.out _ (List.getElem_mem hF)
          have hbT := HBD.out _ (List.getElem_mem hT)
          have HMX : Hid (mgE C ⟨(F : Int), xl, (T : Int)⟩ = ⟨C[F], xl, C[T]⟩) := by
            rw [Hid]; unfold mgE; simp only; rw [cg_get hF, cg_get hT]
          have hrCr := hrC.below hB hrC.lt
          obtain ⟨wb, hwb⟩ : ∃ wb, wb = wr.alloc (.cells #[.int .i64 (F : Int), .int .i64 xl, .int .i64 (T : Int)] 44) := ⟨_, rfl⟩
          have bx : VRow wb wr.heap.size 44 [.int .i64 (F : Int), .int .i64 xl, .int .i64 (T : Int)] := by subst hwb; exact VRow.new wr _ _
          have hBb : RowKit.Below wr.heap.size wr wb := by subst hwb; exact (RowKit.Below.refl _ _).alloc (Nat.le_refl _) _
          have hownb : wb.ownsRow w1.heap.size 44 3 u9 k (cat M) := by subst hwb; exact hown.alloc _
          have hBw := hB.trans (hBb.mono hB.size)
          have hrCb := hrCr.below hBb hrCr.lt
          have k0 := bx.at 0 rfl; have k1 := bx.at 1 rfl; have k2 := bx.at 2 rfl
          have k3 := hrCb.at F (v := .int .i64 (C[F]'hF)) (by simp [hF])
          have k4 := hrCb.at T (v := .int .i64 (C[T]'hT)) (by simp [hT])
          have hnx : some wr.heap.size ≠ u9.ownBlock := fun h => by have := (hown.lt _ h.symm).2; omega
          have hnc : some cb ≠ u9.ownBlock := fun h => by have := (hown.lt _ h.symm).1; have := hrC.lt; omega
          obtain ⟨xb, hxb⟩ : ∃ xb, xb = wr.heap.size := ⟨_, rfl⟩
          rw [← hxb] at hnx
          rw [← hxb] at k0 k1 k2
          generalize C[F]'hF = cf at *
          generalize C[T]'hT = ct at *
          have HBG : Hid (∀ (o : Obj) (wA : World), ((wb.alloc o).drew).grownBy wA u9.ownBlock → RowKit.Below w1.heap.size w1 wA) := fun o wA hg =>
            ((hBw.alloc hBw.size o).trans ((show Dr (wb.alloc o) (wb.alloc o).drew from ⟨1, rfl⟩).below _)).grown hg (by have := hBw.size; show w1.heap.size ≤ (wb.alloc o).heap.size; rw [World.size_alloc]; omega) (fun j e => (hown.lt j e).1)
          go_upto_region 12 with fail
          rw [← hwb, ← hxb]
          clear hwb hxb bx e0 e1 e2 f0 f1 f2
          go_region_held3 (fun w' => w'.cell? ⟨xb, 0, none⟩ = some (.int .i64 (F : Int)) ∧ w'.cell? ⟨xb, 1, none⟩ = some (.int .i64 xl) ∧ w'.cell? ⟨xb, 2, none⟩ = some (.int .i64 (T : Int)) ∧ w'.cell? ⟨cb, F, none⟩ = some (.int .i64 cf) ∧ w'.cell? ⟨cb, T, none⟩ = some (.int .i64 ct))
              (first | (go_split_ands; refine ⟨?_, ?_, ?_, ?_, ?_⟩ <;> first | assumption | (go_keep; done) | exact cell_grown (n := 1) hgA k0 hnx | exact cell_grown (n := 1) hgA k1 hnx | exact cell_grown (n := 1) hgA k2 hnx | exact cell_grown (n := 1) hgA k3 hnc | exact cell_grown (n := 1) hgA k4 hnc))
              (first
                | (go_split_ands; refine step_append_sg (by rfl) _ _ _ (by rfl) u9 (some ⟨_, 0, none⟩) 1 1 (by rfl) (by rfl) w1.heap.size 44 i0 _ Tryz.underlying22 hi0 hz0 hz1 hz2 rfl M k [⟨cf, xl, ct⟩] rfl (by omega) (by first | exact (hownb.dr ⟨1, rfl⟩).alloc _ | exact hownb.alloc _) (by first | exact Sg.of_row (l := [⟨cf, xl, ct⟩]) (VRow.new _ 44 (cat [⟨cf, xl, ct⟩]))) (by have := hBw.size; simp; omega) ?_; intro vA wA hoA hgA))
          all_goals
            have hBf := HBG.out _ _ hgA
            go_wp2
            go_roundw
            case rel => exact ⟨k + 1, by omega, by go_num, by rw [HNN.out, HMX.out]; exact hoA, hBf⟩
            case measure => simp [intOf]; omega
        · have hltI : ¬ (k : Int) < (G.es.length : Int) := by omega
          obtain rfl : k = G.es.length := by omega
          rw [List.take_length] at hown
          obtain ⟨pv, mv, cv, rfl⟩ := own_shape hown
          obtain ⟨hmv, hsv⟩ := sg_len (p' := none) hown
          have hlm : (G.es.map (mgE C)).length ≤ 100000 := by rw [List.length_map]; omega
          have HM : Hid (Calls Tryz.prog 58 #[.int .i64 G.q, .int .i64 m, .slice pv mv cv] wr (RetGo (makeA G.q m (G.es.map (mgE C))).1 (makeA G.q m (G.es.map (mgE C))).2 wr)) := by
            subst hmv; exact gMake_own G.q m (G.es.map (mgE C)) pv cv wr hsv hlm
          rw [← HMG.out] at HM
          clear hmv HMG
          generalize mgA G = R at *
          have hrCr := hrC.below hB hrC.lt
          go_wp2_with fail
          refine HM.out.mono ?_
          rintro e w3 ⟨p3, m3, c3, rfl, hown3, hB3⟩
          have x3 := xr.trans (hB3.mono xr.size)
          have e1 := cs.below hB3 cs.lt
          have hz : w.heap.size + 1 < wr.heap.size := cs.lt
          have hr3 := hrCr.below hB3 hrCr.lt
          clear f0 f1 f2
          obtain ⟨w4, hw4⟩ : ∃ w4, w4 = w3.alloc (.cells #[.int .i64 R.1.q, .int .i64 R.1.n, .slice p3 m3 c3] 24) := ⟨_, rfl⟩
          have hB4 : RowKit.Below w3.heap.size w3 w4 := by subst hw4; exact (RowKit.Below.refl _ _).alloc (Nat.le_refl _) _
          have bn : VRow w4 w3.heap.size 24 [.int .i64 R.1.q, .int .i64 R.1.n, .slice p3 m3 c3] := by subst hw4; exact VRow.new w3 _ _
          obtain ⟨nb, hnb⟩ : ∃ nb, nb = w3.heap.size := ⟨_, rfl⟩
          rw [← hnb] at bn
          have x4 := x3.trans (hB4.mono x3.size)
          have e4 := e1.below hB4 e1.lt
          have hr4 := hr3.below hB4 hr3.lt
          have own4 := hown3.below hB4
          have n0 := bn.at 0 rfl; have n1 := bn.at 1 rfl; have n2 := bn.at 2 rfl
          have j0 := e4.at 0 rfl; have j1 := e4.at 1 rfl; have j2 := e4.at 2 rfl
          have z0 := e4.frozen 0; have z1 := e4.frozen 1; have z2 := e4.frozen 2
          have hne : nb ≠ w.heap.size + 1 := by have := e1.lt; omega
          have hcbn : cb ≠ w.heap.size + 1 := by omega
          go_upto_region 15 with fail
          rw [← hw4, ← hnb]
          clear hw4 hnb
          go_wp2
          have r6 := VRow.set (i := 2) (.slice p3 m3 c3) (VRow.set (i := 1) (.int .i64 R.1.n) (VRow.set (i := 0) (.int .i64 R.1.q) e4))
          have y0 := r6.at 0 rfl; have y1 := r6.at 1 rfl; have y2 := r6.at 2 rfl
          have o6 := ownsRow_setCell_below (a := (⟨w.heap.size + 1, 2, none⟩ : Addr)) (ownsRow_setCell_below (a := (⟨w.heap.size + 1, 1, none⟩ : Addr)) (ownsRow_setCell_below (a := (⟨w.heap.size + 1, 0, none⟩ : Addr)) own4 hz (.int .i64 R.1.q)) hz (.int .i64 R.1.n)) hz (.slice p3 m3 c3)
          have x6 : RowKit.Below w.heap.size w (((w4.setCell (⟨w.heap.size + 1, 0, none⟩ : Addr) (.int .i64 R.1.q)).setCell (⟨w.heap.size + 1, 1, none⟩ : Addr) (.int .i64 R.1.n)).setCell (⟨w.heap.size + 1, 2, none⟩ : Addr) (.slice p3 m3 c3)) :=
            ((x4.setCell (show w.heap.size ≤ w.heap.size + 1 by omega) _).setCell (show w.heap.size ≤ w.heap.size + 1 by omega) _).setCell (show w.heap.size ≤ w.heap.size + 1 by omega) _
          have hr6 := ((hr4.other (C := w.heap.size + 1) (i := 0) (.int .i64 R.1.q) hcbn).other (C := w.heap.size + 1) (i := 1) (.int .i64 R.1.n) hcbn).other (C := w.heap.size + 1) (i := 2) (.slice p3 m3 c3) hcbn
          refine bodyPost_ret (v := .tuple #[.agg #[.int .i64 R.1.q, .int .i64 R.1.n, .slice p3 m3 c3], .slice (some ⟨cb, 0, none⟩) C.length C.length, .int .i64 R.2]) (by simp [results, Tryz.results52, go_sem, y0, y1, y2]) rfl ?_
          obtain ⟨p6, c6, hv, hs6, hc6, _⟩ := own_sg o6
          cases hv
          exact ⟨p3, c3, _, _, rfl, hs6, hc6, .inr ⟨cb, rfl, by omega, hr6⟩, x6⟩

set_option maxRecDepth 100000 in
set_option maxHeartbeats 2000000 in
theorem mMerge_any (G : Gr) (p : Option Addr) (c : Nat) (w : World) (hin : Sg 3 w edE p G.es) (hl : G.es.length ≤ 9223372036854775807) :
    Calls Tryz.prog 49 #[(.agg #[.int .i64 G.q, .int .i64 G.n, .slice p G.es.length c])] w (RetMe (merA G).1 (merA G).2.1 (merA G).2.2 w) := by
  obtain ⟨w0, hw0⟩ : ∃ w0, w0 = (w.alloc (.cells #[.int .i64 G.q, .int .i64 G.n, .slice p G.es.length c] 24)).alloc (.cells #[.int .i64 0, .int .i64 0, .slice none 0 0] 24) := ⟨_, rfl⟩
  have b0 : VRow w0 w.heap.size 24 [.int .i64 G.q, .int .i64 G.n, .slice p G.es.length c] := by subst hw0; exact (VRow.new w _ _).alloc _
  have b1 : VRow w0 (w.heap.size + 1) 24 [.int .i64 0, .int .i64 0, .slice none 0 0] := by subst hw0; exact VRow.new1 w _ _ _
  have hB0 : RowKit.Below w.heap.size w w0 := by subst hw0; exact ((RowKit.Below.refl _ _).alloc (Nat.le_refl _) _).alloc (by simp) _
  have HIN := hidI (hin.below hB0)
  have HC := hidI (mcheck_any G p c w0 HIN.out hl)
  clear hin
  obtain ⟨r, hr⟩ : ∃ r, chkD G = r := ⟨_, rfl⟩
  rw [hr] at HC
  by_cases h1 : r = 0
  · subst h1
    have HK := hidI (merA_ok hr)
    obtain ⟨hv, hd⟩ := chkD_iff.1 hr
    have HP := hidI (fun W (hW : RowKit.Below w0.heap.size w0 W) => mmerge_any G p c W (HIN.out.below hW) hv (uq_det hv hd))
    clear hr hv hd
    generalize mgA G = R at *
    generalize clA G = C at *
    go_enter Tryz.func49, Tryz.ntmps49
    go_wp2_with fail
    rw [← hw0]
    clear hw0
    refine HC.out.mono ?_
    rintro e w1 ⟨rfl, hB1⟩
    have c0 := b0.below hB1 b0.lt
    have c1 := b1.below hB1 b1.lt
    have x1 := hB0.trans (hB1.mono hB0.size)
    have f0 := c0.at 0 rfl; have f1 := c0.at 1 rfl; have f2 := c0.at 2 rfl
    go_wp2_with fail
    refine (HP.out w1 hB1).mono ?_
    rintro e w3 ⟨p3, c3, q3, d3, rfl, hs3, hc3, hl3, hB3⟩
    have x3 := x1.trans (hB3.mono x1.size)
    have e1 := c1.below hB3 c1.lt
    clear f0 f1 f2
    have j0 := e1.at 0 rfl; have j1 := e1.at 1 rfl; have j2 := e1.at 2 rfl
    have z0 := e1.frozen 0; have z1 := e1.frozen 1; have z2 := e1.frozen 2
    obtain ⟨r6, hs6, hl6, x6⟩ := box3N (w := w) (G := R.1) (p := p3) (c := c3) (q := q3) e1 hs3 hl3 (by have := c1.lt; omega) x3 (by omega)
    unfold set3N at r6 hs6 hl6 x6
    have hsz := x1.size
    go_wp2
    have y0 := r6.at 0 rfl; have y1 := r6.at 1 rfl; have y2 := r6.at 2 rfl
    refine bodyPost_ret (v := .tuple #[.agg #[.int .i64 R.1.q, .int .i64 R.1.n, .slice p3 R.1.es.length c3], .slice q3 C.length d3, .int .i64 R.2]) (by simp [results, Tryz.results49, go_sem, y0, y1, y2]) rfl ?_
    exact RetMe.of HK.out hs6 hc3 (hl6.mono hsz) x6
  · have HK := hidI (merA_bad (G := G) (by rw [hr]; exact h1))
    rw [hr] at HK
    have hrb : (r == 0) = false := by simpa using h1
    have hrc : (r != 0) = true := by simpa using h1
    clear hr h1
    go_enter Tryz.func49, Tryz.ntmps49
    go_wp2_with fail
    rw [← hw0]
    clear hw0
    refine HC.out.mono ?_
    rintro e w1 ⟨rfl, hB1⟩
    have c1 := b1.below hB1 b1.lt
    have x1 := hB0.trans (hB1.mono hB0.size)
    have j0 := c1.at 0 rfl; have j1 := c1.at 1 rfl; have j2 := c1.at 2 rfl
    have z0 := c1.frozen 0; have z1 := c1.frozen 1; have z2 := c1.frozen 2
    obtain ⟨r6, hs6, hl6, x6⟩ := box3N (w := w) (G := ⟨0, 0, []⟩) (p := none) (c := 0) (q := none) (l := []) (n := w.heap.size + 2) c1 (Sg.nil _ _ _ _) (.inl rfl) (by omega) x1 (by omega)
    unfold set3N at r6 hs6 hl6 x6
    simp only [List.length_nil] at r6 hs6 hl6 x6
    have y0 := r6.at 0 rfl; have y1 := r6.at 1 rfl; have y2 := r6.at 2 rfl
    go_wp2
    refine bodyPost_ret (v := .tuple #[.agg #[.int .i64 0, .int .i64 0, .slice none 0 0], .slice none 0 0, .int .i64 r]) (by simp [results, Tryz.results49, go_sem, y0, y1, y2]) rfl ?_
    exact RetMe.of (H := ⟨0, 0, []⟩) (l := []) HK.out hs6 (by simp) (.inl rfl) x6
end Go.Proofs.YtocbhlohcikapaaGreatDoor
namespace Go.Proofs.YtocbhlohcikapaaGreatDoor
open Go.RowKit Go.Sort Go.Shelf Go.Lib

set_option maxRecDepth 100000 in
set_option maxHeartbeats 4000000 in
theorem rmMerge_any (G : Gr) (p : Option Addr) (c : Nat) (w : World) (hin : Sg 3 w edE p G.es) (hl : G.es.length ≤ 9223372036854775807) :
    Calls Tryz.prog 62 #[(.agg #[.int .i64 G.q, .int .i64 G.n, .slice p G.es.length c])] w (RetMe (merA G).1 (merA G).2.1 (merA G).2.2 w) := by
  obtain ⟨i0, hi0, hz0, hz1, hz2⟩ := info_parts infoE
  obtain ⟨w0, hw0⟩ : ∃ w0, w0 = (w.alloc (.cells #[.int .i64 G.q, .int .i64 G.n, .slice p G.es.length c] 24)).alloc (.cells #[.int .i64 0, .int .i64 0, .slice none 0 0] 24) := ⟨_, rfl⟩
  have b0 : VRow w0 w.heap.size 24 [.int .i64 G.q, .int .i64 G.n, .slice p G.es.length c] := by subst hw0; exact (VRow.new w _ _).alloc _
  have b1 : VRow w0 (w.heap.size + 1) 24 [.int .i64 0, .int .i64 0, .slice none 0 0] := by subst hw0; exact VRow.new1 w _ _ _
  have hB0 : RowKit.Below w.heap.size w w0 := by subst hw0; exact ((RowKit.Below.refl _ _).alloc (Nat.le_refl _) _).alloc (by simp) _
  have HIN := hidI (hin.below hB0)
  have HCH := hidI (rmcheck_any G p c w0 HIN.out hl)
  have hs0 : w.heap.size + 2 ≤ w0.heap.size := by subst hw0; simp
  clear hin
  obtain ⟨r, hr⟩ : ∃ r, chkD G = r := ⟨_, rfl⟩
  rw [hr] at HCH
  by_cases h1 : r = 0
  · subst h1
    have HK := hidI (merA_ok hr)
    obtain ⟨hv, hd⟩ := chkD_iff.1 hr
    have HV := hidI hv
    have HP := hidI (fun W (hW : RowKit.Below w0.heap.size w0 W) => rclasses_any G p c W (HIN.out.below hW) hv)
    have HBD := hidI (@cl_bd G)
    have HCLN := hidI (cl_len G)
    have HMG : Hid (mgA G = makeA G.q (mxC (clA G)) (G.es.map (mgE (clA G)))) := rfl
    obtain ⟨N, hN⟩ : ∃ N : Nat, G.n = N := ⟨G.n.toNat, by have := hv.n1; omega⟩
    have HN := hidI hN
    have hn64 : N ≤ 64 := by have := hv.n2; omega
    have hlen := hv.len
    rw [show G.n.toNat = N by rw [hN]; rfl] at HCLN
    clear hr hv hd hN
    generalize clA G = C at *
    go_enter Tryz.func62, Tryz.ntmps62
    go_wp2_with fail
    rw [← hw0]
    clear hw0
    refine HCH.out.mono ?_
    rintro e wa ⟨rfl, hBa⟩
    have a0 := b0.below hBa b0.lt
    have a1 := b1.below hBa b1.lt
    have xa := hB0.trans (hBa.mono hB0.size)
    have f0 := a0.at 0 rfl; have f1 := a0.at 1 rfl; have f2 := a0.at 2 rfl
    have HBA := hidI hBa
    have hsa : w.heap.size + 2 ≤ wa.heap.size := Nat.le_trans hs0 hBa.size
    go_wp2_with fail
    refine (HP.out wa hBa).mono ?_
    rintro e w1 ⟨cb, rfl, hcb, hrC, hB1⟩
    have x1 := xa.trans (hB1.mono xa.size)
    have HB1 := hidI (HBA.out.trans (hB1.mono HBA.out.size))
    have c0 := a0.below hB1 a0.lt
    have c1 := a1.below hB1 a1.lt
    clear f0 f1 f2
    have f1 := c0.at 1 rfl
    rw [HN.out] at f1
    have hclN : N = C.length := HCLN.out.symm
    rw [hclN] at f1
    have hcl64 : C.length ≤ 64 := by omega
    clear hB1 b0 b1 hB0 HP hBa a0 a1 hclN
    go_wp2
    go_loop [7, 8] (fun nv iv => ∃ k : Nat, k ≤ C.length ∧ iv = .int .i64 k ∧ nv = .int .i64 (mxC (C.take k))) (fun _ iv => C.length - (intOf iv).toNat)
    case atStart => exact ⟨0, by omega, rfl, rfl⟩
    case round =>
      obtain ⟨k, hk, rfl, rfl⟩ := hrel
      by_cases hlt : k < C.length
      · have hltI : (k : Int) < (C.length : Int) := by omega
        have e1 := hrC.at k (v := .int .i64 C[k]) (by simp [hlt])
        have hb := HBD.out _ (List.getElem_mem hlt)
        have hm := mxC_gen (C.take k) 0 (fun x hx => by have := HBD.out x (List.mem_of_mem_take hx); have := HN.out; omega) (by omega) (by omega)
        have HS : Hid (mxC (C.take (k + 1)) = max (mxC (C.take k)) (C[k] + 1)) := by rw [Hid, List.take_succ_eq_append_getElem hlt, mxC_snoc]
        change 0 ≤ mxC (C.take k) ∧ mxC (C.take k) ≤ 1001 at hm
        have hx2 : 0 ≤ C[k] ∧ C[k] ≤ 64 := by have := HN.out; omega
        clear hb
        generalize mxC (C.take k) = m at *
        generalize C[k] = x at *
        go_wp2
        go_round
        case rel => exact ⟨k + 1, by omega, by go_num, by rw [HS.out]⟩
        case measure => simp [intOf]; omega
      · have hltI : ¬ (k : Int) < (C.length : Int) := by omega
        obtain rfl : k = C.length := by omega
        rw [List.take_length]
        have hm := mxC_gen C 0 (fun x hx => by have := HBD.out x hx; have := HN.out; omega) (by omega) (by omega)
        change 0 ≤ mxC C ∧ mxC C ≤ 1001 at hm
        generalize hmx : mxC C = m at *
        have hmx := hidI hmx
        go_wp2
        clear f1
        go_loopw [9, 10] (fun ov iv wr => ∃ k : Nat, k ≤ G.es.length ∧ iv = .int .i64 k ∧ wr.ownsRow w1.heap.size 44 3 ov k (cat ((G.es.take k).map (mgE C))) ∧ RowKit.Below w1.heap.size w1 wr) (fun _ iv _ => G.es.length - (intOf iv).toNat)
        case atStart => exact ⟨0, by omega, rfl, World.ownsRow_nil _ _ _ _, RowKit.Below.refl _ _⟩
        case round =>
          obtain ⟨k, hk, rfl, hown, hB⟩ := hrel
          have xr := x1.trans (hB.mono x1.size)
          have cr := c0.below hB c0.lt
          have cs := c1.below hB c1.lt
          have f0 := cr.at 0 rfl; have f1 := cr.at 1 rfl; have f2 := cr.at 2 rfl
          by_cases hlt : k < G.es.length
          · have hltI : (k : Int) < (G.es.length : Int) := by omega
            obtain ⟨b3, o3, rfl, hb3, e0, e1, e2⟩ := (HIN.out.below (show RowKit.Below w0.heap.size w0 wr from HB1.out.trans (hB.mono HB1.out.size))).get3 k hlt rfl
            have hins := HV.out.ins _ (List.getElem_mem hlt)
            have HNN := hidI (mg_snoc C G.es k hlt)
            generalize (G.es.take k).map (mgE C) = M at *
            generalize hx : G.es[k] = x at *
            obtain ⟨xf, xl, xt⟩ := x
            have hins : 0 ≤ xf ∧ 0 ≤ xl ∧ 0 ≤ xt ∧ xf < G.n ∧ xt < G.n ∧ xl < G.q := hins
            have e0 : wr.cell? ⟨b3, o3 + k * 3, none⟩ = some (.int .i64 xf) := e0
            have e1 : wr.cell? ⟨b3, o3 + k * 3 + 1, none⟩ = some (.int .i64 xl) := e1
            have e2 : wr.cell? ⟨b3, o3 + k * 3 + 2, none⟩ = some (.int .i64 xt) := e2
            obtain ⟨F, rfl⟩ : ∃ F : Nat, xf = F := ⟨xf.toNat, by omega⟩
            obtain ⟨T, rfl⟩ : ∃ T : Nat, xt = T := ⟨xt.toNat, by omega⟩
            have hF : F < C.length := by have := HCLN.out; have := HN.out; omega
            have hT : T < C.length := by have := HCLN.out; have := HN.out; omega
            have hFI : (F : Int) < (C.length : Int) := by omega
            have hTI : (T : Int) < (C.length : Int) := by omega
            have hbF := HBD.out _ (List.getElem_mem hF)
            have hbT := HBD.out _ (List.getElem_mem hT)
            have HMX : Hid (mgE C ⟨(F : Int), xl, (T : Int)⟩ = ⟨C[F], xl, C[T]⟩) := by
              rw [Hid]; unfold mgE; simp only; rw [cg_get hF, cg_get hT]
            have hrCr := hrC.below hB hrC.lt
            obtain ⟨wb, hwb⟩ : ∃ wb, wb = wr.alloc (.cells #[.int .i64 (F : Int), .int .i64 xl, .int .i64 (T : Int)] 44) := ⟨_, rfl⟩
            have bx : VRow wb wr.heap.size 44 [.int .i64 (F : Int), .int .i64 xl, .int .i64 (T : Int)] := by subst hwb; exact VRow.new wr _ _
            have hBb : RowKit.Below wr.heap.size wr wb := by subst hwb; exact (RowKit.Below.refl _ _).alloc (Nat.le_refl _) _
            have hownb : wb.ownsRow w1.heap.size 44 3 u9 k (cat M) := by subst hwb; exact hown.alloc _
            have hBw := hB.trans (hBb.mono hB.size)
            have hrCb := hrCr.below hBb hrCr.lt
            have k0 := bx.at 0 rfl; have k1 := bx.at 1 rfl; have k2 := bx.at 2 rfl
            have k3 := hrCb.at F (v := .int .i64 (C[F]'hF)) (by simp [hF])
            have k4 := hrCb.at T (v := .int .i64 (C[T]'hT)) (by simp [hT])
            have hnx : some wr.heap.size ≠ u9.ownBlock := fun h => by have := (hown.lt _ h.symm).2; omega
            have hnc : some cb ≠ u9.ownBlock := fun h => by have := (hown.lt _ h.symm).1; have := hrC.lt; omega
            obtain ⟨xb, hxb⟩ : ∃ xb, xb = wr.heap.size := ⟨_, rfl⟩
            rw [← hxb] at hnx
            rw [← hxb] at k0 k1 k2
            generalize C[F]'hF = cf at *
            generalize C[T]'hT = ct at *
            have HBG : Hid (∀ (o : Obj) (wA : World), ((wb.alloc o).drew).grownBy wA u9.ownBlock → RowKit.Below w1.heap.size w1 wA) := fun o wA hg =>
              ((hBw.alloc hBw.size o).trans ((show Dr (wb.alloc o) (wb.alloc o).drew from ⟨1, rfl⟩).below _)).grown hg (by have := hBw.size; show w1.heap.size ≤ (wb.alloc o).heap.size; rw [World.size_alloc]; omega) (fun j e => (hown.lt j e).1)
            go_upto_region 15 with fail
            rw [← hwb, ← hxb]
            clear hwb hxb bx e0 e1 e2 f0 f1 f2
            go_region_held3 (fun w' => w'.cell? ⟨xb, 0, none⟩ = some (.int .i64 (F : Int)) ∧ w'.cell? ⟨xb, 1, none⟩ = some (.int .i64 xl) ∧ w'.cell? ⟨xb, 2, none⟩ = some (.int .i64 (T : Int)) ∧ w'.cell? ⟨cb, F, none⟩ = some (.int .i64 cf) ∧ w'.cell? ⟨cb, T, none⟩ = some (.int .i64 ct))
                (first | (go_split_ands; refine ⟨?_, ?_, ?_, ?_, ?_⟩ <;> first | assumption | (go_keep; done) | exact cell_grown (n := 1) hgA k0 hnx | exact cell_grown (n := 1) hgA k1 hnx | exact cell_grown (n := 1) hgA k2 hnx | exact cell_grown (n := 1) hgA k3 hnc | exact cell_grown (n := 1) hgA k4 hnc))
                (first
                  | (go_split_ands; refine step_append_sg (by rfl) _ _ _ (by rfl) u9 (some ⟨_, 0, none⟩) 1 1 (by rfl) (by rfl) w1.heap.size 44 i0 _ Tryz.underlying22 hi0 hz0 hz1 hz2 rfl M k [⟨cf, xl, ct⟩] rfl (by omega) (by first | exact (hownb.dr ⟨1, rfl⟩).alloc _ | exact hownb.alloc _) (by first | exact Sg.of_row (l := [⟨cf, xl, ct⟩]) (VRow.new _ 44 (cat [⟨cf, xl, ct⟩]))) (by have := hBw.size; simp; omega) ?_; intro vA wA hoA hgA))
            all_goals
              have hBf := HBG.out _ _ hgA
              go_wp2
              go_roundw
              case rel => exact ⟨k + 1, by omega, by go_num, by rw [HNN.out, HMX.out]; exact hoA, hBf⟩
              case measure => simp [intOf]; omega
          · have hltI : ¬ (k : Int) < (G.es.length : Int) := by omega
            obtain rfl : k = G.es.length := by omega
            rw [List.take_length] at hown
            obtain ⟨pv, mv, cv, rfl⟩ := own_shape hown
            obtain ⟨hmv, hsv⟩ := sg_len (p' := none) hown
            have hlm : (G.es.map (mgE C)).length ≤ 100000 := by rw [List.length_map]; omega
            have HM : Hid (Calls Tryz.prog 133 #[.int .i64 G.q, .int .i64 m, .slice pv mv cv] wr (RetGr (makeA G.q m (G.es.map (mgE C))).1 (makeA G.q m (G.es.map (mgE C))).2 wr)) := by
              subst hmv; exact rMake_any G.q m (G.es.map (mgE C)) pv cv wr hsv (by rw [List.length_map]; omega)
            rw [← HMG.out] at HM
            clear hmv HMG
            generalize mgA G = R at *
            have hrCr := hrC.below hB hrC.lt
            go_wp2_with fail
            refine HM.out.mono ?_
            rintro e w3 ⟨p3, c3, rfl, hs3, hc3, hB3⟩
            have x3 := xr.trans (hB3.mono xr.size)
            have e1 := cs.below hB3 cs.lt
            have hz : w.heap.size + 1 < wr.heap.size := cs.lt
            have hr3 := hrCr.below hB3 hrCr.lt
            clear f0 f1 f2
            obtain ⟨w4, hw4⟩ : ∃ w4, w4 = w3.alloc (.cells #[.int .i64 R.1.q, .int .i64 R.1.n, .slice p3 R.1.es.length c3] 24) := ⟨_, rfl⟩
            have hB4 : RowKit.Below w3.heap.size w3 w4 := by subst hw4; exact (RowKit.Below.refl _ _).alloc (Nat.le_refl _) _
            have bn : VRow w4 w3.heap.size 24 [.int .i64 R.1.q, .int .i64 R.1.n, .slice p3 R.1.es.length c3] := by subst hw4; exact VRow.new w3 _ _
            obtain ⟨nb, hnb⟩ : ∃ nb, nb = w3.heap.size := ⟨_, rfl⟩
            rw [← hnb] at bn
            have x4 := x3.trans (hB4.mono x3.size)
            have e4 := e1.below hB4 e1.lt
            have hr4 := hr3.below hB4 hr3.lt
            have n0 := bn.at 0 rfl; have n1 := bn.at 1 rfl; have n2 := bn.at 2 rfl
            have j0 := e4.at 0 rfl; have j1 := e4.at 1 rfl; have j2 := e4.at 2 rfl
            have z0 := e4.frozen 0; have z1 := e4.frozen 1; have z2 := e4.frozen 2
            have hne : nb ≠ w.heap.size + 1 := by have := e1.lt; omega
            obtain ⟨r6, hs6, hl6, x6⟩ := box3N (w := w) (G := R.1) (p := p3) (c := c3) (q := some ⟨cb, 0, none⟩) (l := C) (n := w.heap.size + 2) e4 (hs3.below hB4) (.inr ⟨cb, rfl, by omega, hr4⟩) (by omega) x4 (by omega)
            unfold set3N at r6 hs6 hl6 x6
            go_upto_region 17 with fail
            rw [← hw4, ← hnb]
            clear hw4 hnb
            go_wp2
            have y0 := r6.at 0 rfl; have y1 := r6.at 1 rfl; have y2 := r6.at 2 rfl
            refine bodyPost_ret (v := .tuple #[.agg #[.int .i64 R.1.q, .int .i64 R.1.n, .slice p3 R.1.es.length c3], .slice (some ⟨cb, 0, none⟩) C.length C.length, .int .i64 R.2]) (by simp [results, Tryz.results62, go_sem, y0, y1, y2]) rfl ?_
            exact RetMe.of HK.out hs6 hc3 (hl6.mono (by omega)) x6
  · have HK := hidI (merA_bad (G := G) (by rw [hr]; exact h1))
    rw [hr] at HK
    have hrb : (r == 0) = false := by simpa using h1
    have hrc : (r != 0) = true := by simpa using h1
    clear hr h1
    go_enter Tryz.func62, Tryz.ntmps62
    go_wp2_with fail
    rw [← hw0]
    clear hw0
    refine HCH.out.mono ?_
    rintro e w1 ⟨rfl, hB1⟩
    have c1 := b1.below hB1 b1.lt
    have x1 := hB0.trans (hB1.mono hB0.size)
    have j0 := c1.at 0 rfl; have j1 := c1.at 1 rfl; have j2 := c1.at 2 rfl
    have z0 := c1.frozen 0; have z1 := c1.frozen 1; have z2 := c1.frozen 2
    obtain ⟨r6, hs6, hl6, x6⟩ := box3N (w := w) (G := ⟨0, 0, []⟩) (p := none) (c := 0) (q := none) (l := []) (n := w.heap.size + 2) c1 (Sg.nil _ _ _ _) (.inl rfl) (by omega) x1 (by omega)
    unfold set3N at r6 hs6 hl6 x6
    simp only [List.length_nil] at r6 hs6 hl6 x6
    have y0 := r6.at 0 rfl; have y1 := r6.at 1 rfl; have y2 := r6.at 2 rfl
    go_wp2
    refine bodyPost_ret (v := .tuple #[.agg #[.int .i64 0, .int .i64 0, .slice none 0 0], .slice none 0 0, .int .i64 r]) (by simp [results, Tryz.results62, go_sem, y0, y1, y2]) rfl ?_
    exact RetMe.of (H := ⟨0, 0, []⟩) (l := []) HK.out hs6 (by simp) (.inl rfl) x6
end Go.Proofs.YtocbhlohcikapaaGreatDoor
namespace Go.Proofs.YtocbhlohcikapaaGreatDoor
open Go.RowKit Go.Sort Go.Shelf Go.Lib

theorem equalI_n (l m : List Int) (p p' : Option Addr) (c c' : Nat) (w : World) (hl : Sl w (Value.int .i64) p l) (hm : Sl w (Value.int .i64) p' m) (h1 : l.length ≤ 9223372036854775807) (h2 : m.length ≤ 9223372036854775807) :
    Calls Tryz.prog 20 #[.slice p l.length c, .slice p' m.length c'] w fun e w' => e = .returned (.bool (decide (l = m))) ∧ Dr w w' := by
  by_cases hlen : l.length = m.length
  · rcases Nat.eq_zero_or_pos l.length with h0 | h0
    · have e1 : l = [] := List.length_eq_zero_iff.1 h0
      have e2 : m = [] := List.length_eq_zero_iff.1 (by omega)
      subst e1; subst e2
      refine (Tryz.slices_Equal_int_empty p p' c 0 c' w (by omega)).mono ?_
      rintro e w' ⟨rfl, rfl⟩
      exact ⟨rfl, Dr.refl _⟩
    · obtain ⟨b, off, rfl, hb, hc⟩ := hl.get 0 h0
      obtain ⟨b', off', rfl, hb', hc'⟩ := hm.get 0 (by omega)
      refine (Tryz.slices_Equal_int b off l.length c b' off' m.length c' l m w (Nat.le_refl _) (Nat.le_refl _) h1 h2 (fun j hj => by rw [hc j hj, List.getD_eq_getElem?_getD, List.getElem?_eq_getElem hj]; rfl) (fun j hj => by rw [hc' j hj, List.getD_eq_getElem?_getD, List.getElem?_eq_getElem hj]; rfl)).mono ?_
      rintro e w' ⟨rfl, hD⟩
      rw [List.take_length, List.take_length]
      refine ⟨?_, hD⟩
      by_cases e : l = m <;> simp [e]
  · have hne : l ≠ m := fun e => hlen (by rw [e])
    refine (Tryz.slices_Equal_int_lens p p' l.length c m.length c' w hlen).mono ?_
    rintro e w' ⟨rfl, rfl⟩
    exact ⟨by rw [decide_eq_false hne], Dr.refl _⟩

def gr13 (G : Gr) : Bool := greatG G || (decide (20 < G.es.length) || ((decide (6 < G.n) && decide (G.n ≤ 64)) || (decide (8 < G.q) && decide (G.q ≤ 256))))
set_option maxRecDepth 100000 in
theorem rmGreat_any (G : Gr) (p : Option Addr) (c : Nat) (w : World) (hl : G.es.length ≤ 9223372036854775807) :
    Calls Tryz.prog 48 #[(.agg #[.int .i64 G.q, .int .i64 G.n, .slice p G.es.length c])] w fun e w' => e = .returned (.bool (gr13 G)) ∧ RowKit.Below w.heap.size w w' := by
  have b0 : VRow (w.alloc (.cells #[.int .i64 G.q, .int .i64 G.n, .slice p G.es.length c] 24)) w.heap.size 24 [.int .i64 G.q, .int .i64 G.n, .slice p G.es.length c] := VRow.new w _ _
  have hB0 : RowKit.Below w.heap.size w (w.alloc (.cells #[.int .i64 G.q, .int .i64 G.n, .slice p G.es.length c] 24)) := (RowKit.Below.refl _ _).alloc (Nat.le_refl _) _
  have hR := hidI (rGreat_any G p c (w.alloc (.cells #[.int .i64 G.q, .int .i64 G.n, .slice p G.es.length c] 24)) hl)
  obtain ⟨b, hb⟩ : ∃ b, greatG G = b := ⟨_, rfl⟩
  rw [hb] at hR
  have HG : Hid (gr13 G = (b || (decide (20 < G.es.length) || ((decide (6 < G.n) && decide (G.n ≤ 64)) || (decide (8 < G.q) && decide (G.q ≤ 256)))))) := by rw [Hid, ← hb]; rfl
  clear hb
  go_enter Tryz.func48, Tryz.ntmps48
  go_wp2_with fail
  refine hR.out.mono ?_
  rintro e w1 ⟨rfl, hB1⟩
  have c0 := b0.below hB1 b0.lt
  have f0 := c0.at 0 rfl; have f1 := c0.at 1 rfl; have f2 := c0.at 2 rfl
  have x1 := hB0.trans (hB1.mono hB0.size)
  cases b
  · go_wp2
    all_goals go_ret
    all_goals exact ⟨ret_bool (by rw [HG.out, Bool.eq_iff_iff]; simp; omega), x1⟩
  · go_wp2
    go_ret
    exact ⟨ret_bool (by rw [HG.out]; rfl), x1⟩

/-! ### A list of graphs -/
abbrev GA := {x : Gr × Option Addr × Nat // x.1.es.length ≤ 9223372036854775807}
instance : Inhabited GA := ⟨⟨(⟨0, 0, []⟩, none, 0), by simp⟩⟩
def gE (x : GA) : List Value := [.int .i64 x.1.1.q, .int .i64 x.1.1.n, .slice x.1.2.1 x.1.1.es.length x.1.2.2]
theorem contains_any (b n c : Nat) (zs : List GA) (hz : zs.length = n) (hn : n ≤ 1000) (w : World) (hb : b < w.heap.size) (hc : ∀ j, j < zs.length → ∀ i v, (gE zs[j]!)[i]? = some v → w.cell? ⟨b, 0 + j * 3 + i, none⟩ = some v) :
    Calls Tryz.prog 47 #[.slice (some ⟨b, 0, none⟩) n c, .func (.func 48) #[] #[]] w fun e w' => e = .returned (.bool (zs.any (fun x => gr13 x.1.1))) ∧ RowKit.Below w.heap.size w w' := by
  have h := AnyQ.slices_ContainsFunc Tryz.layContainsG 3 Tryz.isAgg24 Tryz.sizeOf24 gE (fun _ => rfl) (fun x => gr13 x.1.1) 48 #[] (enters_of Tryz.func48 (by kernel_rfl) rfl) b 0 n c zs w
    (fun W x hW => (rmGreat_any x.1.1 x.1.2.1 x.1.2.2 W x.2).mono (fun e w' h => ⟨h.1, hW.trans (h.2.mono hW.size)⟩)) (by omega) (by omega) hb hc
  rw [List.take_of_length_le (by omega)] at h
  exact h
set_option maxRecDepth 100000 in
theorem great13_any (b n c : Nat) (zs : List GA) (hz : zs.length = n) (hn : n ≤ 1000) (w : World) (hb : b < w.heap.size) (hc : ∀ j, j < zs.length → ∀ i v, (gE zs[j]!)[i]? = some v → w.cell? ⟨b, 0 + j * 3 + i, none⟩ = some v) :
    Calls Tryz.prog 11 #[.slice (some ⟨b, 0, none⟩) n c] w fun e w' => e = .returned (.bool (zs.any (fun x => gr13 x.1.1))) ∧ RowKit.Below w.heap.size w w' := by
  have h := contains_any b n c zs hz hn w hb hc
  generalize zs.any (fun x => gr13 x.1.1) = r at *
  have H := hidI h
  clear h hc hz
  go_enter Tryz.func11, Tryz.ntmps11
  go_wp2_with fail
  refine H.out.mono ?_
  rintro e w1 ⟨rfl, hB1⟩
  go_wp2
  go_ret
  exact ⟨rfl, hB1⟩
theorem great13_one (G : Gr) (p : Option Addr) (c b d : Nat) (w : World) (hl : G.es.length ≤ 9223372036854775807) (r : VRow w b 24 [.int .i64 G.q, .int .i64 G.n, .slice p G.es.length c]) :
    Calls Tryz.prog 11 #[.slice (some ⟨b, 0, none⟩) 1 d] w fun e w' => e = .returned (.bool (gr13 G)) ∧ RowKit.Below w.heap.size w w' := by
  refine (great13_any b 1 d [⟨(G, p, c), hl⟩] rfl (by omega) w r.lt ?_).mono ?_
  · intro j hj i v hv
    have : j = 0 := by simpa using hj
    subst this
    rw [show 0 + 0 * 3 + i = i by omega, r.cell]
    exact hv
  · rintro e w' ⟨rfl, h⟩
    exact ⟨by simp, h⟩

/-! ### The example of the chapter -/
def aw0 : Gr := ⟨2, 3, [⟨0, 0, 0⟩, ⟨0, 1, 1⟩, ⟨1, 0, 2⟩, ⟨2, 0, 2⟩, ⟨2, 1, 1⟩]⟩
def aw1 : Gr := ⟨2, 2, [⟨0, 0, 0⟩, ⟨0, 1, 1⟩, ⟨1, 0, 0⟩]⟩
theorem aw_mer : merA aw0 = (aw1, [0, 1, 0], 0) := by kernel_rfl
theorem aw_sep : sepA aw0 0 1 = ([1], true, 0) := by kernel_rfl
set_option maxRecDepth 100000 in
set_option maxHeartbeats 2000000 in
theorem awake13_any (w : World) : Calls Tryz.prog 12 #[] w fun e w' => e = .returned (.bool true) ∧ RowKit.Below w.heap.size w w' := by
  obtain ⟨w4, hw4⟩ : ∃ w4, w4 = (((w.alloc (.cells #[.int .i64 0, .int .i64 0, .int .i64 0, .int .i64 0, .int .i64 1, .int .i64 1, .int .i64 1, .int .i64 0, .int .i64 2, .int .i64 2, .int .i64 0, .int .i64 2, .int .i64 2, .int .i64 1, .int .i64 1] 44)).alloc (.cells #[.int .i64 2, .int .i64 3, .slice (some ⟨w.heap.size, 0, none⟩) 5 5] 24)).alloc (.cells #[.int .i64 0, .int .i64 0, .int .i64 0, .int .i64 0, .int .i64 1, .int .i64 1, .int .i64 1, .int .i64 0, .int .i64 0] 44)).alloc (.cells #[.int .i64 2, .int .i64 2, .slice (some ⟨w.heap.size + 1 + 1, 0, none⟩) 3 3] 24) := ⟨_, rfl⟩
  have r0 : VRow w4 w.heap.size 44 (cat aw0.es) := by subst hw4; exact (((VRow.new w _ _).alloc _).alloc _).alloc _
  have b0 : VRow w4 (w.heap.size + 1) 24 [.int .i64 2, .int .i64 3, .slice (some ⟨w.heap.size, 0, none⟩) 5 5] := by subst hw4; exact ((VRow.new1 w _ _ _).alloc _).alloc _
  have r1 : VRow w4 (w.heap.size + 1 + 1) 44 (cat aw1.es) := by subst hw4; exact (VRow.new2 w _ _ _ _).alloc _
  have b1 : VRow w4 (w.heap.size + 1 + 1 + 1) 24 [.int .i64 2, .int .i64 2, .slice (some ⟨w.heap.size + 1 + 1, 0, none⟩) 3 3] := by
    subst hw4
    have h := VRow.new (((w.alloc (.cells #[.int .i64 0, .int .i64 0, .int .i64 0, .int .i64 0, .int .i64 1, .int .i64 1, .int .i64 1, .int .i64 0, .int .i64 2, .int .i64 2, .int .i64 0, .int .i64 2, .int .i64 2, .int .i64 1, .int .i64 1] 44)).alloc (.cells #[.int .i64 2, .int .i64 3, .slice (some ⟨w.heap.size, 0, none⟩) 5 5] 24)).alloc (.cells #[.int .i64 0, .int .i64 0, .int .i64 0, .int .i64 0, .int .i64 1, .int .i64 1, .int .i64 1, .int .i64 0, .int .i64 0] 44)) 24 [.int .i64 2, .int .i64 2, .slice (some ⟨w.heap.size + 1 + 1, 0, none⟩) 3 3]
    simp only [World.size_alloc] at h
    exact h
  have x4 : RowKit.Below w.heap.size w w4 := by subst hw4; exact ((((RowKit.Below.refl _ _).alloc (Nat.le_refl _) _).alloc (by simp) _).alloc (by simp; omega) _).alloc (by simp; omega) _
  have s0 := Sg.of_row r0
  have s1 := Sg.of_row r1
  have HM : Hid (Calls Tryz.prog 49 #[.agg #[.int .i64 2, .int .i64 3, .slice (some ⟨w.heap.size, 0, none⟩) 5 5]] w4 (RetMe aw1 [0, 1, 0] 0 w4)) := by
    have h := mMerge_any aw0 (some ⟨w.heap.size, 0, none⟩) 5 w4 s0 (by decide)
    rw [aw_mer] at h; exact h
  have HS : Hid (∀ W, RowKit.Below w4.heap.size w4 W → Calls Tryz.prog 50 #[.agg #[.int .i64 2, .int .i64 3, .slice (some ⟨w.heap.size, 0, none⟩) 5 5], .int .i64 0, .int .i64 1] W (RetSp [1] true 0 W)) := fun W hW => by
    have h := mSeparate_any aw0 (some ⟨w.heap.size, 0, none⟩) 5 0 1 W (s0.below hW) (by decide)
    rw [aw_sep] at h; exact h
  have HQ : Hid (∀ W p c, RowKit.Below w4.heap.size w4 W → Sg 3 W edE p aw1.es → Calls Tryz.prog 19 #[(.agg #[.int .i64 aw1.q, .int .i64 aw1.n, .slice p aw1.es.length c]), .agg #[.int .i64 2, .int .i64 2, .slice (some ⟨w.heap.size + 1 + 1, 0, none⟩) 3 3]] W fun e w' => e = .returned (.bool true) ∧ RowKit.Below W.heap.size W w') := fun W p c hW hs => by
    have h := rSame_any aw1 aw1 p (some ⟨w.heap.size + 1 + 1, 0, none⟩) c 3 W hs (s1.below hW) (by decide) (by decide)
    rw [sameG_refl] at h; exact h
  obtain ⟨x, hx⟩ : ∃ x, x = w.heap.size + 1 := ⟨_, rfl⟩
  have x4s := x4.size
  clear r0 r1 s0 s1
  go_enter Tryz.func12, Tryz.ntmps12
  go_wp2_with fail
  rw [← hw4]
  clear hw4
  refine HM.out.mono ?_
  rintro e w5 ⟨p3, c3, q3, d3, rfl, hs3, hc3, hl3, hB3⟩
  obtain ⟨H, hH⟩ : ∃ H, H = aw1 := ⟨_, rfl⟩
  rw [← hH] at hs3 HQ ⊢
  have hHl : Hid (H.es.length = 3) := by rw [hH]; rfl
  clear hH hc3 HM
  have HZ := hidI (hl3.sl)
  obtain ⟨wA, hwA⟩ : ∃ wA, wA = w5.alloc (.cells #[.int .i64 H.q, .int .i64 H.n, .slice p3 H.es.length c3] 24) := ⟨_, rfl⟩
  have hBA : RowKit.Below w5.heap.size w5 wA := by subst hwA; exact (RowKit.Below.refl _ _).alloc (Nat.le_refl _) _
  have m0 : VRow wA w5.heap.size 24 [.int .i64 H.q, .int .i64 H.n, .slice p3 H.es.length c3] := by subst hwA; exact VRow.new w5 _ _
  have hBA4 := hB3.trans (hBA.mono hB3.size)
  have xA := x4.trans (hBA4.mono x4.size)
  have b0 := b0.below hBA4 b0.lt
  have b1 := b1.below hBA4 b1.lt
  have hsA := hidI (hs3.below hBA)
  have HZA := hidI (HZ.out.below hBA)
  have f0 := b0.at 0 rfl; have f1 := b0.at 1 rfl; have f2 := b0.at 2 rfl
  have HSA := hidI (HS.out wA hBA4)
  obtain ⟨mb, hmb⟩ : ∃ mb, mb = w5.heap.size := ⟨_, rfl⟩
  rw [← hmb] at m0
  clear hs3 hl3 hB3 HS hBA HZ
  go_upto_region 4 with fail
  rw [← hwA, ← hmb]
  clear hwA hmb
  go_wp2_with fail
  refine HSA.out.mono ?_
  rintro e w6 ⟨q6, d6, rfl, hs6, hB6⟩
  have hB64 := hBA4.trans (hB6.mono hBA4.size)
  have x6 := xA.trans (hB6.mono xA.size)
  have m6 := m0.below hB6 m0.lt
  have b6 := b1.below hB6 b1.lt
  have hsm := hidI (hsA.out.below hB6)
  have HZ6 := hidI (HZA.out.below hB6)
  have hs6 := hidI hs6
  clear f0 f1 f2 b0 b1 m0 hsA HZA hBA4 xA hB6
  have f0 := m6.at 0 rfl; have f1 := m6.at 1 rfl; have f2 := m6.at 2 rfl
  have k0 := b6.at 0 rfl; have k1 := b6.at 1 rfl; have k2 := b6.at 2 rfl
  have HQ6 := hidI (HQ.out w6 p3 c3 hB64 hsm.out)
  go_wp2_with fail
  refine HQ6.out.mono ?_
  rintro e w7 ⟨rfl, hB7⟩
  have x7 := x6.trans (hB7.mono x6.size)
  have HZ7 := hidI (HZ6.out.below hB7)
  have hs7 := hidI (hs6.out.below hB7)
  clear f0 f1 f2 k0 k1 k2 HQ6 hsm m6 b6 HZ6 hs6 hB7 x6
  have hr8 : VRow (w7.alloc (.cells #[.int .i64 0, .int .i64 1, .int .i64 0] 3)) w7.heap.size 3 (([0, 1, 0] : List Int).map (Value.int .i64)) := VRow.new w7 _ _
  have hB8 : RowKit.Below w7.heap.size w7 (w7.alloc (.cells #[.int .i64 0, .int .i64 1, .int .i64 0] 3)) := (RowKit.Below.refl _ _).alloc (Nat.le_refl _) _
  have HE1 : Hid (Calls Tryz.prog 20 #[.slice q3 3 d3, .slice (some ⟨w7.heap.size, 0, none⟩) 3 3] (w7.alloc (.cells #[.int .i64 0, .int .i64 1, .int .i64 0] 3)) fun e w' => e = .returned (.bool true) ∧ RowKit.Below w7.heap.size w7 w') := by
    have h := equalI_n [0, 1, 0] [0, 1, 0] q3 (some ⟨w7.heap.size, 0, none⟩) d3 3 _ (HZ7.out.below hB8) (Sl.of_vrow hr8) (by decide) (by decide)
    rw [decide_eq_true rfl] at h
    exact h.mono (fun e w' h => ⟨h.1, hB8.trans ((h.2.below _).mono hB8.size)⟩)
  clear hr8
  go_wp2_with fail
  refine HE1.out.mono ?_
  rintro e w8 ⟨rfl, hB9⟩
  have x8 := x7.trans (hB9.mono x7.size)
  have hs8 := hidI (hs7.out.below hB9)
  clear HE1 HZ7 hs7 hB9 hB8 x7
  have hr9 : VRow (w8.alloc (.cells #[.int .i64 1] 3)) w8.heap.size 3 (([1] : List Int).map (Value.int .i64)) := VRow.new w8 _ _
  have hB9 : RowKit.Below w8.heap.size w8 (w8.alloc (.cells #[.int .i64 1] 3)) := (RowKit.Below.refl _ _).alloc (Nat.le_refl _) _
  have HE2 : Hid (Calls Tryz.prog 20 #[.slice q6 1 d6, .slice (some ⟨w8.heap.size, 0, none⟩) 1 1] (w8.alloc (.cells #[.int .i64 1] 3)) fun e w' => e = .returned (.bool true) ∧ RowKit.Below w8.heap.size w8 w') := by
    have h := equalI_n [1] [1] q6 (some ⟨w8.heap.size, 0, none⟩) d6 1 _ (hs8.out.below hB9) (Sl.of_vrow hr9) (by decide) (by decide)
    rw [decide_eq_true rfl] at h
    exact h.mono (fun e w' h => ⟨h.1, hB9.trans ((h.2.below _).mono hB9.size)⟩)
  clear hr9
  go_wp2_with fail
  refine HE2.out.mono ?_
  rintro e w9 ⟨rfl, hB10⟩
  have x9 := x8.trans (hB10.mono x8.size)
  go_wp2
  go_ret
  exact ⟨rfl, x9⟩
end Go.Proofs.YtocbhlohcikapaaGreatDoor
namespace Go.Proofs.YtocbhlohcikapaaGreatDoor
open Go.ChangeShapes Go.WideShapes Go.ChangeAt Go.RowKit

theorem own : ownKnob Tryz.prog.godebug = none := by kernel_rfl
theorem laidOut : laidOutB Tryz.prog = true := by kernel_rfl

theorem trodAll_below {H : Type} {enc : TypeId × Value → H} {W W' : World} (hb : Below W.heap.size W W') :
    ∀ (ts : List TypeId) (vs : List Value) (ds : List (DataW H)) (p : List MemPlace), (∀ t ∈ ts, Tryz.prog.readableRec t = true ∧ t < Tryz.prog.types.size) →
      DataW.TrodAll enc Tryz.prog W 0 (fun _ => true) true ts vs ds p → (∀ x ∈ p, x.block < W.heap.size) →
      DataW.TrodAll enc Tryz.prog W' 0 (fun b => decide (b < W.heap.size)) true ts vs ds p
  | [], vs, ds, p, _, h, _ => by
    obtain ⟨rfl, rfl, rfl⟩ := trodAll_nil h
    exact trodAll_mk0
  | t :: ts, vs, ds, p, ht, h, hlt => by
    obtain ⟨v, vs', d, ds', p', q', rfl, rfl, rfl, h0, h1⟩ := trodAll_cons h
    exact trodAll_cons_mk (Below.trod laidOut (ht t List.mem_cons_self).1 (ht t List.mem_cons_self).2 h0 hb (fun x hx => hlt x (List.mem_append_left _ hx)))
      (trodAll_below hb ts vs' ds' q' (fun t h => ht t (List.mem_cons_of_mem _ h)) h1 (fun x hx => hlt x (List.mem_append_right _ hx)))

/-- What the row asks behind the call of a law. -/
theorem law_post {H : Type} {enc : TypeId × Value → H} {f : Func} {s : ChangeSpec} {W W' : World} {args : Array Value} {ds gs : List (DataW H)} {before : List MemPlace}
    (hW : DataW.Whole enc Tryz.prog f.params.toList s.vars false W args.toList ds gs before) (hv : s.vars = [])
    (hr : f.resultTypes = #[4]) (ht : ∀ t ∈ f.params.toList, Tryz.prog.readableRec t = true ∧ t < Tryz.prog.types.size)
    (hfr : (s.fn H (ds ++ gs)).results = [.lit (.bool true)]) (hfa : (s.fn H (ds ++ gs)).args = ds) (hfv : (s.fn H (ds ++ gs)).vars = [])
    (hB : Below W.heap.size W W') : s.post enc Tryz.prog f false true false false W args (.bool true) W' := by
  have hW' := hW
  obtain ⟨p, q, hA, hV, rfl, hfz, hnd⟩ := hW
  have hlt : ∀ x ∈ p, x.block < W.heap.size := fun x hx => hW'.lt x (List.mem_append_left _ hx)
  refine ⟨ds, gs, _, [] ++ [], p, [], hW', ?_, ?_, ?_, hB.frame _, fun h => by cases h⟩
  · rw [hfr, hr]; exact trodAll_mk1 (shut_bool Tryz.underlying4 true)
  · rw [hfa]; exact trodAll_below hB _ _ _ _ ht hA hlt
  · rw [hfv, hv]; exact rfl
end Go.Proofs.YtocbhlohcikapaaGreatDoor
