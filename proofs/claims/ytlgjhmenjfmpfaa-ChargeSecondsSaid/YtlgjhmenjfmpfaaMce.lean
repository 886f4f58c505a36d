/-
  Words, plain lemmas and walks, merged: Gj, Gk, Gp, Gu, Hn, Hk, Gl, Gq, Gy, Hp, Hs, Mk, Gs, Gz.
-/
import Derived.Test.YtlgjhmenjfmpfaaMcd
import Derived.Maps.AppendAt
import Derived.Deep.CutBlock
import Derived.Test.YtlgjhmenjfmpfaaMcc
import Derived.Test.YtlgjhmenjfmpfaaMca
import Derived.Sort.OwnSortedInts
import Derived.Lib.SlicesCompact
import Derived.RangeFuncLeaves
namespace Go.Proofs.Ytlgjhmenjfmpfaa
open Go.RowKit Go.Sort Go.Shelf Go.Lib

/-! ### Appending -/
section
variable {P : Program} {w : World}
theorem run_append_sg (base : Nat) (t ty e : TypeId) (i : TypeInfo) (z : Value) (ht : P.underlying t = some (.slice e)) (hi : P.info? e = some i) (hz : i.zero = some z) (hs : i.size = 3) (hby : i.bytes = 24) (hzs : z.cells.size = 3)
    (v : Value) (xs : List Ed) (n : Nat) (hown : w.ownsRow base e 3 v n (cat xs)) (p : Option Addr) (c : Nat) (l : List Ed) (m : Nat) (hm : l.length = m) (hl : Sg 3 w edE p l) (h63 : n + m ≤ 100000) (hbase : base ≤ w.heap.size) :
    ∃ v' w', (Builtin.append_ #[t, t] ty #[v, .slice p m c]).run P w = .ok v' w' ∧ w'.ownsRow base e 3 v' (n + m) (cat (xs ++ l)) ∧ w.grownBy w' v.ownBlock := by
  subst hm
  cases p with
  | none =>
    rcases hl with h0 | ⟨_, _, hp, _⟩
    · subst h0
      refine ⟨v, w, ?_, by simpa using hown, World.grownBy.refl w _⟩
      rcases hown.2 with ⟨rfl, h0⟩ | ⟨g, cap, cur, rfl, _, _, hnc, _⟩
      · simp [Builtin.append_, run_underlying ht, sizeOf, typeInfo, hi, Builtin.lenOf, Builtin.firstCells]
      · simp [Builtin.append_, run_underlying ht, sizeOf, typeInfo, hi, Builtin.lenOf, Builtin.firstCells, hnc, storeCells]
    · cases hp
  | some ad =>
    have hn : ∀ j u, (cat l)[j]? = some u → w.cell? (ad.add j) = some u := by
      rcases hl with h0 | ⟨b, off, hp, _, hc⟩
      · subst h0; simp [cat]
      · cases hp
        intro j u hu
        rw [show (⟨b, off, none⟩ : Addr).add j = ⟨b, off + j, none⟩ by unfold Addr.add; split <;> simp_all]; exact sg_cells hc j u hu
    obtain ⟨v', w', h1, h2, h3, _, _⟩ := run_append_own_at w base t ty e i z 3 24 ht hi hz hs hby hzs (by decide) v n _ hown ad l.length c (cat l) (cat_len l) hn (cat_one l) (by simp only [maxLen]; omega) (by omega) hbase
    exact ⟨v', w', h1, by rw [cat_app]; exact h2, h3⟩
theorem step_append_run {ops : Array Oper} {o : Oper} {a : Act} {K : Act → World → Prop} {Q : Exit → Act → World → Prop} {E : Prop} (hgd : o.guard = none) (s x : Operand) (t : TypeId)
    (ho : o.op = .call { callee := .builtin .append, args := #[s, x], argTypes := #[t, t] }) (sv xv : Value) (hs : a.eval s = sv) (hx : a.eval x = xv) (v' : Value) (w' : World)
    (hrun : (Builtin.append_ #[t, t] o.type #[sv, xv]).run P w = .ok v' w') (h : K (a.put o.dst v') w') : if Region.wanted o (yielded ops a.tmps) = true then Oper.wp P o a w K Q else E := by
  have hw : Region.wanted o (yielded ops a.tmps) = true := by simp [Region.wanted, hgd]
  rw [if_pos hw]
  unfold Oper.wp execOp
  simp only [ho, resolve, invoke, builtin, Sem.run_bind, Sem.run_pure, Result.andThen_ok, List.map_toArray, List.map_cons, List.map_nil, hs, hx, hrun]
  exact h
end
theorem step_append_sg {P : Program} {w : World} {ops : Array Oper} {o : Oper} {a : Act} {K : Act → World → Prop} {Q : Exit → Act → World → Prop} {E : Prop} (hgd : o.guard = none) (s x : Operand) (t : TypeId)
    (ho : o.op = .call { callee := .builtin .append, args := #[s, x], argTypes := #[t, t] }) (sv : Value) (p : Option Addr) (m c : Nat) (hs : a.eval s = sv) (hx : a.eval x = .slice p m c)
    (base : Nat) (e : TypeId) (i : TypeInfo) (z : Value) (ht : P.underlying t = some (.slice e)) (hi : P.info? e = some i) (hz : i.zero = some z) (hsz : i.size = 3) (hby : i.bytes = 24) (hzs : z.cells.size = 3)
    (xs : List Ed) (n : Nat) (l : List Ed) (hm : l.length = m) (h63 : n + m ≤ 100000) (hown : w.ownsRow base e 3 sv n (cat xs)) (hl : Sg 3 w edE p l) (hbase : base ≤ w.heap.size)
    (h : ∀ v' w', w'.ownsRow base e 3 v' (n + m) (cat (xs ++ l)) → w.grownBy w' sv.ownBlock → K (a.put o.dst v') w') : if Region.wanted o (yielded ops a.tmps) = true then Oper.wp P o a w K Q else E := by
  obtain ⟨v', w', h1, h2, h3⟩ := run_append_sg base t o.type e i z ht hi hz hsz hby hzs sv xs n hown p c l m hm hl h63 hbase
  exact step_append_run hgd s x t ho sv _ hs hx v' w' h1 (h v' w' h2 h3)
theorem own_conv {w : World} {B B' e n : Nat} {v : Value} {xs ys : List Ed} (h : w.ownsRow B e 3 v n (cat xs)) (he : ys = xs) (hB : B' ≤ B) : w.ownsRow B' e 3 v ys.length (cat ys) := by
  subst he
  have hn : ys.length = n := by have := h.1; rw [cat_len] at this; omega
  subst hn
  refine ⟨h.1, ?_⟩
  rcases h.2 with h | ⟨g, cap, cur, a, b, r⟩
  · exact .inl h
  · exact .inr ⟨g, cap, cur, a, Nat.le_trans hB b, r⟩
theorem heap_old1 (w : World) (o o' : Obj) : ((w.alloc o).alloc o').heap[w.heap.size]? = some o := (Below.heap_alloc _ o' _ (by simp)).trans (heap_alloc_new w o)
theorem drB (B : Nat) (w : World) : RowKit.Below B w w.drew := ⟨rfl, rfl, rfl, Nat.le_refl _, fun _ _ => rfl⟩
theorem keep3 {W W' : World} {b o0 o1 o2 : Nat} {v0 v1 v2 : Value} (hb : b < W.heap.size) (h0 : W.cell? ⟨b, o0, none⟩ = some v0) (h1 : W.cell? ⟨b, o1, none⟩ = some v1) (h2 : W.cell? ⟨b, o2, none⟩ = some v2) (h : RowKit.Below W.heap.size W W') :
    W'.cell? ⟨b, o0, none⟩ = some v0 ∧ W'.cell? ⟨b, o1, none⟩ = some v1 ∧ W'.cell? ⟨b, o2, none⟩ = some v2 ∧ RowKit.Below W.heap.size W W' :=
  ⟨(h.cell (p := ⟨b, o0, none⟩) hb).trans h0, (h.cell (p := ⟨b, o1, none⟩) hb).trans h1, (h.cell (p := ⟨b, o2, none⟩) hb).trans h2, h⟩
theorem heap_new1 (w : World) (o o' : Obj) : ((w.alloc o).alloc o').heap[w.heap.size + 1]? = some o' := by
  have := heap_alloc_new (w.alloc o) o'; rwa [World.size_alloc] at this
theorem Sg.take {w : World} {p : Option Addr} {l : List Ed} (h : Sg 3 w edE p l) (k : Nat) : Sg 3 w edE p (l.take k) := by
  rcases h with h | ⟨b, off, hp, hb, hc⟩
  · subst h; exact .inl (by simp)
  · exact .inr ⟨b, off, hp, hb, fun i hi j hj => by rw [List.getElem_take]; exact hc i (by rw [List.length_take] at hi; omega) j hj⟩
theorem Sg.drop {w : World} {b off : Nat} {l : List Ed} (h : Sg 3 w edE (some ⟨b, off, none⟩) l) (k : Nat) : Sg 3 w edE (some ⟨b, off + k * 3, none⟩) (l.drop k) := by
  rcases h with h | ⟨b', off', hp, hb, hc⟩
  · subst h; exact .inl (by simp)
  · cases hp
    refine .inr ⟨b, off + k * 3, rfl, hb, fun i hi j hj => ?_⟩
    rw [List.length_drop] at hi
    have := hc (k + i) (by omega) j hj
    rw [List.getElem_drop, ← this]
    congr 2
    rw [Nat.add_mul]; omega
theorem own_empty {W : World} {g B : Nat} {e : TypeId} (h : W.heap[g]? = some (.cells #[] e (0, 0))) (hB : B ≤ g) : W.ownsRow B e 3 (.slice (some ⟨g, 0, none⟩) 0 0) 0 (cat []) :=
  ⟨rfl, .inr ⟨g, 0, #[], rfl, hB, h, Nat.le_refl _, by simp, rfl, rfl⟩⟩

/-! ### Insertion -/
/-- Where an edge belongs. -/
def posE (x : Ed) (l : List Ed) (k : Nat) : Prop := k ≤ l.length ∧ ∀ m (h : m < l.length), m < k → ltE l[m] x = true
theorem insE_at {x : Ed} : ∀ {l : List Ed} {k : Nat}, l.Pairwise (fun a b => ltE a b = true) → posE x l k → (∀ h : k < l.length, ltE l[k] x = false) → (∀ h : k < l.length, l[k] ≠ x) → insE x l = l.take k ++ x :: l.drop k
  | [], k, _, hp, _, _ => by have := hp.1; simp at this; subst this; rfl
  | y :: l, 0, _, _, h1, h2 => by
    have h1 := h1 (by simp); have h2 := h2 (by simp)
    simp only [List.getElem_cons_zero] at h1 h2
    unfold insE
    rw [if_pos]
    · rfl
    · cases hb : ltE x y
      · exact absurd (ltE_total h1 hb) h2
      · rfl
  | y :: l, k + 1, hs, hp, h1, h2 => by
    have hy := hp.2 0 (by simp) (by omega)
    simp only [List.getElem_cons_zero] at hy
    have ih := insE_at (x := x) (l := l) (k := k) (List.pairwise_cons.1 hs).2 ⟨by have := hp.1; simp at this; omega, fun m hm hk => by have := hp.2 (m + 1) (by simpa using hm) (by omega); simpa using this⟩
      (fun h => by have := h1 (by simpa using h); simpa using this) (fun h => by have := h2 (by simpa using h); simpa using this)
    unfold insE
    rw [if_neg (by rw [ltE_asymm hy]; decide), if_neg (fun e => by subst e; rw [ltE_irrefl] at hy; cases hy), ih]
    rfl
theorem insE_mem {x : Ed} {l : List Ed} (hs : l.Pairwise (fun a b => ltE a b = true)) (hm : x ∈ l) : insE x l = l :=
  norm_unique (insE_srt hs) hs (fun z => by rw [mem_insE]; exact ⟨fun h => h.elim (fun e => by subst e; exact hm) id, .inr⟩)
theorem norm_take_succ (l : List Ed) (k : Nat) (h : k < l.length) : norm (l.take (k + 1)) = insE l[k] (norm (l.take k)) := by
  rw [List.take_succ_eq_append_getElem h, norm_snoc]
theorem insE_len (x : Ed) : ∀ l : List Ed, (insE x l).length ≤ l.length + 1
  | [] => by simp [insE]
  | y :: l => by
    have := insE_len x l
    unfold insE; split
    · simp
    · split
      · simp
      · simp; omega
theorem norm_len (l : List Ed) : ∀ k, k ≤ l.length → (norm (l.take k)).length ≤ k := by
  intro k
  induction k with
  | zero => intro _; simp [norm]
  | succ k ih =>
    intro h
    rw [norm_take_succ l k (by omega)]
    have := insE_len l[k] (norm (l.take k)); have := ih (by omega); omega

set_option maxRecDepth 100000 in
set_option maxHeartbeats 4000000 in
theorem rSorted_any (l : List Ed) (p : Option Addr) (c : Nat) (w : World) (hin : Sg 3 w edE p l) (hl : l.length ≤ 10000) :
    Calls Try.prog 44 #[.slice p l.length c] w (RetOwnE (norm l) w) := by
  have HIN := hidI hin
  obtain ⟨i0, hi0, hz0, hz1, hz2⟩ := info_parts infoE
  clear hin
  go_enter Try.func44, Try.ntmps44
  go_wp2
  go_loopw [3, 4] (fun ov iv wr => ∃ k : Nat, k ≤ l.length ∧ iv = .int .i64 k ∧ wr.ownsRow w.heap.size 47 3 ov (norm (l.take k)).length (cat (norm (l.take k))) ∧ Below w.heap.size w wr) (fun _ iv _ => l.length - (intOf iv).toNat)
  case atStart => exact ⟨0, by omega, rfl, World.ownsRow_nil _ _ _ _, Below.refl _ _⟩
  case round =>
    obtain ⟨k, hk, rfl, hown, hB⟩ := hrel
    by_cases hlt : k < l.length
    · have HNX := hidI (norm_take_succ l k hlt)
      have hNs := norm_srt (l.take k)
      have hNl := norm_len l k hk
      generalize norm (l.take k) = N at *
      obtain ⟨po, co, rfl, hso, hco, _⟩ := own_sg hown
      have HS := hidI hNs
      obtain ⟨b3, o3, rfl, _⟩ := HIN.out.get k hlt
      clear hNs
      go_upto_block 2 with fail
      go_cut [5] (fun s5 wx => ∃ j : Nat, s5 = .int .i64 j ∧ Hid (posE l[k] N j ∧ ∀ h : j < N.length, ltE N[j] l[k] = false) ∧ Below wr.heap.size wr wx)
      case first =>
        obtain ⟨wo, rfl⟩ : ∃ wo : World, wo = wr := ⟨_, rfl⟩
        go_wp2_with fail
        go_loopw [5] (fun s5 wx => ∃ j : Nat, s5 = .int .i64 j ∧ Hid (posE l[k] N j) ∧ Below wo.heap.size wo wx) (fun s5 _ => N.length - (intOf s5).toNat)
        case atStart => exact ⟨0, rfl, ⟨by omega, fun m _ h => by omega⟩, Below.refl _ _⟩
        case round =>
          obtain ⟨j, rfl, hp, hBx⟩ := hrel
          have hjN := hp.out.1
          by_cases hjl : j < N.length
          · have hI : (j : Int) < (N.length : Int) := by omega
            have hI2 : (k : Int) < (l.length : Int) := by omega
            have HP : Hid (ltE N[j] l[k] = true → posE l[k] N (j + 1)) := fun h => ⟨by omega, fun m hm h1 => by
              by_cases e : m = j
              · subst e; exact h
              · exact hp.out.2 m hm (by omega)⟩
            have HC := hidI (cmpE_neg N[j] l[k])
            have hBy := hBx
            have hBy2 := hB.trans (hBx.mono hB.size)
            obtain ⟨b4, o4, hpo, _⟩ := hso.get j hjl
            subst hpo
            clear hBx
            go_wp2_with fail
            refine region_tail 13 (by kernel_rfl) (by kernel_rfl) fun W hD => ?_
            have hBW := hBy.trans (hD.below _)
            have hBW2 := hBy2.trans (hD.below _)
            obtain ⟨b5, o5, hx5, _, e0, e1, e2⟩ := (hso.below hBW).get3 j hjl rfl
            obtain ⟨b6, o6, hx6, _, e3, e4, e5⟩ := (HIN.out.below hBW2).get3 k hlt rfl
            cases hx5; cases hx6
            simp only [List.take_succ_cons, List.take_zero, List.drop_succ_cons, List.drop_zero]
            iterate 13 still_step
            refine wpStill_nil ?_
            go_wp2_with fail
            refine (rCompare_up N[j] l[k] _).mono ?_
            rintro e w1 ⟨rfl, hU1⟩
            have hB1 := hBW.trans (hU1.below.mono hBW.size)
            clear e0 e1 e2 e3 e4 e5
            by_cases hcs : cmpE N[j] l[k] < 0
            · have HN := hidI (HP.out (by rw [← HC.out, decide_eq_true hcs]))
              go_wp2
              go_roundw
              case rel => exact ⟨j + 1, by go_num, HN, hB1⟩
              case measure => simp [intOf]; omega
            · have HF : Hid (ltE N[j] l[k] = false) := by unfold Hid; rw [← HC.out, decide_eq_false hcs]
              have hcs' : 0 ≤ cmpE N[j] l[k] := by omega
              go_wp2_with fail
              go_meet
              exact ⟨j, rfl, ⟨hp.out, fun _ => HF.out⟩, hB1⟩
          · have hd : decide ((j : Int) < (N.length : Int)) = false := decide_eq_false (by omega)
            have hd2 : decide (j < N.length) = false := decide_eq_false (by omega)
            go_wp2_with fail
            (refine wp_region_quiet_lit (by kernel_rfl) (by kernel_rfl) ?_; (repeat (first | go_big_quiet_step (fail) | quiet_step (fail))); refine wpQuiet_nil ?_; intro _ hwq; obtain ⟨nq, hwq2⟩ := hwq; subst hwq2)
            go_wp2_with fail
            go_meet
            exact ⟨j, rfl, ⟨hp.out, fun h => absurd h hjl⟩, below_dN hBx nq⟩
      case rest =>
        obtain ⟨j, rfl, hp, hBx⟩ := hcut
        have hjN := hp.out.1.1
        have hBw := hB.trans (hBx.mono hB.size)
        have hownc := hown.below hBx
        have hsoc := hso.below hBx
        obtain ⟨b6, o6, hx6, hb3, e3, e4, e5⟩ := (HIN.out.below hBw).get3 k hlt rfl
        cases hx6
        have hI2 : (k : Int) < (l.length : Int) := by omega
        by_cases hjl : j < N.length
        · have hI : (j : Int) < (N.length : Int) := by omega
          obtain ⟨b4, o4, rfl, _, e0, e1, e2⟩ := hsoc.get3 j hjl rfl
          have hq := eqlE N[j] l[k]
          have hgd := guardE .eql
          by_cases heq : N[j] = l[k]
          · rw [decide_eq_true heq] at hq
            have HX : Hid (norm (l.take (k + 1)) = N) := HNX.out.trans (insE_mem HS.out (by rw [← heq]; exact List.getElem_mem hjl))
            clear heq
            go_wp2_with fail
            (refine wp_region_quiet_lit (by kernel_rfl) (by kernel_rfl) ?_; (repeat (first | go_big_quiet_step (fail) | quiet_step (fail))); refine wpQuiet_nil ?_; intro _ hwq; obtain ⟨nq, hwq2⟩ := hwq; subst hwq2)
            clear e0 e1 e2 e3 e4 e5 hq hgd
            go_wp2
            go_roundw
            case rel => exact ⟨k + 1, by omega, by go_num, by rw [HX.out]; exact hownc, below_dN hBw nq⟩
            case measure => simp [intOf]; omega
          · rw [decide_eq_false heq] at hq
            have HX : Hid (norm (l.take (k + 1)) = N.take j ++ l[k] :: N.drop j) := HNX.out.trans (insE_at HS.out hp.out.1 hp.out.2 (fun _ => heq))
            clear heq
            go_wp2_with fail
            (refine wp_region_quiet_lit (by kernel_rfl) (by kernel_rfl) ?_; (repeat (first | go_big_quiet_step (fail) | quiet_step (fail))); refine wpQuiet_nil ?_; intro _ hwq; obtain ⟨nq, hwq2⟩ := hwq; subst hwq2)
            clear e0 e1 e2 hq hgd
            go_wp2_with fail
            have hcj : ¬ co = j := by omega
            have hI3 : (j : Int) ≤ (co : Int) := by omega
            have hI4 : (N.length : Int) ≤ (co : Int) := by omega
            have hownq : (wc.drewN nq).ownsRow w.heap.size 47 3 (.slice (some ⟨b4, o4, none⟩) N.length co) N.length (cat N) := hownc
            have hsoq : Sg 3 (wc.drewN nq) edE (some ⟨b4, o4, none⟩) N := hsoc
            have hBq : Below w.heap.size w (wc.drewN nq) := below_dN hBw nq
            have HNL : Hid ((N.take j).length = j) := by unfold Hid; rw [List.length_take]; omega
            have HDL : Hid ((N.drop j).length = N.length - j) := by unfold Hid; simp
            have k0 : (wc.drewN nq).cell? ⟨b3, o3 + k * 3, none⟩ = some (.int .i64 l[k].f) := e3
            have k1 : (wc.drewN nq).cell? ⟨b3, o3 + k * 3 + 1, none⟩ = some (.int .i64 l[k].l) := e4
            have k2 : (wc.drewN nq).cell? ⟨b3, o3 + k * 3 + 2, none⟩ = some (.int .i64 l[k].t) := e5
            have hb3q : b3 < (wc.drewN nq).heap.size := hb3
            clear hownc hsoc hBx hBw e3 e4 e5
            generalize wc.drewN nq = wq at *
            go_region_held3 (fun w' => w'.cell? ⟨b3, o3 + k * 3, none⟩ = some (.int .i64 l[k].f) ∧ w'.cell? ⟨b3, o3 + k * 3 + 1, none⟩ = some (.int .i64 l[k].l) ∧ w'.cell? ⟨b3, o3 + k * 3 + 2, none⟩ = some (.int .i64 l[k].t) ∧ Below wq.heap.size wq w')
              ((go_split_ands; refine keep3 hb3q k0 k1 k2 ?_; first
                | assumption
                | exact drB _ _
                | exact RowKit.Below.grown (by assumption) hgC (RowKit.Below.size (by assumption)) (fun j0 e => (hoB.lt j0 e).1)
                | exact RowKit.Below.grown (by assumption) hgB (RowKit.Below.size (by assumption)) (fun j0 e => (hoA.lt j0 e).1)
                | exact RowKit.Below.grown (by assumption) hgA (RowKit.Below.size (by assumption)) (fun j0 e => by simp [Value.ownBlock] at e; omega)
                | exact RowKit.Below.alloc (by assumption) (RowKit.Below.size (by assumption)) _
                | exact RowKit.Below.trans (by assumption) (drB _ _)
                | fail))
              (first
                | (go_split_ands; refine step_append_sg (by rfl) _ _ _ (by rfl) (.slice (some ⟨_, 0, none⟩) 0 0) _ j _ (by rfl) (by rfl) wq.heap.size 47 i0 _ Try.underlying22 hi0 hz0 hz1 hz2 rfl [] 0 (N.take j) HNL.out (by omega) (own_empty (by first | exact heap_alloc_new wq _ | exact heap_new1 wq _ _ | exact heap_old1 wq _ _) (by omega)) ((hsoq.below (by assumption)).take j) (RowKit.Below.size (by assumption)) ?_; intro vA wA hoA hgA)
                | (go_split_ands; refine step_append_sg (by rfl) _ _ _ (by rfl) vA (some ⟨_, 0, none⟩) 1 1 (by rfl) (by rfl) wq.heap.size 47 i0 _ Try.underlying22 hi0 hz0 hz1 hz2 rfl ([] ++ N.take j) (0 + j) [l[k]] rfl (by omega) (by first | exact hoA | exact hoA.alloc _) (by first | exact Sg.of_row (l := [l[k]]) (VRow.new wA 47 _) | exact Sg.of_row (l := [l[k]]) ((VRow.new1 wq _ 47 (cat [l[k]])).grown hgA (by simp [Value.ownBlock])) | exact Sg.of_row (l := [l[k]]) (((VRow.new wq 47 (cat [l[k]])).alloc _).grown hgA (by simp [Value.ownBlock])) | exact Sg.of_row (l := [l[k]]) (((VRow.new1 wq _ 47 (cat [l[k]])).dr ⟨1, rfl⟩).grown hgA (by simp [Value.ownBlock])) | exact Sg.of_row (l := [l[k]]) ((((VRow.new wq 47 (cat [l[k]])).alloc _).dr ⟨1, rfl⟩).grown hgA (by simp [Value.ownBlock]))) (RowKit.Below.size (by assumption)) ?_; intro vB wB hoB hgB)
                | (go_split_ands; refine step_append_sg (by rfl) _ _ _ (by rfl) vB _ _ _ (by rfl) (by rfl) wq.heap.size 47 i0 _ Try.underlying22 hi0 hz0 hz1 hz2 rfl ([] ++ N.take j ++ [l[k]]) (0 + j + 1) (N.drop j) (by first | exact HDL.out | simp) (by omega) hoB (by first | exact ((hsoq.below (by assumption)).drop j) | exact .inl (by simp)) (RowKit.Below.size (by assumption)) ?_; intro vC wC hoC hgC)
                | fail)
            all_goals
              go_split_ands
              have hBC : RowKit.Below wq.heap.size wq wC := by assumption
              have hfin := own_conv (ys := norm (l.take (k + 1))) hoC (by rw [HX.out]; simp) hBq.size
              have hBf := hBq.trans (hBC.mono hBq.size)
              clear hoA hgA hoB hgB hoC hgC hBC
              go_wp2
              go_roundw
              case rel => exact ⟨k + 1, by omega, by go_num, hfin, hBf⟩
              case measure => simp [intOf]; omega
        · rcases own_forms hownc with ⟨he, hN0⟩ | ⟨g4, c4, he⟩
          · obtain rfl : N = [] := List.length_eq_zero_iff.1 hN0
            obtain rfl : j = 0 := by simpa using hjN
            simp only [List.length_nil, Value.slice.injEq, true_and] at he
            obtain ⟨rfl, rfl⟩ := he
            have HX : Hid (norm (l.take (k + 1)) = ([] : List Ed).take 0 ++ l[k] :: ([] : List Ed).drop 0) := HNX.out.trans (insE_at HS.out hp.out.1 hp.out.2 (fun h => absurd h hjl))
            go_wp2_with fail
            (refine wp_region_quiet_lit (by kernel_rfl) (by kernel_rfl) ?_; (repeat (first | go_big_quiet_step (fail) | quiet_step (fail))); refine wpQuiet_nil ?_; intro _ hwq; obtain ⟨nq, hwq2⟩ := hwq; subst hwq2)
            go_wp2_with fail
            have hownq : (wc.drewN nq).ownsRow w.heap.size 47 3 (.slice none 0 0) 0 (cat ([] : List Ed)) := hownc
            have hsoq : Sg 3 (wc.drewN nq) edE none ([] : List Ed) := hsoc
            have hBq : Below w.heap.size w (wc.drewN nq) := below_dN hBw nq
            have HNL : Hid ((([] : List Ed).take 0).length = 0) := by unfold Hid; rw [List.length_take]; omega
            have HDL : Hid ((([] : List Ed).drop 0).length = 0 - 0) := by unfold Hid; simp
            have k0 : (wc.drewN nq).cell? ⟨b3, o3 + k * 3, none⟩ = some (.int .i64 l[k].f) := e3
            have k1 : (wc.drewN nq).cell? ⟨b3, o3 + k * 3 + 1, none⟩ = some (.int .i64 l[k].l) := e4
            have k2 : (wc.drewN nq).cell? ⟨b3, o3 + k * 3 + 2, none⟩ = some (.int .i64 l[k].t) := e5
            have hb3q : b3 < (wc.drewN nq).heap.size := hb3
            clear hownc hsoc hBx hBw e3 e4 e5
            generalize wc.drewN nq = wq at *
            go_region_held3 (fun w' => w'.cell? ⟨b3, o3 + k * 3, none⟩ = some (.int .i64 l[k].f) ∧ w'.cell? ⟨b3, o3 + k * 3 + 1, none⟩ = some (.int .i64 l[k].l) ∧ w'.cell? ⟨b3, o3 + k * 3 + 2, none⟩ = some (.int .i64 l[k].t) ∧ Below wq.heap.size wq w')
              ((go_split_ands; refine keep3 hb3q k0 k1 k2 ?_; first
                | assumption
                | exact drB _ _
                | exact RowKit.Below.grown (by assumption) hgC (RowKit.Below.size (by assumption)) (fun j0 e => (hoB.lt j0 e).1)
                | exact RowKit.Below.grown (by assumption) hgB (RowKit.Below.size (by assumption)) (fun j0 e => (hoA.lt j0 e).1)
                | exact RowKit.Below.grown (by assumption) hgA (RowKit.Below.size (by assumption)) (fun j0 e => by simp [Value.ownBlock] at e; omega)
                | exact RowKit.Below.alloc (by assumption) (RowKit.Below.size (by assumption)) _
                | exact RowKit.Below.trans (by assumption) (drB _ _)
                | fail))
              (first
                | (go_split_ands; refine step_append_sg (by rfl) _ _ _ (by rfl) (.slice (some ⟨_, 0, none⟩) 0 0) _ 0 _ (by rfl) (by rfl) wq.heap.size 47 i0 _ Try.underlying22 hi0 hz0 hz1 hz2 rfl [] 0 (([] : List Ed).take 0) HNL.out (by omega) (own_empty (by first | exact heap_alloc_new wq _ | exact heap_new1 wq _ _ | exact heap_old1 wq _ _) (by omega)) ((hsoq.below (by assumption)).take 0) (RowKit.Below.size (by assumption)) ?_; intro vA wA hoA hgA)
                | (go_split_ands; refine step_append_sg (by rfl) _ _ _ (by rfl) vA (some ⟨_, 0, none⟩) 1 1 (by rfl) (by rfl) wq.heap.size 47 i0 _ Try.underlying22 hi0 hz0 hz1 hz2 rfl ([] ++ ([] : List Ed).take 0) (0 + 0) [l[k]] rfl (by omega) (by first | exact hoA | exact hoA.alloc _) (by first | exact Sg.of_row (l := [l[k]]) (VRow.new wA 47 _) | exact Sg.of_row (l := [l[k]]) ((VRow.new1 wq _ 47 (cat [l[k]])).grown hgA (by simp [Value.ownBlock])) | exact Sg.of_row (l := [l[k]]) (((VRow.new wq 47 (cat [l[k]])).alloc _).grown hgA (by simp [Value.ownBlock])) | exact Sg.of_row (l := [l[k]]) (((VRow.new1 wq _ 47 (cat [l[k]])).dr ⟨1, rfl⟩).grown hgA (by simp [Value.ownBlock])) | exact Sg.of_row (l := [l[k]]) ((((VRow.new wq 47 (cat [l[k]])).alloc _).dr ⟨1, rfl⟩).grown hgA (by simp [Value.ownBlock]))) (RowKit.Below.size (by assumption)) ?_; intro vB wB hoB hgB)
                | (go_split_ands; refine step_append_sg (by rfl) _ _ _ (by rfl) vB _ _ _ (by rfl) (by rfl) wq.heap.size 47 i0 _ Try.underlying22 hi0 hz0 hz1 hz2 rfl ([] ++ ([] : List Ed).take 0 ++ [l[k]]) (0 + 0 + 1) (([] : List Ed).drop 0) (by first | exact HDL.out | simp) (by omega) hoB (by first | exact ((hsoq.below (by assumption)).drop 0) | exact .inl (by simp)) (RowKit.Below.size (by assumption)) ?_; intro vC wC hoC hgC)
                | fail)
            all_goals
              go_split_ands
              have hBC : RowKit.Below wq.heap.size wq wC := by assumption
              have hfin := own_conv (ys := norm (l.take (k + 1))) hoC (by rw [HX.out]; simp) hBq.size
              have hBf := hBq.trans (hBC.mono hBq.size)
              clear hoA hgA hoB hgB hoC hgC hBC
              go_wp2
              go_roundw
              case rel => exact ⟨k + 1, by omega, by go_num, hfin, hBf⟩
              case measure => simp [intOf]; omega
          · obtain rfl : j = N.length := by omega
            have HX : Hid (norm (l.take (k + 1)) = N.take N.length ++ l[k] :: N.drop N.length) := HNX.out.trans (insE_at HS.out hp.out.1 hp.out.2 (fun h => absurd h hjl))
            have hd : decide ((N.length : Int) < (N.length : Int)) = false := decide_eq_false (by omega)
            have hd2 : decide (N.length < N.length) = false := decide_eq_false (by omega)
            cases he
            by_cases hcj : co = N.length
            · subst hcj
              go_wp2_with fail
              (refine wp_region_quiet_lit (by kernel_rfl) (by kernel_rfl) ?_; (repeat (first | go_big_quiet_step (fail) | quiet_step (fail))); refine wpQuiet_nil ?_; intro _ hwq; obtain ⟨nq, hwq2⟩ := hwq; subst hwq2)
              go_wp2_with fail
              have hownq : (wc.drewN nq).ownsRow w.heap.size 47 3 (.slice (some ⟨g4, 0, none⟩) N.length N.length) N.length (cat N) := hownc
              have hsoq : Sg 3 (wc.drewN nq) edE (some ⟨g4, 0, none⟩) N := hsoc
              have hBq : Below w.heap.size w (wc.drewN nq) := below_dN hBw nq
              have HNL : Hid ((N.take N.length).length = N.length) := by unfold Hid; rw [List.length_take]; omega
              have HDL : Hid ((N.drop N.length).length = N.length - N.length) := by unfold Hid; simp
              have k0 : (wc.drewN nq).cell? ⟨b3, o3 + k * 3, none⟩ = some (.int .i64 l[k].f) := e3
              have k1 : (wc.drewN nq).cell? ⟨b3, o3 + k * 3 + 1, none⟩ = some (.int .i64 l[k].l) := e4
              have k2 : (wc.drewN nq).cell? ⟨b3, o3 + k * 3 + 2, none⟩ = some (.int .i64 l[k].t) := e5
              have hb3q : b3 < (wc.drewN nq).heap.size := hb3
              clear hownc hsoc hBx hBw e3 e4 e5
              generalize wc.drewN nq = wq at *
              go_region_held3 (fun w' => w'.cell? ⟨b3, o3 + k * 3, none⟩ = some (.int .i64 l[k].f) ∧ w'.cell? ⟨b3, o3 + k * 3 + 1, none⟩ = some (.int .i64 l[k].l) ∧ w'.cell? ⟨b3, o3 + k * 3 + 2, none⟩ = some (.int .i64 l[k].t) ∧ Below wq.heap.size wq w')
                ((go_split_ands; refine keep3 hb3q k0 k1 k2 ?_; first
                  | assumption
                  | exact drB _ _
                  | exact RowKit.Below.grown (by assumption) hgC (RowKit.Below.size (by assumption)) (fun j0 e => (hoB.lt j0 e).1)
                  | exact RowKit.Below.grown (by assumption) hgB (RowKit.Below.size (by assumption)) (fun j0 e => (hoA.lt j0 e).1)
                  | exact RowKit.Below.grown (by assumption) hgA (RowKit.Below.size (by assumption)) (fun j0 e => by simp [Value.ownBlock] at e; omega)
                  | exact RowKit.Below.alloc (by assumption) (RowKit.Below.size (by assumption)) _
                  | exact RowKit.Below.trans (by assumption) (drB _ _)
                  | fail))
                (first
                  | (go_split_ands; refine step_append_sg (by rfl) _ _ _ (by rfl) (.slice (some ⟨_, 0, none⟩) 0 0) _ N.length _ (by rfl) (by rfl) wq.heap.size 47 i0 _ Try.underlying22 hi0 hz0 hz1 hz2 rfl [] 0 (N.take N.length) HNL.out (by omega) (own_empty (by first | exact heap_alloc_new wq _ | exact heap_new1 wq _ _ | exact heap_old1 wq _ _) (by omega)) ((hsoq.below (by assumption)).take N.length) (RowKit.Below.size (by assumption)) ?_; intro vA wA hoA hgA)
                  | (go_split_ands; refine step_append_sg (by rfl) _ _ _ (by rfl) vA (some ⟨_, 0, none⟩) 1 1 (by rfl) (by rfl) wq.heap.size 47 i0 _ Try.underlying22 hi0 hz0 hz1 hz2 rfl ([] ++ N.take N.length) (0 + N.length) [l[k]] rfl (by omega) (by first | exact hoA | exact hoA.alloc _) (by first | exact Sg.of_row (l := [l[k]]) (VRow.new wA 47 _) | exact Sg.of_row (l := [l[k]]) ((VRow.new1 wq _ 47 (cat [l[k]])).grown hgA (by simp [Value.ownBlock])) | exact Sg.of_row (l := [l[k]]) (((VRow.new wq 47 (cat [l[k]])).alloc _).grown hgA (by simp [Value.ownBlock])) | exact Sg.of_row (l := [l[k]]) (((VRow.new1 wq _ 47 (cat [l[k]])).dr ⟨1, rfl⟩).grown hgA (by simp [Value.ownBlock])) | exact Sg.of_row (l := [l[k]]) ((((VRow.new wq 47 (cat [l[k]])).alloc _).dr ⟨1, rfl⟩).grown hgA (by simp [Value.ownBlock]))) (RowKit.Below.size (by assumption)) ?_; intro vB wB hoB hgB)
                  | (go_split_ands; refine step_append_sg (by rfl) _ _ _ (by rfl) vB _ _ _ (by rfl) (by rfl) wq.heap.size 47 i0 _ Try.underlying22 hi0 hz0 hz1 hz2 rfl ([] ++ N.take N.length ++ [l[k]]) (0 + N.length + 1) (N.drop N.length) (by first | exact HDL.out | simp) (by omega) hoB (by first | exact ((hsoq.below (by assumption)).drop N.length) | exact .inl (by simp)) (RowKit.Below.size (by assumption)) ?_; intro vC wC hoC hgC)
                  | fail)
              all_goals
                go_split_ands
                have hBC : RowKit.Below wq.heap.size wq wC := by assumption
                have hfin := own_conv (ys := norm (l.take (k + 1))) hoC (by rw [HX.out]; simp) hBq.size
                have hBf := hBq.trans (hBC.mono hBq.size)
                clear hoA hgA hoB hgB hoC hgC hBC
                go_wp2
                go_roundw
                case rel => exact ⟨k + 1, by omega, by go_num, hfin, hBf⟩
                case measure => simp [intOf]; omega
            · have hI4 : (N.length : Int) ≤ (co : Int) := by omega
              go_wp2_with fail
              (refine wp_region_quiet_lit (by kernel_rfl) (by kernel_rfl) ?_; (repeat (first | go_big_quiet_step (fail) | quiet_step (fail))); refine wpQuiet_nil ?_; intro _ hwq; obtain ⟨nq, hwq2⟩ := hwq; subst hwq2)
              go_wp2_with fail
              have hownq : (wc.drewN nq).ownsRow w.heap.size 47 3 (.slice (some ⟨g4, 0, none⟩) N.length co) N.length (cat N) := hownc
              have hsoq : Sg 3 (wc.drewN nq) edE (some ⟨g4, 0, none⟩) N := hsoc
              have hBq : Below w.heap.size w (wc.drewN nq) := below_dN hBw nq
              have HNL : Hid ((N.take N.length).length = N.length) := by unfold Hid; rw [List.length_take]; omega
              have HDL : Hid ((N.drop N.length).length = N.length - N.length) := by unfold Hid; simp
              have k0 : (wc.drewN nq).cell? ⟨b3, o3 + k * 3, none⟩ = some (.int .i64 l[k].f) := e3
              have k1 : (wc.drewN nq).cell? ⟨b3, o3 + k * 3 + 1, none⟩ = some (.int .i64 l[k].l) := e4
              have k2 : (wc.drewN nq).cell? ⟨b3, o3 + k * 3 + 2, none⟩ = some (.int .i64 l[k].t) := e5
              have hb3q : b3 < (wc.drewN nq).heap.size := hb3
              clear hownc hsoc hBx hBw e3 e4 e5
              generalize wc.drewN nq = wq at *
              go_region_held3 (fun w' => w'.cell? ⟨b3, o3 + k * 3, none⟩ = some (.int .i64 l[k].f) ∧ w'.cell? ⟨b3, o3 + k * 3 + 1, none⟩ = some (.int .i64 l[k].l) ∧ w'.cell? ⟨b3, o3 + k * 3 + 2, none⟩ = some (.int .i64 l[k].t) ∧ Below wq.heap.size wq w')
                ((go_split_ands; refine keep3 hb3q k0 k1 k2 ?_; first
                  | assumption
                  | exact drB _ _
                  | exact RowKit.Below.grown (by assumption) hgC (RowKit.Below.size (by assumption)) (fun j0 e => (hoB.lt j0 e).1)
                  | exact RowKit.Below.grown (by assumption) hgB (RowKit.Below.size (by assumption)) (fun j0 e => (hoA.lt j0 e).1)
                  | exact RowKit.Below.grown (by assumption) hgA (RowKit.Below.size (by assumption)) (fun j0 e => by simp [Value.ownBlock] at e; omega)
                  | exact RowKit.Below.alloc (by assumption) (RowKit.Below.size (by assumption)) _
                  | exact RowKit.Below.trans (by assumption) (drB _ _)
                  | fail))
                (first
                  | (go_split_ands; refine step_append_sg (by rfl) _ _ _ (by rfl) (.slice (some ⟨_, 0, none⟩) 0 0) _ N.length _ (by rfl) (by rfl) wq.heap.size 47 i0 _ Try.underlying22 hi0 hz0 hz1 hz2 rfl [] 0 (N.take N.length) HNL.out (by omega) (own_empty (by first | exact heap_alloc_new wq _ | exact heap_new1 wq _ _ | exact heap_old1 wq _ _) (by omega)) ((hsoq.below (by assumption)).take N.length) (RowKit.Below.size (by assumption)) ?_; intro vA wA hoA hgA)
                  | (go_split_ands; refine step_append_sg (by rfl) _ _ _ (by rfl) vA (some ⟨_, 0, none⟩) 1 1 (by rfl) (by rfl) wq.heap.size 47 i0 _ Try.underlying22 hi0 hz0 hz1 hz2 rfl ([] ++ N.take N.length) (0 + N.length) [l[k]] rfl (by omega) (by first | exact hoA | exact hoA.alloc _) (by first | exact Sg.of_row (l := [l[k]]) (VRow.new wA 47 _) | exact Sg.of_row (l := [l[k]]) ((VRow.new1 wq _ 47 (cat [l[k]])).grown hgA (by simp [Value.ownBlock])) | exact Sg.of_row (l := [l[k]]) (((VRow.new wq 47 (cat [l[k]])).alloc _).grown hgA (by simp [Value.ownBlock])) | exact Sg.of_row (l := [l[k]]) (((VRow.new1 wq _ 47 (cat [l[k]])).dr ⟨1, rfl⟩).grown hgA (by simp [Value.ownBlock])) | exact Sg.of_row (l := [l[k]]) ((((VRow.new wq 47 (cat [l[k]])).alloc _).dr ⟨1, rfl⟩).grown hgA (by simp [Value.ownBlock]))) (RowKit.Below.size (by assumption)) ?_; intro vB wB hoB hgB)
                  | (go_split_ands; refine step_append_sg (by rfl) _ _ _ (by rfl) vB _ _ _ (by rfl) (by rfl) wq.heap.size 47 i0 _ Try.underlying22 hi0 hz0 hz1 hz2 rfl ([] ++ N.take N.length ++ [l[k]]) (0 + N.length + 1) (N.drop N.length) (by first | exact HDL.out | simp) (by omega) hoB (by first | exact ((hsoq.below (by assumption)).drop N.length) | exact .inl (by simp)) (RowKit.Below.size (by assumption)) ?_; intro vC wC hoC hgC)
                  | fail)
              all_goals
                go_split_ands
                have hBC : RowKit.Below wq.heap.size wq wC := by assumption
                have hfin := own_conv (ys := norm (l.take (k + 1))) hoC (by rw [HX.out]; simp) hBq.size
                have hBf := hBq.trans (hBC.mono hBq.size)
                clear hoA hgA hoB hgB hoC hgC hBC
                go_wp2
                go_roundw
                case rel => exact ⟨k + 1, by omega, by go_num, hfin, hBf⟩
                case measure => simp [intOf]; omega
    · obtain rfl : k = l.length := by omega
      rw [List.take_length] at hown
      go_wp2
      go_ret
      exact ⟨_, rfl, hown, hB⟩
end Go.Proofs.Ytlgjhmenjfmpfaa
namespace Go.Proofs.Ytlgjhmenjfmpfaa
open Go.RowKit Go.Sort Go.Shelf Go.Lib

set_option maxRecDepth 100000 in
set_option maxHeartbeats 1000000 in
theorem rMake_any (q n : Int) (l : List Ed) (p : Option Addr) (c : Nat) (w : World) (hin : Sg 3 w edE p l) (hl : l.length ≤ 10000) :
    Calls Try.prog 24 #[.int .i64 q, .int .i64 n, .slice p l.length c] w (RetGr (makeA q n l).1 (makeA q n l).2 w) := by
  have hB0 : Below w.heap.size w (w.alloc (.cells #[.int .i64 0, .int .i64 0, .slice none 0 0] 24)) := (Below.refl _ _).alloc (Nat.le_refl _) _
  have b0 : VRow (w.alloc (.cells #[.int .i64 0, .int .i64 0, .slice none 0 0] 24)) w.heap.size 24 [.int .i64 0, .int .i64 0, .slice none 0 0] := VRow.new w _ _
  go_enter Try.func24, Try.ntmps24
  go_wp2_with fail
  refine (rSorted_any l p c _ (hin.below hB0) hl).mono ?_
  rintro e w4 ⟨v4, rfl, hown4, hB4⟩
  have hz0 : w.heap.size < (w.alloc (.cells #[.int .i64 0, .int .i64 0, .slice none 0 0] 24)).heap.size := b0.lt
  have x4 := hB0.trans (hB4.mono hB0.size)
  have b4 := b0.below hB4 b0.lt
  clear hB4 hB0 b0
  generalize (w.alloc (.cells #[.int .i64 0, .int .i64 0, .slice none 0 0] 24)).heap.size = B at *
  obtain ⟨p4, c4, rfl, hs4, hc4, _⟩ := own_sg hown4
  have f0 := b4.at 0 rfl; have f1 := b4.at 1 rfl; have f2 := b4.at 2 rfl
  have hfz := fun j => b4.frozen j
  have hz4 := b4.lt
  have hw5 : Sg 3 (w4.alloc (.cells #[.int .i64 (⟨q, n, norm l⟩ : Gr).q, .int .i64 (⟨q, n, norm l⟩ : Gr).n, .slice p4 (⟨q, n, norm l⟩ : Gr).es.length c4] 24)) edE p4 (norm l) := hs4.below ((Below.refl _ _).alloc (Nat.le_refl _) _)
  have hln : (norm l).length ≤ 100000 := by
    have := norm_len l l.length (Nat.le_refl _); rw [List.take_length] at this; omega
  obtain ⟨r, hr⟩ : ∃ r, chkG ⟨q, n, norm l⟩ = r := ⟨_, rfl⟩
  have b4' : VRow (w4.alloc (.cells #[.int .i64 (⟨q, n, norm l⟩ : Gr).q, .int .i64 (⟨q, n, norm l⟩ : Gr).n, .slice p4 (⟨q, n, norm l⟩ : Gr).es.length c4] 24)) w.heap.size 24 [.int .i64 0, .int .i64 0, .slice none 0 0] := b4.alloc _
  have c4' : VRow (w4.alloc (.cells #[.int .i64 (⟨q, n, norm l⟩ : Gr).q, .int .i64 (⟨q, n, norm l⟩ : Gr).n, .slice p4 (⟨q, n, norm l⟩ : Gr).es.length c4] 24)) w4.heap.size 24 [.int .i64 (⟨q, n, norm l⟩ : Gr).q, .int .i64 (⟨q, n, norm l⟩ : Gr).n, .slice p4 (⟨q, n, norm l⟩ : Gr).es.length c4] := VRow.new w4 _ _
  have x4' := x4.alloc x4.size (.cells #[.int .i64 (⟨q, n, norm l⟩ : Gr).q, .int .i64 (⟨q, n, norm l⟩ : Gr).n, .slice p4 (⟨q, n, norm l⟩ : Gr).es.length c4] 24)
  have hL : Hid ((norm l).length ≤ c4) := hc4
  by_cases hr0 : r = 0
  · subst hr0
    have HR := hidI (makeA_ok hr)
    go_wp2_with fail
    refine (rCheck_r ⟨q, n, norm l⟩ p4 c4 _ 0 hr hw5 (by show (norm l).length ≤ _; omega)).mono ?_
    rintro e w5 ⟨rfl, hB5⟩
    have x5 := x4'.trans (hB5.mono x4'.size)
    have b5 := b4'.below hB5 b4'.lt
    have c5 := c4'.below hB5 c4'.lt
    have o5 := (hown4.alloc (.cells #[.int .i64 (⟨q, n, norm l⟩ : Gr).q, .int .i64 (⟨q, n, norm l⟩ : Gr).n, .slice p4 (⟨q, n, norm l⟩ : Gr).es.length c4] 24)).below hB5
    have g0 := c5.at 0 rfl; have g1 := c5.at 1 rfl; have g2 := c5.at 2 rfl
    have k0 := b5.at 0 rfl; have k1 := b5.at 1 rfl; have k2 := b5.at 2 rfl
    have z0 := b5.frozen 0; have z1 := b5.frozen 1; have z2 := b5.frozen 2
    clear f0 f1 f2 hfz hr
    go_wp2
    have r6 := VRow.set (i := 2) (.slice p4 (norm l).length c4) (VRow.set (i := 1) (.int .i64 n) (VRow.set (i := 0) (.int .i64 q) b5))
    have y0 := r6.at 0 rfl; have y1 := r6.at 1 rfl; have y2 := r6.at 2 rfl
    have o6 := ownsRow_setCell_below (a := ⟨w.heap.size, 2, none⟩) (ownsRow_setCell_below (a := ⟨w.heap.size, 1, none⟩) (ownsRow_setCell_below (a := ⟨w.heap.size, 0, none⟩) o5 hz0 (.int .i64 q)) hz0 (.int .i64 n)) hz0 (.slice p4 (norm l).length c4)
    have x6 : Below w.heap.size w (((w5.setCell ⟨w.heap.size, 0, none⟩ (.int .i64 q)).setCell ⟨w.heap.size, 1, none⟩ (.int .i64 n)).setCell ⟨w.heap.size, 2, none⟩ (.slice p4 (norm l).length c4)) := ((x5.setCell (Nat.le_refl _) _).setCell (Nat.le_refl _) _).setCell (Nat.le_refl _) _
    refine bodyPost_ret (v := .tuple #[.agg #[.int .i64 q, .int .i64 n, .slice p4 (norm l).length c4], .int .i64 0]) (by simp [results, Try.results24, go_sem, y0, y1, y2]) rfl ?_
    obtain ⟨p6, c6, hv, hs6, _, _⟩ := own_sg o6
    cases hv
    exact RetGr.of HR.out hs6 hL.out x6
  · have hrb : (r == 0) = false := by simpa using hr0
    have HR := hidI (makeA_bad (by rw [hr]; exact hr0))
    rw [hr] at HR
    go_wp2_with fail
    refine (rCheck_r ⟨q, n, norm l⟩ p4 c4 _ r hr hw5 (by show (norm l).length ≤ _; omega)).mono ?_
    rintro e w5 ⟨rfl, hB5⟩
    have x5 := x4'.trans (hB5.mono x4'.size)
    have b5 := b4'.below hB5 b4'.lt
    have o5 := (hown4.alloc (.cells #[.int .i64 (⟨q, n, norm l⟩ : Gr).q, .int .i64 (⟨q, n, norm l⟩ : Gr).n, .slice p4 (⟨q, n, norm l⟩ : Gr).es.length c4] 24)).below hB5
    have k0 := b5.at 0 rfl; have k1 := b5.at 1 rfl; have k2 := b5.at 2 rfl
    have z0 := b5.frozen 0; have z1 := b5.frozen 1; have z2 := b5.frozen 2
    clear f0 f1 f2 hfz hr
    go_wp2
    have r6 := VRow.set (i := 2) (.slice none 0 0) (VRow.set (i := 1) (.int .i64 0) (VRow.set (i := 0) (.int .i64 0) b5))
    have y0 := r6.at 0 rfl; have y1 := r6.at 1 rfl; have y2 := r6.at 2 rfl
    have o6 := ownsRow_setCell_below (a := ⟨w.heap.size, 2, none⟩) (ownsRow_setCell_below (a := ⟨w.heap.size, 1, none⟩) (ownsRow_setCell_below (a := ⟨w.heap.size, 0, none⟩) o5 hz0 (.int .i64 0)) hz0 (.int .i64 0)) hz0 (.slice none 0 0)
    have x6 : Below w.heap.size w (((w5.setCell ⟨w.heap.size, 0, none⟩ (.int .i64 0)).setCell ⟨w.heap.size, 1, none⟩ (.int .i64 0)).setCell ⟨w.heap.size, 2, none⟩ (.slice none 0 0)) := ((x5.setCell (Nat.le_refl _) _).setCell (Nat.le_refl _) _).setCell (Nat.le_refl _) _
    refine bodyPost_ret (v := .tuple #[.agg #[.int .i64 0, .int .i64 0, .slice none 0 0], .int .i64 r]) (by simp [results, Try.results24, go_sem, y0, y1, y2]) rfl ?_
    exact RetGr.of (G' := ⟨0, 0, []⟩) HR.out (Sg.nil _ _ _ _) (by simp) x6
end Go.Proofs.Ytlgjhmenjfmpfaa
namespace Go.Proofs.Ytlgjhmenjfmpfaa
open Go.RowKit

/-- Why a list is no set of states, behind the number before it. -/
def leP : Option Int → Int → Bool
  | some q, s => decide (s ≤ q)
  | none, _ => false
def chkS (n : Int) (p : Option Int) : List Int → Int
  | [] => 0
  | s :: l => if s < 0 ∨ n ≤ s then 25 else if leP p s = true then 10 else chkS n (some s) l
theorem chkS_cons (n : Int) (p : Option Int) (s : Int) (l : List Int) : chkS n p (s :: l) = if s < 0 ∨ n ≤ s then 25 else if leP p s = true then 10 else chkS n (some s) l := by rw [chkS]
/-- The number before place k. -/
def pvS (l : List Int) (k : Nat) : Option Int := if k = 0 then none else l[k - 1]?
theorem chkS_at {n : Int} {l : List Int} {k : Nat} (hk : k < l.length) : chkS n (pvS l k) (l.drop k) = if l[k] < 0 ∨ n ≤ l[k] then 25 else if leP (pvS l k) l[k] = true then 10 else chkS n (pvS l (k + 1)) (l.drop (k + 1)) := by
  rw [List.drop_eq_getElem_cons hk, show pvS l (k + 1) = some l[k] by simp [pvS, hk]]
  exact chkS_cons ..
theorem chkS_end {n : Int} {l : List Int} {k : Nat} (hk : ¬ k < l.length) : chkS n (pvS l k) (l.drop k) = 0 := by
  rw [List.drop_eq_nil_of_le (by omega)]; rfl
theorem chkS_ok {n : Int} : ∀ {l : List Int} {p : Option Int}, chkS n p l = 0 → l.Pairwise (· < ·) ∧ (∀ x ∈ l, 0 ≤ x ∧ x < n) ∧ (∀ q, p = some q → ∀ x ∈ l, q < x)
  | [], _, _ => by simp
  | s :: l, p, h => by
    rw [chkS_cons] at h
    by_cases h1 : s < 0 ∨ n ≤ s
    · rw [if_pos h1] at h; omega
    · rw [if_neg h1] at h
      by_cases h2 : leP p s = true
      · rw [if_pos h2] at h; omega
      · rw [if_neg h2] at h
        obtain ⟨a, b, c⟩ := chkS_ok h
        have c := c s rfl
        refine ⟨List.pairwise_cons.2 ⟨c, a⟩, ?_, ?_⟩
        · intro x hx
          rcases List.mem_cons.1 hx with e | hx
          · subst e; omega
          · exact b x hx
        · intro q hq x hx
          subst hq
          have : ¬ s ≤ q := by simpa [leP] using h2
          rcases List.mem_cons.1 hx with e | hx
          · subst e; omega
          · have := c x hx; omega
/-- Where a number stands in a list, or -1. -/
def idxI (n : Int) (l : List Int) : Int := if n ∈ l then ((l.idxOf n : Nat) : Int) else -1
theorem idxI_hit {n : Int} {l : List Int} {k : Nat} (hk : k < l.length) (he : l[k] = n) (hb : ∀ j (h : j < l.length), j < k → l[j] ≠ n) : idxI n l = k := by
  unfold idxI
  rw [if_pos (by rw [← he]; exact List.getElem_mem _)]
  congr 1
  induction l generalizing k with
  | nil => simp at hk
  | cons y l ih =>
    rw [List.idxOf_cons]
    cases k with
    | zero => simp at he; simp [he]
    | succ k =>
      have h0 := hb 0 (by simp) (by omega)
      simp only [List.getElem_cons_zero] at h0
      rw [show (y == n) = false by simpa using h0]
      simp only [List.getElem_cons_succ] at he
      have := ih (k := k) (by simpa using hk) he (fun j h hj => by have := hb (j + 1) (by simpa using h) (by omega); simpa using this)
      simp [this]
theorem idxI_miss {n : Int} {l : List Int} (hb : ∀ j (h : j < l.length), l[j] ≠ n) : idxI n l = -1 := by
  unfold idxI
  rw [if_neg]
  intro hm
  obtain ⟨i, hi, e⟩ := List.mem_iff_getElem.1 hm
  exact hb i hi e
theorem countP_idxOf {n : Int} : ∀ {l : List Int}, l.Pairwise (· < ·) → n ∈ l → l.countP (· < n) = l.idxOf n
  | [], _, h => by simp at h
  | y :: l, hs, h => by
    obtain ⟨h1, h2⟩ := List.pairwise_cons.1 hs
    rw [List.idxOf_cons, List.countP_cons]
    by_cases e : y = n
    · subst e
      have : l.countP (· < y) = 0 := List.countP_eq_zero.2 (fun x hx => by have := h1 x hx; simp; omega)
      simp [this]
    · have hm : n ∈ l := by rcases List.mem_cons.1 h with e' | h
                            · exact absurd e'.symm e
                            · exact h
      have hlt := h1 n hm
      have ih := countP_idxOf h2 hm
      rw [show (y == n) = false by simpa using e]
      simp [ih, hlt]
/-- An edge of the part on a set. -/
def partE (st : List Int) (x : Ed) : Option Ed := if x.f ∈ st ∧ x.t ∈ st then some ⟨((st.idxOf x.f : Nat) : Int), x.l, ((st.idxOf x.t : Nat) : Int)⟩ else none
/-- The part of a graph on a set. -/
def partA (G : Gr) (st : List Int) : Gr := ⟨G.q, st.length, G.es.filterMap (partE st)⟩
theorem partE_snoc (st : List Int) (l : List Ed) (k : Nat) (h : k < l.length) : (l.take (k + 1)).filterMap (partE st) = (l.take k).filterMap (partE st) ++ (match partE st l[k] with | some y => [y] | none => []) := by
  rw [List.take_succ_eq_append_getElem h, List.filterMap_append]
  congr 1
  cases hp : partE st l[k] <;> simp [hp]
theorem partE_len (st : List Int) (l : List Ed) : (l.filterMap (partE st)).length ≤ l.length := List.length_filterMap_le _ _
end Go.Proofs.Ytlgjhmenjfmpfaa
namespace Go.Proofs.Ytlgjhmenjfmpfaa
open Go.RowKit Go.Sort Go.Shelf Go.Lib

theorem infoIn : (Try.prog.info? 3).map (fun i => (i.zero, i.size, i.bytes)) = some (some (.int .i64 0), 1, 8) := by kernel_rfl
/-- Where edges that leave a state stand, among the first k. -/
def outI (es : List Ed) (s : Int) (k : Nat) : List Int := ((List.range k).filter (fun i => decide (es[i]?.map Ed.f = some s))).map (fun (i : Nat) => (i : Int))
theorem outI_zero (es : List Ed) (s : Int) : outI es s 0 = [] := rfl
theorem outI_succ {es : List Ed} {s : Int} {k : Nat} (h : k < es.length) : outI es s (k + 1) = outI es s k ++ (if es[k].f = s then [(k : Int)] else []) := by
  unfold outI
  rw [List.range_succ, List.filter_append, List.map_append]
  congr 1
  by_cases hs : es[k].f = s <;> simp [h, hs]
theorem outI_len (es : List Ed) (s : Int) (k : Nat) : (outI es s k).length ≤ k := by
  unfold outI
  rw [List.length_map]
  exact Nat.le_trans (List.length_filter_le _ _) (by simp)
/-- Where edges that leave a state stand, and the error. -/
def outA (G : Gr) (s : Int) : List Int × Int := if chkG G = 0 then (if s < 0 ∨ G.n ≤ s then ([], 25) else (outI G.es s G.es.length, 0)) else ([], 1)
/-- A list of numbers in memory of the call's own, and an error. -/
def RetLi (r : List Int) (k : Int) (w : World) (e : Ending) (w' : World) : Prop := ∃ p m c, e = .returned (.tuple #[.slice p m c, .int .i64 k]) ∧ w'.ownsRow w.heap.size 3 1 (.slice p m c) r.length (r.map (Value.int .i64)) ∧ RowKit.Below w.heap.size w w'
theorem RetLi.of {x : List Int × Int} {r : List Int} {k : Int} {w w' : World} {B m : Nat} {v : Value} (hx : x = (r, k)) (h : w'.ownsRow B 3 1 v r.length (r.map (Value.int .i64))) (hm : w.heap.size ≤ B) (hB : RowKit.Below w.heap.size w w') :
    RetLi x.1 x.2 w (.returned (.tuple #[v, .int .i64 k])) w' := by
  subst hx
  obtain ⟨p, c, rfl, _⟩ := own_sl h
  exact ⟨p, _, c, rfl, ⟨h.1, h.2.imp id (fun ⟨g, cap, cur, a, b, z⟩ => ⟨g, cap, cur, a, Nat.le_trans hm b, z⟩)⟩, hB⟩
theorem RetLi.nil {x : List Int × Int} {k : Int} {w w' : World} (hx : x = ([], k)) (hB : RowKit.Below w.heap.size w w') :
    RetLi x.1 x.2 w (.returned (.tuple #[.slice none 0 0, .int .i64 k])) w' := by
  subst hx; exact ⟨none, 0, 0, rfl, World.ownsRow_nil _ _ _ _, hB⟩

end Go.Proofs.Ytlgjhmenjfmpfaa
namespace Go.Proofs.Ytlgjhmenjfmpfaa
open Go.RowKit Go.Shelf
attribute [local go_sem] Oper.semAt_some

theorem lvL_out (es : List Ed) (s : Int) : ∀ k, k ≤ es.length → (lvL es s k).map (fun x => ((x.1 : Nat) : Int)) = outI es s k
  | 0, _ => rfl
  | k + 1, h => by
    rw [lvL_succ (by omega), outI_succ (by omega), List.map_append, lvL_out es s k (by omega)]
    split <;> rfl
theorem own_shI {w : World} {B e size n : Nat} {v : Value} {xs : List Value} (h : w.ownsRow B e size v n xs) : ∃ p m c, v = .slice p m c := by
  rcases h.2 with ⟨rfl, _⟩ | ⟨g, cap, cur, rfl, _⟩
  · exact ⟨_, _, _, rfl⟩
  · exact ⟨_, _, _, rfl⟩
theorem own_cells {w : World} {B e size n : Nat} {v : Value} {xs : List Value} (h : w.ownsRow B e size v n xs) {j : Nat} {o : Obj} (hj : v.ownBlock = some j) (ho : w.heap[j]? = some o) : o.isCells = true := by
  rcases h.2 with ⟨rfl, _⟩ | ⟨g, cap, cur, rfl, _, hh, _⟩
  · simp [Value.ownBlock] at hj
  · obtain rfl : g = j := by simpa [Value.ownBlock] using hj
    rw [hh] at ho; cases ho; rfl
theorem own_put {W : World} {B e size n D : Nat} {v : Value} {xs : List Value} {o : Obj} {ds : Option (List Deferred)} (hK : W.heap[D]? = some (.deferred ds)) (h : W.ownsRow B e size v n xs) : (W.putObj D o).ownsRow B e size v n xs := by
  refine h.kept (grownBy_putObj' W D o) ?_
  rcases h.2 with ⟨rfl, _⟩ | ⟨g, cap, cur, rfl, _, hh, _⟩
  · exact .inl rfl
  · refine .inr (fun e => ?_)
    obtain rfl : g = D := by simpa [Value.ownBlock] using e
    rw [hh] at hK; cases hK
theorem own_baseI {W : World} {B B' e size n : Nat} {v : Value} {xs : List Value} (h : W.ownsRow B e size v n xs) (hB : B' ≤ B) : W.ownsRow B' e size v n xs :=
  ⟨h.1, h.2.imp id (fun ⟨g, cap, cur, a, b, z⟩ => ⟨g, cap, cur, a, Nat.le_trans hB b, z⟩)⟩
/-- A row of numbers of the call's own, behind a variable's cell. -/
def OutI (B b : Nat) (l : List Int) (W : World) : Prop := ∃ v, VRow W b 50 [v] ∧ W.ownsRow B 3 1 v l.length (l.map (Value.int .i64)) ∧ v.ownBlock ≠ some b
theorem OutI.own {β : Type} (B b : Nat) (f : β → List Int) : Own (fun s W => OutI B b (f s) W) := by
  rintro s X Y row ⟨v, h1, h2, h3⟩ hg hrow
  refine ⟨v, VRow.own b 50 (fun _ : Unit => [v]) () X Y row h1 hg hrow, ?_, h3⟩
  refine h2.kept hg ?_
  rcases h2.2 with ⟨rfl, _⟩ | ⟨g, cap, cur, rfl, _, hh, _⟩
  · exact .inl rfl
  · refine .inr (fun e => ?_)
    obtain ⟨o, ho, hc⟩ := hrow g (by rw [← e]; rfl)
    rw [hh] at ho; cases ho; cases hc

end Go.Proofs.Ytlgjhmenjfmpfaa
namespace Go.Proofs.Ytlgjhmenjfmpfaa
open Go.RowKit Go.Sort Go.Shelf Go.Lib

theorem sortI_any (l : List Int) (B n : Nat) (v : Value) (w : World) (h : w.ownsRow B 3 1 v n (l.map (Value.int .i64))) (hn : n ≤ 100000) :
    Calls Try.prog 79 #[v] w fun e w' => e = .returned (.tuple #[]) ∧ w'.ownsRow B 3 1 v n ((l.mergeSort fun x y => decide (x ≤ y)).map (Value.int .i64)) ∧ w.grownBy w' v.ownBlock := by
  have hl : l.length = n := by have := h.1; simpa using this
  subst hl
  rcases h.2 with ⟨rfl, h0⟩ | ⟨g, cap, cur, rfl, hg, hh, hc, hm, hs, ht⟩
  · have : l = [] := List.length_eq_zero_iff.1 h0
    subst this
    refine (Try.slices_Sort_int_none none 0 w).mono ?_
    rintro e w' ⟨rfl, rfl⟩
    exact ⟨rfl, by simpa using h, rfl, rfl, rfl, Nat.le_refl _, fun _ _ _ => rfl⟩
  · refine (Try.slices_Sort_int g 0 cap l w (holds_of_blockI hh (by simpa using ht)) (Array.getElem?_eq_some_iff.1 hh).1 (by omega)).mono ?_
    rintro e w' ⟨rfl, q, os, rfl⟩
    exact ⟨rfl, ownsRow_sortedI (List.length_mergeSort _) hg hh hc hm hs, grownBy_sortedI _⟩
theorem compactI_any (l : List Int) (B n : Nat) (v : Value) (w : World) (h : w.ownsRow B 3 1 v n (l.map (Value.int .i64))) (hn : n ≤ 100000) (hk : (Lib.compact l).length ≤ l.length) :
    Calls Try.prog 80 #[v] w fun e w' => ∃ v', e = .returned v' ∧ w'.ownsRow B 3 1 v' (Lib.compact l).length ((Lib.compact l).map (Value.int .i64)) ∧ w.grownBy w' v.ownBlock := by
  have hl : l.length = n := by have := h.1; simpa using this
  subst hl
  rcases h.2 with ⟨rfl, h0⟩ | ⟨g, cap, cur, rfl, hg, hh, hc, hm, hs, ht⟩
  · have : l = [] := List.length_eq_zero_iff.1 h0
    subst this
    refine (Try.slices_Compact_int_empty none 0 w).mono ?_
    rintro e w' ⟨rfl, rfl⟩
    have e : Lib.compact ([] : List Int) = [] := rfl
    rw [e]
    exact ⟨_, rfl, by simpa using h, rfl, rfl, rfl, Nat.le_refl _, fun _ _ _ => rfl⟩
  · refine (Try.slices_Compact_int g 0 cap l w (holds_of_blockI hh (by simpa using ht)) (by omega) hc).mono ?_
    rintro e w' ⟨rfl, q, rfl⟩
    have hb := grownBy_sortedI (w := w) (g := g) (n := q) (os := #[]) (Lib.compact l ++ List.replicate (l.length - (Lib.compact l).length) 0).toArray
    have hp := heap_sortedI (g := g) (n := q) (os := #[]) (Lib.compact l ++ List.replicate (l.length - (Lib.compact l).length) 0).toArray hh
    rw [grow_empty] at hb hp
    refine ⟨_, rfl, ⟨by simp, .inr ⟨g, cap, _, rfl, hg, hp, by omega, hm, by simp [putCells, hs], ?_⟩⟩, hb⟩
    have h1 := take_putCellsI cur (Lib.compact l ++ List.replicate (l.length - (Lib.compact l).length) 0) (by simp; omega)
    have h2 := congrArg (List.take (Lib.compact l).length) h1
    rw [List.take_take, List.map_append, List.take_append_of_le_length (by simp), Nat.min_eq_left (by simp)] at h2
    rw [Nat.mul_one, h2, ← List.length_map (Value.int .i64), List.take_length]
end Go.Proofs.Ytlgjhmenjfmpfaa
namespace Go.Proofs.Ytlgjhmenjfmpfaa
open Go.RowKit Go.Sort Go.Shelf Go.Lib

set_option maxHeartbeats 400000 in
theorem rHas_q (l : List Int) (p : Option Addr) (c : Nat) (n : Int) (w : World) (hp : Sl w (Value.int .i64) p l) (hl : l.length ≤ 9223372036854775807) :
    Calls Try.prog 47 #[.slice p l.length c, .int .i64 n] w fun e w' => e = .returned (.bool (decide (n ∈ l))) ∧ w' = w := by
  go_enter Try.func47, Try.ntmps47
  go_wp2
  go_loop [5] (fun i => ∃ k : Nat, k ≤ l.length ∧ i = .int .i64 k ∧ Hid (∀ j (hj : j < l.length), j < k → l[j] ≠ n)) (fun i => l.length - (intOf i).toNat)
  case atStart => exact ⟨0, by omega, rfl, fun _ _ h => by omega⟩
  case round =>
    obtain ⟨k, hk, rfl, hj⟩ := hrel
    by_cases hlt : k < l.length
    · obtain ⟨b1, o1, rfl, hb1, hc1⟩ := hp.get k hlt
      have e1 := hc1 k hlt
      clear hc1
      by_cases he : l[k] = n
      · have HI : Hid (decide (n ∈ l) = true) := decide_eq_true (he ▸ List.getElem_mem hlt)
        have hb : (l[k] == n) = true := by simpa using he
        clear he
        go_wp2
        go_ret
        exact ⟨ret_bool HI.out.symm, rfl⟩
      · have hb : (l[k] == n) = false := by simpa using he
        have HE := hidI he
        clear he
        go_wp2
        go_round
        case rel => exact ⟨k + 1, by omega, by go_num, fun j h1 h2 => by
          rcases Nat.lt_succ_iff_lt_or_eq.1 h2 with h3 | h3
          · exact hj.out j h1 h3
          · subst h3; exact HE.out⟩
        case measure => simp [intOf]; omega
    · have HM : Hid (decide (n ∈ l) = false) := decide_eq_false (fun hm => by
        obtain ⟨i, hi, e⟩ := List.mem_iff_getElem.1 hm
        exact hj.out i hi (by omega) e)
      go_wp2
      go_ret
      exact ⟨ret_bool HM.out.symm, rfl⟩

set_option maxHeartbeats 400000 in
theorem rIndex_q (l : List Int) (p : Option Addr) (c : Nat) (n : Int) (w : World) (hp : Sl w (Value.int .i64) p l) (hl : l.length ≤ 9223372036854775807) :
    Calls Try.prog 66 #[.slice p l.length c, .int .i64 n] w fun e w' => e = .returned (.int .i64 (idxI n l)) ∧ w' = w := by
  go_enter Try.func66, Try.ntmps66
  go_wp2
  go_loop [5] (fun i => ∃ k : Nat, k ≤ l.length ∧ i = .int .i64 k ∧ Hid (∀ j (hj : j < l.length), j < k → l[j] ≠ n)) (fun i => l.length - (intOf i).toNat)
  case atStart => exact ⟨0, by omega, rfl, fun _ _ h => by omega⟩
  case round =>
    obtain ⟨k, hk, rfl, hj⟩ := hrel
    by_cases hlt : k < l.length
    · obtain ⟨b1, o1, rfl, hb1, hc1⟩ := hp.get k hlt
      have e1 := hc1 k hlt
      clear hc1
      by_cases he : l[k] = n
      · have HI : Hid (idxI n l = k) := idxI_hit hlt he hj.out
        have hb : (l[k] == n) = true := by simpa using he
        clear he
        go_wp2
        go_ret
        exact ⟨ret_int HI.out.symm, rfl⟩
      · have hb : (l[k] == n) = false := by simpa using he
        have HE := hidI he
        clear he
        go_wp2
        go_round
        case rel => exact ⟨k + 1, by omega, by go_num, fun j h1 h2 => by
          rcases Nat.lt_succ_iff_lt_or_eq.1 h2 with h3 | h3
          · exact hj.out j h1 h3
          · subst h3; exact HE.out⟩
        case measure => simp [intOf]; omega
    · have HM : Hid (idxI n l = -1) := idxI_miss (fun i hi => hj.out i hi (by omega))
      go_wp2
      go_ret
      exact ⟨ret_int HM.out.symm, rfl⟩

theorem rIndex_r (l : List Int) (p : Option Addr) (c : Nat) (n r : Int) (w : World) (hp : Sl w (Value.int .i64) p l) (hl : l.length ≤ 9223372036854775807) (hr : idxI n l = r) :
    Calls Try.prog 66 #[.slice p l.length c, .int .i64 n] w fun e w' => e = .returned (.int .i64 r) ∧ w' = w := by subst hr; exact rIndex_q l p c n w hp hl
theorem rHas_r (l : List Int) (p : Option Addr) (c : Nat) (n : Int) (r : Bool) (w : World) (hp : Sl w (Value.int .i64) p l) (hl : l.length ≤ 9223372036854775807) (hr : decide (n ∈ l) = r) :
    Calls Try.prog 47 #[.slice p l.length c, .int .i64 n] w fun e w' => e = .returned (.bool r) ∧ w' = w := by subst hr; exact rHas_q l p c n w hp hl

set_option maxRecDepth 100000 in
set_option maxHeartbeats 1000000 in
theorem gCheckSet_any (G : Gr) (p : Option Addr) (c : Nat) (l : List Int) (q : Option Addr) (d : Nat) (w : World) (hin : Sl w (Value.int .i64) q l) (hl : l.length ≤ 9223372036854775807) :
    Calls Try.prog 77 #[(.agg #[.int .i64 G.q, .int .i64 G.n, .slice p G.es.length c]), .slice q l.length d] w fun e w' => e = .returned (.int .i64 (chkS G.n none l)) ∧ Below w.heap.size w w' := by
  have hB0 : Below w.heap.size w (w.alloc (.cells #[.int .i64 G.q, .int .i64 G.n, .slice p G.es.length c] 24)) := (Below.refl _ _).alloc (Nat.le_refl _) _
  have b0 : VRow (w.alloc (.cells #[.int .i64 G.q, .int .i64 G.n, .slice p G.es.length c] 24)) w.heap.size 24 [.int .i64 G.q, .int .i64 G.n, .slice p G.es.length c] := VRow.new w _ _
  have hin0 := hin.below hB0
  have f1 := b0.at 1 rfl
  clear hin
  go_enter Try.func77, Try.ntmps77
  go_wp2
  go_loop [9] (fun i => ∃ k : Nat, k ≤ l.length ∧ i = .int .i64 k ∧ Hid (chkS G.n (pvS l k) (l.drop k) = chkS G.n none l)) (fun i => l.length - (intOf i).toNat)
  case atStart => exact ⟨0, by omega, rfl, rfl⟩
  case round =>
    obtain ⟨k, hk, rfl, hj⟩ := hrel
    by_cases hlt : k < l.length
    · obtain ⟨b1, o1, rfl, hb1, hc1⟩ := hin0.get k hlt
      have e1 := hc1 k hlt
      have HA := hidI (chkS_at (n := G.n) hlt)
      by_cases h0 : l[k] < 0
      · have HI : Hid (chkS G.n none l = 25) := by rw [Hid, ← hj.out, HA.out, if_pos (.inl h0)]
        clear hc1
        go_wp2
        go_ret
        exact ⟨ret_int HI.out.symm, hB0⟩
      · by_cases h1 : G.n ≤ l[k]
        · have HI : Hid (chkS G.n none l = 25) := by rw [Hid, ← hj.out, HA.out, if_pos (.inr h1)]
          clear hc1
          go_wp2
          go_ret
          exact ⟨ret_int HI.out.symm, hB0⟩
        · have HA2 := hidI (HA.out.trans (if_neg (by omega)))
          by_cases hk0 : k = 0
          · subst hk0
            have HN : Hid (chkS G.n (pvS l (0 + 1)) (l.drop (0 + 1)) = chkS G.n none l) := by rw [Hid, ← hj.out, HA2.out]; simp [pvS, leP]
            clear hc1
            rw [Nat.add_zero] at e1
            go_wp2
            go_round
            case rel => exact ⟨0 + 1, by omega, by go_num, HN⟩
            case measure => simp [intOf]; omega
          · obtain ⟨m, rfl⟩ : ∃ m, k = m + 1 := ⟨k - 1, by omega⟩
            have e2 := hc1 m (by omega)
            have q1 : IntKind.i64.wrap (m : Int) = (m : Int) := IntWalk.i64_in _ (by omega)
            have hpv : pvS l (m + 1) = some l[m] := by simp [pvS, show m < l.length by omega]
            by_cases h2 : l[m + 1] ≤ l[m]
            · have HI : Hid (chkS G.n none l = 10) := by rw [Hid, ← hj.out, HA2.out, hpv]; simp [leP, h2]
              clear hc1 hpv
              go_wp2
              go_ret
              exact ⟨ret_int HI.out.symm, hB0⟩
            · have HN : Hid (chkS G.n (pvS l (m + 1 + 1)) (l.drop (m + 1 + 1)) = chkS G.n none l) := by rw [Hid, ← hj.out, HA2.out, hpv]; simp [leP, h2]
              clear hc1 hpv
              go_wp2
              go_round
              case rel => exact ⟨m + 1 + 1, by omega, by go_num, HN⟩
              case measure => simp [intOf]; omega
    · have HI : Hid (chkS G.n none l = 0) := by rw [Hid, ← hj.out, chkS_end hlt]
      go_wp2
      go_ret
      exact ⟨ret_int HI.out.symm, hB0⟩
end Go.Proofs.Ytlgjhmenjfmpfaa
namespace Go.Proofs.Ytlgjhmenjfmpfaa
open Go.RowKit

def cmsE (es : List Ed) (st : List Int) (s : Int) : Bool := es.any (fun x => decide (x.t = s) && decide (x.f ∈ st))
def goesE (es : List Ed) (st : List Int) (s : Int) : Bool := es.any (fun x => decide (x.f = s) && decide (x.t ∈ st))
/-- One round: states with an edge to them and one from them. -/
def essP (es : List Ed) (st : List Int) (s : Int) : Bool := cmsE es st s && goesE es st s
def essS (es : List Ed) (st : List Int) : List Int := st.filter (essP es st)
theorem essS_le (es : List Ed) (st : List Int) : (essS es st).length ≤ st.length := List.length_filter_le _ _
/-- The states of the essential part. -/
def ess (es : List Ed) (st : List Int) : List Int := if (essS es st).length = st.length then st else ess es (essS es st)
termination_by st.length
decreasing_by
  have := essS_le es st; omega
theorem ess_stop {es : List Ed} {st : List Int} (h : (essS es st).length = st.length) : ess es st = st := by rw [ess, if_pos h]
theorem ess_go {es : List Ed} {st : List Int} (h : ¬ (essS es st).length = st.length) : ess es st = ess es (essS es st) := by rw [ess, if_neg h]
theorem filter_all {p : Int → Bool} : ∀ {l : List Int}, (l.filter p).length = l.length → l.filter p = l := by
  intro l h
  exact List.filter_eq_self.2 (by
    intro a ha
    have := List.length_filter_eq_length_iff.1 h
    exact this a ha)
theorem essS_eq {es : List Ed} {st : List Int} (h : (essS es st).length = st.length) : essS es st = st := filter_all h
theorem essS_srt {es : List Ed} {st : List Int} (h : st.Pairwise (· < ·)) : (essS es st).Pairwise (· < ·) := h.filter _
theorem filter_snoc (p : Int → Bool) (l : List Int) (k : Nat) (h : k < l.length) : (l.take (k + 1)).filter p = (l.take k).filter p ++ (if p l[k] = true then [l[k]] else []) := by
  rw [List.take_succ_eq_append_getElem h, List.filter_append]
  congr 1
  cases hp : p l[k] <;> simp [hp]
theorem any_snoc {α : Type} (p : α → Bool) (l : List α) (k : Nat) (h : k < l.length) : (l.take (k + 1)).any p = ((l.take k).any p || p l[k]) := by
  rw [List.take_succ_eq_append_getElem h, List.any_append]; simp
/-- The numbers below n. -/
def upto (n : Nat) : List Int := (List.range n).map (fun (i : Nat) => (i : Int))
theorem upto_succ (n : Nat) : upto (n + 1) = upto n ++ [(n : Int)] := by simp [upto, List.range_succ]
theorem upto_len (n : Nat) : (upto n).length = n := by simp [upto]
theorem upto_srt (n : Nat) : (upto n).Pairwise (· < ·) := by
  induction n with
  | zero => simp [upto]
  | succ n ih =>
    rw [upto_succ, List.pairwise_append]
    refine ⟨ih, by simp, fun a ha b hb => ?_⟩
    simp only [List.mem_singleton] at hb
    subst hb
    simp only [upto, List.mem_map, List.mem_range] at ha
    obtain ⟨i, hi, rfl⟩ := ha
    omega
/-- The essential part, its states, and the error. -/
def essA (G : Gr) : Gr × List Int × Int := if chkG G = 0 then (partA G (ess G.es (upto G.n.toNat)), ess G.es (upto G.n.toNat), 0) else (⟨0, 0, []⟩, [], 1)
theorem essA_ok {G : Gr} (h : chkG G = 0) : essA G = (partA G (ess G.es (upto G.n.toNat)), ess G.es (upto G.n.toNat), 0) := if_pos h
theorem essA_bad {G : Gr} (h : ¬ chkG G = 0) : essA G = (⟨0, 0, []⟩, [], 1) := if_neg h
end Go.Proofs.Ytlgjhmenjfmpfaa
namespace Go.Proofs.Ytlgjhmenjfmpfaa
open Go.RowKit Go.Sort Go.Shelf Go.Lib

def nxE (st : List Int) (b t : Int) (x : Ed) : Bool := decide (x.t = t) && (decide (x.l = b) && decide (x.f ∈ st))
/-- A state that an edge with a label leads to, from a set. -/
def nxP (es : List Ed) (st : List Int) (b t : Int) : Bool := es.any (nxE st b t)
def nextA (G : Gr) (st : List Int) (b : Int) : List Int := (upto G.n.toNat).filter (nxP G.es st b)
theorem uptof_succ (f : Int → Bool) (k : Nat) : (upto (k + 1)).filter f = (upto k).filter f ++ (if f (k : Int) = true then [(k : Int)] else []) := by
  rw [upto_succ, List.filter_append]; congr 1; cases h : f (k : Int) <;> simp [h]
theorem uptof_len (f : Int → Bool) (k : Nat) : ((upto k).filter f).length ≤ k := Nat.le_trans (List.length_filter_le _ _) (by rw [upto_len]; omega)

end Go.Proofs.Ytlgjhmenjfmpfaa
namespace Go.Proofs.Ytlgjhmenjfmpfaa
open Go.RowKit

theorem srt_unique : ∀ {a b : List Int}, a.Pairwise (· < ·) → b.Pairwise (· < ·) → (∀ x, x ∈ a ↔ x ∈ b) → a = b
  | [], [], _, _, _ => rfl
  | [], y :: b, _, _, h => absurd ((h y).2 List.mem_cons_self) (by simp)
  | x :: a, [], _, _, h => absurd ((h x).1 List.mem_cons_self) (by simp)
  | x :: a, y :: b, ha, hb, h => by
    obtain ⟨ha1, ha2⟩ := List.pairwise_cons.1 ha
    obtain ⟨hb1, hb2⟩ := List.pairwise_cons.1 hb
    have e : x = y := by
      rcases List.mem_cons.1 ((h x).1 List.mem_cons_self) with e | hx
      · exact e
      · rcases List.mem_cons.1 ((h y).2 List.mem_cons_self) with e | hy
        · exact e.symm
        · have := ha1 y hy; have := hb1 x hx; omega
    subst e
    rw [srt_unique ha2 hb2 (fun z => ?_)]
    constructor
    · intro hz
      rcases List.mem_cons.1 ((h z).1 (List.mem_cons_of_mem _ hz)) with e | hz'
      · subst e; have := ha1 z hz; omega
      · exact hz'
    · intro hz
      rcases List.mem_cons.1 ((h z).2 (List.mem_cons_of_mem _ hz)) with e | hz'
      · subst e; have := hb1 z hz; omega
      · exact hz'
theorem mem_upto {n : Nat} {x : Int} : x ∈ upto n ↔ 0 ≤ x ∧ x < n := by
  unfold upto
  rw [List.mem_map]
  constructor
  · rintro ⟨i, hi, rfl⟩
    rw [List.mem_range] at hi
    omega
  · intro h
    exact ⟨x.toNat, by rw [List.mem_range]; omega, by omega⟩
theorem nextA_srt (G : Gr) (st : List Int) (b : Int) : (nextA G st b).Pairwise (· < ·) := (upto_srt _).filter _
theorem mem_nextA {G : Gr} {st : List Int} {b t : Int} (hv : Vg G) : t ∈ nextA G st b ↔ ∃ x ∈ G.es, x.t = t ∧ x.l = b ∧ x.f ∈ st := by
  unfold nextA nxP
  rw [List.mem_filter, mem_upto, List.any_eq_true]
  constructor
  · rintro ⟨_, x, hx, h⟩
    simp only [nxE, Bool.and_eq_true, decide_eq_true_eq] at h
    exact ⟨x, hx, h⟩
  · rintro ⟨x, hx, rfl, h1, h2⟩
    have := hv.ins x hx
    have := hv.n1
    exact ⟨⟨by omega, by omega⟩, x, hx, by simp [nxE, h1, h2]⟩
/-- What a step collects: for each state of the set, the ends of its edges with the label. -/
def stepL (es : List Ed) (st : List Int) (b : Int) : List Int := st.flatMap (fun s => (es.filter (fun x => decide (x.f = s) && decide (x.l = b))).map Ed.t)
theorem mem_stepL {es : List Ed} {st : List Int} {b t : Int} : t ∈ stepL es st b ↔ ∃ x ∈ es, x.t = t ∧ x.l = b ∧ x.f ∈ st := by
  unfold stepL
  rw [List.mem_flatMap]
  constructor
  · rintro ⟨s, hs, h⟩
    obtain ⟨x, hx, rfl⟩ := List.mem_map.1 h
    obtain ⟨hx, h⟩ := List.mem_filter.1 hx
    simp only [Bool.and_eq_true, decide_eq_true_eq] at h
    exact ⟨x, hx, rfl, h.2, h.1 ▸ hs⟩
  · rintro ⟨x, hx, rfl, h1, h2⟩
    exact ⟨x.f, h2, List.mem_map.2 ⟨x, List.mem_filter.2 ⟨hx, by simp [h1]⟩, rfl⟩⟩
/-- A list in order, each once, with the members that a step collects, is what the reference finds. -/
theorem step_law {G : Gr} {st l : List Int} {b : Int} (hv : Vg G) (hs : l.Pairwise (· < ·)) (hm : ∀ x, x ∈ l ↔ x ∈ stepL G.es st b) : l = nextA G st b :=
  srt_unique hs (nextA_srt G st b) (fun x => by rw [hm, mem_stepL, mem_nextA hv])
end Go.Proofs.Ytlgjhmenjfmpfaa
namespace Go.Proofs.Ytlgjhmenjfmpfaa
open Go.RowKit

theorem cmpt_inv (d : Array Int) (hs : ∀ i j, i ≤ j → j < d.size → d[i]! ≤ d[j]!) : ∀ m, m ≤ d.size → (Lib.compactUpTo d m).Pairwise (· < ·) ∧ ∀ x, x ∈ Lib.compactUpTo d m ↔ ∃ i, i < m ∧ d[i]! = x
  | 0, _ => ⟨by simp [Lib.compactUpTo], by simp [Lib.compactUpTo]⟩
  | m + 1, hm => by
    obtain ⟨h1, h2⟩ := cmpt_inv d hs m (by omega)
    rw [Lib.compactUpTo_succ]
    by_cases hk : Lib.keeps d m = true
    · rw [if_pos hk]
      refine ⟨List.pairwise_append.2 ⟨h1, by simp, fun a ha b hb => ?_⟩, fun x => ?_⟩
      · rw [List.mem_singleton] at hb
        subst hb
        obtain ⟨i, hi, rfl⟩ := (h2 a).1 ha
        have hne : m = 0 ∨ d[m]! ≠ d[m - 1]! := by simpa [Lib.keeps] using hk
        have hne : d[m]! ≠ d[m - 1]! := hne.resolve_left (by omega)
        have a1 := hs i (m - 1) (by omega) (by omega)
        have a2 := hs (m - 1) m (by omega) (by omega)
        omega
      · rw [List.mem_append, h2, List.mem_singleton]
        constructor
        · rintro (⟨i, hi, e⟩ | e)
          · exact ⟨i, by omega, e⟩
          · exact ⟨m, by omega, e.symm⟩
        · rintro ⟨i, hi, e⟩
          by_cases him : i = m
          · subst him; exact .inr e.symm
          · exact .inl ⟨i, by omega, e⟩
    · rw [if_neg hk, List.append_nil]
      have hne : ¬ (m = 0 ∨ d[m]! ≠ d[m - 1]!) := by simpa [Lib.keeps] using hk
      have h0 : m ≠ 0 := fun e => hne (.inl e)
      have he : d[m]! = d[m - 1]! := Classical.byContradiction (fun e => hne (.inr e))
      refine ⟨h1, fun x => ?_⟩
      rw [h2]
      constructor
      · rintro ⟨i, hi, e⟩; exact ⟨i, by omega, e⟩
      · rintro ⟨i, hi, e⟩
        by_cases him : i = m
        · subst him; exact ⟨i - 1, by omega, by rw [← he]; exact e⟩
        · exact ⟨i, by omega, e⟩
theorem sort_compact (l : List Int) : (Lib.compact (l.mergeSort fun x y => decide (x ≤ y))).Pairwise (· < ·) ∧ ∀ x, x ∈ Lib.compact (l.mergeSort fun x y => decide (x ≤ y)) ↔ x ∈ l := by
  have hsrt : (l.mergeSort fun x y => decide (x ≤ y)).Pairwise (fun x y => x ≤ y) := by
    have := List.pairwise_mergeSort (le := fun (x y : Int) => decide (x ≤ y)) (fun a b c h1 h2 => by simp at *; omega) (fun a b => by simp; omega) l
    exact this.imp (fun h => by simpa using h)
  have hmem : ∀ x, x ∈ (l.mergeSort fun x y => decide (x ≤ y)) ↔ x ∈ l := fun x => List.mem_mergeSort
  generalize (l.mergeSort fun x y => decide (x ≤ y)) = z at *
  have hs : ∀ i j, i ≤ j → j < z.toArray.size → z.toArray[i]! ≤ z.toArray[j]! := by
    intro i j hij hj
    have hj' : j < z.length := by simpa using hj
    rw [getElem!_pos z.toArray i (by simp; omega), getElem!_pos z.toArray j hj]
    by_cases e : i = j
    · subst e; exact Int.le_refl _
    · have := List.pairwise_iff_getElem.1 hsrt i j (by omega) hj' (by omega)
      simpa using this
  obtain ⟨h1, h2⟩ := cmpt_inv z.toArray hs z.length (by simp)
  refine ⟨h1, fun x => ?_⟩
  rw [← hmem x]
  show x ∈ Lib.compactUpTo z.toArray z.length ↔ _
  rw [h2]
  constructor
  · rintro ⟨i, hi, rfl⟩
    rw [getElem!_pos z.toArray i (by simpa using hi)]
    simp
  · intro hx
    obtain ⟨i, hi, e⟩ := List.mem_iff_getElem.1 hx
    exact ⟨i, hi, by rw [getElem!_pos z.toArray i (by simpa using hi)]; simpa using e⟩
/-- What the program's step returns is what the reference finds. -/
theorem step_sorted {G : Gr} {st : List Int} {b : Int} (hv : Vg G) : Lib.compact ((stepL G.es st b).mergeSort fun x y => decide (x ≤ y)) = nextA G st b :=
  step_law hv (sort_compact _).1 (sort_compact _).2
end Go.Proofs.Ytlgjhmenjfmpfaa
namespace Go.Proofs.Ytlgjhmenjfmpfaa
open Go.RowKit

/-! ### Marks among the deferred calls -/
/-- Cells are as they were; nothing below B has turned. -/
structure KC (B : Nat) (W W' : World) : Prop where
  below : Below B W W'
  cells : ∀ (k : Nat) (o : Obj), W.heap[k]? = some o → o.isCells = true → W'.heap[k]? = some o
theorem KC.refl (B : Nat) (W : World) : KC B W W := ⟨Below.refl _ _, fun _ _ h _ => h⟩
theorem KC.trans {B : Nat} {X Y Z : World} (h : KC B X Y) (k : KC B Y Z) : KC B X Z := ⟨h.below.trans k.below, fun i o hi ho => k.cells i o (h.cells i o hi ho) ho⟩
theorem KC.sl {α : Type} {B : Nat} {W W' : World} {enc : α → Value} {p : Option Addr} {l : List α} (h : KC B W W') (hs : Sl W enc p l) : Sl W' enc p l := by
  rcases hs with hs | ⟨b, off, hp, hb, hc⟩
  · exact .inl hs
  · by_cases hl : l = []
    · exact .inl hl
    · refine .inr ⟨b, off, hp, Nat.lt_of_lt_of_le hb h.below.size, fun i hi => ?_⟩
      obtain ⟨o, ho, hk⟩ := cells_of_cell (hc i hi)
      exact (World.cell?_of_block (w := W) (a := ⟨b, off + i, none⟩) ((h.cells b o ho hk).trans ho.symm)).trans (hc i hi)
def Marks (B : Nat) (W : World) : List Deferred → Prop
  | [] => True
  | d :: ds => (∃ D, d = { target := .collected D, args := #[] } ∧ B ≤ D ∧ W.heap[D]? = some (.deferred (some [])) ∧ ∀ d' ∈ ds, d'.target ≠ .collected D) ∧ Marks B W ds
theorem Marks.lt {B : Nat} {W : World} : ∀ {ds : List Deferred}, Marks B W ds → ∀ d ∈ ds, ∃ D, d.target = .collected D ∧ D < W.heap.size
  | [], _, _, h => by cases h
  | _ :: _, ⟨⟨D, hd, _, hk, _⟩, hr⟩, d', h => by
    rcases List.mem_cons.1 h with h | h
    · subst h; subst hd; exact ⟨D, rfl, (Array.getElem?_eq_some_iff.1 hk).1⟩
    · exact Marks.lt hr d' h
theorem Marks.keep {B : Nat} {W W' : World} : ∀ {ds : List Deferred}, Marks B W ds → (∀ D, B ≤ D → W.heap[D]? = some (.deferred (some [])) → (∃ d ∈ ds, d.target = .collected D) → W'.heap[D]? = some (.deferred (some []))) → Marks B W' ds
  | [], _, _ => trivial
  | _ :: _, ⟨⟨D, hd, hB, hk, hn⟩, hr⟩, h =>
    ⟨⟨D, hd, hB, h D hB hk ⟨_, List.mem_cons_self, by rw [hd]⟩, hn⟩, hr.keep (fun D' h1 h2 ⟨d, hd', ht⟩ => h D' h1 h2 ⟨d, List.mem_cons_of_mem _ hd', ht⟩)⟩
theorem Marks.others {B : Nat} {W W' : World} {ds : List Deferred} (h : Marks B W ds) (k : KeepsOthers W W') : Marks B W' ds := h.keep (fun D _ hk _ => k.same D _ hk rfl)
theorem Marks.cons {B D : Nat} {W : World} {ds : List Deferred} (h : Marks B W ds) (hB : B ≤ D) (hk : W.heap[D]? = some (.deferred (some []))) (hn : ∀ d ∈ ds, ∃ D', d.target = .collected D' ∧ D' < D) :
    Marks B W ({ target := .collected D, args := #[] } :: ds) :=
  ⟨⟨D, rfl, hB, hk, fun d hd e => by
    obtain ⟨D', h1, h2⟩ := hn d hd
    rw [h1] at e; cases e; omega⟩, h⟩
theorem leaves_marks {F : Fence} {n : Nat} {P : Program} {fn : Func} {tmps : Array Value} {R : Ending → World → Prop} {B : Nat} :
    ∀ (ds : List Deferred) (W : World), Marks B W ds → (∀ W', KC B W W' → LeavesInM F n P fn tmps R [] .returning W') → LeavesInM F n P fn tmps R ds .returning W
  | [], W, _, h => h W (KC.refl _ _)
  | d :: ds, W, ⟨⟨D, hd, hB, hk, hn⟩, hr⟩, h => by
    subst hd
    have hp : KC B W (W.putObj D (.deferred none)) := by
      refine ⟨⟨rfl, rfl, rfl, by simp, fun i hi => World.putObj_heap_other (by omega)⟩, fun i o hi ho => ?_⟩
      rw [World.putObj_heap_other (by rintro rfl; rw [hk] at hi; cases hi; cases ho)]
      exact hi
    refine ⟨by simp, .inl ⟨D, _, rfl, run_takeDeferred hk, ?_⟩⟩
    refine leaves_marks ds _ (hr.keep (fun D' _ hk' hm => ?_)) (fun W' hW' => h W' (hp.trans hW'))
    obtain ⟨d', hd', ht⟩ := hm
    rw [World.putObj_heap_other (by rintro rfl; exact hn d' hd' ht)]
    exact hk'
theorem grownBy_trans {A B C : World} {r : Option Nat} (h : A.grownBy B r) (k : B.grownBy C r) : A.grownBy C r :=
  ⟨k.os.trans h.os, k.tape.trans h.tape, k.output.trans h.output, Nat.le_trans h.size k.size, fun i hi hr => (k.block i (Nat.lt_of_lt_of_le hi h.size) hr).trans (h.block i hi hr)⟩
theorem grownBy_own {β : Type} (W0 : World) (c : Nat) : OwnFrom W0.heap.size (fun (_ : β) W => W0.grownBy W (some c)) := fun _ X Y row hs hg hr =>
  ⟨hg.os.trans hs.os, hg.tape.trans hs.tape, hg.output.trans hs.output, Nat.le_trans hs.size hg.size, fun i hi hc =>
    (hg.block i (Nat.lt_of_lt_of_le hi hs.size) (fun e => by have := (hr i e.symm).1; omega)).trans (hs.block i hi hc)⟩
theorem grownBy_refl (W : World) (r : Option Nat) : W.grownBy W r := ⟨rfl, rfl, rfl, Nat.le_refl _, fun _ _ _ => rfl⟩
theorem Marks.grown {B c : Nat} {W W' : World} {ds : List Deferred} {o : Obj} (h : Marks B W ds) (hg : W.grownBy W' (some c)) (hc : W.heap[c]? = some o) (ho : o.isCells = true) : Marks B W' ds :=
  h.keep (fun D _ hk _ => by
    rw [hg.block D (Array.getElem?_eq_some_iff.1 hk).1 (by rintro ⟨rfl⟩; rw [hk] at hc; cases hc; cases ho)]; exact hk)

theorem Marks.appended {B base e n size : Nat} {V w1 : World} {ds : List Deferred} {ov : Value} {xs : List Value} {o : Obj} (h : Marks B V ds) (hown : V.ownsRow base e size ov n xs) (hg : (V.alloc o).grownBy w1 ov.ownBlock) : Marks B w1 ds :=
  h.keep (fun D _ hk _ => by
    have hD := (Array.getElem?_eq_some_iff.1 hk).1
    rw [hg.block D (by simp; omega) ?_, Below.heap_alloc V o D hD]; exact hk
    intro e
    rcases hown.2 with ⟨rfl, _⟩ | ⟨g, cap, cur, rfl, _, hgb, _⟩
    · simp [Value.ownBlock] at e
    · obtain rfl : D = g := by simpa [Value.ownBlock] using e
      rw [hk] at hgb; cases hgb)
end Go.Proofs.Ytlgjhmenjfmpfaa
namespace Go.Proofs.Ytlgjhmenjfmpfaa
open Go.RowKit Go.Sort Go.Lib

end Go.Proofs.Ytlgjhmenjfmpfaa
namespace Go.Proofs.Ytlgjhmenjfmpfaa
open Go.RowKit Go.Sort Go.Shelf Go.Lib

/-- The states that are reached from a set by a label, and the error. -/
def stepA (G : Gr) (st : List Int) (b : Int) : List Int × Int := if chkG G = 0 then (if chkS G.n none st = 0 then (if b < 0 ∨ G.q ≤ b then ([], 2) else (nextA G st b, 0)) else ([], chkS G.n none st)) else ([], 1)

end Go.Proofs.Ytlgjhmenjfmpfaa
