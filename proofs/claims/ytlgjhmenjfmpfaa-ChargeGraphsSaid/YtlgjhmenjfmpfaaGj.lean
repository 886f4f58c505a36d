/-
  Walks: edges in order and each once, and graphs made of them, of the reference.
-/
import Derived.Test.YtlgjhmenjfmpfaaGf
import Derived.Test.YtlgjhmenjfmpfaaGi
import Derived.Maps.AppendAt
import Derived.Deep.CutBlock
namespace Go.Proofs.Ytlgjhmenjfmpfaa
open Go.RowKit Go.Sort Go.Shelf Go.Lib

/-! ### Appending -/
section
variable {P : Program} {w : World}
theorem run_append_sg (base : Nat) (t ty e : TypeId) (i : TypeInfo) (z : Value) (ht : P.underlying t = some (.slice e)) (hi : P.info? e = some i) (hz : i.zero = some z) (hs : i.size = 3) (hby : i.bytes = 24) (hzs : z.cells.size = 3)
    (v : Value) (xs : List Ed) (n : Nat) (hown : w.ownsRow base e 3 v n (cat xs)) (p : Option Addr) (c : Nat) (l : List Ed) (m : Nat) (hm : l.length = m) (hl : Sg 3 w edE p l) (h63 : n + m ≤ 100000) (hbase : base ≤ w.heap.size) :
    ∃ v' w', (Builtin.append_ #[t, t] ty #[v, .slice p m c]).run P w = .ok v' w' ∧ w'.ownsRow base e 3 v' (n + m) (cat (xs ++ l)) ∧ w.grownBy w' v.ownBlock := by
  subst hm
  cases p with
  | none =>
    rcases hl with h0 | ⟨_, _, hp, _⟩
    · subst h0
      refine ⟨v, w, ?_, by simpa using hown, World.grownBy.refl w _⟩
      rcases hown.2 with ⟨rfl, h0⟩ | ⟨g, cap, cur, rfl, _, _, hnc, _⟩
      · simp [Builtin.append_, run_underlying ht, sizeOf, typeInfo, hi, Builtin.lenOf, Builtin.firstCells]
      · simp [Builtin.append_, run_underlying ht, sizeOf, typeInfo, hi, Builtin.lenOf, Builtin.firstCells, hnc, storeCells]
    · cases hp
  | some ad =>
    have hn : ∀ j u, (cat l)[j]? = some u → w.cell? (ad.add j) = some u := by
      rcases hl with h0 | ⟨b, off, hp, _, hc⟩
      · subst h0; simp [cat]
      · cases hp
        intro j u hu
        rw [show (⟨b, off, none⟩ : Addr).add j = ⟨b, off + j, none⟩ by unfold Addr.add; split <;> simp_all]; exact sg_cells hc j u hu
    obtain ⟨v', w', h1, h2, h3, _, _⟩ := run_append_own_at w base t ty e i z 3 24 ht hi hz hs hby hzs (by decide) v n _ hown ad l.length c (cat l) (cat_len l) hn (cat_one l) (by simp only [maxLen]; omega) (by omega) hbase
    exact ⟨v', w', h1, by rw [cat_app]; exact h2, h3⟩
theorem step_append_run {ops : Array Oper} {o : Oper} {a : Act} {K : Act → World → Prop} {Q : Exit → Act → World → Prop} {E : Prop} (hgd : o.guard = none) (s x : Operand) (t : TypeId)
    (ho : o.op = .call { callee := .builtin .append, args := #[s, x], argTypes := #[t, t] }) (sv xv : Value) (hs : a.eval s = sv) (hx : a.eval x = xv) (v' : Value) (w' : World)
    (hrun : (Builtin.append_ #[t, t] o.type #[sv, xv]).run P w = .ok v' w') (h : K (a.put o.dst v') w') : if Region.wanted o (yielded ops a.tmps) = true then Oper.wp P o a w K Q else E := by
  have hw : Region.wanted o (yielded ops a.tmps) = true := by simp [Region.wanted, hgd]
  rw [if_pos hw]
  unfold Oper.wp execOp
  simp only [ho, resolve, invoke, builtin, Sem.run_bind, Sem.run_pure, Result.andThen_ok, List.map_toArray, List.map_cons, List.map_nil, hs, hx, hrun]
  exact h
end
theorem step_append_sg {P : Program} {w : World} {ops : Array Oper} {o : Oper} {a : Act} {K : Act → World → Prop} {Q : Exit → Act → World → Prop} {E : Prop} (hgd : o.guard = none) (s x : Operand) (t : TypeId)
    (ho : o.op = .call { callee := .builtin .append, args := #[s, x], argTypes := #[t, t] }) (sv : Value) (p : Option Addr) (m c : Nat) (hs : a.eval s = sv) (hx : a.eval x = .slice p m c)
    (base : Nat) (e : TypeId) (i : TypeInfo) (z : Value) (ht : P.underlying t = some (.slice e)) (hi : P.info? e = some i) (hz : i.zero = some z) (hsz : i.size = 3) (hby : i.bytes = 24) (hzs : z.cells.size = 3)
    (xs : List Ed) (n : Nat) (l : List Ed) (hm : l.length = m) (h63 : n + m ≤ 100000) (hown : w.ownsRow base e 3 sv n (cat xs)) (hl : Sg 3 w edE p l) (hbase : base ≤ w.heap.size)
    (h : ∀ v' w', w'.ownsRow base e 3 v' (n + m) (cat (xs ++ l)) → w.grownBy w' sv.ownBlock → K (a.put o.dst v') w') : if Region.wanted o (yielded ops a.tmps) = true then Oper.wp P o a w K Q else E := by
  obtain ⟨v', w', h1, h2, h3⟩ := run_append_sg base t o.type e i z ht hi hz hsz hby hzs sv xs n hown p c l m hm hl h63 hbase
  exact step_append_run hgd s x t ho sv _ hs hx v' w' h1 (h v' w' h2 h3)
theorem own_conv {w : World} {B B' e n : Nat} {v : Value} {xs ys : List Ed} (h : w.ownsRow B e 3 v n (cat xs)) (he : ys = xs) (hB : B' ≤ B) : w.ownsRow B' e 3 v ys.length (cat ys) := by
  subst he
  have hn : ys.length = n := by have := h.1; rw [cat_len] at this; omega
  subst hn
  refine ⟨h.1, ?_⟩
  rcases h.2 with h | ⟨g, cap, cur, a, b, r⟩
  · exact .inl h
  · exact .inr ⟨g, cap, cur, a, Nat.le_trans hB b, r⟩
theorem heap_old1 (w : World) (o o' : Obj) : ((w.alloc o).alloc o').heap[w.heap.size]? = some o := (Below.heap_alloc _ o' _ (by simp)).trans (heap_alloc_new w o)
theorem drB (B : Nat) (w : World) : RowKit.Below B w w.drew := ⟨rfl, rfl, rfl, Nat.le_refl _, fun _ _ => rfl⟩
theorem keep3 {W W' : World} {b o0 o1 o2 : Nat} {v0 v1 v2 : Value} (hb : b < W.heap.size) (h0 : W.cell? ⟨b, o0, none⟩ = some v0) (h1 : W.cell? ⟨b, o1, none⟩ = some v1) (h2 : W.cell? ⟨b, o2, none⟩ = some v2) (h : RowKit.Below W.heap.size W W') :
    W'.cell? ⟨b, o0, none⟩ = some v0 ∧ W'.cell? ⟨b, o1, none⟩ = some v1 ∧ W'.cell? ⟨b, o2, none⟩ = some v2 ∧ RowKit.Below W.heap.size W W' :=
  ⟨(h.cell (p := ⟨b, o0, none⟩) hb).trans h0, (h.cell (p := ⟨b, o1, none⟩) hb).trans h1, (h.cell (p := ⟨b, o2, none⟩) hb).trans h2, h⟩
theorem heap_new1 (w : World) (o o' : Obj) : ((w.alloc o).alloc o').heap[w.heap.size + 1]? = some o' := by
  have := heap_alloc_new (w.alloc o) o'; rwa [World.size_alloc] at this
theorem Sg.take {w : World} {p : Option Addr} {l : List Ed} (h : Sg 3 w edE p l) (k : Nat) : Sg 3 w edE p (l.take k) := by
  rcases h with h | ⟨b, off, hp, hb, hc⟩
  · subst h; exact .inl (by simp)
  · exact .inr ⟨b, off, hp, hb, fun i hi j hj => by rw [List.getElem_take]; exact hc i (by rw [List.length_take] at hi; omega) j hj⟩
theorem Sg.drop {w : World} {b off : Nat} {l : List Ed} (h : Sg 3 w edE (some ⟨b, off, none⟩) l) (k : Nat) : Sg 3 w edE (some ⟨b, off + k * 3, none⟩) (l.drop k) := by
  rcases h with h | ⟨b', off', hp, hb, hc⟩
  · subst h; exact .inl (by simp)
  · cases hp
    refine .inr ⟨b, off + k * 3, rfl, hb, fun i hi j hj => ?_⟩
    rw [List.length_drop] at hi
    have := hc (k + i) (by omega) j hj
    rw [List.getElem_drop, ← this]
    congr 2
    rw [Nat.add_mul]; omega
theorem own_empty {W : World} {g B : Nat} {e : TypeId} (h : W.heap[g]? = some (.cells #[] e (0, 0))) (hB : B ≤ g) : W.ownsRow B e 3 (.slice (some ⟨g, 0, none⟩) 0 0) 0 (cat []) :=
  ⟨rfl, .inr ⟨g, 0, #[], rfl, hB, h, Nat.le_refl _, by simp, rfl, rfl⟩⟩

/-! ### Insertion -/
/-- Where an edge belongs. -/
def posE (x : Ed) (l : List Ed) (k : Nat) : Prop := k ≤ l.length ∧ ∀ m (h : m < l.length), m < k → ltE l[m] x = true
theorem insE_at {x : Ed} : ∀ {l : List Ed} {k : Nat}, l.Pairwise (fun a b => ltE a b = true) → posE x l k → (∀ h : k < l.length, ltE l[k] x = false) → (∀ h : k < l.length, l[k] ≠ x) → insE x l = l.take k ++ x :: l.drop k
  | [], k, _, hp, _, _ => by have := hp.1; simp at this; subst this; rfl
  | y :: l, 0, _, _, h1, h2 => by
    have h1 := h1 (by simp); have h2 := h2 (by simp)
    simp only [List.getElem_cons_zero] at h1 h2
    unfold insE
    rw [if_pos]
    · rfl
    · cases hb : ltE x y
      · exact absurd (ltE_total h1 hb) h2
      · rfl
  | y :: l, k + 1, hs, hp, h1, h2 => by
    have hy := hp.2 0 (by simp) (by omega)
    simp only [List.getElem_cons_zero] at hy
    have ih := insE_at (x := x) (l := l) (k := k) (List.pairwise_cons.1 hs).2 ⟨by have := hp.1; simp at this; omega, fun m hm hk => by have := hp.2 (m + 1) (by simpa using hm) (by omega); simpa using this⟩
      (fun h => by have := h1 (by simpa using h); simpa using this) (fun h => by have := h2 (by simpa using h); simpa using this)
    unfold insE
    rw [if_neg (by rw [ltE_asymm hy]; decide), if_neg (fun e => by subst e; rw [ltE_irrefl] at hy; cases hy), ih]
    rfl
theorem insE_mem {x : Ed} {l : List Ed} (hs : l.Pairwise (fun a b => ltE a b = true)) (hm : x ∈ l) : insE x l = l :=
  norm_unique (insE_srt hs) hs (fun z => by rw [mem_insE]; exact ⟨fun h => h.elim (fun e => by subst e; exact hm) id, .inr⟩)
theorem norm_take_succ (l : List Ed) (k : Nat) (h : k < l.length) : norm (l.take (k + 1)) = insE l[k] (norm (l.take k)) := by
  rw [List.take_succ_eq_append_getElem h, norm_snoc]
theorem insE_len (x : Ed) : ∀ l : List Ed, (insE x l).length ≤ l.length + 1
  | [] => by simp [insE]
  | y :: l => by
    have := insE_len x l
    unfold insE; split
    · simp
    · split
      · simp
      · simp; omega
theorem norm_len (l : List Ed) : ∀ k, k ≤ l.length → (norm (l.take k)).length ≤ k := by
  intro k
  induction k with
  | zero => intro _; simp [norm]
  | succ k ih =>
    intro h
    rw [norm_take_succ l k (by omega)]
    have := insE_len l[k] (norm (l.take k)); have := ih (by omega); omega

set_option maxRecDepth 100000 in
set_option maxHeartbeats 4000000 in
theorem rSorted_any (l : List Ed) (p : Option Addr) (c : Nat) (w : World) (hin : Sg 3 w edE p l) (hl : l.length ≤ 10000) :
    Calls Try.prog 44 #[.slice p l.length c] w (RetOwnE (norm l) w) := by
  have HIN := hidI hin
  obtain ⟨i0, hi0, hz0, hz1, hz2⟩ := info_parts infoE
  clear hin
  go_enter Try.func44, Try.ntmps44
  go_wp2
  go_loopw [3, 4] (fun ov iv wr => ∃ k : Nat, k ≤ l.length ∧ iv = .int .i64 k ∧ wr.ownsRow w.heap.size 47 3 ov (norm (l.take k)).length (cat (norm (l.take k))) ∧ Below w.heap.size w wr) (fun _ iv _ => l.length - (intOf iv).toNat)
  case atStart => exact ⟨0, by omega, rfl, World.ownsRow_nil _ _ _ _, Below.refl _ _⟩
  case round =>
    obtain ⟨k, hk, rfl, hown, hB⟩ := hrel
    by_cases hlt : k < l.length
    · have HNX := hidI (norm_take_succ l k hlt)
      have hNs := norm_srt (l.take k)
      have hNl := norm_len l k hk
      generalize norm (l.take k) = N at *
      obtain ⟨po, co, rfl, hso, hco, _⟩ := own_sg hown
      have HS := hidI hNs
      obtain ⟨b3, o3, rfl, _⟩ := HIN.out.get k hlt
      clear hNs
      go_upto_block 2 with fail
      go_cut [5] (fun s5 wx => ∃ j : Nat, s5 = .int .i64 j ∧ Hid (posE l[k] N j ∧ ∀ h : j < N.length, ltE N[j] l[k] = false) ∧ Below wr.heap.size wr wx)
      case first =>
        obtain ⟨wo, rfl⟩ : ∃ wo : World, wo = wr := ⟨_, rfl⟩
        go_wp2_with fail
        go_loopw [5] (fun s5 wx => ∃ j : Nat, s5 = .int .i64 j ∧ Hid (posE l[k] N j) ∧ Below wo.heap.size wo wx) (fun s5 _ => N.length - (intOf s5).toNat)
        case atStart => exact ⟨0, rfl, ⟨by omega, fun m _ h => by omega⟩, Below.refl _ _⟩
        case round =>
          obtain ⟨j, rfl, hp, hBx⟩ := hrel
          have hjN := hp.out.1
          by_cases hjl : j < N.length
          · have hI : (j : Int) < (N.length : Int) := by omega
            have hI2 : (k : Int) < (l.length : Int) := by omega
            have HP : Hid (ltE N[j] l[k] = true → posE l[k] N (j + 1)) := fun h => ⟨by omega, fun m hm h1 => by
              by_cases e : m = j
              · subst e; exact h
              · exact hp.out.2 m hm (by omega)⟩
            have HC := hidI (cmpE_neg N[j] l[k])
            have hBy := hBx
            have hBy2 := hB.trans (hBx.mono hB.size)
            obtain ⟨b4, o4, hpo, _⟩ := hso.get j hjl
            subst hpo
            clear hBx
            go_wp2_with fail
            refine region_tail 13 (by kernel_rfl) (by kernel_rfl) fun W hD => ?_
            have hBW := hBy.trans (hD.below _)
            have hBW2 := hBy2.trans (hD.below _)
            obtain ⟨b5, o5, hx5, _, e0, e1, e2⟩ := (hso.below hBW).get3 j hjl rfl
            obtain ⟨b6, o6, hx6, _, e3, e4, e5⟩ := (HIN.out.below hBW2).get3 k hlt rfl
            cases hx5; cases hx6
            simp only [List.take_succ_cons, List.take_zero, List.drop_succ_cons, List.drop_zero]
            iterate 13 still_step
            refine wpStill_nil ?_
            go_wp2_with fail
            refine (rCompare_up N[j] l[k] _).mono ?_
            rintro e w1 ⟨rfl, hU1⟩
            have hB1 := hBW.trans (hU1.below.mono hBW.size)
            clear e0 e1 e2 e3 e4 e5
            by_cases hcs : cmpE N[j] l[k] < 0
            · have HN := hidI (HP.out (by rw [← HC.out, decide_eq_true hcs]))
              go_wp2
              go_roundw
              case rel => exact ⟨j + 1, by go_num, HN, hB1⟩
              case measure => simp [intOf]; omega
            · have HF : Hid (ltE N[j] l[k] = false) := by unfold Hid; rw [← HC.out, decide_eq_false hcs]
              have hcs' : 0 ≤ cmpE N[j] l[k] := by omega
              go_wp2_with fail
              go_meet
              exact ⟨j, rfl, ⟨hp.out, fun _ => HF.out⟩, hB1⟩
          · have hd : decide ((j : Int) < (N.length : Int)) = false := decide_eq_false (by omega)
            have hd2 : decide (j < N.length) = false := decide_eq_false (by omega)
            go_wp2_with fail
            (refine wp_region_quiet_lit (by kernel_rfl) (by kernel_rfl) ?_; (repeat (first | go_big_quiet_step (fail) | quiet_step (fail))); refine wpQuiet_nil ?_; intro _ hwq; obtain ⟨nq, hwq2⟩ := hwq; subst hwq2)
            go_wp2_with fail
            go_meet
            exact ⟨j, rfl, ⟨hp.out, fun h => absurd h hjl⟩, below_dN hBx nq⟩
      case rest =>
        obtain ⟨j, rfl, hp, hBx⟩ := hcut
        have hjN := hp.out.1.1
        have hBw := hB.trans (hBx.mono hB.size)
        have hownc := hown.below hBx
        have hsoc := hso.below hBx
        obtain ⟨b6, o6, hx6, hb3, e3, e4, e5⟩ := (HIN.out.below hBw).get3 k hlt rfl
        cases hx6
        have hI2 : (k : Int) < (l.length : Int) := by omega
        by_cases hjl : j < N.length
        · have hI : (j : Int) < (N.length : Int) := by omega
          obtain ⟨b4, o4, rfl, _, e0, e1, e2⟩ := hsoc.get3 j hjl rfl
          have hq := eqlE N[j] l[k]
          have hgd := guardE .eql
          by_cases heq : N[j] = l[k]
          · rw [decide_eq_true heq] at hq
            have HX : Hid (norm (l.take (k + 1)) = N) := HNX.out.trans (insE_mem HS.out (by rw [← heq]; exact List.getElem_mem hjl))
            clear heq
            go_wp2_with fail
            (refine wp_region_quiet_lit (by kernel_rfl) (by kernel_rfl) ?_; (repeat (first | go_big_quiet_step (fail) | quiet_step (fail))); refine wpQuiet_nil ?_; intro _ hwq; obtain ⟨nq, hwq2⟩ := hwq; subst hwq2)
            clear e0 e1 e2 e3 e4 e5 hq hgd
            go_wp2
            go_roundw
            case rel => exact ⟨k + 1, by omega, by go_num, by rw [HX.out]; exact hownc, below_dN hBw nq⟩
            case measure => simp [intOf]; omega
          · rw [decide_eq_false heq] at hq
            have HX : Hid (norm (l.take (k + 1)) = N.take j ++ l[k] :: N.drop j) := HNX.out.trans (insE_at HS.out hp.out.1 hp.out.2 (fun _ => heq))
            clear heq
            go_wp2_with fail
            (refine wp_region_quiet_lit (by kernel_rfl) (by kernel_rfl) ?_; (repeat (first | go_big_quiet_step (fail) | quiet_step (fail))); refine wpQuiet_nil ?_; intro _ hwq; obtain ⟨nq, hwq2⟩ := hwq; subst hwq2)
            clear e0 e1 e2 hq hgd
            go_wp2_with fail
            have hcj : ¬ co = j := by omega
            have hI3 : (j : Int) ≤ (co : Int) := by omega
            have hI4 : (N.length : Int) ≤ (co : Int) := by omega
            have hownq : (wc.drewN nq).ownsRow w.heap.size 47 3 (.slice (some ⟨b4, o4, none⟩) N.length co) N.length (cat N) := hownc
            have hsoq : Sg 3 (wc.drewN nq) edE (some ⟨b4, o4, none⟩) N := hsoc
            have hBq : Below w.heap.size w (wc.drewN nq) := below_dN hBw nq
            have HNL : Hid ((N.take j).length = j) := by unfold Hid; rw [List.length_take]; omega
            have HDL : Hid ((N.drop j).length = N.length - j) := by unfold Hid; simp
            have k0 : (wc.drewN nq).cell? ⟨b3, o3 + k * 3, none⟩ = some (.int .i64 l[k].f) := e3
            have k1 : (wc.drewN nq).cell? ⟨b3, o3 + k * 3 + 1, none⟩ = some (.int .i64 l[k].l) := e4
            have k2 : (wc.drewN nq).cell? ⟨b3, o3 + k * 3 + 2, none⟩ = some (.int .i64 l[k].t) := e5
            have hb3q : b3 < (wc.drewN nq).heap.size := hb3
            clear hownc hsoc hBx hBw e3 e4 e5
            generalize wc.drewN nq = wq at *
            go_region_held3 (fun w' => w'.cell? ⟨b3, o3 + k * 3, none⟩ = some (.int .i64 l[k].f) ∧ w'.cell? ⟨b3, o3 + k * 3 + 1, none⟩ = some (.int .i64 l[k].l) ∧ w'.cell? ⟨b3, o3 + k * 3 + 2, none⟩ = some (.int .i64 l[k].t) ∧ Below wq.heap.size wq w')
              ((go_split_ands; refine keep3 hb3q k0 k1 k2 ?_; first
                | assumption
                | exact drB _ _
                | exact RowKit.Below.grown (by assumption) hgC (RowKit.Below.size (by assumption)) (fun j0 e => (hoB.lt j0 e).1)
                | exact RowKit.Below.grown (by assumption) hgB (RowKit.Below.size (by assumption)) (fun j0 e => (hoA.lt j0 e).1)
                | exact RowKit.Below.grown (by assumption) hgA (RowKit.Below.size (by assumption)) (fun j0 e => by simp [Value.ownBlock] at e; omega)
                | exact RowKit.Below.alloc (by assumption) (RowKit.Below.size (by assumption)) _
                | exact RowKit.Below.trans (by assumption) (drB _ _)
                | fail))
              (first
                | (go_split_ands; refine step_append_sg (by rfl) _ _ _ (by rfl) (.slice (some ⟨_, 0, none⟩) 0 0) _ j _ (by rfl) (by rfl) wq.heap.size 47 i0 _ Try.underlying22 hi0 hz0 hz1 hz2 rfl [] 0 (N.take j) HNL.out (by omega) (own_empty (by first | exact heap_alloc_new wq _ | exact heap_new1 wq _ _ | exact heap_old1 wq _ _) (by omega)) ((hsoq.below (by assumption)).take j) (RowKit.Below.size (by assumption)) ?_; intro vA wA hoA hgA)
                | (go_split_ands; refine step_append_sg (by rfl) _ _ _ (by rfl) vA (some ⟨_, 0, none⟩) 1 1 (by rfl) (by rfl) wq.heap.size 47 i0 _ Try.underlying22 hi0 hz0 hz1 hz2 rfl ([] ++ N.take j) (0 + j) [l[k]] rfl (by omega) (by first | exact hoA | exact hoA.alloc _) (by first | exact Sg.of_row (l := [l[k]]) (VRow.new wA 47 _) | exact Sg.of_row (l := [l[k]]) ((VRow.new1 wq _ 47 (cat [l[k]])).grown hgA (by simp [Value.ownBlock])) | exact Sg.of_row (l := [l[k]]) (((VRow.new wq 47 (cat [l[k]])).alloc _).grown hgA (by simp [Value.ownBlock])) | exact Sg.of_row (l := [l[k]]) (((VRow.new1 wq _ 47 (cat [l[k]])).dr ⟨1, rfl⟩).grown hgA (by simp [Value.ownBlock])) | exact Sg.of_row (l := [l[k]]) ((((VRow.new wq 47 (cat [l[k]])).alloc _).dr ⟨1, rfl⟩).grown hgA (by simp [Value.ownBlock]))) (RowKit.Below.size (by assumption)) ?_; intro vB wB hoB hgB)
                | (go_split_ands; refine step_append_sg (by rfl) _ _ _ (by rfl) vB _ _ _ (by rfl) (by rfl) wq.heap.size 47 i0 _ Try.underlying22 hi0 hz0 hz1 hz2 rfl ([] ++ N.take j ++ [l[k]]) (0 + j + 1) (N.drop j) (by first | exact HDL.out | simp) (by omega) hoB (by first | exact ((hsoq.below (by assumption)).drop j) | exact .inl (by simp)) (RowKit.Below.size (by assumption)) ?_; intro vC wC hoC hgC)
                | fail)
            all_goals
              go_split_ands
              have hBC : RowKit.Below wq.heap.size wq wC := by assumption
              have hfin := own_conv (ys := norm (l.take (k + 1))) hoC (by rw [HX.out]; simp) hBq.size
              have hBf := hBq.trans (hBC.mono hBq.size)
              clear hoA hgA hoB hgB hoC hgC hBC
              go_wp2
              go_roundw
              case rel => exact ⟨k + 1, by omega, by go_num, hfin, hBf⟩
              case measure => simp [intOf]; omega
        · rcases own_forms hownc with ⟨he, hN0⟩ | ⟨g4, c4, he⟩
          · obtain rfl : N = [] := List.length_eq_zero_iff.1 hN0
            obtain rfl : j = 0 := by simpa using hjN
            simp only [List.length_nil, Value.slice.injEq, true_and] at he
            obtain ⟨rfl, rfl⟩ := he
            have HX : Hid (norm (l.take (k + 1)) = ([] : List Ed).take 0 ++ l[k] :: ([] : List Ed).drop 0) := HNX.out.trans (insE_at HS.out hp.out.1 hp.out.2 (fun h => absurd h hjl))
            go_wp2_with fail
            (refine wp_region_quiet_lit (by kernel_rfl) (by kernel_rfl) ?_; (repeat (first | go_big_quiet_step (fail) | quiet_step (fail))); refine wpQuiet_nil ?_; intro _ hwq; obtain ⟨nq, hwq2⟩ := hwq; subst hwq2)
            go_wp2_with fail
            have hownq : (wc.drewN nq).ownsRow w.heap.size 47 3 (.slice none 0 0) 0 (cat ([] : List Ed)) := hownc
            have hsoq : Sg 3 (wc.drewN nq) edE none ([] : List Ed) := hsoc
            have hBq : Below w.heap.size w (wc.drewN nq) := below_dN hBw nq
            have HNL : Hid ((([] : List Ed).take 0).length = 0) := by unfold Hid; rw [List.length_take]; omega
            have HDL : Hid ((([] : List Ed).drop 0).length = 0 - 0) := by unfold Hid; simp
            have k0 : (wc.drewN nq).cell? ⟨b3, o3 + k * 3, none⟩ = some (.int .i64 l[k].f) := e3
            have k1 : (wc.drewN nq).cell? ⟨b3, o3 + k * 3 + 1, none⟩ = some (.int .i64 l[k].l) := e4
            have k2 : (wc.drewN nq).cell? ⟨b3, o3 + k * 3 + 2, none⟩ = some (.int .i64 l[k].t) := e5
            have hb3q : b3 < (wc.drewN nq).heap.size := hb3
            clear hownc hsoc hBx hBw e3 e4 e5
            generalize wc.drewN nq = wq at *
            go_region_held3 (fun w' => w'.cell? ⟨b3, o3 + k * 3, none⟩ = some (.int .i64 l[k].f) ∧ w'.cell? ⟨b3, o3 + k * 3 + 1, none⟩ = some (.int .i64 l[k].l) ∧ w'.cell? ⟨b3, o3 + k * 3 + 2, none⟩ = some (.int .i64 l[k].t) ∧ Below wq.heap.size wq w')
              ((go_split_ands; refine keep3 hb3q k0 k1 k2 ?_; first
                | assumption
                | exact drB _ _
                | exact RowKit.Below.grown (by assumption) hgC (RowKit.Below.size (by assumption)) (fun j0 e => (hoB.lt j0 e).1)
                | exact RowKit.Below.grown (by assumption) hgB (RowKit.Below.size (by assumption)) (fun j0 e => (hoA.lt j0 e).1)
                | exact RowKit.Below.grown (by assumption) hgA (RowKit.Below.size (by assumption)) (fun j0 e => by simp [Value.ownBlock] at e; omega)
                | exact RowKit.Below.alloc (by assumption) (RowKit.Below.size (by assumption)) _
                | exact RowKit.Below.trans (by assumption) (drB _ _)
                | fail))
              (first
                | (go_split_ands; refine step_append_sg (by rfl) _ _ _ (by rfl) (.slice (some ⟨_, 0, none⟩) 0 0) _ 0 _ (by rfl) (by rfl) wq.heap.size 47 i0 _ Try.underlying22 hi0 hz0 hz1 hz2 rfl [] 0 (([] : List Ed).take 0) HNL.out (by omega) (own_empty (by first | exact heap_alloc_new wq _ | exact heap_new1 wq _ _ | exact heap_old1 wq _ _) (by omega)) ((hsoq.below (by assumption)).take 0) (RowKit.Below.size (by assumption)) ?_; intro vA wA hoA hgA)
                | (go_split_ands; refine step_append_sg (by rfl) _ _ _ (by rfl) vA (some ⟨_, 0, none⟩) 1 1 (by rfl) (by rfl) wq.heap.size 47 i0 _ Try.underlying22 hi0 hz0 hz1 hz2 rfl ([] ++ ([] : List Ed).take 0) (0 + 0) [l[k]] rfl (by omega) (by first | exact hoA | exact hoA.alloc _) (by first | exact Sg.of_row (l := [l[k]]) (VRow.new wA 47 _) | exact Sg.of_row (l := [l[k]]) ((VRow.new1 wq _ 47 (cat [l[k]])).grown hgA (by simp [Value.ownBlock])) | exact Sg.of_row (l := [l[k]]) (((VRow.new wq 47 (cat [l[k]])).alloc _).grown hgA (by simp [Value.ownBlock])) | exact Sg.of_row (l := [l[k]]) (((VRow.new1 wq _ 47 (cat [l[k]])).dr ⟨1, rfl⟩).grown hgA (by simp [Value.ownBlock])) | exact Sg.of_row (l := [l[k]]) ((((VRow.new wq 47 (cat [l[k]])).alloc _).dr ⟨1, rfl⟩).grown hgA (by simp [Value.ownBlock]))) (RowKit.Below.size (by assumption)) ?_; intro vB wB hoB hgB)
                | (go_split_ands; refine step_append_sg (by rfl) _ _ _ (by rfl) vB _ _ _ (by rfl) (by rfl) wq.heap.size 47 i0 _ Try.underlying22 hi0 hz0 hz1 hz2 rfl ([] ++ ([] : List Ed).take 0 ++ [l[k]]) (0 + 0 + 1) (([] : List Ed).drop 0) (by first | exact HDL.out | simp) (by omega) hoB (by first | exact ((hsoq.below (by assumption)).drop 0) | exact .inl (by simp)) (RowKit.Below.size (by assumption)) ?_; intro vC wC hoC hgC)
                | fail)
            all_goals
              go_split_ands
              have hBC : RowKit.Below wq.heap.size wq wC := by assumption
              have hfin := own_conv (ys := norm (l.take (k + 1))) hoC (by rw [HX.out]; simp) hBq.size
              have hBf := hBq.trans (hBC.mono hBq.size)
              clear hoA hgA hoB hgB hoC hgC hBC
              go_wp2
              go_roundw
              case rel => exact ⟨k + 1, by omega, by go_num, hfin, hBf⟩
              case measure => simp [intOf]; omega
          · obtain rfl : j = N.length := by omega
            have HX : Hid (norm (l.take (k + 1)) = N.take N.length ++ l[k] :: N.drop N.length) := HNX.out.trans (insE_at HS.out hp.out.1 hp.out.2 (fun h => absurd h hjl))
            have hd : decide ((N.length : Int) < (N.length : Int)) = false := decide_eq_false (by omega)
            have hd2 : decide (N.length < N.length) = false := decide_eq_false (by omega)
            cases he
            by_cases hcj : co = N.length
            · subst hcj
              go_wp2_with fail
              (refine wp_region_quiet_lit (by kernel_rfl) (by kernel_rfl) ?_; (repeat (first | go_big_quiet_step (fail) | quiet_step (fail))); refine wpQuiet_nil ?_; intro _ hwq; obtain ⟨nq, hwq2⟩ := hwq; subst hwq2)
              go_wp2_with fail
              have hownq : (wc.drewN nq).ownsRow w.heap.size 47 3 (.slice (some ⟨g4, 0, none⟩) N.length N.length) N.length (cat N) := hownc
              have hsoq : Sg 3 (wc.drewN nq) edE (some ⟨g4, 0, none⟩) N := hsoc
              have hBq : Below w.heap.size w (wc.drewN nq) := below_dN hBw nq
              have HNL : Hid ((N.take N.length).length = N.length) := by unfold Hid; rw [List.length_take]; omega
              have HDL : Hid ((N.drop N.length).length = N.length - N.length) := by unfold Hid; simp
              have k0 : (wc.drewN nq).cell? ⟨b3, o3 + k * 3, none⟩ = some (.int .i64 l[k].f) := e3
              have k1 : (wc.drewN nq).cell? ⟨b3, o3 + k * 3 + 1, none⟩ = some (.int .i64 l[k].l) := e4
              have k2 : (wc.drewN nq).cell? ⟨b3, o3 + k * 3 + 2, none⟩ = some (.int .i64 l[k].t) := e5
              have hb3q : b3 < (wc.drewN nq).heap.size := hb3
              clear hownc hsoc hBx hBw e3 e4 e5
              generalize wc.drewN nq = wq at *
              go_region_held3 (fun w' => w'.cell? ⟨b3, o3 + k * 3, none⟩ = some (.int .i64 l[k].f) ∧ w'.cell? ⟨b3, o3 + k * 3 + 1, none⟩ = some (.int .i64 l[k].l) ∧ w'.cell? ⟨b3, o3 + k * 3 + 2, none⟩ = some (.int .i64 l[k].t) ∧ Below wq.heap.size wq w')
                ((go_split_ands; refine keep3 hb3q k0 k1 k2 ?_; first
                  | assumption
                  | exact drB _ _
                  | exact RowKit.Below.grown (by assumption) hgC (RowKit.Below.size (by assumption)) (fun j0 e => (hoB.lt j0 e).1)
                  | exact RowKit.Below.grown (by assumption) hgB (RowKit.Below.size (by assumption)) (fun j0 e => (hoA.lt j0 e).1)
                  | exact RowKit.Below.grown (by assumption) hgA (RowKit.Below.size (by assumption)) (fun j0 e => by simp [Value.ownBlock] at e; omega)
                  | exact RowKit.Below.alloc (by assumption) (RowKit.Below.size (by assumption)) _
                  | exact RowKit.Below.trans (by assumption) (drB _ _)
                  | fail))
                (first
                  | (go_split_ands; refine step_append_sg (by rfl) _ _ _ (by rfl) (.slice (some ⟨_, 0, none⟩) 0 0) _ N.length _ (by rfl) (by rfl) wq.heap.size 47 i0 _ Try.underlying22 hi0 hz0 hz1 hz2 rfl [] 0 (N.take N.length) HNL.out (by omega) (own_empty (by first | exact heap_alloc_new wq _ | exact heap_new1 wq _ _ | exact heap_old1 wq _ _) (by omega)) ((hsoq.below (by assumption)).take N.length) (RowKit.Below.size (by assumption)) ?_; intro vA wA hoA hgA)
                  | (go_split_ands; refine step_append_sg (by rfl) _ _ _ (by rfl) vA (some ⟨_, 0, none⟩) 1 1 (by rfl) (by rfl) wq.heap.size 47 i0 _ Try.underlying22 hi0 hz0 hz1 hz2 rfl ([] ++ N.take N.length) (0 + N.length) [l[k]] rfl (by omega) (by first | exact hoA | exact hoA.alloc _) (by first | exact Sg.of_row (l := [l[k]]) (VRow.new wA 47 _) | exact Sg.of_row (l := [l[k]]) ((VRow.new1 wq _ 47 (cat [l[k]])).grown hgA (by simp [Value.ownBlock])) | exact Sg.of_row (l := [l[k]]) (((VRow.new wq 47 (cat [l[k]])).alloc _).grown hgA (by simp [Value.ownBlock])) | exact Sg.of_row (l := [l[k]]) (((VRow.new1 wq _ 47 (cat [l[k]])).dr ⟨1, rfl⟩).grown hgA (by simp [Value.ownBlock])) | exact Sg.of_row (l := [l[k]]) ((((VRow.new wq 47 (cat [l[k]])).alloc _).dr ⟨1, rfl⟩).grown hgA (by simp [Value.ownBlock]))) (RowKit.Below.size (by assumption)) ?_; intro vB wB hoB hgB)
                  | (go_split_ands; refine step_append_sg (by rfl) _ _ _ (by rfl) vB _ _ _ (by rfl) (by rfl) wq.heap.size 47 i0 _ Try.underlying22 hi0 hz0 hz1 hz2 rfl ([] ++ N.take N.length ++ [l[k]]) (0 + N.length + 1) (N.drop N.length) (by first | exact HDL.out | simp) (by omega) hoB (by first | exact ((hsoq.below (by assumption)).drop N.length) | exact .inl (by simp)) (RowKit.Below.size (by assumption)) ?_; intro vC wC hoC hgC)
                  | fail)
              all_goals
                go_split_ands
                have hBC : RowKit.Below wq.heap.size wq wC := by assumption
                have hfin := own_conv (ys := norm (l.take (k + 1))) hoC (by rw [HX.out]; simp) hBq.size
                have hBf := hBq.trans (hBC.mono hBq.size)
                clear hoA hgA hoB hgB hoC hgC hBC
                go_wp2
                go_roundw
                case rel => exact ⟨k + 1, by omega, by go_num, hfin, hBf⟩
                case measure => simp [intOf]; omega
            · have hI4 : (N.length : Int) ≤ (co : Int) := by omega
              go_wp2_with fail
              (refine wp_region_quiet_lit (by kernel_rfl) (by kernel_rfl) ?_; (repeat (first | go_big_quiet_step (fail) | quiet_step (fail))); refine wpQuiet_nil ?_; intro _ hwq; obtain ⟨nq, hwq2⟩ := hwq; subst hwq2)
              go_wp2_with fail
              have hownq : (wc.drewN nq).ownsRow w.heap.size 47 3 (.slice (some ⟨g4, 0, none⟩) N.length co) N.length (cat N) := hownc
              have hsoq : Sg 3 (wc.drewN nq) edE (some ⟨g4, 0, none⟩) N := hsoc
              have hBq : Below w.heap.size w (wc.drewN nq) := below_dN hBw nq
              have HNL : Hid ((N.take N.length).length = N.length) := by unfold Hid; rw [List.length_take]; omega
              have HDL : Hid ((N.drop N.length).length = N.length - N.length) := by unfold Hid; simp
              have k0 : (wc.drewN nq).cell? ⟨b3, o3 + k * 3, none⟩ = some (.int .i64 l[k].f) := e3
              have k1 : (wc.drewN nq).cell? ⟨b3, o3 + k * 3 + 1, none⟩ = some (.int .i64 l[k].l) := e4
              have k2 : (wc.drewN nq).cell? ⟨b3, o3 + k * 3 + 2, none⟩ = some (.int .i64 l[k].t) := e5
              have hb3q : b3 < (wc.drewN nq).heap.size := hb3
              clear hownc hsoc hBx hBw e3 e4 e5
              generalize wc.drewN nq = wq at *
              go_region_held3 (fun w' => w'.cell? ⟨b3, o3 + k * 3, none⟩ = some (.int .i64 l[k].f) ∧ w'.cell? ⟨b3, o3 + k * 3 + 1, none⟩ = some (.int .i64 l[k].l) ∧ w'.cell? ⟨b3, o3 + k * 3 + 2, none⟩ = some (.int .i64 l[k].t) ∧ Below wq.heap.size wq w')
                ((go_split_ands; refine keep3 hb3q k0 k1 k2 ?_; first
                  | assumption
                  | exact drB _ _
                  | exact RowKit.Below.grown (by assumption) hgC (RowKit.Below.size (by assumption)) (fun j0 e => (hoB.lt j0 e).1)
                  | exact RowKit.Below.grown (by assumption) hgB (RowKit.Below.size (by assumption)) (fun j0 e => (hoA.lt j0 e).1)
                  | exact RowKit.Below.grown (by assumption) hgA (RowKit.Below.size (by assumption)) (fun j0 e => by simp [Value.ownBlock] at e; omega)
                  | exact RowKit.Below.alloc (by assumption) (RowKit.Below.size (by assumption)) _
                  | exact RowKit.Below.trans (by assumption) (drB _ _)
                  | fail))
                (first
                  | (go_split_ands; refine step_append_sg (by rfl) _ _ _ (by rfl) (.slice (some ⟨_, 0, none⟩) 0 0) _ N.length _ (by rfl) (by rfl) wq.heap.size 47 i0 _ Try.underlying22 hi0 hz0 hz1 hz2 rfl [] 0 (N.take N.length) HNL.out (by omega) (own_empty (by first | exact heap_alloc_new wq _ | exact heap_new1 wq _ _ | exact heap_old1 wq _ _) (by omega)) ((hsoq.below (by assumption)).take N.length) (RowKit.Below.size (by assumption)) ?_; intro vA wA hoA hgA)
                  | (go_split_ands; refine step_append_sg (by rfl) _ _ _ (by rfl) vA (some ⟨_, 0, none⟩) 1 1 (by rfl) (by rfl) wq.heap.size 47 i0 _ Try.underlying22 hi0 hz0 hz1 hz2 rfl ([] ++ N.take N.length) (0 + N.length) [l[k]] rfl (by omega) (by first | exact hoA | exact hoA.alloc _) (by first | exact Sg.of_row (l := [l[k]]) (VRow.new wA 47 _) | exact Sg.of_row (l := [l[k]]) ((VRow.new1 wq _ 47 (cat [l[k]])).grown hgA (by simp [Value.ownBlock])) | exact Sg.of_row (l := [l[k]]) (((VRow.new wq 47 (cat [l[k]])).alloc _).grown hgA (by simp [Value.ownBlock])) | exact Sg.of_row (l := [l[k]]) (((VRow.new1 wq _ 47 (cat [l[k]])).dr ⟨1, rfl⟩).grown hgA (by simp [Value.ownBlock])) | exact Sg.of_row (l := [l[k]]) ((((VRow.new wq 47 (cat [l[k]])).alloc _).dr ⟨1, rfl⟩).grown hgA (by simp [Value.ownBlock]))) (RowKit.Below.size (by assumption)) ?_; intro vB wB hoB hgB)
                  | (go_split_ands; refine step_append_sg (by rfl) _ _ _ (by rfl) vB _ _ _ (by rfl) (by rfl) wq.heap.size 47 i0 _ Try.underlying22 hi0 hz0 hz1 hz2 rfl ([] ++ N.take N.length ++ [l[k]]) (0 + N.length + 1) (N.drop N.length) (by first | exact HDL.out | simp) (by omega) hoB (by first | exact ((hsoq.below (by assumption)).drop N.length) | exact .inl (by simp)) (RowKit.Below.size (by assumption)) ?_; intro vC wC hoC hgC)
                  | fail)
              all_goals
                go_split_ands
                have hBC : RowKit.Below wq.heap.size wq wC := by assumption
                have hfin := own_conv (ys := norm (l.take (k + 1))) hoC (by rw [HX.out]; simp) hBq.size
                have hBf := hBq.trans (hBC.mono hBq.size)
                clear hoA hgA hoB hgB hoC hgC hBC
                go_wp2
                go_roundw
                case rel => exact ⟨k + 1, by omega, by go_num, hfin, hBf⟩
                case measure => simp [intOf]; omega
    · obtain rfl : k = l.length := by omega
      rw [List.take_length] at hown
      go_wp2
      go_ret
      exact ⟨_, rfl, hown, hB⟩
end Go.Proofs.Ytlgjhmenjfmpfaa
