/-
  Words, plain lemmas and walks, merged: Nf, Ng, Nn, Nh, Ni, Nq, No, Nr, Ns, Nj, Nk, Nt, Law, Nv, Aa, Ma, Ia, Mm, Hm, Ho.
-/
import Derived.Test.YtocbhlohcikapaaGreatDoorZtc
import Derived.Lib.SlBy
import Derived.Test.YtocbhlohcikapaaGreatDoorZtb
import Derived.Lib.OwnBridge
import Derived.Laws.AppendOwnNone
import Derived.Lib.AppendZeros
import Derived.Test.YtocbhlohcikapaaGreatDoorRows
import Derived.ProofKit
import Derived.OpenShut
import Derived.ShutString
import Derived.SliceStrings
import Derived.Lib.SmallJoins
import Derived.Deep.Slices
import Derived.Deep.Fields
import Derived.ChangeSame
import Derived.RangeFuncNested
import Derived.RangeFuncBound
import Derived.RangeFuncCalls
import Derived.RangeFuncLeaves
import Derived.Shelf.Abstract
import Derived.Shelf.RegionOpen
import Derived.OwnWalkIn
import Derived.TacticsInMore
import Derived.LoopNIn
import Derived.LoopIn
import Derived.Test.YtocbhlohcikapaaGreatDoorProg
set_option linter.unusedVariables false
set_option linter.unusedSimpArgs false
namespace Go.Proofs.YtocbhlohcikapaaGreatDoor
open Go.RowKit Go.Sort
theorem Tab.dr {w w' : World} {base B n q : Nat} {bs : Nat → Nat} {T : Nat → Nat → Int} (h : Tab w base B n q bs T) (hD : Dr w w') : Tab w' base B n q bs T := h.later (hD.below _)
theorem cg_get {C : List Int} {s : Nat} (h : s < C.length) : cg C s = C[s] := by unfold cg; rw [Int.toNat_natCast, List.getD_eq_getElem?_getD, List.getElem?_eq_getElem h]; rfl
theorem Sl.at {α : Type} {w : World} {enc : α → Value} {b off : Nat} {l : List α} (h : Sl w enc (some ⟨b, off, none⟩) l) (k : Nat) (hk : k < l.length) : w.cell? ⟨b, off + k, none⟩ = some (enc l[k]) := by
  obtain ⟨b', o', e, _, hc⟩ := h.get k hk
  cases e
  exact hc k hk
set_option maxRecDepth 100000 in
set_option maxHeartbeats 2000000 in
theorem mpartition1_any (Q n : Nat) (es : List Ed) (C : List Int) (r s bc b1 bg bt B base b2 o2 d : Nat) (bs : Nat → Nat) (w : World) (hn : C.length = n) (hn2 : n ≤ 64) (hq2 : Q ≤ 256) (hr : r < n) (hs : s < n) (ht : ∀ x a : Int, -1 ≤ tgt es x a ∧ (0 ≤ tgt es x a → tgt es x a < n))
    (hc : w.cell? ⟨bc, 0, none⟩ = some (.slice (some ⟨b2, o2, none⟩) n d)) (hC : Sl w (Value.int .i64) (some ⟨b2, o2, none⟩) C) (h1 : w.cell? ⟨b1, 0, none⟩ = some (.int .i64 s)) (hg : w.cell? ⟨bg, 0, none⟩ = some (.int .i64 Q))
    (htc : w.cell? ⟨bt, 0, none⟩ = some (.slice (some ⟨B, 0, none⟩) n n)) (hT : Tab w base B n Q bs (fun s a => tgt es s a)) :
    Calls Tryz.prog 170 #[.int .i64 r, .pointer (some ⟨bc, 0, none⟩), .pointer (some ⟨b1, 0, none⟩), .pointer (some ⟨bg, 0, none⟩), .pointer (some ⟨bt, 0, none⟩)] w fun e w' => e = .returned (.bool (relA Q es C r s)) ∧ Dr w w' := by
  have HT := hidI hT; have HB := hidI ht; have HC := hidI hC; have HN := hidI hn
  have hrl : r < C.length := by omega
  have hsl : s < C.length := by omega
  have er := hC.at r hrl
  have es' := hC.at s hsl
  have hrn : (r : Int) < (n : Int) := by omega
  have hsn : (s : Int) < (n : Int) := by omega
  have HR : Hid (relA Q es C r s = (decide (C[r]'hrl = C[s]'hsl) && alkA Q es C r s)) := by unfold relA; rw [cg_get hrl, cg_get hsl]; rfl
  clear hT ht hC hn
  by_cases h : C[r]'hrl = C[s]'hsl
  · have d1 : (C[r]'hrl != C[s]'hsl) = false := by simpa using h
    have HR2 : Hid (relA Q es C r s = alkA Q es C r s) := by rw [Hid, HR.out, decide_eq_true h]; rfl
    generalize C[r]'hrl = cr at *
    generalize C[s]'hsl = cs at *
    clear h
    go_enter Tryz.func170, Tryz.ntmps170
    go_upto_region 1 with fail
    (refine wp_region_quiet_lit (by kernel_rfl) (by kernel_rfl) ?_; (repeat (first | go_big_quiet_step (fail) | quiet_step (fail))); refine wpQuiet_nil ?_; intro _ hwq; obtain ⟨nq, hwq2⟩ := hwq; subst hwq2)
    have hD0 : Dr w (w.drewN nq) := ⟨nq, rfl⟩
    go_wp2
    clear er es'
    go_loopw [21] (fun iv wr => ∃ k : Nat, k ≤ Q ∧ iv = .int .i64 k ∧ Hid ((List.range k).all (alkB es C r s) = true) ∧ Dr w wr) (fun iv _ => Q - (intOf iv).toNat)
    case atStart => exact ⟨0, by omega, rfl, rfl, hD0⟩
    case round =>
      clear hD0
      obtain ⟨k, hk, rfl, hj, hD⟩ := hrel
      by_cases hlt : k < Q
      · have hltk : (k : Int) < (Q : Int) := by omega
        have hx := HB.out r k
        have hy := HB.out s k
        have tW := HT.out.dr hD
        have hh1 := tW.hd.at r (map_range_get hr)
        have hh2 := tW.hd.at s (map_range_get hs)
        have hr1 := (tW.row r hr).at k (map_range_get hlt)
        have hr2 := (tW.row s hs).at k (map_range_get hlt)
        unfold hdV at hh1 hh2
        simp only [rowV] at hr1 hr2
        have hc' := (hD.cell _).trans hc
        have h1' := (hD.cell _).trans h1
        have htc' := (hD.cell _).trans htc
        have hCW := HC.out.dr hD
        have HA : Hid (alkB es C r s k = (decide ((tgt es r k < 0) ↔ (tgt es s k < 0)) && (decide (tgt es r k < 0) || decide (cg C (tgt es r k) = cg C (tgt es s k))))) := rfl
        clear tW
        generalize tgt es r k = x at *
        generalize tgt es s k = y at *
        go_upto_region 6 with fail
        (refine wp_region_quiet_lit (by kernel_rfl) (by kernel_rfl) ?_; (repeat (first | go_big_quiet_step (fail) | quiet_step (fail))); refine wpQuiet_nil ?_; intro _ hwq; obtain ⟨nq, hwq2⟩ := hwq; subst hwq2)
        clear hh1 hh2 hr1 hr2 htc' h1'
        by_cases h1 : x < 0
        · have ex : x = -1 := by omega
          subst ex
          by_cases h2 : y < 0
          · have ey : y = -1 := by omega
            subst ey
            have HX : Hid ((List.range (k + 1)).all (alkB es C r s) = true) := all_snoc hj.out (by rw [HA.out]; simp)
            clear h1 h2
            go_upto_region 7 with fail
            (refine wp_region_quiet_lit (by kernel_rfl) (by kernel_rfl) ?_; (repeat (first | go_big_quiet_step (fail) | quiet_step (fail))); refine wpQuiet_nil ?_; intro _ hwq; obtain ⟨nq, hwq2⟩ := hwq; subst hwq2)
            go_wp2
            go_roundw
            case rel => exact ⟨k + 1, by omega, by go_num, HX, hD.one _⟩
            case measure => simp [intOf]; omega
          · have d2 : (y == -1) = false := by simp; omega
            have HX : Hid (alkA Q es C r s = false) := all_miss hlt (by rw [HA.out]; simp [h2])
            clear h1 h2
            go_upto_region 7 with fail
            (refine wp_region_quiet_lit (by kernel_rfl) (by kernel_rfl) ?_; (repeat (first | go_big_quiet_step (fail) | quiet_step (fail))); refine wpQuiet_nil ?_; intro _ hwq; obtain ⟨nq, hwq2⟩ := hwq; subst hwq2)
            go_wp2
            go_ret
            exact ⟨ret_bool (HR2.out.trans HX.out).symm, (hD.one _).one _⟩
        · have d1 : (x == -1) = false := by simp; omega
          have d1' : (x != -1) = true := by simp; omega
          by_cases h2 : y < 0
          · have ey : y = -1 := by omega
            subst ey
            have HX : Hid (alkA Q es C r s = false) := all_miss hlt (by rw [HA.out]; simp [h1])
            clear h1 h2
            go_upto_region 7 with fail
            (refine wp_region_quiet_lit (by kernel_rfl) (by kernel_rfl) ?_; (repeat (first | go_big_quiet_step (fail) | quiet_step (fail))); refine wpQuiet_nil ?_; intro _ hwq; obtain ⟨nq, hwq2⟩ := hwq; subst hwq2)
            go_wp2
            go_ret
            exact ⟨ret_bool (HR2.out.trans HX.out).symm, (hD.one _).one _⟩
          · have d2 : (y == -1) = false := by simp; omega
            obtain ⟨X, rfl⟩ : ∃ X : Nat, x = X := ⟨x.toNat, by omega⟩
            obtain ⟨Y, rfl⟩ : ∃ Y : Nat, y = Y := ⟨y.toNat, by omega⟩
            have hX : X < C.length := by have := HN.out; omega
            have hY : Y < C.length := by have := HN.out; omega
            have e1 := hCW.at X hX
            have e2 := hCW.at Y hY
            have hXC : (X : Int) < (n : Int) := by omega
            have hYC : (Y : Int) < (n : Int) := by omega
            have HCX := hidI (cg_get hX); have HCY := hidI (cg_get hY)
            by_cases h3 : C[X] = C[Y]
            · have d3 : (C[X] != C[Y]) = false := by simpa using h3
              have HX : Hid ((List.range (k + 1)).all (alkB es C r s) = true) := all_snoc hj.out (by rw [HA.out, HCX.out, HCY.out]; simp [h1, h2, h3])
              generalize C[X] = u at *
              generalize C[Y] = v at *
              clear h1 h2 h3
              go_upto_region 7 with fail
              (refine wp_region_quiet_lit (by kernel_rfl) (by kernel_rfl) ?_; (repeat (first | go_big_quiet_step (fail) | quiet_step (fail))); refine wpQuiet_nil ?_; intro _ hwq; obtain ⟨nq, hwq2⟩ := hwq; subst hwq2)
              go_wp2
              go_roundw
              case rel => exact ⟨k + 1, by omega, by go_num, HX, hD.one _⟩
              case measure => simp [intOf]; omega
            · have d3 : (C[X] != C[Y]) = true := by simpa using h3
              have HX : Hid (alkA Q es C r s = false) := all_miss hlt (by rw [HA.out, HCX.out, HCY.out]; simp [h1, h2, h3])
              generalize C[X] = u at *
              generalize C[Y] = v at *
              clear h1 h2
              go_upto_region 7 with fail
              (refine wp_region_quiet_lit (by kernel_rfl) (by kernel_rfl) ?_; (repeat (first | go_big_quiet_step (fail) | quiet_step (fail))); refine wpQuiet_nil ?_; intro _ hwq; obtain ⟨nq, hwq2⟩ := hwq; subst hwq2)
              go_wp2
              go_ret
              exact ⟨ret_bool (HR2.out.trans HX.out).symm, (hD.one _).one _⟩
      · have hltk : ¬ (k : Int) < (Q : Int) := by omega
        have HX : Hid (alkA Q es C r s = true) := by obtain rfl : k = Q := by omega
                                                     exact hj.out
        go_wp2
        go_ret
        exact ⟨ret_bool (HR2.out.trans HX.out).symm, hD⟩
  · have d1 : (C[r]'hrl != C[s]'hsl) = true := by simpa using h
    have HR2 : Hid (relA Q es C r s = false) := by rw [Hid, HR.out, decide_eq_false h]; rfl
    generalize C[r]'hrl = cr at *
    generalize C[s]'hsl = cs at *
    clear h
    go_enter Tryz.func170, Tryz.ntmps170
    go_upto_region 1 with fail
    (refine wp_region_quiet_lit (by kernel_rfl) (by kernel_rfl) ?_; (repeat (first | go_big_quiet_step (fail) | quiet_step (fail))); refine wpQuiet_nil ?_; intro _ hwq; obtain ⟨nq, hwq2⟩ := hwq; subst hwq2)
    go_wp2
    go_ret
    exact ⟨ret_bool HR2.out.symm, ⟨nq, rfl⟩⟩
end Go.Proofs.YtocbhlohcikapaaGreatDoor
namespace Go.Proofs.YtocbhlohcikapaaGreatDoor
open Go.RowKit Go.Sort
theorem idxFrom_or {α : Type} [Inhabited α] (p : α → Bool) (d : α) : ∀ (zs : List α) (i : Nat), (∃ k, ∃ h : k < zs.length, p zs[k] = true ∧ Lib.idxByFrom (fun _ y => p y) d zs i = ((i + k : Nat) : Int)) ∨ ((∀ k (h : k < zs.length), p zs[k] = false) ∧ Lib.idxByFrom (fun _ y => p y) d zs i = -1)
  | [], i => .inr ⟨fun k h => absurd h (by simp), rfl⟩
  | y :: zs, i => by
    cases h : p y
    · rcases idxFrom_or p d zs (i + 1) with ⟨k, hk, h1, h2⟩ | ⟨h1, h2⟩
      · refine .inl ⟨k + 1, by simpa using hk, by simpa using h1, ?_⟩
        rw [Lib.idxByFrom, h]
        simp only [Bool.false_eq_true, if_false]
        rw [h2]; congr 1; omega
      · refine .inr ⟨fun k hk => ?_, ?_⟩
        · cases k with
          | zero => exact h
          | succ k => simpa using h1 k (by simpa using hk)
        · rw [Lib.idxByFrom, h]; simp only [Bool.false_eq_true, if_false]; exact h2
    · refine .inl ⟨0, by simp, h, ?_⟩
      rw [Lib.idxByFrom, h]; simp
theorem idx_num {R : Nat → Nat → Bool} (hE : Eqv R) (s : Nat) (p : Nat → Bool) (hp : ∀ y ∈ frsR R s, p y = R y s) :
    (fstR R s = false ∧ Lib.idxBy (fun _ y => p y) (frsR R s) default = numR R s ∧ 0 ≤ numR R s) ∨ (fstR R s = true ∧ Lib.idxBy (fun _ y => p y) (frsR R s) default = -1 ∧ numR R s = ((frsR R s).length : Int)) := by
  rcases idxFrom_or p default (frsR R s) 0 with ⟨k, hk, h1, h2⟩ | ⟨h1, h2⟩
  · rw [hp _ (List.getElem_mem hk)] at h1
    obtain ⟨h3, h4⟩ := numR_old hE hk h1
    exact .inl ⟨h3, by rw [h4]; unfold Lib.idxBy; rw [h2]; congr 1; omega, by rw [h4]; omega⟩
  · obtain ⟨h3, h4⟩ := numR_none hE (fun k hk => by rw [← hp _ (List.getElem_mem hk)]; exact h1 k hk)
    exact .inr ⟨h3, h2, h4⟩
def nowV (R : Nat → Nat → Bool) (N s : Nat) : List Value := ((List.range s).map (numR R) ++ List.replicate (N - s) 0).map (Value.int .i64)
theorem nowV_zero (R : Nat → Nat → Bool) (N : Nat) : nowV R N 0 = List.replicate N (.int .i64 0) := by simp [nowV]
theorem nowV_get (R : Nat → Nat → Bool) {N s : Nat} (h : s < N) : (nowV R N s)[s]? = some (.int .i64 0) := by
  unfold nowV
  rw [List.getElem?_map, List.getElem?_append_right (by simp), List.getElem?_replicate]
  simp; omega
theorem nowV_set (R : Nat → Nat → Bool) {N s : Nat} (h : s < N) : (nowV R N s).set s (.int .i64 (numR R s)) = nowV R N (s + 1) := by
  unfold nowV
  obtain ⟨m, hm⟩ : ∃ m, N - s = m + 1 := ⟨N - s - 1, by omega⟩
  rw [hm, show N - (s + 1) = m by omega, List.range_succ, List.replicate_succ, List.map_append, List.set_append_right _ _ (by simp), List.length_map, List.length_map, List.length_range, Nat.sub_self]
  simp
theorem nowV_end (R : Nat → Nat → Bool) (N : Nat) : nowV R N N = ((List.range N).map (numR R)).map (Value.int .i64) := by simp [nowV]
structure Pcx (G : Gr) (p : Option Addr) (c : Nat) (gb bt bc B b2 base N Q : Nat) (bs : Nat → Nat) (C : List Int) (w : World) : Prop where
  g : VRow w gb 24 [.int .i64 Q, .int .i64 N, .slice p G.es.length c]
  t : VRow w bt 72 [.slice (some ⟨B, 0, none⟩) N N]
  T : Tab w base B N Q bs (fun s a => tgt G.es s a)
  c : VRow w bc 30 [.slice (some ⟨b2, 0, none⟩) N N]
  r : VRow w b2 3 (C.map (Value.int .i64))
  n1 : bc ≠ gb
  n2 : bc ≠ bt
  n3 : bc ≠ B
  n4 : ∀ s, s < N → bs s ≠ bc
  n5 : b2 ≠ bc
section
variable {G : Gr} {p : Option Addr} {c gb bt bc B b2 base N Q : Nat} {bs : Nat → Nat} {C : List Int} {w w' : World}
theorem Pcx.later (h : Pcx G p c gb bt bc B b2 base N Q bs C w) (hB : RowKit.Below w.heap.size w w') : Pcx G p c gb bt bc B b2 base N Q bs C w' :=
  ⟨h.g.below hB h.g.lt, h.t.below hB h.t.lt, h.T.later hB, h.c.below hB h.c.lt, h.r.below hB h.r.lt, h.n1, h.n2, h.n3, h.n4, h.n5⟩
theorem Pcx.turn {C' : List Int} {b3 : Nat} (h : Pcx G p c gb bt bc B b2 base N Q bs C w) (hr : VRow w b3 3 (C'.map (Value.int .i64))) (hn : b3 ≠ bc) :
    Pcx G p c gb bt bc B b3 base N Q bs C' (w.setCell ⟨bc, 0, none⟩ (.slice (some ⟨b3, 0, none⟩) N N)) :=
  ⟨h.g.other _ (Ne.symm h.n1), h.t.other _ (Ne.symm h.n2), ⟨h.T.hd.other _ (Ne.symm h.n3), fun s hs => (h.T.row s hs).other _ (h.n4 s hs), h.T.inj, h.T.lo, h.T.ne⟩, h.c.set (i := 0) _, hr.other _ hn, h.n1, h.n2, h.n3, h.n4, hn⟩
end
theorem cell_al {w : World} {b i : Nat} {v : Value} (o : Obj) (h : w.cell? ⟨b, i, none⟩ = some v) : (w.alloc o).cell? ⟨b, i, none⟩ = some v :=
  (((RowKit.Below.refl _ _).alloc (Nat.le_refl _) o).cell (p := ⟨b, i, none⟩) (World.block_lt_of_cell? w _ h)).trans h
theorem own_snoc {w : World} {B e n s : Nat} {v : Value} {R : Nat → Nat → Bool} (h : w.ownsRow B e 1 v (n + 1) ((frsR R s).map (fun (x : Nat) => Value.int .i64 (x : Int)) ++ [.int .i64 (s : Int)])) (hf : frsR R (s + 1) = frsR R s ++ [s]) :
    ∃ q d, v = .slice q (frsR R (s + 1)).length d ∧ w.ownsRow B e 1 (.slice q (frsR R (s + 1)).length d) (frsR R (s + 1)).length ((frsR R (s + 1)).map (fun (x : Nat) => Value.int .i64 (x : Int))) := by
  have e1 : (frsR R s).map (fun (x : Nat) => Value.int .i64 (x : Int)) ++ [.int .i64 (s : Int)] = (frsR R (s + 1)).map (fun (x : Nat) => Value.int .i64 (x : Int)) := by rw [hf, List.map_append]; rfl
  rw [e1] at h
  have hn : (frsR R (s + 1)).length = n + 1 := by have := h.1; simpa using this
  obtain ⟨q, d, rfl, _⟩ := own_sl (enc := fun (x : Nat) => Value.int .i64 (x : Int)) h
  refine ⟨q, d, rfl, ?_⟩
  rw [← hn] at h; exact h
def encM (N : Nat) (x : Nat) : Value := .int .i64 ((x % N : Nat) : Int)
def frsV (R : Nat → Nat → Bool) (s : Nat) : List Value := (frsR R s).map (fun (x : Nat) => Value.int .i64 (x : Int))
set_option maxHeartbeats 1000000 in
theorem indexI_frs {G : Gr} {p : Option Addr} {c gb bt bc B b2 base N Q : Nat} {bs : Nat → Nat} {C : List Int} {W : World} (hP : Pcx G p c gb bt bc B b2 base N Q bs C W) (hC : C.length = N) (hN : N ≤ 64) (hQ : Q ≤ 256) (ht : ∀ x a : Int, -1 ≤ tgt G.es x a ∧ (0 ≤ tgt G.es x a → tgt G.es x a < N))
    {s sb B1 : Nat} {fv : Value} (hs : s < N) (hb : W.cell? ⟨sb, 0, none⟩ = some (.int .i64 s)) (hown : W.ownsRow B1 3 1 fv (frsR (relA Q G.es C) s).length (frsV (relA Q G.es C) s)) :
    Calls Tryz.prog 169 #[fv, .func (.func 170) #[] #[.pointer (some ⟨bc, 0, none⟩), .pointer (some ⟨sb, 0, none⟩), .pointer (some ⟨gb, 0, none⟩), .pointer (some ⟨bt, 0, none⟩)]] W fun e w' =>
      e = .returned (.int .i64 (if fstR (relA Q G.es C) s = true then -1 else numR (relA Q G.es C) s)) ∧ Dr W w' := by
  have hE := relA_eqv Q G.es C
  have hmod : ∀ y ∈ frsR (relA Q G.es C) s, y % N = y := fun y hy => Nat.mod_eq_of_lt (by have := (mem_frsR.1 hy).1; omega)
  have hidx := idx_num hE s (fun y => relA Q G.es C (y % N) s) (fun y hy => by rw [hmod y hy])
  rcases hown.2 with ⟨rfl, h0⟩ | ⟨g, cap, cur, rfl, hg, hh, hc, hm, hsz, htk⟩
  · have he : frsR (relA Q G.es C) s = [] := List.length_eq_zero_iff.1 h0
    rw [he] at hidx
    refine (Tryz.slices_IndexFunc_empty_f169 (α := Nat) none 0 _ W).mono ?_
    rintro e w' ⟨rfl, rfl⟩
    refine ⟨?_, Dr.refl _⟩
    rcases hidx with ⟨_, h2, h3⟩ | ⟨h1, _, _⟩
    · exfalso
      have : Lib.idxBy (fun _ y => relA Q G.es C (y % N) s) ([] : List Nat) default = -1 := rfl
      omega
    · rw [if_pos h1]
  · have eg : ∀ args w, (callFunc 170 args).run Tryz.prog w = .ok (.enter 170 args) w := enters_of Tryz.func170 (by kernel_rfl) rfl
    have hcell : ∀ j, j < (frsR (relA Q G.es C) s).length → W.cell? ⟨g, 0 + j, none⟩ = some (encM N (frsR (relA Q G.es C) s)[j]!) := by
      intro j hj
      rw [Nat.zero_add, hown.cellAt j (by omega), getElem!_pos _ j hj]
      unfold encM
      rw [hmod _ (List.getElem_mem hj)]
      simp [frsV, hj]
    have hp : PredAt Tryz.prog 170 #[.pointer (some ⟨bc, 0, none⟩), .pointer (some ⟨sb, 0, none⟩), .pointer (some ⟨gb, 0, none⟩), .pointer (some ⟨bt, 0, none⟩)] (encM N) (fun y => relA Q G.es C (y % N) s) W := fun W' x hB => by
      have hP' := hP.later hB
      exact mpartition1_any Q N G.es C (x % N) s bc sb gb bt B base b2 0 N bs W' hC hN hQ (Nat.mod_lt _ (by omega)) hs ht (hP'.c.at 0 rfl) (Sl.of_vrow hP'.r) ((hB.cell (World.block_lt_of_cell? W _ hb)).trans hb) (hP'.g.at 0 rfl) (hP'.t.at 0 rfl) hP'.T
    have hlen := frsR_len (relA Q G.es C) s
    refine (Tryz.slices_IndexFunc_f169 (encM N) (fun y => relA Q G.es C (y % N) s) 170 _ eg g 0 (frsR (relA Q G.es C) s).length cap (frsR (relA Q G.es C) s) W hp (Nat.le_refl _) (by omega) hcell).mono ?_
    rintro e w' ⟨rfl, hq⟩
    refine ⟨?_, hq⟩
    rw [List.take_length]
    rcases hidx with ⟨h1, h2, h3⟩ | ⟨h1, h2, h3⟩
    · rw [if_neg (by simp [h1]), h2]
    · rw [if_pos h1, h2]
set_option maxRecDepth 100000 in
set_option maxHeartbeats 4000000 in
theorem mpartition_any (G : Gr) (p : Option Addr) (c : Nat) (w : World) (hin : Sg 3 w edE p G.es) (hv : Vg G) (hu : Uq G.es) :
    Calls Tryz.prog 114 #[(.agg #[.int .i64 G.q, .int .i64 G.n, .slice p G.es.length c])] w fun e w' => ∃ b, e = .returned (.slice (some ⟨b, 0, none⟩) (clA G).length (clA G).length) ∧ w.heap.size ≤ b ∧ VRow w' b 3 ((clA G).map (Value.int .i64)) ∧ RowKit.Below w.heap.size w w' := by
  obtain ⟨i0, hi0, hz0, hz1, hz3⟩ := info_parts infoJ
  have HV := hidI hv; have HU := hidI hu; have HIN0 := hidI hin
  obtain ⟨N, hN⟩ : ∃ N : Nat, G.n = N := ⟨G.n.toNat, by have := hv.n1; omega⟩
  obtain ⟨Q, hQ⟩ : ∃ Q : Nat, G.q = Q := ⟨G.q.toNat, by have := hv.q1; omega⟩
  have hN64 : N ≤ 64 := by have := hv.n2; omega
  have hQ256 : Q ≤ 256 := by have := hv.q2; omega
  have HCL : Hid (clA G = clsN Q N G.es N) := by unfold Hid clA; rw [hN, hQ]; rfl
  have hlcl : (clA G).length = N := by rw [HCL.out, clsN_len]
  have HTB : Hid (∀ x a : Int, -1 ≤ tgt G.es x a ∧ (0 ≤ tgt G.es x a → tgt G.es x a < N)) := fun x a => by have := tgt_bd hv x a; rw [hN] at this; exact this
  have HOF := hidI (fun W (hW : Sg 3 W edE p G.es) => mof_any G p c Q W hW hv hu (by omega) hQ256)
  rw [hN, hQ] at HOF
  have HOF : Hid (∀ W, Sg 3 W edE p G.es → Calls Tryz.prog 55 #[.agg #[.int .i64 (Q : Int), .int .i64 (N : Int), .slice p G.es.length c], .int .i64 Q] W (RetTab N Q (fun s a => tgt G.es s a) W)) := HOF
  rw [hlcl, hN, hQ]
  obtain ⟨w0, hw0⟩ : ∃ w0, w0 = w.alloc (.cells #[.int .i64 (Q : Int), .int .i64 (N : Int), .slice p G.es.length c] 24) := ⟨_, rfl⟩
  have b0 : VRow w0 w.heap.size 24 [.int .i64 (Q : Int), .int .i64 (N : Int), .slice p G.es.length c] := by subst hw0; exact VRow.new w _ _
  have hB0 : RowKit.Below w.heap.size w w0 := by subst hw0; exact (RowKit.Below.refl _ _).alloc (Nat.le_refl _) _
  have zb : w.heap.size < w0.heap.size := b0.lt
  clear hin hv hu hN hQ hlcl
  go_enter Tryz.func114, Tryz.ntmps114
  go_upto_region 1 with fail
  rw [← hw0]
  clear hw0
  have g0 := b0.at 0 rfl; have g1 := b0.at 1 rfl; have g2 := b0.at 2 rfl
  go_wp2_with fail
  refine (HOF.out w0 (HIN0.out.below hB0)).mono ?_
  rintro e w1 ⟨B, bs, rfl, hT, hB1⟩
  have r1 := b0.below hB1 zb
  clear g0 g1 g2 b0
  obtain ⟨w2, hw2⟩ : ∃ w2, w2 = w1.alloc (.cells #[.slice (some ⟨B, 0, none⟩) N N] 72) := ⟨_, rfl⟩
  have t2 : VRow w2 w1.heap.size 72 [.slice (some ⟨B, 0, none⟩) N N] := by subst hw2; exact VRow.new w1 _ _
  have hB2 : RowKit.Below w1.heap.size w1 w2 := by subst hw2; exact (RowKit.Below.refl _ _).alloc (Nat.le_refl _) _
  have hT2 := hT.later hB2
  have r2 := r1.below hB2 r1.lt
  have g1 := r2.at 1 rfl
  rw [hw2] at g1
  have hsz1 := hB1.size
  have hne1 : w.heap.size ≠ w1.heap.size := by omega
  have hTlt : B < w1.heap.size := hT.hd.lt
  have hTbs : ∀ s, s < N → bs s < w1.heap.size := fun s hs => (hT.row s hs).lt
  have y1 := hB0.trans (hB1.mono hB0.size)
  have y2 := y1.trans (hB2.mono y1.size)
  have hs2 : w2.heap.size = w1.heap.size + 1 := by subst hw2; simp
  go_wp2_with (at_make; refine wpList_make_full _ rfl _ _ 30 rfl w1.heap.size 3 i0 (.int .i64 0) 1 Tryz.underlying30 hi0 hz0 hz1 .i64 .i64 _ _ N rfl rfl (by omega) (by omega) (by rw [hz3]; omega) (by unfold maxLen; omega) (by simp) ?_; intro w3 hown hgrow; have gA := hgrow.cell g1 (by simp); have gB := cell_al (.cells #[.slice (some ⟨w1.heap.size + 1, 0, none⟩) N N] 30) gA)
  have hgr : w2.grownBy w3 none := by rw [hw2]; exact hgrow
  have hB3 : RowKit.Below w2.heap.size w2 w3 := (RowKit.Below.refl _ _).grown hgr (Nat.le_refl _) (by simp)
  have hr3 := made_rowJ hown
  rw [World.size_alloc] at hr3
  have hB4 : RowKit.Below w3.heap.size w3 (w3.alloc (.cells #[.slice (some ⟨w1.heap.size + 1, 0, none⟩) N N] 30)) := (RowKit.Below.refl _ _).alloc (Nat.le_refl _) _
  have c4 : VRow (w3.alloc (.cells #[.slice (some ⟨w1.heap.size + 1, 0, none⟩) N N] 30)) w3.heap.size 30 [.slice (some ⟨w1.heap.size + 1, 0, none⟩) N N] := VRow.new w3 _ _
  have hb3 : w1.heap.size + 1 < w3.heap.size := hr3.lt
  have hP : Pcx G p c w.heap.size w1.heap.size w3.heap.size B (w1.heap.size + 1) w0.heap.size N Q bs (clsN Q N G.es 0) (w3.alloc (.cells #[.slice (some ⟨w1.heap.size + 1, 0, none⟩) N N] 30)) :=
    ⟨(r2.below hB3 r2.lt).below hB4 (by omega), (t2.below hB3 t2.lt).below hB4 (by omega), (hT2.later hB3).later hB4, c4, by have := hr3.below hB4 hr3.lt; simpa [clsN] using this, by omega, by omega, by omega, fun s hs => by have := hTbs s hs; omega, by omega⟩
  have y3 := y2.trans (hB3.mono y2.size)
  have y4 := y3.trans (hB4.mono y3.size)
  generalize w3.alloc (.cells #[.slice (some ⟨w1.heap.size + 1, 0, none⟩) N N] 30) = w4 at *
  have hbase : w.heap.size ≤ w3.heap.size := y3.size
  have hb20 : w.heap.size ≤ w1.heap.size + 1 := by omega
  clear hown hgrow gA gB g1 hgr hB3 hr3 hB4 c4 hT2 r2 t2 hT r1 hB2 hw2 hs2 y1 y2 y3
  generalize w1.heap.size + 1 = b20 at *
  generalize w1.heap.size = bt at *
  generalize w3.heap.size = bc at *
  obtain ⟨gb, hgb⟩ : ∃ gb, gb = w.heap.size := ⟨_, rfl⟩
  rw [← hgb] at hP ⊢
  clear hgb
  go_loopw [5] (fun nv wr => ∃ (k b2 : Nat), nv = .int .i64 (mcA N (clsN Q N G.es k) : Nat) ∧ k ≤ mcA N (clsN Q N G.es k) ∧ Pcx G p c gb bt bc B b2 w0.heap.size N Q bs (clsN Q N G.es k) wr ∧ w.heap.size ≤ b2 ∧ RowKit.Below w.heap.size w wr) (fun nv _ => N - (intOf nv).toNat)
  case atStart => exact ⟨0, b20, by rw [mcA_zero]; congr 1; omega, Nat.zero_le _, hP, by omega, y4⟩
  case round =>
    clear hP y4
    obtain ⟨k, b2, rfl, hk, hP, hb2, hB⟩ := hrel
    have hmc := mcA_max (n := N) (clsN Q N G.es k)
    have HSM := hidI (@cls_same Q N G.es k)
    have HMS := hidI (@mcA_succ Q N G.es k)
    have HEND := hidI (fun h => @cls_end Q N G.es k hk h)
    have HMO := hidI (fun h => @cls_more Q N G.es k hk h)
    have hCl := @clsN_len Q N G.es k
    have HC1 : Hid (clsN Q N G.es (k + 1) = (List.range N).map (numR (relA Q G.es (clsN Q N G.es k)))) := rfl
    have gx := hP.g.at 1 rfl
    obtain ⟨wo, rfl⟩ : ∃ wo : World, wo = wr := ⟨_, rfl⟩
    go_wp2_with (at_make; refine wpList_make_full _ rfl _ _ 30 rfl wo.heap.size 3 i0 (.int .i64 0) 1 Tryz.underlying30 hi0 hz0 hz1 .i64 .i64 _ _ N rfl rfl (by omega) (by omega) (by rw [hz3]; omega) (by unfold maxLen; omega) (Nat.le_refl _) ?_; intro w5 hown hgrow)
    have hr5 := made_rowJ hown
    have hB5 : RowKit.Below wo.heap.size wo w5 := (RowKit.Below.refl _ _).grown hgrow (Nat.le_refl _) (by simp)
    have hlt5 := hr5.lt
    clear hown hgrow gx
    rw [← nowV_zero (relA Q G.es (clsN Q N G.es k)) N] at hr5
    generalize hCC : clsN Q N G.es k = C at *
    go_loopw [6, 25] (fun fv iv wx => ∃ (s : Nat) (q : Option Addr) (d : Nat), s ≤ N ∧ iv = .int .i64 s ∧ fv = .slice q (frsR (relA Q G.es C) s).length d ∧ wx.ownsRow w5.heap.size 3 1 (.slice q (frsR (relA Q G.es C) s).length d) (frsR (relA Q G.es C) s).length (frsV (relA Q G.es C) s) ∧ VRow wx wo.heap.size 3 (nowV (relA Q G.es C) N s) ∧ RowKit.Below wo.heap.size wo wx ∧ w5.heap.size ≤ wx.heap.size) (fun _ iv _ => N - (intOf iv).toNat)
    case atStart => exact ⟨0, none, 0, by omega, rfl, rfl, World.ownsRow_nil _ _ _ _, hr5, hB5, Nat.le_refl _⟩
    case round =>
      clear hr5 hB5
      obtain ⟨s, q, d, hs, rfl, rfl, hown, hrow, hBx, hsz⟩ := hrel
      by_cases hlt : s < N
      · have hltI : (s : Int) < (N : Int) := by omega
        have hPx := hP.later hBx
        have hBY : RowKit.Below wr.heap.size wr (wr.alloc (.cells #[.int .i64 s] 3)) := (RowKit.Below.refl _ _).alloc (Nat.le_refl _) _
        have hbx : VRow (wr.alloc (.cells #[.int .i64 s] 3)) wr.heap.size 3 [.int .i64 s] := VRow.new wr _ _
        have HIF := hidI (indexI_frs (hPx.later hBY) hCl hN64 hQ256 HTB.out hlt (hbx.at 0 rfl) (hown.alloc (.cells #[.int .i64 s] 3)))
        have hownY := hown.alloc (.cells #[.int .i64 s] 3)
        have hrowY := hrow.alloc (.cells #[.int .i64 s] 3)
        have hBxY := hBx.trans (hBY.mono hBx.size)
        have hszY : w5.heap.size ≤ (wr.alloc (.cells #[.int .i64 s] 3)).heap.size := Nat.le_trans hsz hBY.size
        have hnb := numR_bd (relA_eqv Q G.es C) s N hlt
        have hfl := frsR_len (relA Q G.es C) N
        have hfs0 := frsR_len (relA Q G.es C) s
        have HGO := hidI (@frsR_go (relA Q G.es C) s)
        have HST := hidI (@frsR_stay (relA Q G.es C) s)
        have HSET := hidI (nowV_set (relA Q G.es C) hlt)
        have HGET := hidI (nowV_get (relA Q G.es C) hlt)
        have HNEW := hidI (@numR_new (relA Q G.es C) s)
        have hjl : ∀ j, (Value.slice q (frsR (relA Q G.es C) s).length d).ownBlock = some j → j < wr.heap.size := fun j e => (hown.lt j e).2
        obtain ⟨wy, hwy⟩ : ∃ wy, wy = wr.alloc (.cells #[.int .i64 s] 3) := ⟨_, rfl⟩
        obtain ⟨yb, hyb⟩ : ∃ yb, yb = wr.heap.size := ⟨_, rfl⟩
        rw [← hwy, ← hyb] at HIF hbx
        rw [← hyb] at hjl
        rw [← hwy] at hownY hrowY hBxY hszY
        clear hown hrow hBx hsz hPx hBY
        go_wp2_with fail
        rw [← hwy, ← hyb]
        clear hwy hyb
        refine HIF.out.mono ?_
        rintro e w7 ⟨rfl, hD⟩
        have hown7 := hownY.dr hD
        have hrow7 := hrowY.dr hD
        have hB7 := hBxY.trans (hD.below _)
        have hsz7 : w5.heap.size ≤ w7.heap.size := by rw [hD.size]; exact hszY
        have hbx7 := (hbx.dr hD).at 0 rfl
        have hlow : wo.heap.size < w5.heap.size := hlt5
        clear hownY hrowY hBxY hszY hbx hD HIF
        cases hfs : fstR (relA Q G.es C) s
        · have HF2 := hidI (HST.out hfs)
          rw [if_neg (by simp)]
          generalize hm : numR (relA Q G.es C) s = m at *
          have hc7 := hrow7.at s HGET.out
          have hf7 := hrow7.frozen s
          have hm0 : ¬ m < 0 := by omega
          clear hfs hm
          go_wp2
          go_roundw
          case rel =>
            refine ⟨s + 1, q, d, by omega, by go_num, by rw [HF2.out], ?_, ?_, hB7.setCell (p := ⟨wo.heap.size, s, none⟩) (Nat.le_refl _) _, by rw [World.size_setCell]; exact hsz7⟩
            · unfold frsV at hown7 ⊢
              rw [HF2.out]
              exact ownsRow_setCell_below (a := ⟨wo.heap.size, s, none⟩) hown7 hlow _
            · rw [← HSET.out]; exact hrow7.set (i := s) _
          case measure => simp [intOf]; omega
        · have HF2 := hidI (HGO.out hfs)
          have HNW := hidI (HNEW.out hfs)
          rw [if_pos rfl]
          have hnew := cell_one_new w7 (.int .i64 (s : Int)) 3
          have hown8 := hown7.alloc (.cells #[.int .i64 (s : Int)] 3)
          have hc7 := hrow7.at s HGET.out
          have hf7 := hrow7.frozen s
          have hal : RowKit.Below w7.heap.size w7 (w7.alloc (.cells #[.int .i64 (s : Int)] 3)) := (RowKit.Below.refl _ _).alloc (Nat.le_refl _) _
          have hrow8 := hrow7.alloc (.cells #[.int .i64 (s : Int)] 3)
          have hbx8 := cell_al (.cells #[.int .i64 (s : Int)] 3) hbx7
          have hB8 := hB7.trans (hal.mono hB7.size)
          clear hfs
          have HGR : Hid (∀ w9, (w7.alloc (.cells #[.int .i64 (s : Int)] 3)).grownBy w9 (Value.slice q (frsR (relA Q G.es C) s).length d).ownBlock → VRow w9 wo.heap.size 3 (nowV (relA Q G.es C) N s) ∧ RowKit.Below wo.heap.size wo w9 ∧ w5.heap.size ≤ w9.heap.size) := fun w9 hg => by
            have hne : some wo.heap.size ≠ (Value.slice q (frsR (relA Q G.es C) s).length d).ownBlock := fun h => by have := (hown8.lt _ h.symm).1; omega
            exact ⟨hrow8.grown hg hne, hB8.grown hg (by have := hB8.size; omega) (fun j e => by have := (hown8.lt j e).1; omega), by have := hg.size; have := hal.size; omega⟩
          have HBX : Hid (∀ w9, (w7.alloc (.cells #[.int .i64 (s : Int)] 3)).grownBy w9 (Value.slice q (frsR (relA Q G.es C) s).length d).ownBlock → w9.cell? ⟨yb, 0, none⟩ = some (.int .i64 s)) := fun w9 hg => hg.cell hbx8 (fun h => by have := hjl _ h.symm; simp at this)
          go_wp2_with (at_builtin; refine wpList_append_own _ rfl _ _ 30 rfl w5.heap.size 3 i0 (.int .i64 0) 1 8 Tryz.underlying30 hi0 hz0 hz1 hz3 rfl (by decide) _ _ _ rfl hown8 ⟨w7.heap.size, 0, none⟩ 1 1 [.int .i64 (s : Int)] rfl rfl hnew (by simp [Value.oneCell']) (by simp only [maxLen]; omega) (by omega) (by rw [World.size_alloc]; omega) ?_; intro v' w9 hown' hgrow _; have hb9 := HBX.out w9 hgrow; obtain ⟨hr9, hB9, hsz9⟩ := HGR.out w9 hgrow; have hc9 := hr9.at s HGET.out; have hf9 := hr9.frozen s)
          have hownS := own_snoc hown' HF2.out
          obtain ⟨q', d', rfl, hownF⟩ := hownS
          clear hown'
          go_roundw
          case rel =>
            refine ⟨s + 1, q', d', by omega, by go_num, rfl, ownsRow_setCell_below (a := ⟨wo.heap.size, s, none⟩) hownF hlow _, ?_, hB9.setCell (p := ⟨wo.heap.size, s, none⟩) (Nat.le_refl _) _, by rw [World.size_setCell]; exact hsz9⟩
            rw [← HSET.out, HNW.out]; exact hr9.set (i := s) _
          case measure => simp [intOf]; omega
      · have hltI : ¬ (s : Int) < (N : Int) := by omega
        obtain rfl : N = s := by omega
        have hPx := hP.later hBx
        rw [nowV_end, ← HC1.out] at hrow
        have hblt := hP.c.lt
        have hPT := hPx.turn hrow (by omega)
        have hBw := (hB.trans (hBx.mono hB.size)).setCell (p := ⟨bc, 0, none⟩) hbase (.slice (some ⟨wo.heap.size, 0, none⟩) N N)
        have hcc := hPx.c.at 0 rfl
        have hcf := hPx.c.frozen 0
        have hct := hPT.c.at 0 rfl
        have hgw := hB.size
        clear hown hsz hP hPx hrow
        by_cases he : (frsR (relA Q G.es C) N).length = mcA N C
        · have he1 : (((frsR (relA Q G.es C) N).length : Int) == (mcA N C : Int)) = true := by simp [he]
          have hsame := HSM.out.1 (HMS.out.trans he)
          have hfin : Hid (clA G = clsN Q N G.es (k + 1)) := by rw [Hid, HCL.out, HEND.out hsame, hsame]
          clear he
          go_wp2
          go_ret
          exact ⟨wo.heap.size, rfl, hgw, by rw [hfin.out]; exact hPT.r, hBw⟩
        · have he1 : (((frsR (relA Q G.es C) N).length : Int) == (mcA N C : Int)) = false := by simp; omega
          have hne : clsN Q N G.es (k + 1) ≠ C := fun h => he (HMS.out.symm.trans (HSM.out.2 h))
          obtain ⟨m1, m2⟩ := HMO.out hne
          have hmm := mcA_max (n := N) (clsN Q N G.es (k + 1))
          have HMS2 := HMS.out
          clear he hne
          go_wp2
          go_roundw
          case rel => exact ⟨k + 1, wo.heap.size, by rw [HMS2], m1, hPT, hgw, hBw⟩
          case measure =>
            rw [HMS2] at m2 hmm
            simp only [intOf, Int.toNat_natCast]
            rw [hCC]
            omega
end Go.Proofs.YtocbhlohcikapaaGreatDoor
namespace Go.Proofs.YtocbhlohcikapaaGreatDoor
open Go.RowKit Go.Sort Go.Shelf Go.Lib
theorem own_downN {w : World} {B B' e n size : Nat} {v : Value} {xs : List Value} (h : w.ownsRow B' e size v n xs) (hB : B ≤ B') : w.ownsRow B e size v n xs := ⟨h.1, h.2.imp id (fun ⟨g, cap, cur, a, b, z⟩ => ⟨g, cap, cur, a, Nat.le_trans hB b, z⟩)⟩
theorem Mp.below' {α β : Type} {kv : α → Value} {ok : α → Prop} {vv : β → Value} {w w' : World} {b : Nat} {f : α → Option β} (h : Mp kv ok vv w b f) (hB : RowKit.Below w.heap.size w w') : Mp kv ok vv w' b f := h.below hB h.lt
end Go.Proofs.YtocbhlohcikapaaGreatDoor
namespace Go.Proofs.YtocbhlohcikapaaGreatDoor
open Go.RowKit Go.Sort Go.Shelf Go.Lib
structure Pd where
  s : Int
  t : Int
  q : Option Addr
  n : Nat
  c : Nat
section
variable {w w' : World} {B : Nat} {l : List Pw} {q : List Pd}
end
end Go.Proofs.YtocbhlohcikapaaGreatDoor
namespace Go.Proofs.YtocbhlohcikapaaGreatDoor
open Go.RowKit Go.Sort Go.Shelf Go.Lib
theorem own_oneI (w : World) (a : Int) : (w.alloc (.cells #[.int .i64 a] 3)).ownsRow w.heap.size 3 1 (.slice (some ⟨w.heap.size, 0, none⟩) 1 1) 1 ([a].map (Value.int .i64)) :=
  ⟨rfl, .inr ⟨w.heap.size, 1, _, rfl, Nat.le_refl _, heap_alloc_new w _, Nat.le_refl _, by simp [maxLen], rfl, rfl⟩⟩
end Go.Proofs.YtocbhlohcikapaaGreatDoor
namespace Go.Proofs.YtocbhlohcikapaaGreatDoor
open Go.RowKit Go.Sort Go.Shelf Go.Lib
def mxC (l : List Int) : Int := l.foldl (fun n x => max n (x + 1)) 0
theorem mxC_snoc (l : List Int) (x : Int) : mxC (l ++ [x]) = max (mxC l) (x + 1) := by simp [mxC]
theorem mxC_gen : ∀ (l : List Int) (a : Int), (∀ x ∈ l, -1 ≤ x ∧ x ≤ 1000) → 0 ≤ a → a ≤ 1001 → 0 ≤ l.foldl (fun n x => max n (x + 1)) a ∧ l.foldl (fun n x => max n (x + 1)) a ≤ 1001
  | [], a, _, h0, h1 => ⟨h0, h1⟩
  | x :: l, a, h, h0, h1 => by
    have hx := h x (by simp)
    exact mxC_gen l (max a (x + 1)) (fun y hy => h y (by simp [hy])) (by omega) (by omega)
def mgE (C : List Int) (x : Ed) : Ed := ⟨cg C x.f, x.l, cg C x.t⟩
def mgA (G : Gr) : Gr × Int := makeA G.q (mxC (clA G)) (G.es.map (mgE (clA G)))
theorem cl_bd {G : Gr} (x : Int) (h : x ∈ clA G) : 0 ≤ x ∧ x < (G.n.toNat : Int) := by
  unfold clA at h
  cases hn : G.n.toNat with
  | zero => rw [hn] at h; simp [clsN] at h
  | succ n =>
    rw [hn] at h
    have h' : x ∈ (List.range (n + 1)).map (numR (relA G.q.toNat G.es (clsN G.q.toNat (n + 1) G.es n))) := h
    obtain ⟨s, hs, rfl⟩ := List.mem_map.1 h'
    have h1 := numR_bd (relA_eqv G.q.toNat G.es (clsN G.q.toNat (n + 1) G.es n)) s (n + 1) (by simpa using hs)
    have h2 := frsR_len (relA G.q.toNat G.es (clsN G.q.toNat (n + 1) G.es n)) (n + 1)
    omega
theorem cl_len (G : Gr) : (clA G).length = G.n.toNat := clsN_len _
theorem mg_snoc (C : List Int) (l : List Ed) (k : Nat) (h : k < l.length) : (l.take (k + 1)).map (mgE C) = (l.take k).map (mgE C) ++ [mgE C l[k]] := by
  rw [List.take_succ_eq_append_getElem h, List.map_append]; rfl
theorem cell_grown {w w' : World} {o : Obj} {row : Option Nat} {n b i : Nat} {v : Value} (hg : ((w.drewN n).alloc o).grownBy w' row) (hc : w.cell? ⟨b, i, none⟩ = some v) (hne : some b ≠ row) : w'.cell? ⟨b, i, none⟩ = some v :=
  hg.cell (cell_al o (show (w.drewN n).cell? ⟨b, i, none⟩ = some v from hc)) hne
def OwnL (n : Nat) (w' : World) (q : Option Addr) (l : List Int) : Prop := l = [] ∨ ∃ b, q = some ⟨b, 0, none⟩ ∧ n ≤ b ∧ VRow w' b 3 (l.map (Value.int .i64))
theorem OwnL.sl {n : Nat} {w' : World} {q : Option Addr} {l : List Int} (h : OwnL n w' q l) : Sl w' (Value.int .i64) q l := by
  rcases h with h | ⟨b, rfl, _, h⟩
  · exact .inl h
  · exact Sl.of_vrow h
theorem OwnL.mono {n m : Nat} {w' : World} {q : Option Addr} {l : List Int} (h : OwnL n w' q l) (hm : m ≤ n) : OwnL m w' q l := h.imp id (fun ⟨b, a, c, d⟩ => ⟨b, a, Nat.le_trans hm c, d⟩)
theorem OwnL.set {n B i : Nat} {w' : World} {q : Option Addr} {l : List Int} (h : OwnL n w' q l) (hB : B < n) (v : Value) : OwnL n (w'.setCell ⟨B, i, none⟩ v) q l := h.imp id (fun ⟨b, a, c, d⟩ => ⟨b, a, c, d.other _ (by omega)⟩)
theorem OwnL.below {n : Nat} {w w' : World} {q : Option Addr} {l : List Int} (h : OwnL n w q l) (hB : RowKit.Below w.heap.size w w') : OwnL n w' q l := h.imp id (fun ⟨b, a, c, d⟩ => ⟨b, a, c, d.below hB d.lt⟩)
theorem sg_boxN {w : World} {B : Nat} {x y : Int} {q : Option Addr} {n c : Nat} {p : Option Addr} {l : List Ed} (hb : VRow w B 24 [.int .i64 x, .int .i64 y, .slice q n c]) (h : Sg 3 w edE p l) (i : Nat) (v : Value) : Sg 3 (w.setCell ⟨B, i, none⟩ v) edE p l := by
  rcases h with h | ⟨b, off, hp, hlt, hc⟩
  · exact .inl h
  · rcases l with _ | ⟨e, l⟩
    · exact .inl rfl
    · have hne : B ≠ b := by
        intro he
        subst he
        have h2 := hc 0 (by simp) 2 (by omega)
        rw [hb.cell] at h2
        rcases off with _ | off
        · simp [edE] at h2
        · simp [edE] at h2
      exact .inr ⟨b, off, hp, by rw [World.size_setCell]; exact hlt, fun i hi j hj => (World.cell?_setCell_far _ _ _ _ hne).trans (hc i hi j hj)⟩
def RetMe (H : Gr) (l : List Int) (k : Int) (w : World) (e : Ending) (w' : World) : Prop :=
  ∃ p c q d, e = .returned (.tuple #[(.agg #[.int .i64 H.q, .int .i64 H.n, .slice p H.es.length c]), .slice q l.length d, .int .i64 k]) ∧ Sg 3 w' edE p H.es ∧ H.es.length ≤ c ∧ OwnL w.heap.size w' q l ∧ RowKit.Below w.heap.size w w'
theorem RetMe.of {x : Gr × List Int × Int} {H : Gr} {l : List Int} {k : Int} {w w' : World} {p q : Option Addr} {c d : Nat} (hx : x = (H, l, k)) (h1 : Sg 3 w' edE p H.es) (h2 : H.es.length ≤ c) (h3 : OwnL w.heap.size w' q l) (hB : RowKit.Below w.heap.size w w') :
    RetMe x.1 x.2.1 x.2.2 w (.returned (.tuple #[(.agg #[.int .i64 H.q, .int .i64 H.n, .slice p H.es.length c]), .slice q l.length d, .int .i64 k])) w' := by
  subst hx; exact ⟨p, c, q, d, rfl, h1, h2, h3, hB⟩
set_option maxRecDepth 100000 in
set_option maxHeartbeats 4000000 in
theorem mmerge_any (G : Gr) (p : Option Addr) (c : Nat) (w : World) (hin : Sg 3 w edE p G.es) (hv : Vg G) (hu : Uq G.es) :
    Calls Tryz.prog 52 #[(.agg #[.int .i64 G.q, .int .i64 G.n, .slice p G.es.length c])] w (RetMe (mgA G).1 (clA G) (mgA G).2 w) := by
  obtain ⟨i0, hi0, hz0, hz1, hz2⟩ := info_parts infoE
  have HIN := hidI hin; have HV := hidI hv
  obtain ⟨w0, hw0⟩ : ∃ w0, w0 = (w.alloc (.cells #[.int .i64 G.q, .int .i64 G.n, .slice p G.es.length c] 24)).alloc (.cells #[.int .i64 0, .int .i64 0, .slice none 0 0] 24) := ⟨_, rfl⟩
  have b0 : VRow w0 w.heap.size 24 [.int .i64 G.q, .int .i64 G.n, .slice p G.es.length c] := by subst hw0; exact (VRow.new w _ _).alloc _
  have b1 : VRow w0 (w.heap.size + 1) 24 [.int .i64 0, .int .i64 0, .slice none 0 0] := by subst hw0; exact VRow.new1 w _ _ _
  have hB0 : RowKit.Below w.heap.size w w0 := by subst hw0; exact ((RowKit.Below.refl _ _).alloc (Nat.le_refl _) _).alloc (by simp) _
  have HP := hidI (mpartition_any G p c w0 (HIN.out.below hB0) hv hu)
  have hs0 : w.heap.size + 2 ≤ w0.heap.size := by subst hw0; simp
  have HBD := hidI (@cl_bd G)
  have HCLN := hidI (cl_len G)
  have HMG : Hid (mgA G = makeA G.q (mxC (clA G)) (G.es.map (mgE (clA G)))) := rfl
  have hn64 : G.n.toNat ≤ 64 := by have := hv.n2; omega
  have hlen := hv.len
  generalize clA G = C at *
  clear hin hv hu
  go_enter Tryz.func52, Tryz.ntmps52
  go_wp2_with fail
  rw [← hw0]
  clear hw0
  refine HP.out.mono ?_
  rintro e w1 ⟨cb, rfl, hcb, hrC, hB1⟩
  have x1 := hB0.trans (hB1.mono hB0.size)
  have c0 := b0.below hB1 b0.lt
  have c1 := b1.below hB1 b1.lt
  have f2 := c0.at 2 rfl
  have hcl64 : C.length ≤ 64 := by have := HCLN.out; omega
  clear hB1 b0 b1 hB0 HP
  go_wp2
  go_loop [6, 18] (fun nv iv => ∃ k : Nat, k ≤ C.length ∧ iv = .int .i64 k ∧ nv = .int .i64 (mxC (C.take k))) (fun _ iv => C.length - (intOf iv).toNat)
  case atStart => exact ⟨0, by omega, rfl, rfl⟩
  case round =>
    obtain ⟨k, hk, rfl, rfl⟩ := hrel
    by_cases hlt : k < C.length
    · have hltI : (k : Int) < (C.length : Int) := by omega
      have e1 := hrC.at k (v := .int .i64 C[k]) (by simp [hlt])
      have hb := HBD.out _ (List.getElem_mem hlt)
      have hm := mxC_gen (C.take k) 0 (fun x hx => by have := HBD.out x (List.mem_of_mem_take hx); omega) (by omega) (by omega)
      have HS : Hid (mxC (C.take (k + 1)) = max (mxC (C.take k)) (C[k] + 1)) := by rw [Hid, List.take_succ_eq_append_getElem hlt, mxC_snoc]
      change 0 ≤ mxC (C.take k) ∧ mxC (C.take k) ≤ 1001 at hm
      generalize mxC (C.take k) = m at *
      generalize C[k] = x at *
      go_wp2
      go_round
      case rel => exact ⟨k + 1, by omega, by go_num, by rw [HS.out]⟩
      case measure => simp [intOf]; omega
    · have hltI : ¬ (k : Int) < (C.length : Int) := by omega
      obtain rfl : k = C.length := by omega
      rw [List.take_length]
      have hm := mxC_gen C 0 (fun x hx => by have := HBD.out x hx; omega) (by omega) (by omega)
      change 0 ≤ mxC C ∧ mxC C ≤ 1001 at hm
      generalize hmx : mxC C = m at *
      have hmx := hidI hmx
      go_wp2
      clear f2
      go_loopw [9, 30] (fun ov iv wr => ∃ k : Nat, k ≤ G.es.length ∧ iv = .int .i64 k ∧ wr.ownsRow w1.heap.size 44 3 ov k (cat ((G.es.take k).map (mgE C))) ∧ RowKit.Below w1.heap.size w1 wr) (fun _ iv _ => G.es.length - (intOf iv).toNat)
      case atStart => exact ⟨0, by omega, rfl, World.ownsRow_nil _ _ _ _, RowKit.Below.refl _ _⟩
      case round =>
        obtain ⟨k, hk, rfl, hown, hB⟩ := hrel
        have xr := x1.trans (hB.mono x1.size)
        have cr := c0.below hB c0.lt
        have cs := c1.below hB c1.lt
        have f0 := cr.at 0 rfl; have f1 := cr.at 1 rfl; have f2 := cr.at 2 rfl
        by_cases hlt : k < G.es.length
        · have hltI : (k : Int) < (G.es.length : Int) := by omega
          obtain ⟨b3, o3, rfl, hb3, e0, e1, e2⟩ := (HIN.out.below xr).get3 k hlt rfl
          have hins := HV.out.ins _ (List.getElem_mem hlt)
          have HNN := hidI (mg_snoc C G.es k hlt)
          generalize (G.es.take k).map (mgE C) = M at *
          generalize hx : G.es[k] = x at *
          obtain ⟨xf, xl, xt⟩ := x
          have hins : 0 ≤ xf ∧ 0 ≤ xl ∧ 0 ≤ xt ∧ xf < G.n ∧ xt < G.n ∧ xl < G.q := hins
          have e0 : wr.cell? ⟨b3, o3 + k * 3, none⟩ = some (.int .i64 xf) := e0
          have e1 : wr.cell? ⟨b3, o3 + k * 3 + 1, none⟩ = some (.int .i64 xl) := e1
          have e2 : wr.cell? ⟨b3, o3 + k * 3 + 2, none⟩ = some (.int .i64 xt) := e2
          obtain ⟨F, rfl⟩ : ∃ F : Nat, xf = F := ⟨xf.toNat, by omega⟩
          obtain ⟨T, rfl⟩ : ∃ T : Nat, xt = T := ⟨xt.toNat, by omega⟩
          have hF : F < C.length := by have := HCLN.out; omega
          have hT : T < C.length := by have := HCLN.out; omega
          have hFI : (F : Int) < (C.length : Int) := by omega
          have hTI : (T : Int) < (C.length : Int) := by omega
          have hbF := HBD.out _ (List.getElem_mem hF)
          have hbT := HBD.out _ (List.getElem_mem hT)
          have HMX : Hid (mgE C ⟨(F : Int), xl, (T : Int)⟩ = ⟨C[F], xl, C[T]⟩) := by
            rw [Hid]; unfold mgE; simp only; rw [cg_get hF, cg_get hT]
          have hrCr := hrC.below hB hrC.lt
          obtain ⟨wb, hwb⟩ : ∃ wb, wb = wr.alloc (.cells #[.int .i64 (F : Int), .int .i64 xl, .int .i64 (T : Int)] 44) := ⟨_, rfl⟩
          have bx : VRow wb wr.heap.size 44 [.int .i64 (F : Int), .int .i64 xl, .int .i64 (T : Int)] := by subst hwb; exact VRow.new wr _ _
          have hBb : RowKit.Below wr.heap.size wr wb := by subst hwb; exact (RowKit.Below.refl _ _).alloc (Nat.le_refl _) _
          have hownb : wb.ownsRow w1.heap.size 44 3 u9 k (cat M) := by subst hwb; exact hown.alloc _
          have hBw := hB.trans (hBb.mono hB.size)
          have hrCb := hrCr.below hBb hrCr.lt
          have k0 := bx.at 0 rfl; have k1 := bx.at 1 rfl; have k2 := bx.at 2 rfl
          have k3 := hrCb.at F (v := .int .i64 (C[F]'hF)) (by simp [hF])
          have k4 := hrCb.at T (v := .int .i64 (C[T]'hT)) (by simp [hT])
          have hnx : some wr.heap.size ≠ u9.ownBlock := fun h => by have := (hown.lt _ h.symm).2; omega
          have hnc : some cb ≠ u9.ownBlock := fun h => by have := (hown.lt _ h.symm).1; have := hrC.lt; omega
          obtain ⟨xb, hxb⟩ : ∃ xb, xb = wr.heap.size := ⟨_, rfl⟩
          rw [← hxb] at hnx
          rw [← hxb] at k0 k1 k2
          generalize C[F]'hF = cf at *
          generalize C[T]'hT = ct at *
          have HBG : Hid (∀ (o : Obj) (wA : World), ((wb.alloc o).drew).grownBy wA u9.ownBlock → RowKit.Below w1.heap.size w1 wA) := fun o wA hg =>
            ((hBw.alloc hBw.size o).trans ((show Dr (wb.alloc o) (wb.alloc o).drew from ⟨1, rfl⟩).below _)).grown hg (by have := hBw.size; show w1.heap.size ≤ (wb.alloc o).heap.size; rw [World.size_alloc]; omega) (fun j e => (hown.lt j e).1)
          go_upto_region 12 with fail
          rw [← hwb, ← hxb]
          clear hwb hxb bx e0 e1 e2 f0 f1 f2
          go_region_held3 (fun w' => w'.cell? ⟨xb, 0, none⟩ = some (.int .i64 (F : Int)) ∧ w'.cell? ⟨xb, 1, none⟩ = some (.int .i64 xl) ∧ w'.cell? ⟨xb, 2, none⟩ = some (.int .i64 (T : Int)) ∧ w'.cell? ⟨cb, F, none⟩ = some (.int .i64 cf) ∧ w'.cell? ⟨cb, T, none⟩ = some (.int .i64 ct))
              (first | (go_split_ands; refine ⟨?_, ?_, ?_, ?_, ?_⟩ <;> first | assumption | (go_keep; done) | exact cell_grown (n := 1) hgA k0 hnx | exact cell_grown (n := 1) hgA k1 hnx | exact cell_grown (n := 1) hgA k2 hnx | exact cell_grown (n := 1) hgA k3 hnc | exact cell_grown (n := 1) hgA k4 hnc))
              (first
                | (go_split_ands; refine step_append_sg (by rfl) _ _ _ (by rfl) u9 (some ⟨_, 0, none⟩) 1 1 (by rfl) (by rfl) w1.heap.size 44 i0 _ Tryz.underlying22 hi0 hz0 hz1 hz2 rfl M k [⟨cf, xl, ct⟩] rfl (by omega) (by first | exact (hownb.dr ⟨1, rfl⟩).alloc _ | exact hownb.alloc _) (by first | exact Sg.of_row (l := [⟨cf, xl, ct⟩]) (VRow.new _ 44 (cat [⟨cf, xl, ct⟩]))) (by have := hBw.size; simp; omega) ?_; intro vA wA hoA hgA))
          all_goals
            have hBf := HBG.out _ _ hgA
            go_wp2
            go_roundw
            case rel => exact ⟨k + 1, by omega, by go_num, by rw [HNN.out, HMX.out]; exact hoA, hBf⟩
            case measure => simp [intOf]; omega
        · have hltI : ¬ (k : Int) < (G.es.length : Int) := by omega
          obtain rfl : k = G.es.length := by omega
          rw [List.take_length] at hown
          obtain ⟨pv, mv, cv, rfl⟩ := own_shape hown
          obtain ⟨hmv, hsv⟩ := sg_len (p' := none) hown
          have hlm : (G.es.map (mgE C)).length ≤ 100000 := by rw [List.length_map]; omega
          have HM : Hid (Calls Tryz.prog 58 #[.int .i64 G.q, .int .i64 m, .slice pv mv cv] wr (RetGo (makeA G.q m (G.es.map (mgE C))).1 (makeA G.q m (G.es.map (mgE C))).2 wr)) := by
            subst hmv; exact gMake_own G.q m (G.es.map (mgE C)) pv cv wr hsv hlm
          rw [← HMG.out] at HM
          clear hmv HMG
          generalize mgA G = R at *
          have hrCr := hrC.below hB hrC.lt
          go_wp2_with fail
          refine HM.out.mono ?_
          rintro e w3 ⟨p3, m3, c3, rfl, hown3, hB3⟩
          have x3 := xr.trans (hB3.mono xr.size)
          have e1 := cs.below hB3 cs.lt
          have hz : w.heap.size + 1 < wr.heap.size := cs.lt
          have hr3 := hrCr.below hB3 hrCr.lt
          clear f0 f1 f2
          obtain ⟨w4, hw4⟩ : ∃ w4, w4 = w3.alloc (.cells #[.int .i64 R.1.q, .int .i64 R.1.n, .slice p3 m3 c3] 24) := ⟨_, rfl⟩
          have hB4 : RowKit.Below w3.heap.size w3 w4 := by subst hw4; exact (RowKit.Below.refl _ _).alloc (Nat.le_refl _) _
          have bn : VRow w4 w3.heap.size 24 [.int .i64 R.1.q, .int .i64 R.1.n, .slice p3 m3 c3] := by subst hw4; exact VRow.new w3 _ _
          obtain ⟨nb, hnb⟩ : ∃ nb, nb = w3.heap.size := ⟨_, rfl⟩
          rw [← hnb] at bn
          have x4 := x3.trans (hB4.mono x3.size)
          have e4 := e1.below hB4 e1.lt
          have hr4 := hr3.below hB4 hr3.lt
          have own4 := hown3.below hB4
          have n0 := bn.at 0 rfl; have n1 := bn.at 1 rfl; have n2 := bn.at 2 rfl
          have j0 := e4.at 0 rfl; have j1 := e4.at 1 rfl; have j2 := e4.at 2 rfl
          have z0 := e4.frozen 0; have z1 := e4.frozen 1; have z2 := e4.frozen 2
          have hne : nb ≠ w.heap.size + 1 := by have := e1.lt; omega
          have hcbn : cb ≠ w.heap.size + 1 := by omega
          go_upto_region 15 with fail
          rw [← hw4, ← hnb]
          clear hw4 hnb
          go_wp2
          have r6 := VRow.set (i := 2) (.slice p3 m3 c3) (VRow.set (i := 1) (.int .i64 R.1.n) (VRow.set (i := 0) (.int .i64 R.1.q) e4))
          have y0 := r6.at 0 rfl; have y1 := r6.at 1 rfl; have y2 := r6.at 2 rfl
          have o6 := ownsRow_setCell_below (a := (⟨w.heap.size + 1, 2, none⟩ : Addr)) (ownsRow_setCell_below (a := (⟨w.heap.size + 1, 1, none⟩ : Addr)) (ownsRow_setCell_below (a := (⟨w.heap.size + 1, 0, none⟩ : Addr)) own4 hz (.int .i64 R.1.q)) hz (.int .i64 R.1.n)) hz (.slice p3 m3 c3)
          have x6 : RowKit.Below w.heap.size w (((w4.setCell (⟨w.heap.size + 1, 0, none⟩ : Addr) (.int .i64 R.1.q)).setCell (⟨w.heap.size + 1, 1, none⟩ : Addr) (.int .i64 R.1.n)).setCell (⟨w.heap.size + 1, 2, none⟩ : Addr) (.slice p3 m3 c3)) :=
            ((x4.setCell (show w.heap.size ≤ w.heap.size + 1 by omega) _).setCell (show w.heap.size ≤ w.heap.size + 1 by omega) _).setCell (show w.heap.size ≤ w.heap.size + 1 by omega) _
          have hr6 := ((hr4.other (C := w.heap.size + 1) (i := 0) (.int .i64 R.1.q) hcbn).other (C := w.heap.size + 1) (i := 1) (.int .i64 R.1.n) hcbn).other (C := w.heap.size + 1) (i := 2) (.slice p3 m3 c3) hcbn
          refine bodyPost_ret (v := .tuple #[.agg #[.int .i64 R.1.q, .int .i64 R.1.n, .slice p3 m3 c3], .slice (some ⟨cb, 0, none⟩) C.length C.length, .int .i64 R.2]) (by simp [results, Tryz.results52, go_sem, y0, y1, y2]) rfl ?_
          obtain ⟨p6, c6, hv, hs6, hc6, _⟩ := own_sg o6
          cases hv
          exact ⟨p3, c3, _, _, rfl, hs6, hc6, .inr ⟨cb, rfl, by omega, hr6⟩, x6⟩
end Go.Proofs.YtocbhlohcikapaaGreatDoor
namespace Go.Proofs.YtocbhlohcikapaaGreatDoor
open Go.RowKit Go.Sort Go.Shelf Go.Lib
theorem equalI_n (l m : List Int) (p p' : Option Addr) (c c' : Nat) (w : World) (hl : Sl w (Value.int .i64) p l) (hm : Sl w (Value.int .i64) p' m) (h1 : l.length ≤ 9223372036854775807) (h2 : m.length ≤ 9223372036854775807) :
    Calls Tryz.prog 20 #[.slice p l.length c, .slice p' m.length c'] w fun e w' => e = .returned (.bool (decide (l = m))) ∧ Dr w w' := by
  by_cases hlen : l.length = m.length
  · rcases Nat.eq_zero_or_pos l.length with h0 | h0
    · have e1 : l = [] := List.length_eq_zero_iff.1 h0
      have e2 : m = [] := List.length_eq_zero_iff.1 (by omega)
      subst e1; subst e2
      refine (Tryz.slices_Equal_int_empty p p' c 0 c' w (by omega)).mono ?_
      rintro e w' ⟨rfl, rfl⟩
      exact ⟨rfl, Dr.refl _⟩
    · obtain ⟨b, off, rfl, hb, hc⟩ := hl.get 0 h0
      obtain ⟨b', off', rfl, hb', hc'⟩ := hm.get 0 (by omega)
      refine (Tryz.slices_Equal_int b off l.length c b' off' m.length c' l m w (Nat.le_refl _) (Nat.le_refl _) h1 h2 (fun j hj => by rw [hc j hj, List.getD_eq_getElem?_getD, List.getElem?_eq_getElem hj]; rfl) (fun j hj => by rw [hc' j hj, List.getD_eq_getElem?_getD, List.getElem?_eq_getElem hj]; rfl)).mono ?_
      rintro e w' ⟨rfl, hD⟩
      rw [List.take_length, List.take_length]
      refine ⟨?_, hD⟩
      by_cases e : l = m <;> simp [e]
  · have hne : l ≠ m := fun e => hlen (by rw [e])
    refine (Tryz.slices_Equal_int_lens p p' l.length c m.length c' w hlen).mono ?_
    rintro e w' ⟨rfl, rfl⟩
    exact ⟨by rw [decide_eq_false hne], Dr.refl _⟩
abbrev GA := {x : Gr × Option Addr × Nat // x.1.es.length ≤ 9223372036854775807}
instance : Inhabited GA := ⟨⟨(⟨0, 0, []⟩, none, 0), by simp⟩⟩
end Go.Proofs.YtocbhlohcikapaaGreatDoor
namespace Go.Proofs.YtocbhlohcikapaaGreatDoor
open Go.ChangeShapes Go.WideShapes Go.ChangeAt Go.RowKit
theorem own : ownKnob Tryz.prog.godebug = none := by kernel_rfl
theorem laidOut : laidOutB Tryz.prog = true := by kernel_rfl
theorem trodAll_below {H : Type} {enc : TypeId × Value → H} {W W' : World} (hb : Below W.heap.size W W') :
    ∀ (ts : List TypeId) (vs : List Value) (ds : List (DataW H)) (p : List MemPlace), (∀ t ∈ ts, Tryz.prog.readableRec t = true ∧ t < Tryz.prog.types.size) →
      DataW.TrodAll enc Tryz.prog W 0 (fun _ => true) true ts vs ds p → (∀ x ∈ p, x.block < W.heap.size) →
      DataW.TrodAll enc Tryz.prog W' 0 (fun b => decide (b < W.heap.size)) true ts vs ds p
  | [], vs, ds, p, _, h, _ => by
    obtain ⟨rfl, rfl, rfl⟩ := trodAll_nil h
    exact trodAll_mk0
  | t :: ts, vs, ds, p, ht, h, hlt => by
    obtain ⟨v, vs', d, ds', p', q', rfl, rfl, rfl, h0, h1⟩ := trodAll_cons h
    exact trodAll_cons_mk (Below.trod laidOut (ht t List.mem_cons_self).1 (ht t List.mem_cons_self).2 h0 hb (fun x hx => hlt x (List.mem_append_left _ hx)))
      (trodAll_below hb ts vs' ds' q' (fun t h => ht t (List.mem_cons_of_mem _ h)) h1 (fun x hx => hlt x (List.mem_append_right _ hx)))
theorem law_post {H : Type} {enc : TypeId × Value → H} {f : Func} {s : ChangeSpec} {W W' : World} {args : Array Value} {ds gs : List (DataW H)} {before : List MemPlace}
    (hW : DataW.Whole enc Tryz.prog f.params.toList s.vars false W args.toList ds gs before) (hv : s.vars = [])
    (hr : f.resultTypes = #[4]) (ht : ∀ t ∈ f.params.toList, Tryz.prog.readableRec t = true ∧ t < Tryz.prog.types.size)
    (hfr : (s.fn H (ds ++ gs)).results = [.lit (.bool true)]) (hfa : (s.fn H (ds ++ gs)).args = ds) (hfv : (s.fn H (ds ++ gs)).vars = [])
    (hB : Below W.heap.size W W') : s.post enc Tryz.prog f false true false false W args (.bool true) W' := by
  have hW' := hW
  obtain ⟨p, q, hA, hV, rfl, hfz, hnd⟩ := hW
  have hlt : ∀ x ∈ p, x.block < W.heap.size := fun x hx => hW'.lt x (List.mem_append_left _ hx)
  refine ⟨ds, gs, _, [] ++ [], p, [], hW', ?_, ?_, ?_, hB.frame _, fun h => by cases h⟩
  · rw [hfr, hr]; exact trodAll_mk1 (shut_bool Tryz.underlying4 true)
  · rw [hfa]; exact trodAll_below hB _ _ _ _ ht hA hlt
  · rw [hfv, hv]; exact rfl
end Go.Proofs.YtocbhlohcikapaaGreatDoor
namespace Go.Proofs.YtocbhlohcikapaaGreatDoor
open Go.Joins Go.ChangeShapes Go.WideShapes Go.ChangeAt Go.RowKit Go.Deep
open Go.ChangeMaps (open_string shut_string)
section
variable {H : Type} {enc : TypeId × Value → H} {P : Program} {w : World} {base : Nat} {spare : Nat → Bool} {held : Bool}
theorem open_slice_fields {t e : TypeId} {fs : Array Field} {fuel : Nat} {cs : List Value} {x : DataW H × List MemPlace} (ht : P.underlying t = some (.slice e)) (he : P.underlying e = some (.struct fs))
    (hone : oneCellFields P fs = true) (hC : P.cellsOf e = fs.size) (h : DataW.trod enc P w base spare held fuel t cs = some x) :
    (cs = [.slice none 0 0] ∧ x = (.nil, [])) ∨
    ∃ (a : Addr) (len cap m : Nat) (D : Nat → DataW H) (Pl : Nat → List MemPlace), cs = [.slice (some a) len cap] ∧ base ≤ a.block ∧ len ≤ cap ∧ cap ≤ maxLen ∧ m = (if spare a.block then cap else len) ∧
      x = (.slice ((List.range len).map D) ((List.range (m - len)).map fun j => D (len + j)), MemPlace.row a (m * fs.size) ++ (List.range m).flatMap Pl) ∧
      ∀ i, i < m → ∃ (ys : List (DataW H × List MemPlace)) (n : Nat), D i = .agg (ys.map (·.1)) ∧ Pl i = ys.flatMap (·.2) ∧ ys.length = fs.size ∧
        ∀ (j : Nat) (f : Field), fs[j]? = some f → ∃ (v : Value) (y : DataW H × List MemPlace), w.cell? (a.add (i * fs.size + j)) = some v ∧ ys[j]? = some y ∧ DataW.trod enc P w base spare held n f.type [v] = some y := by
  rcases open_slice ht h with h0 | ⟨a, len, cap, m, n, D, Pl, hcs, hb, hl, hm, hmm, hx, hi⟩
  · exact .inl h0
  · refine .inr ⟨a, len, cap, m, D, Pl, hcs, hb, hl, hm, hmm, by rw [hC] at hx; exact hx, fun i him => ?_⟩
    obtain ⟨cs', hc, ht'⟩ := hi i him
    rw [hC] at hc
    obtain ⟨ys, n', hn', hy, hlen, hyl, hf⟩ := DataW.trod_struct he ht'
    obtain ⟨_, hcl, hat⟩ := World.cells?_some hc
    simp only [Prod.mk.injEq] at hy
    refine ⟨ys, n', hy.1, hy.2, hyl, fun j f hj => ?_⟩
    obtain ⟨ho, hk⟩ := hone_of hone j f hj
    have hjl : j < fs.size := (Array.getElem?_eq_some_iff.1 hj).1
    have hcell := hat j hjl
    have hv : cs'[j]? = some (cs'[j]'(by omega)) := List.getElem?_eq_getElem (by omega)
    have h1 := hf j f hj
    rw [ho, hk] at h1
    have hone' : (cs'.drop j).take 1 = [cs'[j]'(by omega)] := by
      rw [List.drop_eq_getElem_cons (by omega)]
      rfl
    rw [hone'] at h1
    have hys : ys[j]? = some (ys[j]'(by omega)) := List.getElem?_eq_getElem (by omega)
    refine ⟨_, _, ?_, hys, h1.trans hys⟩
    rw [← Go.Deep.add_add, hcell, hv]
end
theorem list_of {α : Type} {P : Nat → α → Prop} : ∀ (n : Nat), (∀ i, i < n → ∃ x, P i x) → ∃ l : List α, l.length = n ∧ ∀ i (h : i < l.length), P i l[i]
  | 0, _ => ⟨[], rfl, fun i h => by simp at h⟩
  | n + 1, h => by
    obtain ⟨l, hl, hp⟩ := list_of n (fun i hi => h i (by omega))
    obtain ⟨x, hx⟩ := h n (by omega)
    refine ⟨l ++ [x], by simp [hl], fun i hi => ?_⟩
    by_cases h2 : i < l.length
    · rw [List.getElem_append_left h2]; exact hp i h2
    · have : i = n := by simp at hi; omega
      subst this
      subst hl
      simpa using hx
theorem cellsGraph : Tryz.prog.cellsOf 24 = 3 := by kernel_rfl
theorem readGraph : Tryz.prog.readableRec 24 = true ∧ 24 < Tryz.prog.types.size := ⟨by kernel_rfl, of_decide_eq_true (by kernel_rfl)⟩
theorem edges_at {H : Type} {enc : TypeId × Value → H} {W : World} {fuel : Nat} {v : Value} {y : DataW H × List MemPlace}
    (h : DataW.trod enc Tryz.prog W 0 (fun _ => true) true fuel 22 [v] = some y) (hlt : ∀ x ∈ y.2, x.block < W.heap.size) :
    ∃ (p : Option Addr) (l : List Ed) (c : Nat), v = .slice p l.length c ∧ Sg 3 W edE p l ∧ l.length ≤ 9223372036854775807 := by
  rcases open_slice_fields Tryz.underlying22 Tryz.underlying44 (by kernel_rfl) (by kernel_rfl) h with ⟨hcs, hx⟩ | ⟨a, len, cap, m, D, Pl, hcs, _, hl, hm, hmm, hx, hf⟩
  · simp at hcs
    subst hcs
    exact ⟨none, [], 0, rfl, Sg.nil _ _ _ _, by simp⟩
  · simp at hcs
    subst hcs hx
    simp only [if_true] at hmm
    subst hmm
    obtain ⟨l, hll, hp⟩ := list_of (P := fun i (s : Ed) => W.cell? (a.add (i * 3 + 0)) = some (.int .i64 s.f) ∧ W.cell? (a.add (i * 3 + 1)) = some (.int .i64 s.l) ∧ W.cell? (a.add (i * 3 + 2)) = some (.int .i64 s.t)) len (fun i hi => by
      obtain ⟨ys, n, _, _, _, hj⟩ := hf i (by omega)
      obtain ⟨v0, y0, hc0, _, h0⟩ := hj 0 _ rfl
      obtain ⟨v1, y1, hc1, _, h1⟩ := hj 1 _ rfl
      obtain ⟨v2, y2, hc2, _, h2⟩ := hj 2 _ rfl
      obtain ⟨n0, e0, _, _⟩ := DataW.trod_int Tryz.underlying3 h0
      obtain ⟨n1, e1, _, _⟩ := DataW.trod_int Tryz.underlying3 h1
      obtain ⟨n2, e2, _, _⟩ := DataW.trod_int Tryz.underlying3 h2
      simp at e0 e1 e2
      subst e0 e1 e2
      exact ⟨⟨n0, n1, n2⟩, hc0, hc1, hc2⟩)
    subst hll
    refine ⟨some a, l, _, rfl, ?_, by unfold maxLen at hm; omega⟩
    by_cases h0 : l.length = 0
    · exact .inl (List.length_eq_zero_iff.1 h0)
    · obtain ⟨b, off, spot⟩ := a
      have hspot : spot = none := by simpa [Addr.add] using World.cell?_spot (hp 0 (by omega)).1
      subst hspot
      refine .inr ⟨b, off, rfl, hlt (.cell b off) (List.mem_append_left _ (MemPlace.mem_row.2 ⟨0, Nat.mul_pos (by omega) (by decide), by simp⟩)), fun i hi j hj => ?_⟩
      have hc := hp i hi
      have : j = 0 ∨ j = 1 ∨ j = 2 := by omega
      rw [Nat.add_assoc, ← add_plain]
      rcases this with rfl | rfl | rfl
      · rw [hc.1]; rfl
      · rw [hc.2.1]; rfl
      · rw [hc.2.2]; rfl
set_option maxRecDepth 100000 in
theorem graph_in {H : Type} {enc : TypeId × Value → H} {W : World} {ps : List MemPlace} {v : Value} {d : DataW H} {base : Nat} (hval : Value.okWide Tryz.prog W .any base 24 v)
    (h : DataW.Trod enc Tryz.prog W 0 (fun _ => true) true 24 v d ps) (hlt : ∀ x ∈ ps, x.block < W.heap.size) :
    ∃ (G : Gr) (p : Option Addr) (c : Nat), v = .agg #[.int .i64 G.q, .int .i64 G.n, .slice p G.es.length c] ∧ Sg 3 W edE p G.es ∧ G.es.length ≤ 9223372036854775807 := by
  obtain ⟨v0, v1, v2, y0, y1, y2, n, rfl, rfl, rfl, h0, h1, h2⟩ := open_agg3 Tryz.underlying24 (by kernel_rfl) cellsGraph hval h
  obtain ⟨q, e0, _, _⟩ := DataW.trod_int Tryz.underlying3 h0
  obtain ⟨k, e1, _, _⟩ := DataW.trod_int Tryz.underlying3 h1
  simp at e0 e1
  subst e0 e1
  obtain ⟨p, l, c, rfl, s, b⟩ := edges_at h2 (fun x hx => hlt x (List.mem_append_right _ (List.mem_append_right _ hx)))
  exact ⟨⟨q, k, l⟩, p, c, rfl, s, b⟩
end Go.Proofs.YtocbhlohcikapaaGreatDoor
namespace Go.Proofs.YtocbhlohcikapaaGreatDoor
open Go.Joins Go.ChangeShapes Go.WideShapes Go.ChangeAt Go.RowKit Go.Deep
theorem bounds_u8M {q : Int} (h : (Lit.int .u8 q).wf = true) : 0 ≤ q ∧ q ≤ 255 := by
  have := h
  simp [Lit.wf, IntKind.min, IntKind.max, IntKind.bits, IntKind.signed] at this
  exact this
theorem readU8M : Tryz.prog.readableRec 5 = true ∧ 5 < Tryz.prog.types.size := ⟨by kernel_rfl, of_decide_eq_true (by kernel_rfl)⟩
theorem cellsU8M : Tryz.prog.cellsOf 5 = 1 := by kernel_rfl
theorem readU8sM : Tryz.prog.readableRec 56 = true ∧ 56 < Tryz.prog.types.size := ⟨by kernel_rfl, of_decide_eq_true (by kernel_rfl)⟩
theorem u8s_atM {H : Type} {enc : TypeId × Value → H} {W : World} {fuel : Nat} {v : Value} {y : DataW H × List MemPlace}
    (h : DataW.trod enc Tryz.prog W 0 (fun _ => true) true fuel 56 [v] = some y) (hlt : ∀ x ∈ y.2, x.block < W.heap.size) :
    ∃ (p : Option Addr) (l : List Int) (c : Nat), v = .slice p l.length c ∧ Sl W (Value.int .u8) p l ∧ l.length ≤ 9223372036854775807 ∧ ∀ x ∈ l, 0 ≤ x ∧ x ≤ 255 := by
  rcases open_ints Tryz.underlying56 Tryz.underlying5 cellsU8M h with ⟨hcs, hx⟩ | ⟨a, len, cap, zs, hcs, _, hl, hm, hz, hx, hcell, hwf⟩
  · simp at hcs
    subst hcs
    exact ⟨none, [], 0, rfl, Sl.nil _ _ _, by simp, by simp⟩
  · simp at hcs
    subst hcs hx
    simp only [if_true] at hz
    have hlen : (zs.take len).length = len := by simp; omega
    refine ⟨some a, zs.take len, cap, by rw [hlen], ?_, by rw [hlen]; unfold maxLen at hm; omega, fun x hx => bounds_u8M (hwf x (List.mem_of_mem_take hx))⟩
    by_cases h0 : len = 0
    · subst h0; exact .inl (by simp)
    · obtain ⟨b, off, spot⟩ := a
      have hspot : spot = none := by simpa [Addr.add] using World.cell?_spot (hcell 0 (by omega))
      subst hspot
      refine .inr ⟨b, off, rfl, hlt (.cell b off) (MemPlace.mem_row.2 ⟨0, by omega, by simp⟩), fun i hi => ?_⟩
      have hi' : i < zs.length := by rw [hlen] at hi; omega
      rw [← add_plain, hcell i hi']
      simp [List.getD_eq_getElem?_getD, hi']
end Go.Proofs.YtocbhlohcikapaaGreatDoor
namespace Go.Proofs.YtocbhlohcikapaaGreatDoor
open Go.RowKit
def prsR (es : List Ed) (i m : Nat) : List (Nat × Nat) := ((List.range m).filter (fun k => decide ((eget es i).l = (eget es k).l))).map (Prod.mk i)
def prsTo (es : List Ed) : Nat → List (Nat × Nat)
  | 0 => []
  | i + 1 => prsTo es i ++ prsR es i es.length
def prs (es : List Ed) : List (Nat × Nat) := prsTo es es.length
theorem prsTo_succ (es : List Ed) (i : Nat) : prsTo es (i + 1) = prsTo es i ++ prsR es i es.length := rfl
theorem prsR_zero (es : List Ed) (i : Nat) : prsR es i 0 = [] := rfl
theorem prsR_yes {es : List Ed} {i m : Nat} (h : (eget es i).l = (eget es m).l) : prsR es i (m + 1) = prsR es i m ++ [(i, m)] := by
  unfold prsR; rw [List.range_succ, List.filter_append, List.filter_cons_of_pos (by simpa using h)]; simp
theorem prsR_no {es : List Ed} {i m : Nat} (h : (eget es i).l ≠ (eget es m).l) : prsR es i (m + 1) = prsR es i m := by
  unfold prsR; rw [List.range_succ, List.filter_append, List.filter_cons_of_neg (by simpa using h)]; simp
theorem mem_prsR {es : List Ed} {i m : Nat} {p : Nat × Nat} : p ∈ prsR es i m ↔ p.1 = i ∧ p.2 < m ∧ (eget es i).l = (eget es p.2).l := by
  unfold prsR
  rw [List.mem_map]
  constructor
  · rintro ⟨k, hk, rfl⟩
    obtain ⟨h1, h2⟩ := List.mem_filter.1 hk
    exact ⟨rfl, List.mem_range.1 h1, of_decide_eq_true h2⟩
  · rintro ⟨rfl, h1, h2⟩
    exact ⟨p.2, List.mem_filter.2 ⟨List.mem_range.2 h1, decide_eq_true h2⟩, rfl⟩
theorem mem_prsTo {es : List Ed} {p : Nat × Nat} : ∀ {m : Nat}, p ∈ prsTo es m ↔ p.1 < m ∧ p.2 < es.length ∧ (eget es p.1).l = (eget es p.2).l
  | 0 => by simp [prsTo]
  | m + 1 => by
    rw [prsTo_succ, List.mem_append, mem_prsTo, mem_prsR]
    constructor
    · rintro (⟨h1, h2, h3⟩ | ⟨h1, h2, h3⟩)
      · exact ⟨by omega, h2, h3⟩
      · subst h1; exact ⟨by omega, h2, h3⟩
    · rintro ⟨h1, h2, h3⟩
      by_cases e : p.1 = m
      · exact .inr ⟨e, h2, by rw [← e]; exact h3⟩
      · exact .inl ⟨by omega, h2, h3⟩
theorem mem_prs {es : List Ed} {p : Nat × Nat} : p ∈ prs es ↔ p.1 < es.length ∧ p.2 < es.length ∧ (eget es p.1).l = (eget es p.2).l := mem_prsTo
theorem prsR_len (es : List Ed) (i m : Nat) : (prsR es i m).length ≤ m := by
  unfold prsR; rw [List.length_map]; exact Nat.le_trans (List.length_filter_le _ _) (by simp)
theorem prsTo_len (es : List Ed) : ∀ m, (prsTo es m).length ≤ m * es.length
  | 0 => by simp [prsTo]
  | m + 1 => by
    have := prsTo_len es m; have := prsR_len es m es.length
    rw [prsTo_succ, List.length_append, Nat.succ_mul]; omega
def pix (N : Nat) (s t : Int) : Nat := (s * N + t).toNat
def lkB (F : List Bool) (j : Nat) : Bool := F.getD j false
theorem lkB_get {F : List Bool} {j : Nat} (h : j < F.length) : lkB F j = F[j] := by simp [lkB, h]
theorem lkB_out {F : List Bool} {j : Nat} (h : F.length ≤ j) : lkB F j = false := by simp [lkB, List.getElem?_eq_none h]
theorem lkB_set {F : List Bool} {j k : Nat} {v : Bool} (hj : j < F.length) : lkB (F.set j v) k = if j = k then v else lkB F k := by
  unfold lkB
  rw [List.getD_eq_getElem?_getD, List.getD_eq_getElem?_getD, List.getElem?_set]
  split
  · rename_i e; subst e; simp [hj]
  · rfl
theorem pix_lt {N : Nat} {s t : Int} (h0 : 0 ≤ s) (h1 : s < N) (h2 : 0 ≤ t) (h3 : t < N) : pix N s t < N * N := by
  have h : s * N ≤ ((N : Int) - 1) * N := Int.mul_le_mul_of_nonneg_right (by omega) (by omega)
  have h' : 0 ≤ s * N := Int.mul_nonneg h0 (by omega)
  have e : ((N : Int) - 1) * N = N * N - N := by rw [Int.sub_mul, Int.one_mul]
  unfold pix
  have : ((N * N : Nat) : Int) = (N : Int) * N := by simp
  omega
theorem pix_at {N : Nat} {s t : Int} (h0 : 0 ≤ s) (h2 : 0 ≤ t) : ((pix N s t : Nat) : Int) = s * N + t := by
  have h' : 0 ≤ s * N := Int.mul_nonneg h0 (by omega)
  unfold pix; omega
theorem pix_inj {N : Nat} {s t u v : Int} (h0 : 0 ≤ s) (h2 : 0 ≤ t) (h3 : t < N) (k0 : 0 ≤ u) (k2 : 0 ≤ v) (k3 : v < N) (h : pix N s t = pix N u v) : s = u ∧ t = v := by
  have e1 := pix_at (N := N) h0 h2
  have e2 := pix_at (N := N) k0 k2
  rw [h, e2] at e1
  have hs : s = u := by
    rcases Int.lt_trichotomy s u with h | h | h
    · have := Int.mul_le_mul_of_nonneg_right (show s + 1 ≤ u by omega) (show (0 : Int) ≤ N by omega)
      rw [Int.add_mul, Int.one_mul] at this; omega
    · exact h
    · have := Int.mul_le_mul_of_nonneg_right (show u + 1 ≤ s by omega) (show (0 : Int) ≤ N by omega)
      rw [Int.add_mul, Int.one_mul] at this; omega
  subst hs
  exact ⟨rfl, by omega⟩
def pst (N : Nat) (es : List Ed) (fr gt : Ed → Int) (F out : List Bool) (p : Nat × Nat) : List Bool :=
  if lkB F (pix N (fr (eget es p.1)) (fr (eget es p.2))) = true then out.set (pix N (gt (eget es p.1)) (gt (eget es p.2))) true else out
def pTo (N : Nat) (es : List Ed) (fr gt : Ed → Int) (F : List Bool) (l : List (Nat × Nat)) : List Bool := l.foldl (pst N es fr gt F) (List.replicate (N * N) false)
theorem pTo_nil (N : Nat) (es : List Ed) (fr gt : Ed → Int) (F : List Bool) : pTo N es fr gt F [] = List.replicate (N * N) false := rfl
theorem pTo_snoc (N : Nat) (es : List Ed) (fr gt : Ed → Int) (F : List Bool) (l : List (Nat × Nat)) (p : Nat × Nat) : pTo N es fr gt F (l ++ [p]) = pst N es fr gt F (pTo N es fr gt F l) p := by simp [pTo, List.foldl_append]
theorem pst_len (N : Nat) (es : List Ed) (fr gt : Ed → Int) (F out : List Bool) (p : Nat × Nat) : (pst N es fr gt F out p).length = out.length := by unfold pst; split <;> simp
theorem pfold_len (N : Nat) (es : List Ed) (fr gt : Ed → Int) (F : List Bool) : ∀ (l : List (Nat × Nat)) (out : List Bool), (l.foldl (pst N es fr gt F) out).length = out.length
  | [], _ => rfl
  | p :: l, out => by rw [List.foldl_cons, pfold_len N es fr gt F l, pst_len]
theorem pTo_len (N : Nat) (es : List Ed) (fr gt : Ed → Int) (F : List Bool) (l : List (Nat × Nat)) : (pTo N es fr gt F l).length = N * N := by unfold pTo; rw [pfold_len]; simp
theorem lkB_pfold {N : Nat} {es : List Ed} {fr gt : Ed → Int} {F : List Bool} {j : Nat} : ∀ {l : List (Nat × Nat)} {out : List Bool}, (∀ p ∈ l, pix N (gt (eget es p.1)) (gt (eget es p.2)) < out.length) →
    (lkB (l.foldl (pst N es fr gt F) out) j = true ↔ lkB out j = true ∨ ∃ p ∈ l, lkB F (pix N (fr (eget es p.1)) (fr (eget es p.2))) = true ∧ pix N (gt (eget es p.1)) (gt (eget es p.2)) = j)
  | [], out, _ => by simp
  | p :: l, out, h => by
    rw [List.foldl_cons, lkB_pfold (fun q hq => by rw [pst_len]; exact h q (by simp [hq]))]
    have hp := h p (by simp)
    unfold pst
    split
    · rename_i hf
      rw [lkB_set hp]
      constructor
      · rintro (h1 | ⟨q, hq, h1⟩)
        · by_cases e : pix N (gt (eget es p.1)) (gt (eget es p.2)) = j
          · exact .inr ⟨p, by simp, hf, e⟩
          · rw [if_neg e] at h1; exact .inl h1
        · exact .inr ⟨q, by simp [hq], h1⟩
      · rintro (h1 | ⟨q, hq, h1, h2⟩)
        · left; split <;> simp [h1]
        · rcases List.mem_cons.1 hq with e | e
          · subst e; left; rw [if_pos h2]
          · exact .inr ⟨q, e, h1, h2⟩
    · rename_i hf
      constructor
      · rintro (h1 | ⟨q, hq, h1⟩)
        · exact .inl h1
        · exact .inr ⟨q, by simp [hq], h1⟩
      · rintro (h1 | ⟨q, hq, h1, h2⟩)
        · exact .inl h1
        · rcases List.mem_cons.1 hq with e | e
          · subst e; exact absurd h1 hf
          · exact .inr ⟨q, e, h1, h2⟩
def aftF (N : Nat) (es : List Ed) (F : List Bool) : List Bool := pTo N es Ed.f Ed.t F (prs es)
def befF (N : Nat) (es : List Ed) (F : List Bool) : List Bool := pTo N es Ed.t Ed.f F (prs es)
def allF2 (N : Nat) : List Bool := List.replicate (N * N) true
def difB (N : Nat) (F : List Bool) : Bool := (List.range N).any fun s => (List.range N).any fun t => decide (s ≠ t) && lkB F (pix N s t)
def splB (N : Nat) (es : List Ed) (F : List Bool) : Bool := (prs es).any fun p => decide (p.1 ≠ p.2) && (decide ((eget es p.1).f = (eget es p.2).f) && lkB F (pix N (eget es p.1).t (eget es p.2).t))
def lstA (st : List Bool → List Bool) (pr : List Bool → Bool) : Nat → Nat → List Bool → Int × Bool
  | 0, _, _ => (0, false)
  | f + 1, n, F => if pr F = false then ((n : Int), true) else if st F = F then (0, false) else lstA st pr f (n + 1) (st F)
def SubF (F H : List Bool) : Prop := F.length = H.length ∧ ∀ j, lkB F j = true → lkB H j = true
theorem SubF.refl (F : List Bool) : SubF F F := ⟨rfl, fun _ h => h⟩
theorem SubF.trans {F H K : List Bool} (h : SubF F H) (k : SubF H K) : SubF F K := ⟨h.1.trans k.1, fun j e => k.2 j (h.2 j e)⟩
def cntB : List Bool → Nat
  | [] => 0
  | b :: l => (if b = true then 1 else 0) + cntB l
theorem cnt_le : ∀ F : List Bool, cntB F ≤ F.length
  | [] => Nat.le_refl _
  | b :: l => by have := cnt_le l; rw [List.length_cons]; unfold cntB; split <;> omega
theorem SubF.tail {a b : Bool} {F H : List Bool} (h : SubF (a :: F) (b :: H)) : SubF F H ∧ (a = true → b = true) :=
  ⟨⟨by have := h.1; simpa using this, fun j e => h.2 (j + 1) e⟩, fun e => h.2 0 e⟩
theorem SubF.cnt : ∀ {F H : List Bool}, SubF F H → cntB F ≤ cntB H
  | [], [], _ => Nat.le_refl _
  | [], _ :: _, h => by cases h.1
  | _ :: _, [], h => by cases h.1
  | a :: F, b :: H, h => by
    obtain ⟨h1, h2⟩ := h.tail
    have := h1.cnt
    unfold cntB
    cases a <;> cases b
    · simp; omega
    · simp; omega
    · cases h2 rfl
    · simp; omega
theorem SubF.cnt_lt : ∀ {F H : List Bool}, SubF F H → F ≠ H → cntB F < cntB H
  | [], [], _, h => absurd rfl h
  | [], _ :: _, h, _ => by cases h.1
  | _ :: _, [], h, _ => by cases h.1
  | a :: F, b :: H, h, hne => by
    obtain ⟨h1, h2⟩ := h.tail
    have hc := h1.cnt
    unfold cntB
    by_cases e : F = H
    · subst e
      cases a <;> cases b
      · exact absurd rfl hne
      · simp
      · cases h2 rfl
      · exact absurd rfl hne
    · have := h1.cnt_lt e
      cases a <;> cases b
      · simp; omega
      · simp; omega
      · cases h2 rfl
      · simp; omega
structure MonF (M : Nat) (st : List Bool → List Bool) : Prop where
  len : ∀ F, (st F).length = M
  mono : ∀ F H, SubF F H → SubF (st F) (st H)
theorem sub_all {N : Nat} {F : List Bool} (h : F.length = N * N) : SubF F (allF2 N) := ⟨by simp [h, allF2], fun j e => by
  by_cases hj : j < N * N
  · simp [lkB, allF2, hj]
  · rw [lkB_out (by omega)] at e; cases e⟩
structure Chn (M : Nat) (st : List Bool → List Bool) (F : List Bool) : Prop where
  len : F.length = M
  sub : SubF (st F) F
theorem Chn.all {N : Nat} {st : List Bool → List Bool} (h : MonF (N * N) st) : Chn (N * N) st (allF2 N) := ⟨by simp [allF2], sub_all (h.len _)⟩
theorem Chn.next {M : Nat} {st : List Bool → List Bool} (h : MonF M st) {F : List Bool} (c : Chn M st F) : Chn M st (st F) := ⟨h.len _, h.mono _ _ c.sub⟩
theorem Chn.lt {M : Nat} {st : List Bool → List Bool} {F : List Bool} (c : Chn M st F) (hne : st F ≠ F) : cntB (st F) < cntB F := c.sub.cnt_lt hne
theorem pTo_mon {N : Nat} {es : List Ed} {fr gt : Ed → Int} (l : List (Nat × Nat)) (hb : ∀ p ∈ l, pix N (gt (eget es p.1)) (gt (eget es p.2)) < N * N) : MonF (N * N) (fun F => pTo N es fr gt F l) :=
  ⟨fun F => pTo_len _ _ _ _ _ _, fun F H h => ⟨by rw [pTo_len, pTo_len], fun j e => by
    have k := lkB_pfold (fr := fr) (F := F) (j := j) (l := l) (out := List.replicate (N * N) false) (by simpa using hb)
    have k' := lkB_pfold (fr := fr) (F := H) (j := j) (l := l) (out := List.replicate (N * N) false) (by simpa using hb)
    rcases k.1 e with e | ⟨p, hp, h1, h2⟩
    · exact k'.2 (.inl e)
    · exact k'.2 (.inr ⟨p, hp, h.2 _ h1, h2⟩)⟩⟩
theorem Gr.at_ {G : Gr} {k : Nat} (h : k < G.es.length) : eget G.es k ∈ G.es := by rw [eget_eq _ _ h]; exact List.getElem_mem h
theorem aft_mon {G : Gr} (hv : Vg G) {N : Nat} (hN : G.n = N) : MonF (N * N) (aftF N G.es) :=
  pTo_mon _ (fun p hp => by
    obtain ⟨h1, h2, _⟩ := mem_prs.1 hp
    have k1 := hv.ins _ (Gr.at_ h1); have k2 := hv.ins _ (Gr.at_ h2)
    exact pix_lt (by omega) (by omega) (by omega) (by omega))
theorem bef_mon {G : Gr} (hv : Vg G) {N : Nat} (hN : G.n = N) : MonF (N * N) (befF N G.es) :=
  pTo_mon _ (fun p hp => by
    obtain ⟨h1, h2, _⟩ := mem_prs.1 hp
    have k1 := hv.ins _ (Gr.at_ h1); have k2 := hv.ins _ (Gr.at_ h2)
    exact pix_lt (by omega) (by omega) (by omega) (by omega))
def memA (G : Gr) : Int × Bool × Int := if chkG G ≠ 0 then (0, false, 1) else
  ((lstA (aftF G.n.toNat G.es) (difB G.n.toNat) (G.n.toNat * G.n.toNat + 1) 0 (allF2 G.n.toNat)).1, (lstA (aftF G.n.toNat G.es) (difB G.n.toNat) (G.n.toNat * G.n.toNat + 1) 0 (allF2 G.n.toNat)).2, 0)
def antA (G : Gr) : Int × Bool × Int := if chkG G ≠ 0 then (0, false, 1) else
  ((lstA (befF G.n.toNat G.es) (splB G.n.toNat G.es) (G.n.toNat * G.n.toNat + 1) 0 (allF2 G.n.toNat)).1, (lstA (befF G.n.toNat G.es) (splB G.n.toNat G.es) (G.n.toNat * G.n.toNat + 1) 0 (allF2 G.n.toNat)).2, 0)
end Go.Proofs.YtocbhlohcikapaaGreatDoor
namespace Go.Proofs.YtocbhlohcikapaaGreatDoor
open Go.RowKit
def stpI (es : List Ed) : Nat → Int → Int → Prop
  | 0, s, t => s = t
  | n + 1, s, t => ∃ x ∈ es, x.f = s ∧ stpI es n x.t t
def Rch (es : List Ed) (s t : Int) : Prop := ∃ n, stpI es n s t
theorem stpI_app {es : List Ed} : ∀ {n m : Nat} {s t u : Int}, stpI es n s t → stpI es m t u → stpI es (n + m) s u
  | 0, m, s, t, u, h, k => by cases h; rwa [Nat.zero_add]
  | n + 1, m, s, t, u, ⟨x, hx, hf, h⟩, k => by
    rw [Nat.succ_add]
    exact ⟨x, hx, hf, stpI_app h k⟩
theorem Rch.refl {es : List Ed} (s : Int) : Rch es s s := ⟨0, rfl⟩
theorem Rch.trans {es : List Ed} {s t u : Int} (h : Rch es s t) (k : Rch es t u) : Rch es s u := by
  obtain ⟨n, h⟩ := h; obtain ⟨m, k⟩ := k
  exact ⟨n + m, stpI_app h k⟩
theorem Rch.edge {es : List Ed} {x : Ed} (h : x ∈ es) : Rch es x.f x.t := ⟨1, x, h, rfl, rfl⟩
theorem Rch.keep {es : List Ed} {P : Int → Prop} (hP : ∀ x ∈ es, P x.f → P x.t) : ∀ {s t : Int}, Rch es s t → P s → P t := by
  rintro s t ⟨n, h⟩
  induction n generalizing s with
  | zero => cases h; exact id
  | succ n ih =>
    obtain ⟨x, hx, rfl, h⟩ := h
    exact fun hs => ih h (hP x hx hs)
def On (L : List Bool) (i : Nat) : Prop := L.getD i false = true
instance (L : List Bool) (i : Nat) : Decidable (On L i) := inferInstanceAs (Decidable (_ = _))
theorem on_set {L : List Bool} {i j : Nat} (hi : i < L.length) : On (L.set i true) j ↔ j = i ∨ On L j := by
  unfold On
  rw [List.getD_eq_getElem?_getD, List.getD_eq_getElem?_getD, List.getElem?_set]
  by_cases h : i = j
  · subst h; simp [hi]
  · rw [if_neg h]
    constructor
    · exact .inr
    · rintro (e | e)
      · exact absurd e.symm h
      · exact e
theorem on_rep (n i : Nat) : ¬ On (List.replicate n false) i := by
  unfold On
  rw [List.getD_eq_getElem?_getD, List.getElem?_replicate]
  split <;> simp
def offs (L : List Bool) : Nat := L.countP (fun b => !b)
theorem offs_set : ∀ {L : List Bool} {i : Nat}, i < L.length → ¬ On L i → offs (L.set i true) + 1 = offs L
  | [], i, h, _ => by simp at h
  | b :: L, 0, _, h => by
    have hb : b = false := by cases b <;> simp_all [On]
    subst hb
    simp [offs]
  | b :: L, i + 1, h, k => by
    have := offs_set (L := L) (i := i) (by simpa using h) (fun e => k (by unfold On at e ⊢; simpa using e))
    unfold offs at this ⊢
    rw [List.set_cons_succ, List.countP_cons, List.countP_cons]; omega
theorem offs_mono : ∀ {L M : List Bool}, L.length = M.length → (∀ i, On L i → On M i) → offs M ≤ offs L
  | [], [], _, _ => Nat.le_refl _
  | [], _ :: _, h, _ => by simp at h
  | _ :: _, [], h, _ => by simp at h
  | a :: L, b :: M, h, k => by
    have ih := offs_mono (L := L) (M := M) (by simpa using h) (fun i e => by have := k (i + 1) (by unfold On at e ⊢; simpa using e); unfold On at this ⊢; simpa using this)
    have h0 := k 0
    unfold offs at ih ⊢
    rw [List.countP_cons, List.countP_cons]
    cases a <;> cases b <;> simp_all [On] <;> omega
theorem offs_rep (n : Nat) : offs (List.replicate n false) = n := by
  unfold offs; simp [List.countP_replicate]
theorem offs_le (L : List Bool) : offs L ≤ L.length := List.countP_le_length
def nxs (es : List Ed) (s : Nat) : List Int := (es.filter (fun x => decide (x.f = (s : Int)))).map Ed.t
theorem mem_nxs {es : List Ed} {s : Nat} {t : Int} : t ∈ nxs es s ↔ ∃ x ∈ es, x.f = (s : Int) ∧ x.t = t := by
  unfold nxs
  rw [List.mem_map]
  constructor
  · rintro ⟨x, hx, rfl⟩
    obtain ⟨h1, h2⟩ := List.mem_filter.1 hx
    exact ⟨x, h1, of_decide_eq_true h2, rfl⟩
  · rintro ⟨x, h1, h2, rfl⟩
    exact ⟨x, List.mem_filter.2 ⟨h1, decide_eq_true h2⟩, rfl⟩
def vis1 (v : List Bool → Nat → List Bool) (L : List Bool) (t : Int) : List Bool := if L.getD t.toNat false = true then L else v L t.toNat
def visA (es : List Ed) : Nat → List Bool → Nat → List Bool
  | 0, L, _ => L
  | f + 1, L, s => (nxs es s).foldl (vis1 (visA es f)) (L.set s true)
def rchA (G : Gr) (s : Nat) : List Bool := visA G.es (G.n.toNat + 1) (List.replicate G.n.toNat false) s
structure Vis (es : List Ed) (L M : List Bool) (ok : Int → Prop) : Prop where
  len : M.length = L.length
  mono : ∀ i, On L i → On M i
  snd : ∀ i : Nat, On M i → On L i ∨ ok i
  cls : ∀ i : Nat, On M i → ¬ On L i → ∀ t ∈ nxs es i, On M t.toNat
theorem visA_ok {es : List Ed} {n : Nat} (hes : ∀ x ∈ es, 0 ≤ x.t ∧ x.t < n) : ∀ (f : Nat) (L : List Bool) (s : Nat), L.length = n → s < n → ¬ On L s → offs L ≤ f → Vis es L (visA es f L s) (fun t => Rch es s t) ∧ On (visA es f L s) s
  | 0, L, s, hl, hs, ho, hf => by
    have := offs_set (by omega) ho; omega
  | f + 1, L, s, hl, hs, ho, hf => by
    have hoff := offs_set (L := L) (i := s) (by omega) ho
    have key : ∀ (ts : List Int) (A : List Bool), (∀ t ∈ ts, ∃ x ∈ es, x.f = (s : Int) ∧ x.t = t) → A.length = n → offs A ≤ f →
        Vis es A (ts.foldl (vis1 (visA es f)) A) (fun t => Rch es s t) ∧ ∀ t ∈ ts, On (ts.foldl (vis1 (visA es f)) A) t.toNat := by
      intro ts
      induction ts with
      | nil => intro A _ _ _; exact ⟨⟨rfl, fun _ h => h, fun _ h => .inl h, fun _ h k => absurd h k⟩, fun _ h => by cases h⟩
      | cons t ts ih =>
        intro A hts hA hfA
        obtain ⟨x, hx, hxf, hxt⟩ := hts t (by simp)
        have hb := hes x hx
        rw [hxt] at hb
        have hR : Rch es s t := by have := Rch.edge hx; rwa [hxf, hxt] at this
        rw [List.foldl_cons]
        have one : Vis es A (vis1 (visA es f) A t) (fun t => Rch es s t) ∧ On (vis1 (visA es f) A t) t.toNat := by
          unfold vis1
          by_cases hon : On A t.toNat
          · rw [if_pos (show A.getD t.toNat false = true from hon)]
            exact ⟨⟨rfl, fun _ h => h, fun _ h => .inl h, fun _ h k => absurd h k⟩, hon⟩
          · rw [if_neg (show ¬ A.getD t.toNat false = true from hon)]
            obtain ⟨v, h2⟩ := visA_ok hes f A t.toNat hA (by omega) hon hfA
            refine ⟨⟨v.len, v.mono, fun i hi => ?_, v.cls⟩, h2⟩
            rcases v.snd i hi with h | h
            · exact .inl h
            · refine .inr (hR.trans ?_)
              have e : ((t.toNat : Nat) : Int) = t := by omega
              rw [← e]; exact h
        obtain ⟨v1, o1⟩ := one
        obtain ⟨v2, o2⟩ := ih (vis1 (visA es f) A t) (fun u hu => hts u (by simp [hu])) (by rw [v1.len]; exact hA) (Nat.le_trans (offs_mono v1.len.symm v1.mono) hfA)
        refine ⟨⟨v2.len.trans v1.len, fun i h => v2.mono i (v1.mono i h), fun i h => ?_, fun i h k => ?_⟩, fun u hu => ?_⟩
        · rcases v2.snd i h with h | h
          · exact v1.snd i h
          · exact .inr h
        · by_cases hm : On (vis1 (visA es f) A t) i
          · exact fun u hu => v2.mono _ (v1.cls i hm k u hu)
          · exact v2.cls i h hm
        · rcases List.mem_cons.1 hu with rfl | hu
          · exact v2.mono _ o1
          · exact o2 u hu
    obtain ⟨v, o⟩ := key (nxs es s) (L.set s true) (fun t ht => mem_nxs.1 ht) (by rw [List.length_set]; exact hl) (by omega)
    show Vis es L ((nxs es s).foldl (vis1 (visA es f)) (L.set s true)) _ ∧ On ((nxs es s).foldl (vis1 (visA es f)) (L.set s true)) s
    have hset : ∀ j, On (L.set s true) j ↔ j = s ∨ On L j := fun j => on_set (by omega)
    refine ⟨⟨by rw [v.len, List.length_set], fun i h => v.mono i ((hset i).2 (.inr h)), fun i h => ?_, fun i h k => ?_⟩, v.mono s ((hset s).2 (.inl rfl))⟩
    · rcases v.snd i h with h | h
      · rcases (hset i).1 h with rfl | h
        · exact .inr (Rch.refl _)
        · exact .inl h
      · exact .inr h
    · by_cases hi : i = s
      · subst hi; exact o
      · exact v.cls i h (fun e => ((hset i).1 e).elim hi k)
theorem rchA_len (G : Gr) (hv : Vg G) {s : Nat} (hs : (s : Int) < G.n) : (rchA G s).length = G.n.toNat := by
  have h := (visA_ok (es := G.es) (n := G.n.toNat) (fun x hx => by have := hv.ins x hx; omega) (G.n.toNat + 1) (List.replicate G.n.toNat false) s (by simp) (by omega) (on_rep _ _) (by rw [offs_rep]; omega)).1.len
  rw [List.length_replicate] at h; exact h
theorem rchA_iff {G : Gr} (hv : Vg G) {s t : Nat} (hs : (s : Int) < G.n) : On (rchA G s) t ↔ Rch G.es s t := by
  obtain ⟨v, o⟩ := visA_ok (es := G.es) (n := G.n.toNat) (fun x hx => by have := hv.ins x hx; omega) (G.n.toNat + 1) (List.replicate G.n.toNat false) s (by simp) (by omega) (on_rep _ _) (by rw [offs_rep]; omega)
  constructor
  · intro h
    rcases v.snd t h with h | h
    · exact absurd h (on_rep _ _)
    · exact h
  · intro h
    have := h.keep (P := fun (u : Int) => On (rchA G s) u.toNat) (fun x hx hf => by
      have hb := hv.ins x hx
      exact v.cls x.f.toNat hf (on_rep _ _) x.t (mem_nxs.2 ⟨x, hx, by omega, rfl⟩)) (by rw [Int.toNat_natCast]; exact o)
    simpa using this
end Go.Proofs.YtocbhlohcikapaaGreatDoor
namespace Go.Proofs.YtocbhlohcikapaaGreatDoor
open Go.RowKit
def dbeg (N : Nat) (es : List Ed) (p : Nat × Nat) : Nat := pix N (eget es p.1).f (eget es p.2).f
def dend (N : Nat) (es : List Ed) (p : Nat × Nat) : Nat := pix N (eget es p.1).t (eget es p.2).t
def dif2 (es : List Ed) (p : Nat × Nat) : Bool := decide ((eget es p.1).f ≠ (eget es p.2).f) && decide ((eget es p.1).t ≠ (eget es p.2).t)
def dnxL (N : Nat) (es : List Ed) (L : List (Nat × Nat)) (n : Nat) : List (Nat × Nat) := L.filter (fun p => dif2 es p && decide (dbeg N es p = n))
def dnx (N : Nat) (es : List Ed) (n : Nat) : List (Nat × Nat) := dnxL N es (prs es) n
theorem dnxL_no {N : Nat} {es : List Ed} {L : List (Nat × Nat)} {p : Nat × Nat} (h : dif2 es p = false) (n : Nat) : dnxL N es (L ++ [p]) n = dnxL N es L n := by
  unfold dnxL; rw [List.filter_append, List.filter_cons_of_neg (by simp [h])]; simp
theorem dnxL_at {N : Nat} {es : List Ed} {L : List (Nat × Nat)} {p : Nat × Nat} (h : dif2 es p = true) : dnxL N es (L ++ [p]) (dbeg N es p) = dnxL N es L (dbeg N es p) ++ [p] := by
  unfold dnxL; rw [List.filter_append, List.filter_cons_of_pos (by simp [h])]; simp
theorem dnxL_off {N : Nat} {es : List Ed} {L : List (Nat × Nat)} {p : Nat × Nat} {n : Nat} (h : n ≠ dbeg N es p) : dnxL N es (L ++ [p]) n = dnxL N es L n := by
  unfold dnxL; rw [List.filter_append, List.filter_cons_of_neg (by simp; intro _ e; exact h e.symm)]; simp
theorem dnxL_len (N : Nat) (es : List Ed) (L : List (Nat × Nat)) (n : Nat) : (dnxL N es L n).length ≤ L.length := List.length_filter_le _ _
theorem mem_dnx {N : Nat} {es : List Ed} {n : Nat} {p : Nat × Nat} (h : p ∈ dnx N es n) : p.1 < es.length ∧ p.2 < es.length := by
  have h1 := mem_prs.1 (List.mem_filter.1 h).1
  exact ⟨h1.1, h1.2.1⟩
theorem dnx_len (N : Nat) (es : List Ed) (n : Nat) (h : es.length ≤ 1024) : (dnx N es n).length ≤ 1048576 := by
  have h1 := dnxL_len N es (prs es) n
  have h2 := prsTo_len es es.length
  have h3 : es.length * es.length ≤ 1024 * 1024 := Nat.mul_le_mul h h
  unfold dnx; unfold prs at h1 ⊢; omega
def shE (N : Nat) (es : List Ed) (s : Nat) : List (Nat × Nat) → List Bool × List Nat → Option (List Bool × List Nat)
  | [], st => some st
  | e :: l, st => if dend N es e = s then none else shE N es s l (if lkB st.1 (dend N es e) = true then st else (st.1.set (dend N es e) true, st.2 ++ [dend N es e]))
theorem shE_append (N : Nat) (es : List Ed) (s : Nat) : ∀ (l m : List (Nat × Nat)) (st : List Bool × List Nat), shE N es s (l ++ m) st = (shE N es s l st).bind (shE N es s m)
  | [], _, _ => rfl
  | e :: l, m, st => by
    rw [List.cons_append]
    unfold shE
    split
    · rfl
    · exact shE_append N es s l m _
theorem shE_met {N : Nat} {es : List Ed} {s : Nat} {l m : List (Nat × Nat)} {e : Nat × Nat} {st st' : List Bool × List Nat} (h : shE N es s l st = some st') (he : dend N es e = s) : shE N es s (l ++ e :: m) st = none := by
  rw [shE_append, h]; show shE N es s (e :: m) st' = none; unfold shE; rw [if_pos he]
theorem shE_old {N : Nat} {es : List Ed} {s : Nat} {l : List (Nat × Nat)} {e : Nat × Nat} {st st' : List Bool × List Nat} (h : shE N es s l st = some st') (he : dend N es e ≠ s) (hl : lkB st'.1 (dend N es e) = true) : shE N es s (l ++ [e]) st = some st' := by
  rw [shE_append, h]; show shE N es s [e] st' = some st'; unfold shE; rw [if_neg he, if_pos hl]; rfl
theorem shE_new {N : Nat} {es : List Ed} {s : Nat} {l : List (Nat × Nat)} {e : Nat × Nat} {st st' : List Bool × List Nat} (h : shE N es s l st = some st') (he : dend N es e ≠ s) (hl : lkB st'.1 (dend N es e) = false) : shE N es s (l ++ [e]) st = some (st'.1.set (dend N es e) true, st'.2 ++ [dend N es e]) := by
  rw [shE_append, h]; show shE N es s [e] st' = some _; unfold shE; rw [if_neg he, if_neg (by simp [hl])]; rfl
structure ShI (M : Nat) (st : List Bool × List Nat) : Prop where
  len : st.1.length = M
  lt : ∀ q ∈ st.2, q < M
  sz : st.2.length + offs st.1 ≤ M
theorem ShI.start {M : Nat} {se : List Bool} (h : se.length = M) : ShI M (se, []) := ⟨h, by simp, by have := offs_le se; simp; omega⟩
theorem ShI.push {M : Nat} {st : List Bool × List Nat} {q : Nat} (h : ShI M st) (hq : q < M) (hl : lkB st.1 q = false) : ShI M (st.1.set q true, st.2 ++ [q]) := by
  have hq' : q < st.1.length := by rw [h.len]; exact hq
  refine ⟨by simp [h.len], fun x hx => ?_, ?_⟩
  · rcases List.mem_append.1 hx with e | e
    · exact h.lt x e
    · rw [List.mem_singleton.1 e]; exact hq
  · have ho := offs_set (L := st.1) (i := q) hq' (by
      intro e; have e' : lkB st.1 q = true := e; rw [hl] at e'; cases e')
    have := h.sz
    rw [List.length_append, List.length_singleton]
    show st.2.length + 1 + offs (st.1.set q true) ≤ M
    omega
def shN (N : Nat) (es : List Ed) (s lim : Nat) : Nat → Nat → List Bool × List Nat → Nat
  | 0, _, _ => lim
  | f + 1, n, st => if n < lim ∧ st.2 ≠ [] then
      match shE N es s (st.2.flatMap (dnx N es)) (st.1, []) with
      | none => n
      | some st' => shN N es s lim f (n + 1) st'
    else lim
def shA (N : Nat) (es : List Ed) (s lim : Nat) : Nat := shN N es s lim lim 1 (List.replicate (N * N) false, [s])
theorem shN_stop {N : Nat} {es : List Ed} {s lim f n : Nat} {st : List Bool × List Nat} (h : ¬ (n < lim ∧ st.2 ≠ [])) : shN N es s lim f n st = lim := by
  cases f with
  | zero => rfl
  | succ f => unfold shN; rw [if_neg h]
theorem shN_met {N : Nat} {es : List Ed} {s lim f n : Nat} {st : List Bool × List Nat} (hf : lim ≤ f + n) (h : n < lim) (h2 : st.2 ≠ []) (hm : shE N es s (st.2.flatMap (dnx N es)) (st.1, []) = none) : shN N es s lim f n st = n := by
  cases f with
  | zero => omega
  | succ f => unfold shN; rw [if_pos ⟨h, h2⟩, hm]
theorem shN_step {N : Nat} {es : List Ed} {s lim f n : Nat} {st st' : List Bool × List Nat} (hf : lim ≤ f + n) (h : n < lim) (h2 : st.2 ≠ []) (hm : shE N es s (st.2.flatMap (dnx N es)) (st.1, []) = some st') : shN N es s lim f n st = shN N es s lim (f - 1) (n + 1) st' := by
  cases f with
  | zero => omega
  | succ f => rw [shN, if_pos ⟨h, h2⟩, hm]; rfl
theorem shN_le (N : Nat) (es : List Ed) (s lim : Nat) : ∀ (f n : Nat) (st : List Bool × List Nat), shN N es s lim f n st ≤ lim
  | 0, _, _ => Nat.le_refl _
  | f + 1, n, st => by
    rw [shN]
    split
    · rename_i h
      split
      · omega
      · exact shN_le N es s lim f _ _
    · exact Nat.le_refl _
theorem shN_ge (N : Nat) (es : List Ed) (s lim : Nat) : ∀ (f n : Nat) (st : List Bool × List Nat), 1 ≤ n → 1 ≤ lim → 1 ≤ shN N es s lim f n st
  | 0, _, _, _, h => h
  | f + 1, n, st, hn, hl => by
    rw [shN]
    split
    · split
      · exact hn
      · exact shN_ge N es s lim f _ _ (by omega) hl
    · exact hl
theorem shA_le (N : Nat) (es : List Ed) (s lim : Nat) : shA N es s lim ≤ lim := shN_le _ _ _ _ _ _ _
theorem shA_ge (N : Nat) (es : List Ed) (s : Nat) {lim : Nat} (h : 1 ≤ lim) : 1 ≤ shA N es s lim := shN_ge _ _ _ _ _ _ _ (Nat.le_refl _) h
def canA (N : Nat) (es : List Ed) (s : Nat) : Nat → List Bool
  | 0 => (List.replicate (N * N) false).set s true
  | k + 1 => (List.range (N * N)).map fun p => (dnx N es p).any fun e => lkB (canA N es s k) (dend N es e)
theorem canA_len (N : Nat) (es : List Ed) (s : Nat) : ∀ k, (canA N es s k).length = N * N
  | 0 => by simp [canA]
  | k + 1 => by simp [canA]
theorem canA_succ {N : Nat} {es : List Ed} {s k p : Nat} (h : lkB (canA N es s (k + 1)) p = true) : (dnx N es p).any (fun e => lkB (canA N es s k) (dend N es e)) = true := by
  by_cases hp : p < N * N
  · rw [lkB_get (by rw [canA_len]; exact hp)] at h
    simpa [canA] using h
  · rw [lkB_out (by rw [canA_len]; omega)] at h; cases h
def cyW (N : Nat) (es : List Ed) (s : Nat) : Nat → Nat → List (Nat × Nat)
  | 0, _ => []
  | k + 1, at_ => match (dnx N es at_).find? (fun e => lkB (canA N es s k) (dend N es e)) with
    | some e => e :: cyW N es s k (dend N es e)
    | none => []
theorem cyW_step {N : Nat} {es : List Ed} {s k a : Nat} (h : lkB (canA N es s (k + 1)) a = true) :
    ∃ e, (dnx N es a).find? (fun e => lkB (canA N es s k) (dend N es e)) = some e ∧ lkB (canA N es s k) (dend N es e) = true ∧ cyW N es s (k + 1) a = e :: cyW N es s k (dend N es e) := by
  obtain ⟨e, he⟩ := Option.isSome_iff_exists.1 (List.find?_isSome.2 (List.any_eq_true.1 (canA_succ h)))
  exact ⟨e, he, by simpa using List.find?_some he, by rw [cyW, he]⟩
theorem cyW_len {N : Nat} {es : List Ed} {s : Nat} : ∀ (k a : Nat), lkB (canA N es s k) a = true → (cyW N es s k a).length = k
  | 0, _, _ => rfl
  | k + 1, a, h => by
    obtain ⟨e, _, h1, h2⟩ := cyW_step h
    rw [h2, List.length_cons, cyW_len k _ h1]
def cycA (N : Nat) (es : List Ed) (s n : Nat) : Option (List (Nat × Nat)) := if lkB (canA N es s n) s = true then some (cyW N es s n s) else none
theorem cycA_len {N : Nat} {es : List Ed} {s n : Nat} {c : List (Nat × Nat)} (h : cycA N es s n = some c) : c.length = n := by
  unfold cycA at h
  split at h
  · rename_i hc; cases h; exact cyW_len n s hc
  · cases h
def fstI (c : List (Nat × Nat)) : List Int := c.map fun e => (e.1 : Int)
def sndI (c : List (Nat × Nat)) : List Int := c.map fun e => (e.2 : Int)
def minS (N : Nat) (es : List Ed) : Nat → Nat → Nat
  | 0, n => n
  | m + 1, n => shA N es m (minS N es m n)
theorem minS_le (N : Nat) (es : List Ed) (n : Nat) : ∀ m, minS N es m n ≤ n
  | 0 => Nat.le_refl _
  | m + 1 => Nat.le_trans (shA_le _ _ _ _) (minS_le N es n m)
theorem minS_ge (N : Nat) (es : List Ed) {n : Nat} (h : 1 ≤ n) : ∀ m, 1 ≤ minS N es m n
  | 0 => h
  | m + 1 => shA_ge _ _ _ (minS_ge N es h m)
def betW (x : List (Nat × Nat)) : Option (List (Nat × Nat)) → List (Nat × Nat)
  | none => x
  | some f => if cmpL (fstI x) (fstI f) < 0 then x else if cmpL (fstI x) (fstI f) = 0 then (if cmpL (sndI x) (sndI f) < 0 then x else f) else f
def bstW (N : Nat) (es : List Ed) (n : Nat) : Nat → Option (List (Nat × Nat))
  | 0 => none
  | m + 1 => match cycA N es m n with
    | none => bstW N es n m
    | some x => some (betW x (bstW N es n m))
def witA (G : Gr) : List (Nat × Nat) × Bool × Int :=
  if chkG G ≠ 0 then ([], false, 1) else if (detA G).1 = false then ([], false, 8) else
  if minS G.n.toNat G.es (G.n.toNat * G.n.toNat) (G.n.toNat * G.n.toNat + 1) = G.n.toNat * G.n.toNat + 1 then ([], false, 0) else
  ((bstW G.n.toNat G.es (minS G.n.toNat G.es (G.n.toNat * G.n.toNat) (G.n.toNat * G.n.toNat + 1)) (G.n.toNat * G.n.toNat)).getD [], true, 0)
end Go.Proofs.YtocbhlohcikapaaGreatDoor
namespace Go.Proofs.YtocbhlohcikapaaGreatDoor
open Go.RowKit Go.Shelf
attribute [local go_sem] Oper.semAt_some
def lvL (es : List Ed) (s : Int) (k : Nat) : List (Nat × Ed) := ((List.range k).filter (fun i => decide ((eget es i).f = s))).map (fun i => (i, eget es i))
theorem lvL_succ {es : List Ed} {s : Int} {k : Nat} (h : k < es.length) : lvL es s (k + 1) = lvL es s k ++ (if es[k].f = s then [(k, es[k])] else []) := by
  unfold lvL
  rw [List.range_succ, List.filter_append, List.map_append]
  congr 1
  by_cases hs : es[k].f = s <;> simp [eget_eq es k h, hs]
theorem lvL_len (es : List Ed) (s : Int) (k : Nat) : (lvL es s k).length ≤ k := by
  unfold lvL
  rw [List.length_map]
  exact Nat.le_trans (List.length_filter_le _ _) (by simp)
def KX (a b : Nat) (W W' : World) : Prop := ∀ i, i < b → i ≠ a → W'.heap[i]? = W.heap[i]?
theorem KX.refl (a b : Nat) (W : World) : KX a b W W := fun _ _ _ => rfl
theorem KX.trans {a b : Nat} {X Y Z : World} (h : KX a b X Y) (k : KX a b Y Z) : KX a b X Z := fun i h1 h2 => (k i h1 h2).trans (h i h1 h2)
theorem KX.boxed {a b B : Nat} {t : TypeId} {v : Value} {W W' : World} (h : KX a b W W') (h1 : B < b) (h2 : B ≠ a) (hb : Boxed W B t v) : Boxed W' B t v := (h B h1 h2).trans hb
def SgB (n : Nat) (w : World) (p : Option Addr) (l : List Ed) : Prop :=
  l = [] ∨ ∃ b off, p = some ⟨b, off, none⟩ ∧ b < n ∧ b < w.heap.size ∧ ∀ i (h : i < l.length) j, j < 3 → w.cell? ⟨b, off + i * 3 + j, none⟩ = (edE l[i])[j]?
theorem SgB.of {n : Nat} {w : World} {p : Option Addr} {l : List Ed} (h : Sg 3 w edE p l) (hn : w.heap.size ≤ n) : SgB n w p l := by
  rcases h with h | ⟨b, off, h1, h2, h3⟩
  · exact .inl h
  · exact .inr ⟨b, off, h1, by omega, h2, h3⟩
theorem SgB.sg {n : Nat} {w : World} {p : Option Addr} {l : List Ed} (h : SgB n w p l) : Sg 3 w edE p l := by
  rcases h with h | ⟨b, off, h1, _, h2, h3⟩
  · exact .inl h
  · exact .inr ⟨b, off, h1, h2, h3⟩
theorem SgB.kept {n : Nat} {w w' : World} {p : Option Addr} {l : List Ed} (h : SgB n w p l) (hk : ∀ i, i < n → w'.heap[i]? = w.heap[i]?) : SgB n w' p l := by
  rcases h with h | ⟨b, off, h1, h2, h3, h4⟩
  · exact .inl h
  · have e := hk b h2
    have hlt : b < w'.heap.size := by
      rcases Nat.lt_or_ge b w'.heap.size with h' | h'
      · exact h'
      · rw [Array.getElem?_eq_none h', Array.getElem?_eq_getElem h3] at e; cases e
    exact .inr ⟨b, off, h1, h2, hlt, fun i hi j hj => (World.cell?_of_block (w := w) (a := ⟨b, off + i * 3 + j, none⟩) e).trans (h4 i hi j hj)⟩
theorem SgB.kx {n a b : Nat} {w w' : World} {p : Option Addr} {l : List Ed} (h : SgB n w p l) (hk : KX a b w w') (h1 : n ≤ b) (h2 : n ≤ a) : SgB n w' p l :=
  h.kept (fun i hi => hk i (by omega) (by omega))
theorem SgB.alloc {n : Nat} {w : World} {p : Option Addr} {l : List Ed} (h : SgB n w p l) (hn : n ≤ w.heap.size) (o : Obj) : SgB n (w.alloc o) p l :=
  h.kept (fun i hi => Below.heap_alloc w o i (by omega))
def encL (x : Nat × Ed) : Array Value := #[.int .i64 (x.1 : Int), .agg #[.int .i64 x.2.f, .int .i64 x.2.l, .int .i64 x.2.t]]
end Go.Proofs.YtocbhlohcikapaaGreatDoor
namespace Go.Proofs.YtocbhlohcikapaaGreatDoor
open Go.RowKit Go.Shelf
attribute [local go_sem] Oper.semAt_some
def KS (m B : Nat) (W W' : World) : Prop := ∀ i, (i < m ∨ i = B) → W'.heap[i]? = W.heap[i]?
theorem KS.refl (m B : Nat) (W : World) : KS m B W W := fun _ _ => rfl
theorem KS.trans {m B : Nat} {X Y Z : World} (h : KS m B X Y) (k : KS m B Y Z) : KS m B X Z := fun i h1 => (k i h1).trans (h i h1)
theorem KS_b {m B n : Nat} (hm : m ≤ n) (hB : B < n) (W : World) (l : Nat) (o o' : Obj) (hl : n ≤ l) (_ : W.heap[l]? = some o) (_ : o.isCells = false) (_ : o.isWalk = false) : KS m B W (W.putObj l o') :=
  fun i h1 => World.putObj_heap_other (by omega)
theorem KS.boxed {m B : Nat} {t : TypeId} {v : Value} {W W' : World} (h : KS m B W W') (hb : Boxed W B t v) : Boxed W' B t v := (h B (.inr rfl)).trans hb
theorem KS.low {m B : Nat} {W W' : World} (h : KS m B W W') : ∀ i, i < m → W'.heap[i]? = W.heap[i]? := fun i hi => h i (.inl hi)
set_option maxRecDepth 100000 in
set_option maxHeartbeats 1000000 in
theorem leavingS_in (F : Fence) (n : Nat) (hf : F.fn 153) (hro : F.round = none) (hn : 1 ≤ n) (l m Bg Bs : Nat) (G : Gr) (s : Int) (p : Option Addr) (c : Nat) (hlen : G.es.length ≤ 1024) (J Jx : List (Nat × Ed) → World → Prop)
    (hA : ∀ pre W o, J pre W → J pre (W.alloc o))
    (hY : ∀ pre x W, J pre W → pre.length < G.es.length → YieldAt F (n - 1) Tryz.prog l (encL x) W fun e W' =>
      (e = .returned (.bool true) ∧ J (pre ++ [x]) W' ∧ KS m Bs W W') ∨ (e = .returned (.bool false) ∧ Jx (pre ++ [x]) W'))
    (W : World) (hmb : m ≤ Bs) (hg : VRow W Bg 24 [.int .i64 G.q, .int .i64 G.n, .slice p G.es.length c]) (hs : Boxed W Bs 3 (.int .i64 s)) (hin : SgB m W p G.es) (h0 : J [] W) :
    CallsIn F n Tryz.prog 153 #[.func (.yield l) #[] #[], .pointer (some ⟨Bg, 0, none⟩), .pointer (some ⟨Bs, 0, none⟩)] W fun e W' => (∃ v, e = .returned v) ∧
      ((∃ ys : List (Nat × Ed), ys = lvL G.es s G.es.length ∧ J ys W') ∨ (∃ pre : List (Nat × Ed), True ∧ Jx pre W')) := by
  refine callsIn_of_wp Tryz.func153 rfl hf ?_ hro
  simp only [Tryz.ntmps153, List.size_toArray, List.length_cons, List.length_nil, Nat.reduceAdd, Nat.reduceSub, Array.replicate_succ, Array.replicate_zero, List.push_toArray, List.append_toArray, List.nil_append, List.cons_append]
  have f2 := hg.at 2 rfl
  gi_wp2
  clear f2
  gi_loopw [9] (fun i wr => ∃ (k : Nat) (pre : List (Nat × Ed)), k ≤ G.es.length ∧ i = .int .i64 k ∧ Hid (pre = lvL G.es s k) ∧ J pre wr ∧ Boxed wr Bs 3 (.int .i64 s) ∧ SgB m wr p G.es) (fun i _ => G.es.length - (intOf i).toNat)
  case atStart => exact ⟨0, [], Nat.zero_le _, rfl, rfl, h0, hs, hin⟩
  case round =>
    obtain ⟨k, pre, hk, rfl, hp, hJs, hnx, hsg⟩ := hrel
    by_cases hlt : k < G.es.length
    · have hpl : pre.length < G.es.length := by rw [hp.out]; have := lvL_len G.es s k; omega
      obtain ⟨b3, o3, rfl, hb3, e0, e1, e2⟩ := hsg.sg.get3 k hlt rfl
      have HN := hidI (lvL_succ (s := s) hlt)
      have hnA := hnx.alloc (.cells #[.int .i64 G.es[k].f, .int .i64 G.es[k].l, .int .i64 G.es[k].t] 44)
      have hgA := hsg.alloc (by have := hnx.lt; omega) (.cells #[.int .i64 G.es[k].f, .int .i64 G.es[k].l, .int .i64 G.es[k].t] 44)
      have hJA := hA pre wr (.cells #[.int .i64 G.es[k].f, .int .i64 G.es[k].l, .int .i64 G.es[k].t] 44) hJs
      have HY := hidI (hY pre (k, G.es[k]) (wr.alloc (.cells #[.int .i64 G.es[k].f, .int .i64 G.es[k].l, .int .i64 G.es[k].t] 44)) hJA hpl)
      have hbs := hnA.cell
      generalize hx : G.es[k] = x at *
      by_cases he : x.f = s
      · have hb : (x.f == s) = true := by simpa using he
        have HN : Hid (lvL G.es s (k + 1) = lvL G.es s k ++ [(k, x)]) := by rw [Hid, HN.out, if_pos he]
        obtain ⟨fn, tmps, assign, body, hy, hR⟩ := HY.out
        unfold encL at hy
        simp only at hy
        clear he
        gi_wp2
        refine hR.mono ?_
        rintro e W3 (⟨rfl, hJ3, hk3⟩ | ⟨rfl, hJx3⟩)
        · gi_wp2
          go_roundw
          case rel => exact ⟨k + 1, _, by omega, by go_num, by unfold Hid; rw [HN.out, ← hp.out], hJ3, hk3.boxed hnA, hgA.kept hk3.low⟩
          case measure => simp [intOf]; omega
        · gi_wp2
          refine bodyPost_ret (results_none rfl _ _ _) rfl ?_
          exact ⟨⟨_, rfl⟩, .inr ⟨_, trivial, hJx3⟩⟩
      · have hb : (x.f == s) = false := by simpa using he
        have HN : Hid (lvL G.es s (k + 1) = lvL G.es s k) := by rw [Hid, HN.out, if_neg he, List.append_nil]
        clear he
        gi_wp2
        rename_i K1 hK1 x1 h1 w1 e1
        refine ⟨fun f hf => (by cases hf), hK1 _ _ ?_⟩
        clear e1
        gi_wp2
        go_roundw
        case rel => exact ⟨k + 1, _, by omega, by go_num, by unfold Hid; rw [HN.out, ← hp.out], hJA, hnA, hgA⟩
        case measure => simp [intOf]; omega
    · obtain rfl : k = G.es.length := by omega
      gi_wp2
      go_end0
      exact ⟨⟨_, rfl⟩, .inl ⟨_, hp.out, hJs⟩⟩
theorem leavingS_stops (F : Fence) (n : Nat) (hf : F.fn 153) (hro : F.round = none) (hn : 1 ≤ n) (m Bg Bs : Nat) (G : Gr) (s : Int) (p : Option Addr) (c : Nat) (hlen : G.es.length ≤ 1024) (w : World)
    (hmb : m ≤ Bs) (hg : VRow w Bg 24 [.int .i64 G.q, .int .i64 G.n, .slice p G.es.length c]) (hs : Boxed w Bs 3 (.int .i64 s)) (hin : SgB m w p G.es) :
    SeqStopsK F n Tryz.prog 153 #[.pointer (some ⟨Bg, 0, none⟩), .pointer (some ⟨Bs, 0, none⟩)] encL (KS m Bs) (fun ys => ys = lvL G.es s G.es.length) (fun _ => True) G.es.length w := fun l J Jx W hW hJ _ hY h0 =>
  leavingS_in F n hf hro hn l m Bg Bs G s p c hlen J Jx (fun pre W o h => hJ pre W _ none h (World.grownBy_alloc W o none) (fun r e => by cases e)) hY W hmb (hg.below hW hg.lt) ((KH.of_below hW hs.lt).boxed hs) (hin.kept (fun i hi => hW.block i (by have := hs.lt; omega))) h0
end Go.Proofs.YtocbhlohcikapaaGreatDoor
