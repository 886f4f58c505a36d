/-
  Words, plain lemmas and walks, merged: Rc, Rd, Re, Rf, Rg, Qd, Wa.
-/
import Derived.Test.YtjpilmedlecdhaaGreatDoorZti
import Derived.Test.YtjpilmedlecdhaaGreatDoorZth
import Derived.Test.YtjpilmedlecdhaaGreatDoorZtf
import Derived.Deep.RegionWith
set_option linter.unusedVariables false
set_option linter.unusedSimpArgs false
namespace Go.Proofs.YtjpilmedlecdhaaGreatDoor
open Go.RowKit Go.Shelf Go.ChangeMaps Go.MapKept Go.Maps
attribute [local go_sem] Oper.semAt_some

/-! ### The words of the swaps, as the map holds them -/
def takF (S : List Sw) (ks : List (Int × Int)) (u : ByteArray) : Option Bool := if ks.any (fun x => decide (swapF S x = some u)) = true then some true else none
theorem takF_nil (S : List Sw) (u : ByteArray) : takF S [] u = none := rfl
theorem takF_snoc {S : List Sw} {ks : List (Int × Int)} {x : Int × Int} {y : ByteArray} (h : swapF S x = some y) (u : ByteArray) : mset (takF S ks) y true u = takF S (ks ++ [x]) u := by
  unfold mset takF
  rw [List.any_append]
  by_cases e : u = y
  · subst e; simp [h]
  · have : decide (swapF S x = some u) = false := decide_eq_false (fun e' => e (by rw [h] at e'; cases e'; rfl))
    rw [List.any_cons, List.any_nil, this, Bool.or_false, Bool.or_false, if_neg e]
theorem swapW_at {T : Tb} (hf : fmd T = true) {s : Sw} (hs : s ∈ T.swaps) : swapW T.swaps s.i s.j = some s.wd := by
  unfold swapW
  cases h : T.swaps.find? (fun x => decide (x.i = s.i) && decide (x.j = s.j)) with
  | none =>
    have := List.find?_eq_none.1 h s hs
    simp at this
  | some x =>
    have hm := List.mem_of_find?_eq_some h
    have hp := List.find?_some h
    simp only [Bool.and_eq_true, decide_eq_true_eq] at hp
    have hss : allB T.swaps.length (sOk T.base.length T.swaps) = true := (fmd_split hf).2.1
    rw [swap_uniq hss hm hs hp.1 hp.2]; rfl
theorem takF_all {T : Tb} (hf : fmd T = true) {ks : List (Int × Int)} (hk : ∀ x y, ok2 x → swapF T.swaps x = some y → x ∈ ks) (u : ByteArray) : (takF T.swaps ks u).getD false = tkn T u := by
  have key : ks.any (fun x => decide (swapF T.swaps x = some u)) = tkn T u := by
    unfold tkn
    rw [Bool.eq_iff_iff, List.any_eq_true, List.any_eq_true]
    constructor
    · rintro ⟨⟨i, j⟩, _, hx⟩
      have hx := of_decide_eq_true hx
      rw [swapF_eq hf] at hx
      obtain ⟨k, hk, _, _, e⟩ := swapW_mem hx
      exact ⟨_, List.getElem_mem hk, eqb_t e⟩
    · rintro ⟨s, hs, he⟩
      have e := eqb_iff.1 he
      have hx : swapF T.swaps (s.i, s.j) = some u := by rw [swapF_eq hf, swapW_at hf hs, e]
      have hin := swaps_in hf hs
      have hN := pre_all (fmd_split hf).1
      exact ⟨(s.i, s.j), hk _ _ ⟨WalkArith.wf_i64 (by simp; omega), WalkArith.wf_i64 (by simp; omega)⟩ hx, decide_eq_true hx⟩
  unfold takF
  rw [key]
  cases tkn T u <;> rfl
/-- The map of what is taken. -/
def TkM (T : Tb) (w : World) (b : Nat) : Prop := ∃ f : ByteArray → Option Bool, Mp Value.string okS Value.bool w b f ∧ ∀ u, (f u).getD false = tkn T u
theorem TkM.same {T : Tb} {w w' : World} {b : Nat} (h : TkM T w b) (hb : w'.heap[b]? = w.heap[b]?) : TkM T w' b := by
  obtain ⟨f, h1, h2⟩ := h
  exact ⟨f, h1.same hb, h2⟩
theorem TkM.look {T : Tb} {w : World} {b : Nat} (h : TkM T w b) (u : ByteArray) (hu : u.size ≤ maxLen) : (Instr.lookup 72 (.map (some b)) (.string u) false).run Tryz.prog w = .ok (.bool (tkn T u)) w := by
  obtain ⟨f, h1, h2⟩ := h
  have := h1.look (t := 72) keyS Tryz.underlying72 (z := .bool false) (by kernel_rfl) u hu false
  rw [← h2 u]
  cases hf : f u <;> rw [hf] at this <;> exact this
theorem TkM.lt {T : Tb} {w : World} {b : Nat} (h : TkM T w b) : b < w.heap.size := by obtain ⟨f, h1, _⟩ := h; exact h1.lt

theorem ownFrom_keepsR {β : Type} (W0 : World) : OwnFrom W0.heap.size (fun (_ : β) W => KeepsOthers W0 W) := fun _ X Y row hs hg hr =>
  ⟨Nat.le_trans hs.size hg.size, fun i o hi ho => by
    have hlt := (Array.getElem?_eq_some_iff.1 hi).1
    exact (hg.block i (Nat.lt_of_lt_of_le hlt hs.size) (fun e => by have := (hr i e.symm).1; omega)).trans (hs.same i o hi ho)⟩
theorem ownFrom_kxR {β : Type} {a : Nat} (W0 : World) : OwnFrom W0.heap.size (fun (_ : β) W => W0.heap.size ≤ W.heap.size ∧ KX a W0.heap.size W0 W) := fun _ X Y row hs hg hr =>
  ⟨Nat.le_trans hs.1 hg.size, fun i h1 h2 => (hg.block i (by have := hs.1; omega) (fun e => by have := (hr i e.symm).1; omega)).trans (hs.2 i h1 h2)⟩
/-! ### Readable up to an input -/
def rdTo (T : Tb) (k : Nat) : Bool := (List.range k).all (fun (i : Nat) => (flw T (i : Int)).all (fun b => !tkn T (bget T.base i ++ b)))
theorem rdTo_succ (T : Tb) (k : Nat) : rdTo T (k + 1) = (rdTo T k && (flw T (k : Int)).all (fun b => !tkn T (bget T.base k ++ b))) := by simp [rdTo, List.range_succ]
theorem rdTo_all (T : Tb) : rdTo T T.base.length = rdbl T := rfl
/-- No block that has come makes a word that is taken. -/
def clrL (T : Tb) (x : ByteArray) (pre : List SubN) : Bool := pre.all (fun u => !tkn T (x ++ u.1))
theorem clr_flw {T : Tb} {x : ByteArray} {i : Int} {ys : List SubN} (h : ys.map (·.1) = flw T i) : (flw T i).all (fun b => !tkn T (x ++ b)) = clrL T x ys := by
  rw [← h]; unfold clrL; rw [List.all_map]; rfl
theorem rd_false {T : Tb} {k : Nat} (hk : k < T.base.length) {u : ByteArray} (hu : u ∈ flw T (k : Int)) (ht : tkn T (bget T.base k ++ u) = true) : rdbl T = false := by
  rw [Bool.eq_false_iff]
  intro h
  have h1 := List.all_eq_true.1 h k (List.mem_range.2 hk)
  have h2 := List.all_eq_true.1 h1 u hu
  rw [ht] at h2; cases h2
/-- Where the second loop stands. -/
def RdI (T : Tb) (p1 p2 : Option Addr) (c1 c2 : Nat) (w : World) (m mb tb tc k : Nat) (a : Act) (W : World) : Prop :=
  ∃ (ds : List Deferred) (u5 u6 u7 u8 u9 u10 u11 u12 u13 u14 u15 u16 u17 u18 u19 u20 u21 u25 u26 u27 u28 u29 u30 u31 u32 u33 u34 u35 u36 u37 u38 u39 : Value), a = { tmps := #[(.agg #[.int .i64 T.q, .int .i64 T.n, .slice p1 T.base.length c1, .slice p2 T.swaps.length c2]), (.pointer (some ⟨w.heap.size, 0, none⟩)), (.pointer (some ⟨w.heap.size + 1, 0, none⟩)), (.map (some mb)), (.pointer (some ⟨tc, 0, none⟩)), u5, u6, u7, u8, u9, u10, u11, u12, u13, u14, u15, u16, u17, u18, u19, u20, u21, (.slice p1 T.base.length c1), (.int .i64 T.base.length), (.int .i64 k), u25, u26, u27, u28, u29, u30, u31, u32, u33, u34, u35, u36, u37, u38, u39], defers := ds } ∧ k ≤ T.base.length ∧ rdTo T k = true ∧
    VRow W w.heap.size 26 [.int .i64 T.q, .int .i64 T.n, .slice p1 T.base.length c1, .slice p2 T.swaps.length c2] ∧ VRow W (w.heap.size + 1) 4 [.bool false] ∧ VRow W tc 72 [.map (some tb)] ∧ TkM T W tb ∧ SwB T.swaps W mb ∧ SlB m W p1 T.base ∧ SwpB m W p2 T.swaps ∧ Marks m W ds ∧ RowKit.Below w.heap.size w W ∧ m ≤ W.heap.size
def rdmu (T : Tb) (a : Act) : Nat := T.base.length - (intOf (a.tmps.getD 24 undef)).toNat

set_option maxRecDepth 100000 in
set_option maxHeartbeats 4000000 in
theorem lkReadable_in (T : Tb) (p1 p2 : Option Addr) (c1 c2 : Nat) (w : World) (hT : TbIn w T p1 p2 c1 c2) (hf : fmd T = true) :
    CallsIn Fence.wide 9 Tryz.prog 28 #[.agg #[.int .i64 T.q, .int .i64 T.n, .slice p1 T.base.length c1, .slice p2 T.swaps.length c2]] w fun e w' => e = .returned (.bool (rdbl T)) ∧ RowKit.Below w.heap.size w w' := by
  have HT := hidI hT
  have hN := pre_all (fmd_split hf).1
  have hmm := @run_makeMap Tryz.prog
  obtain ⟨w0, hw0⟩ : ∃ w0, w0 = (w.alloc (.cells #[.int .i64 T.q, .int .i64 T.n, .slice p1 T.base.length c1, .slice p2 T.swaps.length c2] 26)).alloc (.cells #[.bool false] 4) := ⟨_, rfl⟩
  have b0 : VRow w0 w.heap.size 26 [.int .i64 T.q, .int .i64 T.n, .slice p1 T.base.length c1, .slice p2 T.swaps.length c2] := by subst hw0; exact (VRow.new w _ _).alloc _
  have b1 : VRow w0 (w.heap.size + 1) 4 [.bool false] := by subst hw0; exact VRow.new1 w _ _ _
  have hB0 : RowKit.Below w.heap.size w w0 := by subst hw0; exact ((RowKit.Below.refl _ _).alloc (Nat.le_refl _) _).alloc (by simp) _
  have a0 := b0.at 0 rfl; have a1 := b0.at 1 rfl; have a2 := b0.at 2 rfl; have a3 := b0.at 3 rfl
  clear hT
  refine callsIn_of_wp_marks Tryz.func28 rfl trivial ?_ rfl
  simp only [Tryz.ntmps28, List.size_toArray, List.length_cons, List.length_nil, Nat.reduceAdd, Nat.reduceSub, Array.replicate_succ, Array.replicate_zero, List.push_toArray, List.append_toArray, List.nil_append, List.cons_append]
  gi_wp2_with (refine ⟨trivial, ?_⟩; gi_at_call 29)
  rw [← hw0]
  clear hw0 a0 a1 a2 a3
  refine (callsIn_wide.2 (lkPairsB_any T p1 p2 c1 c2 w0 (HT.out.swaps.below hB0) HT.out.l2 (swaps_ok2 hf))).mono ?_
  rintro e w1 ⟨rfl, hSw, hB1⟩
  have x1 := hB0.trans (hB1.mono hB0.size)
  have d0 := b0.below hB1 b0.lt
  have d1 := b1.below hB1 b1.lt
  obtain ⟨mb, hmb⟩ : ∃ mb, mb = w0.heap.size + 1 := ⟨_, rfl⟩
  rw [← hmb] at hSw ⊢
  clear b0 b1 hB0 hB1 hmb
  have hmbl := hSw.lt
  have hzz := d1.lt
  have hM0 : Mp Value.string okS Value.bool ((w1.alloc (.map #[] 0)).alloc (.cells #[.map (some w1.heap.size)] 72)) w1.heap.size (takF T.swaps []) := ((Mp.made w1).alloc _).congr (fun _ => rfl)
  have tc0 : VRow ((w1.alloc (.map #[] 0)).alloc (.cells #[.map (some w1.heap.size)] 72)) (w1.heap.size + 1) 72 [.map (some w1.heap.size)] := VRow.new1 w1 _ _ _
  have hS0 : SwB T.swaps ((w1.alloc (.map #[] 0)).alloc (.cells #[.map (some w1.heap.size)] 72)) mb := (MpB.alloc hSw _).alloc _
  have x2 : RowKit.Below w.heap.size w ((w1.alloc (.map #[] 0)).alloc (.cells #[.map (some w1.heap.size)] 72)) := (x1.alloc x1.size _).alloc (by simp; have := x1.size; omega) _
  have d0' := (d0.alloc (.map #[] 0)).alloc (.cells #[.map (some w1.heap.size)] 72)
  have d1' := (d1.alloc (.map #[] 0)).alloc (.cells #[.map (some w1.heap.size)] 72)
  obtain ⟨W0, hrg, hR0, hs0, hg0⟩ := RgA.start (P := Tryz.prog) (t := 66) hS0 Tryz.underlying66
  have hzs : ((w1.alloc (.map #[] 0)).alloc (.cells #[.map (some w1.heap.size)] 72)).heap.size = w1.heap.size + 2 := by simp
  rw [hzs] at hR0 hs0 hrg
  have tc1 := tc0.grown hg0 (by simp)
  have hM1 : Mp Value.string okS Value.bool W0 w1.heap.size (takF T.swaps []) := hM0.kept hg0 (by simp)
  have hB1 : RowKit.Below w.heap.size w W0 := x2.grown hg0 x2.size (fun j e => by cases e)
  have e0 := d0'.grown hg0 (by simp)
  have e1 := d1'.grown hg0 (by simp)
  have hZW := hidI hs0
  clear hSw d0 d1 x1 hM0 tc0 hS0 x2 d0' d1' hg0 hzs hs0
  gi_wp2
  clear hrg
  gi_loopw [6] (fun _ wr => ∃ ks : List (Int × Int), RgA k2 ok2 Value.string wr mb (w1.heap.size + 2) ks (swapF T.swaps) ∧ Mp Value.string okS Value.bool wr w1.heap.size (takF T.swaps ks) ∧ VRow wr (w1.heap.size + 1) 72 [.map (some w1.heap.size)] ∧ VRow wr w.heap.size 26 [.int .i64 T.q, .int .i64 T.n, .slice p1 T.base.length c1, .slice p2 T.swaps.length c2] ∧ VRow wr (w.heap.size + 1) 4 [.bool false] ∧ RowKit.Below w.heap.size w wr) (fun _ W => rgLe W mb (w1.heap.size + 2))
  case atStart => exact ⟨[], hR0, hM1, tc1, e0, e1, hB1⟩
  case round =>
    clear hR0 hM1 tc1 e0 e1 hB1
    obtain ⟨ks, hR, hM, tc, e0, e1, hB⟩ := hrel
    have hRl := hR.lt
    rcases hR.next (P := Tryz.prog) key2.inj 0 with ⟨hall, hrun⟩ | ⟨x, y, W1, hfx, hxk, hxo, hrun, hR1, hlt1, hg1, hsz1, hen⟩
    · have hTK : TkM T wr w1.heap.size := ⟨_, hM, fun u => takF_all hf (fun x y hx hxy => hall x y hx hxy) u⟩
      have f2 := e0.at 2 rfl
      have hSw := hR.mapB
      have hsl := SlB.of (HT.out.base.below hB) (Nat.le_refl _)
      have hsp := SwpB.of (HT.out.swaps.below hB) (Nat.le_refl _)
      have hRl1 := hR.lt.1
      clear hall hR hM
      gi_wp2
      clear f2 hrun
      refine wpIn_loop (fun a W => ∃ k, RdI T p1 p2 c1 c2 w wr.heap.size mb w1.heap.size (w1.heap.size + 1) k a W) (fun a _ => rdmu T a) ⟨0, [], _, _, _, _, _, _, _, _, _, _, _, _, _, _, _, _, _, _, _, _, _, _, _, _, _, _, _, _, _, _, _, _, rfl, by omega, rfl, e0, e1, tc, hTK, hSw, hsl, hsp, trivial, hB, Nat.le_refl _⟩ ?_
      have hl0 := e1.lt; have hl1 := tc.lt
      clear e0 e1 tc hTK hSw hsl hsp hB
      generalize w1.heap.size + 1 = tcb at *
      generalize w1.heap.size = tb at *
      rintro a W ⟨k, ds, u5, u6, u7, u8, u9, u10, u11, u12, u13, u14, u15, u16, u17, u18, u19, u20, u21, u25, u26, u27, u28, u29, u30, u31, u32, u33, u34, u35, u36, u37, u38, u39, rfl, hk, hrd, e0, e1, tc, hTK, hSw, hsl, hsp, hM, hB, hm⟩
      by_cases hlt : k < T.base.length
      · obtain ⟨b3, o3, hp1, hb3, hc3⟩ := hsl.sl.get k hlt
        have g0 := hc3 k hlt
        have HBG := hidI (bget_eq T.base k hlt)
        have hsz := base_sz hf k hlt
        rw [HBG.out] at hsz
        have HRN := hidI (rdTo_succ T k)
        rw [HBG.out] at HRN
        have HRF := hidI (fun (u : ByteArray) (hu : u ∈ flw T (k : Int)) (ht : tkn T (bget T.base k ++ u) = true) => rd_false hlt hu ht)
        rw [HBG.out] at HRF
        generalize T.base[k] = x at *
        have hltI : (k : Int) < (T.base.length : Int) := by omega
        have f0 := (e0.alloc (.cells #[.string x] 9)).at 0 rfl
        have f1 := (e0.alloc (.cells #[.string x] 9)).at 1 rfl
        have f2 := (e0.alloc (.cells #[.string x] 9)).at 2 rfl
        have f3 := (e0.alloc (.cells #[.string x] 9)).at 3 rfl
        subst hp1
        clear hc3
        gi_wp2_with (refine ⟨trivial, ?_⟩; gi_at_call 60)
        refine (following_in Fence.wide 8 trivial rfl T (some ⟨b3, o3, none⟩) p2 c1 c2 mb (k : Int) _).mono ?_
        rintro e w' ⟨rfl, rfl⟩
        clear f0 f1 f2 f3 g0
        gi_wp2
        obtain ⟨V0, hV0⟩ : ∃ V0, V0 = (((W.alloc (.cells #[.string x] 9)).alloc (.cells #[.int .i64 T.q, .int .i64 T.n, .slice (some ⟨b3, o3, none⟩) T.base.length c1, .slice p2 T.swaps.length c2] 26)).alloc (.cells #[.map (some mb)] 66)).alloc (.cells #[.int .i64 k] 3) := ⟨_, rfl⟩
        have hlow : ∀ i, i < W.heap.size → V0.heap[i]? = W.heap[i]? := fun i hi => by
          subst hV0
          rw [Below.heap_alloc _ _ i (by simp; omega), Below.heap_alloc _ _ i (by simp; omega), Below.heap_alloc _ _ i (by simp; omega), Below.heap_alloc _ _ i hi]
        have y0 : VRow V0 W.heap.size 9 [.string x] := by subst hV0; exact (((VRow.new W _ _).alloc _).alloc _).alloc _
        have y1 : VRow V0 (W.heap.size + 1) 26 [.int .i64 T.q, .int .i64 T.n, .slice (some ⟨b3, o3, none⟩) T.base.length c1, .slice p2 T.swaps.length c2] := by subst hV0; exact ((VRow.new1 W _ _ _).alloc _).alloc _
        have y2 : VRow V0 (W.heap.size + 1 + 1) 66 [.map (some mb)] := by subst hV0; exact (VRow.new2 W _ _ _ _).alloc _
        have y3 : VRow V0 (W.heap.size + 1 + 1 + 1) 3 [.int .i64 k] := by
          subst hV0
          have h := VRow.new (((W.alloc (.cells #[.string x] 9)).alloc (.cells #[.int .i64 T.q, .int .i64 T.n, .slice (some ⟨b3, o3, none⟩) T.base.length c1, .slice p2 T.swaps.length c2] 26)).alloc (.cells #[.map (some mb)] 66)) 3 [.int .i64 k]
          simp only [World.size_alloc] at h; exact h
        have hsz0 : V0.heap.size = W.heap.size + 4 := by subst hV0; simp
        have hBV : RowKit.Below w.heap.size w V0 := by subst hV0; exact (((hB.alloc hB.size _).alloc (by have := hB.size; simp; omega) _).alloc (by have := hB.size; simp; omega) _).alloc (by have := hB.size; simp; omega) _
        have hKV : KeepsOthers W V0 := by subst hV0; exact (((KeepsOthers.alloc _ _).trans (KeepsOthers.alloc _ _)).trans (KeepsOthers.alloc _ _)).trans (KeepsOthers.alloc _ _)
        have hFB : FB V0.heap.size V0 T (some ⟨b3, o3, none⟩) p2 c1 c2 (W.heap.size + 1) (W.heap.size + 1 + 1) (W.heap.size + 1 + 1 + 1) mb (k : Int) := {
          tb := y1
          mp := y2
          ix := y3
          base := SlB.of (hsl.sl.below ⟨hBV.os.trans hB.os.symm, hBV.tape.trans hB.tape.symm, hBV.output.trans hB.output.symm, by omega, fun i hi => hlow i hi⟩) (Nat.le_refl _)
          swaps := SwpB.of (hsp.sg.below ⟨hBV.os.trans hB.os.symm, hBV.tape.trans hB.tape.symm, hBV.output.trans hB.output.symm, by omega, fun i hi => hlow i hi⟩) (Nat.le_refl _)
          rd := MpB.same hSw (hlow _ (MpB.lt hSw))
          l1 := by omega
          l2 := by omega
          l3 := by omega
          l4 := by have := MpB.lt hSw; omega
          sz := Nat.le_refl _ }
        try rw [← hV0]
        clear hV0
        have hTl := hTK.lt
        have hSl := MpB.lt hSw
        have he0 := e0.lt; have he1 := e1.lt; have hec := tc.lt
        refine' wpIn_rangeFunc_ownG rfl (by omega) (gf := 79) (lb := #[.pointer (some ⟨W.heap.size + 1, 0, none⟩), .pointer (some ⟨W.heap.size + 1 + 1, 0, none⟩), .pointer (some ⟨W.heap.size + 1 + 1 + 1, 0, none⟩)]) rfl trivial (enters_of Tryz.func79 (by kernel_rfl) rfl)
          (following_stops Fence.wide 8 trivial rfl (by omega) V0.heap.size V0.heap.size V0.heap.size (W.heap.size + 1) (W.heap.size + 1 + 1) (W.heap.size + 1 + 1 + 1) mb T (k : Int) (some ⟨b3, o3, none⟩) p2 c1 c2 hf (by omega) V0 (Nat.le_refl _) (Nat.le_refl _) hFB) KX.trans (KX_b (Nat.le_refl _)) (RowKit.Below.refl _ _) (fun _ => rfl)
          (fun pre V => ((clrL T x pre = true ∧ RowKit.Below w.heap.size w V) ∧ KeepsOthers V0 V) ∧ (V0.heap.size ≤ V.heap.size ∧ KX V0.heap.size V0.heap.size V0 V))
          (fun c pre V => (((c = .ret ∧ ∃ u ∈ pre, tkn T (x ++ u.1) = true) ∧ VRow V (w.heap.size + 1) 4 [.bool false]) ∧ RowKit.Below w.heap.size w V) ∧ KeepsOthers V0 V)
          (OwnFrom.and (OwnFrom.and (OwnFrom.and (fun _ _ _ _ hs _ _ => hs) (ownFrom_below (Nat.le_refl _) (by have := hBV.size; omega))) (ownFrom_keepsR _)) (ownFrom_kxR _))
          (fun c => OwnFrom.and (OwnFrom.and (OwnFrom.and (fun _ _ _ _ hs _ _ => hs) ((VRow.own _ _ (fun _ => [.bool false])).from _)) (ownFrom_below (Nat.le_refl _) (by have := hBV.size; omega))) (ownFrom_keepsR _))
          ⟨⟨⟨rfl, hBV⟩, KeepsOthers.refl _⟩, Nat.le_refl _, KX.refl _ _ _⟩
          _ ?assign ?body ?done ?stop
        case assign =>
          intro l' u V K hK
          unfold encN
          gi_wp2
          exact hK
        case body =>
          rintro l' pre ⟨u, hu⟩ V ⟨⟨⟨hcl, hB2⟩, hK2⟩, hz2, hX2⟩ hlen
          have k0 : VRow V W.heap.size 9 [.string x] := (hX2 _ (by omega) (by omega)).trans y0
          have k4 : VRow V tcb 72 [.map (some tb)] := (hX2 _ (by omega) (by omega)).trans ((hlow _ hec).trans tc)
          have kr : VRow V (w.heap.size + 1) 4 [.bool false] := (hX2 _ (by omega) (by omega)).trans ((hlow _ he1).trans e1)
          have hTV : TkM T V tb := hTK.same ((hX2 _ (by omega) (by omega)).trans (hlow _ hTl))
          have hxu : (x ++ u).size = x.size + u.size := ByteArray.size_append
          have hlk := hTV.look (x ++ u) (by rw [hxu]; unfold maxLen; omega)
          have HS : Hid (clrL T x (pre ++ [(⟨u, hu⟩ : SubN)]) = (clrL T x pre && !tkn T (x ++ u))) := by unfold Hid clrL; simp
          have d0 := k0.at 0 rfl; have d4 := k4.at 0 rfl; have dr := kr.at 0 rfl; have zr := kr.frozen 0
          have hx16 : x.size ≤ 16 := by omega
          clear hxu
          cases ht : tkn T (x ++ u)
          · have HS1 : Hid (clrL T x (pre ++ [(⟨u, hu⟩ : SubN)]) = true) := by rw [Hid, HS.out, hcl, ht]; rfl
            rw [ht] at hlk
            clear ht
            gi_wp2
            exact ⟨(KeepsOthers.refl _).from _, KX.refl _ _ _, ⟨⟨HS1.out, hB2⟩, hK2⟩, hz2, hX2⟩
          · rw [ht] at hlk
            have HTT := hidI ht
            clear ht
            gi_wp2
            refine ⟨(KeepsOthers.setCell _ _ _).from _, ⟨⟨⟨rfl, ⟨u, hu⟩, by simp, HTT.out⟩, VRow.set (i := 0) _ kr⟩, hB2.setCell (show w.heap.size ≤ w.heap.size + 1 by omega) _⟩, hK2.trans (KeepsOthers.setCell _ _ _)⟩
        case done =>
          rintro D ys V hD' hys ⟨⟨⟨hcl, hB2⟩, hK2⟩, hz2, hX2⟩ hK
          have hkp : ∀ j, j < W.heap.size → V.heap[j]? = W.heap[j]? := fun j hj => (hX2 j (by omega) (by omega)).trans (hlow j hj)
          have hRD : rdTo T (k + 1) = true := by rw [HRN.out, hrd, clr_flw hys, hcl]; rfl
          have n0 : VRow V w.heap.size 26 [.int .i64 T.q, .int .i64 T.n, .slice (some ⟨b3, o3, none⟩) T.base.length c1, .slice p2 T.swaps.length c2] := (hkp _ he0).trans e0
          have n1 : VRow V (w.heap.size + 1) 4 [.bool false] := (hkp _ he1).trans e1
          have n2 : VRow V tcb 72 [.map (some tb)] := (hkp _ hec).trans tc
          have n3 : TkM T V tb := hTK.same (hkp _ hTl)
          have n4 : SwB T.swaps V mb := MpB.same hSw (hkp _ hSl)
          have n5 : SlB wr.heap.size V (some ⟨b3, o3, none⟩) T.base := hsl.kept (fun j hj => hkp j (by omega))
          have n6 : SwpB wr.heap.size V p2 T.swaps := hsp.kept (fun j hj => hkp j (by omega))
          have n7 : Marks wr.heap.size V ({ target := .collected D, args := #[] } :: ds) :=
            (hM.others (hKV.trans hK2)).cons (by omega) hK (fun d hd => by obtain ⟨D', h1, h2⟩ := hM.lt d hd; exact ⟨D', h1, by omega⟩)
          gi_wp2
          refine ⟨⟨k + 1, _, _, _, _, _, _, _, _, _, _, _, _, _, _, _, _, _, _, _, _, _, _, _, _, _, _, _, _, _, _, _, _, _, rfl, by omega, hRD, n0, n1, n2, n3, n4, n5, n6, n7, hB2, by omega⟩, ?_⟩
          simp [rdmu, intOf]
          omega
        case stop =>
          rintro D c pre V hD' hSp ⟨⟨⟨⟨rfl, u, hu, ht⟩, hcell⟩, hB2⟩, hK2⟩ hK
          have hRF := HRF.out u.1 (hSp u hu) ht
          have n7 : Marks wr.heap.size V ({ target := .collected D, args := #[] } :: ds) :=
            (hM.others (hKV.trans hK2)).cons (by omega) hK (fun d hd => by obtain ⟨D', h1, h2⟩ := hM.lt d hd; exact ⟨D', h1, by omega⟩)
          gi_wp2
          refine leaves_marks _ V n7 (fun W' hW' => ?_)
          have hcl' : VRow W' (w.heap.size + 1) 4 [.bool false] := hW'.cells _ _ hcell rfl
          have y9 := hcl'.at 0 rfl
          refine ⟨.bool false, by simp [results, Tryz.results28, go_sem, y9], by rw [hRF], hB2.trans (hW'.below.mono (by have := hB.size; omega))⟩
      · obtain rfl : k = T.base.length := by omega
        have hltI : ¬ (T.base.length : Int) < (T.base.length : Int) := by omega
        have dr := e1.at 0 rfl; have zr := e1.frozen 0
        gi_wp2
        refine leaves_marks _ _ (hM.others (KeepsOthers.setCell W ⟨w.heap.size + 1, 0, none⟩ (.bool true))) (fun W' hW' => ?_)
        have hst : VRow (W.setCell ⟨w.heap.size + 1, 0, none⟩ (.bool true)) (w.heap.size + 1) 4 [.bool true] := VRow.set (i := 0) _ e1
        have hcl' : VRow W' (w.heap.size + 1) 4 [.bool true] := hW'.cells _ _ hst rfl
        have y9 := hcl'.at 0 rfl
        have hB2 : RowKit.Below w.heap.size w (W.setCell ⟨w.heap.size + 1, 0, none⟩ (.bool true)) := hB.setCell (show w.heap.size ≤ w.heap.size + 1 by omega) _
        have hrr : rdbl T = true := hrd
        refine ⟨.bool true, by simp [results, Tryz.results28, go_sem, y9], by rw [hrr], hB2.trans (hW'.below.mono (by have := hB.size; omega))⟩
    · unfold k2 at hrun hen
      have hsn := hfx
      have hyz : y.size ≤ maxLen := by
        obtain ⟨i, j⟩ := x
        rw [swapF_eq hf] at hfx
        have := swapW_size hf hfx
        unfold maxLen; omega
      have tc1 : VRow W1 (w1.heap.size + 1) 72 [.map (some w1.heap.size)] := tc.grown hg1 (fun e => by have := Option.some.inj e; omega)
      have k0 := e0.grown hg1 (fun e => by have := Option.some.inj e; omega)
      have k1 := e1.grown hg1 (fun e => by have := Option.some.inj e; omega)
      have hM1 : Mp Value.string okS Value.bool W1 w1.heap.size (takF T.swaps ks) := hM.kept hg1 (fun e => by have := Option.some.inj e; omega)
      have hBw : RowKit.Below w.heap.size w W1 := hB.grown hg1 hB.size (fun j e => by have := Option.some.inj e; omega)
      obtain ⟨W2, hrun2, hM2, hT2⟩ := Mp.store (P := Tryz.prog) (t := 72) hM1 keyS Tryz.underlying72 y hyz true
      have tcc := tc1.at 0 rfl
      have hg2 := hT2.grown
      have hR2 : RgA k2 ok2 Value.string W2 mb (w1.heap.size + 2) (ks ++ [x]) (swapF T.swaps) := hR1.same (hg2.block _ hR1.lt.1 (fun e => by have := Option.some.inj e; omega)) (hg2.block _ hR1.lt.2.1 (fun e => by have := Option.some.inj e; omega))
      have hlt2 : rgLe W2 mb (w1.heap.size + 2) < rgLe wr mb (w1.heap.size + 2) := by
        rw [rgLe_eq (hg2.block _ hR1.lt.1 (fun e => by have := Option.some.inj e; omega)) (hg2.block _ hR1.lt.2.1 (fun e => by have := Option.some.inj e; omega))]; exact hlt1
      have tc2 := tc1.grown hg2 (fun e => by have := Option.some.inj e; omega)
      have m0 := k0.grown hg2 (fun e => by have := Option.some.inj e; omega)
      have m1 := k1.grown hg2 (fun e => by have := Option.some.inj e; omega)
      have hB2 : RowKit.Below w.heap.size w W2 := hBw.grown hg2 hBw.size (fun j e => by have := Option.some.inj e; omega)
      have HM2 := hidI (hM2.congr (fun u => takF_snoc hsn u))
      clear hsz1 hg1 hg2 hfx hxk hxo hR hM tc e0 e1 hB tc1 k0 k1 hM1 hBw hT2 hM2 hlt1 hR1 hRl hsn
      gi_wp2
      go_roundw
      case rel => exact ⟨ks ++ [x], hR2, HM2.out, tc2, m0, m1, hB2⟩
      case measure => exact hlt2
end Go.Proofs.YtjpilmedlecdhaaGreatDoor
namespace Go.Proofs.YtjpilmedlecdhaaGreatDoor
open Go.RowKit Go.Sort Go.Shelf Go.Lib

/-! ### Blocks of one type are kept -/
/-- All blocks of one type, but one, are kept. -/
def KX1 (t : TypeId) (b : Nat) (W W' : World) : Prop := ∀ (i : Nat) (cur : Array Value) (fz : Nat × Nat), i ≠ b → W.heap[i]? = some (.cells cur t fz) → W'.heap[i]? = some (.cells cur t fz)
/-- All blocks of one type are kept. -/
def KX0 (t : TypeId) (W W' : World) : Prop := ∀ (i : Nat) (cur : Array Value) (fz : Nat × Nat), W.heap[i]? = some (.cells cur t fz) → W'.heap[i]? = some (.cells cur t fz)
section
variable {t t' : TypeId} {b : Nat} {X Y Z : World}
theorem KX0.refl (t : TypeId) (X : World) : KX0 t X X := fun _ _ _ h => h
theorem KX0.trans (h : KX0 t X Y) (k : KX0 t Y Z) : KX0 t X Z := fun i c f e => k i c f (h i c f e)
theorem KX1.trans (h : KX1 t b X Y) (k : KX1 t b Y Z) : KX1 t b X Z := fun i c f hn e => k i c f hn (h i c f hn e)
theorem KX0.one (h : KX0 t X Y) (b : Nat) : KX1 t b X Y := fun i c f _ e => h i c f e
theorem KX0.below (h : RowKit.Below X.heap.size X Y) : KX0 t X Y := fun i _ _ e => (h.block i (Array.getElem?_eq_some_iff.1 e).1).trans e
theorem KX0.turn (h : X.mapTurned Y b) : KX0 t X Y := fun i c f e => by
  obtain ⟨es, clock, es', clock', hb, rfl⟩ := h
  by_cases hi : i = b
  · subst hi; rw [hb] at e; cases e
  · exact (ChangeMaps.heap_setBlock_other hb _ hi).trans e
theorem KX0.grown {r : Option Nat} (h : X.grownBy Y r) (hr : ∀ k, r = some k → ∃ cur fz, X.heap[k]? = some (.cells cur t' fz)) (hne : t ≠ t') : KX0 t X Y := fun i c f e =>
  (h.block i (Array.getElem?_eq_some_iff.1 e).1 (fun er => by
    obtain ⟨c', f', e'⟩ := hr i er.symm
    rw [e] at e'; cases e'; exact hne rfl)).trans e
theorem KX0.set {cur : Array Value} {fz : Nat × Nat} (hb : X.heap[b]? = some (.cells cur t' fz)) (k : Nat) (v : Value) (hne : t ≠ t') : KX0 t X (X.setCell ⟨b, k, none⟩ v) := fun i c z e => by
  have hn : i ≠ b := by rintro rfl; rw [hb] at e; cases e; exact hne rfl
  exact (Below.heap_setCell _ _ _ _ hn).trans e
theorem KX1.set (t : TypeId) (b : Nat) (X : World) (k : Nat) (v : Value) : KX1 t b X (X.setCell ⟨b, k, none⟩ v) := fun _ _ _ hn e => (Below.heap_setCell _ _ _ _ hn).trans e
theorem KX0.vrow {l : List Value} (h : KX0 t X Y) (r : VRow X b t l) : VRow Y b t l := h _ _ _ r
theorem KX1.vrow {l : List Value} {i : Nat} (h : KX1 t b X Y) (r : VRow X i t l) (hn : i ≠ b) : VRow Y i t l := h _ _ _ hn r
theorem KX0.own {B n s : Nat} {v : Value} {xs : List Value} (h : KX0 t X Y) (ho : X.ownsRow B t s v n xs) : Y.ownsRow B t s v n xs := by
  refine ⟨ho.1, ho.2.imp id ?_⟩
  rintro ⟨g, cap, cur, e1, e2, e3, e4⟩
  exact ⟨g, cap, cur, e1, e2, h _ _ _ e3, e4⟩
theorem own_typed {B n s : Nat} {v : Value} {xs : List Value} (ho : X.ownsRow B t s v n xs) : ∀ k, v.ownBlock = some k → ∃ cur fz, X.heap[k]? = some (.cells cur t fz) := by
  intro k hk
  rcases ho.2 with ⟨rfl, _⟩ | ⟨g, cap, cur, rfl, _, hg, _⟩
  · cases hk
  · cases hk; exact ⟨_, _, hg⟩
end

/-- All maps are kept. -/
def KXm (W W' : World) : Prop := ∀ (i : Nat) (es : Array MapEntry) (cl : Nat), W.heap[i]? = some (.map es cl) → W'.heap[i]? = some (.map es cl)
section
variable {t' : TypeId} {b : Nat} {X Y Z : World}
theorem KXm.trans (h : KXm X Y) (k : KXm Y Z) : KXm X Z := fun i c f e => k i c f (h i c f e)
theorem KXm.below (h : RowKit.Below X.heap.size X Y) : KXm X Y := fun i _ _ e => (h.block i (Array.getElem?_eq_some_iff.1 e).1).trans e
theorem KXm.grown {r : Option Nat} (h : X.grownBy Y r) (hr : ∀ k, r = some k → ∃ cur fz, X.heap[k]? = some (.cells cur t' fz)) : KXm X Y := fun i c f e =>
  (h.block i (Array.getElem?_eq_some_iff.1 e).1 (fun er => by
    obtain ⟨c', f', e'⟩ := hr i er.symm
    rw [e] at e'; cases e')).trans e
theorem KXm.set {cur : Array Value} {fz : Nat × Nat} (hb : X.heap[b]? = some (.cells cur t' fz)) (k : Nat) (v : Value) : KXm X (X.setCell ⟨b, k, none⟩ v) := fun i c z e => by
  have hn : i ≠ b := by rintro rfl; rw [hb] at e; cases e
  exact (Below.heap_setCell _ _ _ _ hn).trans e
end


/-! ### Lists of numbers in blocks of their type -/
def SlT (w : World) (p : Option Addr) (l : List Int) : Prop := Sl w (Value.int .i64) p l ∧ ∀ b o z, p = some ⟨b, o, z⟩ → ∃ cur fz, w.heap[b]? = some (.cells cur 3 fz)
theorem SlT.keep {w w' : World} {p : Option Addr} {l : List Int} (h : SlT w p l) (k : KX0 3 w w') : SlT w' p l := by
  obtain ⟨h1, h2⟩ := h
  refine ⟨?_, fun b o z e => ?_⟩
  · rcases h1 with h1 | ⟨b, off, rfl, hb, hc⟩
    · exact .inl h1
    · obtain ⟨cur, fz, e⟩ := h2 b off none rfl
      have e' := k _ _ _ e
      exact .inr ⟨b, off, rfl, (Array.getElem?_eq_some_iff.1 e').1, fun i hi => (World.cell?_of_block (w := w) (a := ⟨b, off + i, none⟩) (e'.trans e.symm)).trans (hc i hi)⟩
  · obtain ⟨cur, fz, e⟩ := h2 b o z e
    exact ⟨cur, fz, k _ _ _ e⟩
theorem SlT.below {w w' : World} {p : Option Addr} {l : List Int} (h : SlT w p l) (hB : RowKit.Below w.heap.size w w') : SlT w' p l := h.keep (KX0.below hB)
theorem own_slT {w : World} {B n : Nat} {v : Value} {l : List Int} (h : w.ownsRow B 3 1 v n (l.map (Value.int .i64))) : ∃ p c, v = .slice p l.length c ∧ SlT w p l := by
  obtain ⟨p, c, rfl, hs⟩ := own_sl h
  refine ⟨p, c, rfl, hs, fun b o z e => ?_⟩
  rcases h.2 with ⟨e1, _⟩ | ⟨g, cap, cur, e1, _, hg, _⟩
  · simp only [Value.slice.injEq] at e1; rw [e1.1] at e; cases e
  · simp only [Value.slice.injEq] at e1; rw [e1.1] at e; cases e; exact ⟨_, _, hg⟩
def LsT (l : List Int) (w : World) (e : Ending) (w' : World) : Prop := ∃ q d, e = .returned (.slice q l.length d) ∧ SlT w' q l ∧ RowKit.Below w.heap.size w w'

/-! ### Rows of places -/
abbrev QE := Pl × (Option Addr × Nat)
def qeE (x : QE) : List Value := [.int .i64 x.1.1, .slice x.2.1 x.1.2.length x.2.2]
def catQ (l : List QE) : List Value := l.flatMap qeE
theorem catQ_len (l : List QE) : (catQ l).length = l.length * 2 := by
  induction l with
  | nil => rfl
  | cons x l ih =>
    have e : catQ (x :: l) = qeE x ++ catQ l := rfl
    have e2 : (qeE x).length = 2 := rfl
    rw [e, List.length_append, ih, e2, List.length_cons]; omega
theorem catQ_app (a b : List QE) : catQ (a ++ b) = catQ a ++ catQ b := List.flatMap_append
theorem catQ_get : ∀ (l : List QE) (k : Nat) (h : k < l.length) (j : Nat), j < 2 → (catQ l)[k * 2 + j]? = (qeE l[k])[j]?
  | [], k, h, j, hj => by simp at h
  | x :: l, 0, h, j, hj => by
    show (qeE x ++ catQ l)[0 * 2 + j]? = _
    rw [Nat.zero_mul, Nat.zero_add, List.getElem?_append_left (by show j < 2; exact hj)]; rfl
  | x :: l, k + 1, h, j, hj => by
    show (qeE x ++ catQ l)[(k + 1) * 2 + j]? = _
    rw [List.getElem?_append_right (by show 2 ≤ _; omega), show (k + 1) * 2 + j - (qeE x).length = k * 2 + j by show (k + 1) * 2 + j - 2 = _; omega]
    exact catQ_get l k (by simpa using h) j hj
theorem catQ_one (l : List QE) : ∀ v ∈ catQ l, v.oneCell' = true := by
  intro v hv
  obtain ⟨x, _, hx⟩ := List.mem_flatMap.1 hv
  simp only [qeE, List.mem_cons, List.not_mem_nil, or_false] at hx
  rcases hx with rfl | rfl <;> rfl
theorem ownQ_cell {w : World} {B e n cap g : Nat} {l : List QE} (h : w.ownsRow B e 2 (.slice (some ⟨g, 0, none⟩) n cap) n (catQ l)) (k : Nat) (hk : k < l.length) (j : Nat) (hj : j < 2) : w.cell? ⟨g, k * 2 + j, none⟩ = (qeE l[k])[j]? := by
  have hn : l.length = n := by have := h.1; rw [catQ_len] at this; omega
  rcases h.2 with ⟨e0, _⟩ | ⟨g', cap', cur, e0, hg, hh, hc, hm, hs, ht⟩
  · cases e0
  · cases e0
    rw [← catQ_get l k hk j hj, ← ht]
    have hlt : k * 2 + j < n * 2 := by omega
    simp only [World.cell?, hh]
    rw [List.getElem?_take, if_pos hlt, Array.getElem?_toList]
    simp
theorem ownQ_shape {w : World} {B e n : Nat} {v : Value} {xs : List Value} (h : w.ownsRow B e 2 v n xs) (hn : 0 < n) : ∃ g cap, v = .slice (some ⟨g, 0, none⟩) n cap := by
  rcases h.2 with ⟨rfl, h0⟩ | ⟨g, cap, cur, rfl, _⟩
  · omega
  · exact ⟨g, cap, rfl⟩
theorem infoP : (Tryz.prog.info? 69).map (fun i => (i.zero, i.size, i.bytes)) = some (some (.agg #[.int .i64 0, .slice none 0 0]), 2, 32) := by kernel_rfl

/-! ### Places that were seen -/
def okP (p : Pl) : Prop := (-1 ≤ p.1 ∧ p.1 < 16) ∧ (∀ x ∈ p.2, 0 ≤ x ∧ x < 100) ∧ p.2.length ≤ 64
def kP (p : Pl) : Value := .string ⟨(keyB p.1 p.2).toArray⟩
theorem keyP : KeyBy Tryz.prog 9 kP okP where
  law := Maps.string_keyed Tryz.underlying9
  reads := fun a ha => ⟨.string (keyB a.1 a.2), by
    have h1 := keyB_len ha.1 ha.2.1
    have h2 := ha.2.2
    have h3 : (⟨(keyB a.1 a.2).toArray⟩ : ByteArray).size ≤ maxLen := by show (keyB a.1 a.2).toArray.size ≤ maxLen; rw [List.size_toArray]; unfold maxLen; omega
    simp [keyOf, mapKey, kP, Tryz.underlying9]; exact h3⟩
  inj := fun a b ha hb h => by
    obtain ⟨h1, h2⟩ := keyB_inj ha.1 hb.1 ha.2.1 hb.2.1 (by simpa [kP] using h)
    exact Prod.ext h1 h2
theorem zeroBo (w : World) : (zeroValue 4).run Tryz.prog w = .ok (.bool false) w := by kernel_rfl
def seenP (q : List Pl) (p : Pl) : Option Bool := if p ∈ q then some true else none
theorem seenP_snoc (q : List Pl) (x : Pl) (p : Pl) : mset (seenP q) x true p = seenP (q ++ [x]) p := by
  unfold seenP mset
  by_cases h : p = x
  · subst h; simp
  · rw [if_neg h]; simp [h]
theorem seen_look {w : World} {b : Nat} {q : List Pl} (h : Mp kP okP Value.bool w b (seenP q)) {p : Pl} (hp : okP p) :
    (Instr.lookup 72 (.map (some b)) (kP p) false).run Tryz.prog w = .ok (.bool (decide (p ∈ q))) w := by
  have := h.look keyP Tryz.underlying72 (zeroBo w) p hp false
  unfold seenP at this
  by_cases hm : p ∈ q
  · rw [if_pos hm] at this; rw [decide_eq_true hm]; exact this
  · rw [if_neg hm] at this; rw [decide_eq_false hm]; exact this

/-! ### The queue, and what was seen -/
structure QI (bw bq bs ms g : Nat) (q : List Pl) (W : World) : Prop where
  row : ∃ (es : List QE) (cap : Nat), es.map (·.1) = q ∧ VRow W bq 70 [.slice (some ⟨g, 0, none⟩) q.length cap] ∧ W.ownsRow bw 69 2 (.slice (some ⟨g, 0, none⟩) q.length cap) q.length (catQ es) ∧ ∀ e ∈ es, SlT W e.2.1 e.1.2
  box : VRow W bs 72 [.map (some ms)]
  seen : Mp kP okP Value.bool W ms (seenP q)
theorem QI.keep {bw bq bs ms g : Nat} {q : List Pl} {W W' : World} (h : QI bw bq bs ms g q W) (k : ∀ t, KX0 t W W') (m : KXm W W') : QI bw bq bs ms g q W' where
  row := by
    obtain ⟨es, cap, h1, h2, h3, h4⟩ := h.row
    exact ⟨es, cap, h1, (k _).vrow h2, (k _).own h3, fun e he => (h4 e he).keep (k _)⟩
  box := (k _).vrow h.box
  seen := h.seen.same (by
    obtain ⟨es, cl, hb, _⟩ := h.seen
    rw [hb]; exact m _ _ _ hb)
theorem QI.below {bw bq bs ms g : Nat} {q : List Pl} {W W' : World} (h : QI bw bq bs ms g q W) (hB : RowKit.Below W.heap.size W W') : QI bw bq bs ms g q W' := h.keep (fun _ => KX0.below hB) (KXm.below hB)
/-- The queue's own block. -/
theorem QI.gb {bw bq bs ms g : Nat} {q : List Pl} {W : World} (h : QI bw bq bs ms g q W) : ∃ cur fz, W.heap[g]? = some (.cells cur 69 fz) := by
  obtain ⟨es, cap, h1, h2, h3, h4⟩ := h.row
  exact own_typed h3 g rfl
theorem QI.gw {bw bq bs ms g : Nat} {q : List Pl} {W : World} (h : QI bw bq bs ms g q W) : bw ≤ g := by
  obtain ⟨es, cap, h1, h2, h3, h4⟩ := h.row
  exact (h3.lt g rfl).1
/-- The queue's own block is none that holds one place. -/
theorem QI.ne {bw bq bs ms g pb : Nat} {q : List Pl} {W : World} (h : QI bw bq bs ms g q W) (hq : 2 ≤ q.length) {a b : Value} (r : VRow W pb 69 [a, b]) : pb ≠ g := by
  rintro rfl
  obtain ⟨es, cap, h1, h2, h3, h4⟩ := h.row
  have hl : es.length = q.length := by rw [← h1, List.length_map]
  rcases h3.2 with ⟨e0, _⟩ | ⟨g', cap', cur, e0, hg, hh, hc, hm, hs, ht⟩
  · cases e0
  · simp only [Value.slice.injEq, Option.some.injEq, Addr.mk.injEq] at e0
    obtain ⟨⟨rfl, _⟩, _⟩ := e0
    have hr : W.heap[pb]? = _ := r
    rw [hh] at hr
    have h6 := congrArg List.length ht
    rw [List.length_take, catQ_len] at h6
    simp only [Option.some.injEq, Obj.cells.injEq] at hr
    have h7 : cur.toList.length = 2 := by rw [hr.1]; rfl
    omega
/-- The queue, whose own block is the old one or a longer one. -/
def QP (bw bq bs ms g : Nat) (q : List Pl) (w' : World) : Prop := ∃ g', (g' = g ∨ 2 ≤ q.length) ∧ QI bw bq bs ms g' q w'
/-- All but three blocks are kept. -/
structure KW (bq ms g : Nat) (W W' : World) : Prop where
  sz : W.heap.size ≤ W'.heap.size
  blk : ∀ i, i < W.heap.size → i ≠ bq → i ≠ ms → i ≠ g → W'.heap[i]? = W.heap[i]?
theorem KW.trans {bq ms g : Nat} {X Y Z : World} (h : KW bq ms g X Y) (k : KW bq ms g Y Z) : KW bq ms g X Z :=
  ⟨Nat.le_trans h.sz k.sz, fun i a b c d => (k.blk i (Nat.lt_of_lt_of_le a h.sz) b c d).trans (h.blk i a b c d)⟩
theorem KW.below {bq ms g : Nat} {X Y : World} (h : RowKit.Below X.heap.size X Y) : KW bq ms g X Y := ⟨h.size, fun i a _ _ _ => h.block i a⟩
theorem KW.turn {bq ms g : Nat} {X Y : World} (h : X.mapTurned Y ms) : KW bq ms g X Y := ⟨h.grown.size, fun i a _ c _ => h.grown.block i a (fun e => c (by cases e; rfl))⟩
theorem KW.grown {bq ms g : Nat} {X Y : World} (h : X.grownBy Y (some g)) : KW bq ms g X Y := ⟨h.size, fun i a _ _ d => h.block i a (fun e => d (by cases e; rfl))⟩
theorem KW.set {bq ms g : Nat} (X : World) (k : Nat) (v : Value) : KW bq ms g X (X.setCell ⟨bq, k, none⟩ v) := ⟨by simp, fun i _ b _ _ => Below.heap_setCell _ _ _ _ b⟩
theorem KW.vrow {bq ms g i : Nat} {t : TypeId} {l : List Value} {W W' : World} (h : KW bq ms g W W') (r : VRow W i t l) (h1 : i ≠ bq) (h2 : i ≠ ms) (h3 : i ≠ g) : VRow W' i t l := (h.blk i r.lt h1 h2 h3).trans r
theorem seen_store {bw bq bs ms g : Nat} {q : List Pl} {W : World} (h : QI bw bq bs ms g q W) {x : Pl} (hx : okP x) :
    ∃ wm, (Instr.mapUpdate 72 (.map (some ms)) (kP x) (.bool true)).run Tryz.prog W = .ok () wm ∧ Mp kP okP Value.bool wm ms (seenP (q ++ [x])) ∧ W.mapTurned wm ms := by
  obtain ⟨wm, h1, h2, h3⟩ := h.seen.store keyP Tryz.underlying72 x hx true
  exact ⟨wm, h1, h2.congr (seenP_snoc q x), h3⟩
theorem below_al2 (w : World) (o : Obj) : RowKit.Below w.heap.size w (w.alloc o) := (RowKit.Below.refl _ _).alloc (Nat.le_refl _) o
/-- A further place. -/
theorem queue_push {bw bq bs ms g : Nat} {q : List Pl} {es : List QE} {cap : Nat} {W : World} (hes : es.map (·.1) = q) (hq : VRow W bq 70 [.slice (some ⟨g, 0, none⟩) q.length cap])
    (ho : W.ownsRow bw 69 2 (.slice (some ⟨g, 0, none⟩) q.length cap) q.length (catQ es)) (hsl : ∀ e ∈ es, SlT W e.2.1 e.1.2) (hbx : VRow W bs 72 [.map (some ms)])
    {x : QE} (hs : Mp kP okP Value.bool W ms (seenP (q ++ [x.1]))) (hx : SlT W x.2.1 x.1.2) {v' : Value} {w9 : World}
    (h9 : w9.ownsRow bw 69 2 v' (q.length + 1) (catQ es ++ catQ [x])) (hg : (W.alloc (.cells (qeE x).toArray 69)).grownBy w9 (some g)) (hbq : bw ≤ bq) (hW : bw ≤ W.heap.size) :
    ∃ g' cap', v' = .slice (some ⟨g', 0, none⟩) (q.length + 1) cap' ∧ w9.frozen? ⟨bq, 0, none⟩ = false ∧ (∃ u, w9.cell? ⟨bq, 0, none⟩ = some u) ∧ RowKit.Below bw W (w9.setCell ⟨bq, 0, none⟩ v') ∧ KW bq ms g W (w9.setCell ⟨bq, 0, none⟩ v') ∧ QI bw bq bs ms g' (q ++ [x.1]) (w9.setCell ⟨bq, 0, none⟩ v') := by
  have hA := below_al2 W (.cells (qeE x).toArray 69)
  have hty := own_typed (ho.alloc (.cells (qeE x).toArray 69))
  have hty' : ∀ k, some g = some k → ∃ cur fz, (W.alloc (.cells (qeE x).toArray 69)).heap[k]? = some (.cells cur 69 fz) := fun k hk => hty k hk
  have k9 : ∀ t, t ≠ 69 → KX0 t W w9 := fun t ht => (KX0.below hA).trans (KX0.grown hg hty' ht)
  have r9 : VRow w9 bq 70 [.slice (some ⟨g, 0, none⟩) q.length cap] := (k9 70 (by decide)).vrow hq
  have r10 := r9.set (i := 0) v'
  have kk : ∀ t, t ≠ 69 → t ≠ 70 → KX0 t W (w9.setCell ⟨bq, 0, none⟩ v') := fun t h1 h2 => (k9 t h1).trans (KX0.set r9 0 v' h2)
  have km : KXm W (w9.setCell ⟨bq, 0, none⟩ v') := ((KXm.below hA).trans (KXm.grown hg hty')).trans (KXm.set r9 0 _)
  obtain ⟨g', c', rfl⟩ := ownQ_shape h9 (by omega)
  have hB9 : RowKit.Below bw W w9 := (hA.mono hW).grown hg (by rw [World.size_alloc]; omega) (fun j e => (ho.lt j e).1)
  have hms : ∃ es cl, W.heap[ms]? = some (.map es cl) := by
    obtain ⟨es, cl, hb, _⟩ := hs
    exact ⟨es, cl, hb⟩
  refine ⟨g', c', rfl, r9.frozen 0, ⟨_, r9.at 0 rfl⟩, hB9.setCell hbq _, ((KW.below hA).trans (KW.grown hg)).trans (KW.set _ _ _), ⟨es ++ [x], c', ?_, ?_, ?_, ?_⟩, (kk _ (by decide) (by decide)).vrow hbx, ?_⟩
  · rw [List.map_append, hes]; rfl
  · rw [List.length_append, List.length_singleton]; exact r10
  · rw [List.length_append, List.length_singleton, catQ_app]; exact (KX0.set (t := 69) r9 0 _ (by decide)).own h9
  · intro e he
    rcases List.mem_append.1 he with he | he
    · exact (hsl e he).keep (kk _ (by decide) (by decide))
    · rw [List.mem_singleton.1 he]; exact hx.keep (kk _ (by decide) (by decide))
  · obtain ⟨es, cl, hb⟩ := hms
    exact hs.same (by rw [hb]; exact km _ _ _ hb)

set_option maxRecDepth 100000 in
set_option maxHeartbeats 2000000 in
theorem lkFollowT_any (G : Gr) (p : Option Addr) (c : Nat) (st : List Int) (q : Option Addr) (d : Nat) (s : ByteArray) (w : World) (hin : Sg 3 w edE p G.es) (hst : SlT w q st) (hv : Vg G) (hS : St G.n st) (hw : Chg.okw G.q s.data.toList = true) (hs : s.size ≤ 65536) :
    Calls Tryz.prog 32 #[(.agg #[.int .i64 G.q, .int .i64 G.n, .slice p G.es.length c]), .slice q st.length d, .string s] w (LsT (endA G st (ltr s)) w) := by
  have HIN := hidI hin; have HV := hidI hv; have HS := hidI hS; have HW := hidI hw
  have HST := hidI hst
  have hn1 := hv.n1; have hn2 := hv.n2
  clear hin hst hv hS hw
  obtain ⟨w0, hw0⟩ : ∃ w0, w0 = w.alloc (.cells #[.int .i64 G.q, .int .i64 G.n, .slice p G.es.length c] 30) := ⟨_, rfl⟩
  have b0 : VRow w0 w.heap.size 30 [.int .i64 G.q, .int .i64 G.n, .slice p G.es.length c] := by subst hw0; exact VRow.new w _ _
  have hB0 : RowKit.Below w.heap.size w w0 := by subst hw0; exact (RowKit.Below.refl _ _).alloc (Nat.le_refl _) _
  have hE0 : endA G st ((ltr s).take 0) = st := rfl
  go_enter Tryz.func32, Tryz.ntmps32
  go_wp2
  rw [← hw0]
  clear hw0
  go_loopw [1, 10] (fun sv iv wr => ∃ (k : Nat) (qk : Option Addr) (dk : Nat), k ≤ s.size ∧ sv = .slice qk (endA G st ((ltr s).take k)).length dk ∧ iv = .int .i64 k ∧ SlT wr qk (endA G st ((ltr s).take k)) ∧ RowKit.Below w0.heap.size w0 wr) (fun _ iv _ => s.size - (intOf iv).toNat)
  case atStart => exact ⟨0, q, d, by omega, by rw [hE0], rfl, by rw [hE0]; exact HST.out.below hB0, RowKit.Below.refl _ _⟩
  case round =>
    obtain ⟨k, qk, dk, hk, rfl, rfl, hsl, hB⟩ := hrel
    have HSK := hidI (endA_st G st HS.out ((ltr s).take k))
    have xr := hB0.trans (hB.mono hB0.size)
    by_cases hlt : k < s.size
    · have HN : Hid (endA G st ((ltr s).take (k + 1)) = nextA G (endA G st ((ltr s).take k)) (Chg.dig (s[k].toNat : Int))) := by rw [Hid, ltr_take s k hlt, endA_snoc]
      generalize endA G st ((ltr s).take k) = L at *
      have hltN : (k : Int) < (s.size : Int) := by omega
      have hd := okw_at HW.out k hlt
      have hdx := idx_dig s[k] hd.1
      generalize Chg.dig (s[k].toNat : Int) = b at *
      have r0 := b0.below hB b0.lt
      have HI := hidI (fun W => Tryz.strings_IndexByte ⟨#[48, 49, 50, 51, 52, 53, 54, 55, 56, 57, 97, 98, 99, 100, 101, 102]⟩ (s[k].toNat : Int) W)
      rw [show Lib.indexByte (⟨#[48, 49, 50, 51, 52, 53, 54, 55, 56, 57, 97, 98, 99, 100, 101, 102]⟩ : ByteArray).data.toList ((s[k].toNat : Int)).toNat.toUInt8 = b from hdx] at HI
      have hlen := HSK.out.len hn1
      have HC := hidI HSK.out.chk
      have HSL := hidI hsl
      have HD := hidI hd
      clear hd
      have HXR := hidI xr
      clear hsl xr hdx
      go_upto_region 4 with fail
      have g0 := r0.at 0 rfl; have g1 := r0.at 1 rfl; have g2 := r0.at 2 rfl
      have zb : w.heap.size < wr.heap.size := r0.lt
      have HIX : Hid (∀ W, RowKit.Below wr.heap.size wr W → Sg 3 W edE p G.es) := fun W h => HIN.out.below (HXR.out.trans (h.mono HXR.out.size))
      have HSX : Hid (∀ W, RowKit.Below wr.heap.size wr W → Sl W (Value.int .i64) qk L) := fun W h => HSL.out.1.below h
      have HBR := hidI hB
      clear r0 hB
      go_region_held3 (fun w' => w'.cell? ⟨w.heap.size, 0, none⟩ = some (.int .i64 G.q) ∧ w'.cell? ⟨w.heap.size, 1, none⟩ = some (.int .i64 G.n) ∧ w'.cell? ⟨w.heap.size, 2, none⟩ = some (.slice p G.es.length c) ∧ RowKit.Below wr.heap.size wr w')
        (first | (go_split_ands; refine ⟨?_, ?_, ?_, ?_⟩ <;> first | assumption | (go_keep; done) | exact RowKit.Below.refl _ _ | exact below_drewN (RowKit.Below.refl _ _) 1 | exact (hBb.cell (Nat.lt_of_lt_of_le zb (RowKit.Below.size (by assumption)))).trans (by assumption) | exact RowKit.Below.trans (by assumption) (hBb.mono (RowKit.Below.size (by assumption)))))
        (first
          | (go_at_call 63; (with_reducible refine (HI.out _).mono ?_); rintro e wA ⟨rfl, rfl⟩)
          | (go_at_call 62; go_split_ands; (with_reducible refine (callsIn_wide.1 (gStep_in G p c L qk dk b _ (HIX.out _ (by assumption)) (HSX.out _ (by assumption)) HV.out (by omega) HC.out HD.out.1 HD.out.2)).mono ?_); rintro e wB ⟨p', m', c', rfl, hown, hBb⟩; have hwz := RowKit.Below.size (show RowKit.Below wr.heap.size wr _ by assumption); have hfin := own_baseI hown hwz; have hBf := RowKit.Below.trans (show RowKit.Below wr.heap.size wr _ by assumption) (hBb.mono hwz)))
      all_goals
        obtain ⟨q9, c9, he9, hs9⟩ := own_slT hfin
        simp only [Value.slice.injEq] at he9
        obtain ⟨rfl, rfl, rfl⟩ := he9
        have hBn := HBR.out.trans (hBf.mono HBR.out.size)
        go_wp2_with fail
        go_roundw
        case rel => exact ⟨k + 1, _, _, by omega, by rw [HN.out], by go_num, by rw [HN.out]; exact hs9, hBn⟩
        case measure => simp [intOf]; omega
    · obtain rfl : k = s.size := by omega
      have hltN : ¬ (s.size : Int) < (s.size : Int) := by omega
      rw [ltr_all] at *
      generalize endA G st (ltr s) = L at *
      go_wp2
      go_ret
      exact ⟨_, _, rfl, hsl, xr⟩
end Go.Proofs.YtjpilmedlecdhaaGreatDoor
namespace Go.Proofs.YtjpilmedlecdhaaGreatDoor
open Go.RowKit Go.Sort Go.Shelf Go.Lib

set_option maxRecDepth 100000 in
set_option maxHeartbeats 1000000 in
theorem lkFree_any (T : Tb) (hf : fmd T = true) (sb pb mb : Nat) (x j : Int) (v : Value) (w : World) (h1 : VRow w sb 66 [.map (some mb)]) (h2 : VRow w pb 69 [.int .i64 x, v]) (h3 : SwB T.swaps w mb)
    (hx : (Lit.int .i64 x).wf = true) (hj : (Lit.int .i64 j).wf = true) :
    Calls Tryz.prog 33 #[.int .i64 j, .pointer (some ⟨sb, 0, none⟩), .pointer (some ⟨pb, 0, none⟩)] w fun e w' => e = .returned (.bool (frW T x j)) ∧ w' = w := by
  have hlk := SwB.look hf h3 x j hx hj
  have a0 := h1.at 0 rfl
  have b0 := h2.at 0 rfl
  have HF : Hid (frW T x j = (swapW T.swaps x j).isNone) := rfl
  clear h1 h2 h3 hx hj
  generalize swapW T.swaps x j = o at *
  cases o with
  | none =>
    change (Instr.lookup 66 (.map (some mb)) (.agg #[.int .i64 x, .int .i64 j]) true).run Tryz.prog w = .ok (.tuple #[.string ⟨#[]⟩, .bool false]) w at hlk
    go_enter Tryz.func33, Tryz.ntmps33
    go_wp2
    go_ret
    exact ⟨by rw [HF.out]; rfl, rfl⟩
  | some u =>
    change (Instr.lookup 66 (.map (some mb)) (.agg #[.int .i64 x, .int .i64 j]) true).run Tryz.prog w = .ok (.tuple #[.string u, .bool true]) w at hlk
    go_enter Tryz.func33, Tryz.ntmps33
    go_wp2
    go_ret
    exact ⟨by rw [HF.out]; rfl, rfl⟩

theorem cell_newQ (w : World) (x : QE) : ∀ (j : Nat) (u : Value), (catQ [x])[j]? = some u → (w.alloc (.cells (qeE x).toArray 69)).cell? ((⟨w.heap.size, 0, none⟩ : Addr).add j) = some u := by
  intro j u hu
  rw [show (⟨w.heap.size, 0, none⟩ : Addr).add j = ⟨w.heap.size, 0 + j, none⟩ by unfold Addr.add; split <;> simp_all, Nat.zero_add]
  have h : VRow (w.alloc (.cells (qeE x).toArray 69)) w.heap.size 69 (qeE x) := VRow.new w _ _
  rw [h.cell]
  simpa [catQ] using hu

set_option maxRecDepth 100000 in
set_option maxHeartbeats 4000000 in
theorem lkWrite_any (G : Gr) (p : Option Addr) (c : Nat) (bw gb bs bq ms g : Nat) (q : List Pl) (pl : Pl) (pp : Option Addr) (d : Nat) (wd : ByteArray) (last : Int) (w : World)
    (hQ : QI bw bq bs ms g q w) (hG : VRow w gb 30 [.int .i64 G.q, .int .i64 G.n, .slice p G.es.length c]) (hin : Sg 3 w edE p G.es) (hv : Vg G) (hpl : SlT w pp pl.2) (hst : St G.n pl.2) (hw : Chg.okw G.q wd.data.toList = true) (hs : wd.size ≤ 65536)
    (ht : T10 w) (hl : -1 ≤ last ∧ last < 16) (hq1 : 1 ≤ q.length) (hq : q.length ≤ 1024) (hms : bw ≤ ms) (hbq : bw ≤ bq) (hbw : bw ≤ w.heap.size) :
    Calls Tryz.prog 31 #[.agg #[.int .i64 pl.1, .slice pp pl.2.length d], .string wd, .int .i64 last, .pointer (some ⟨gb, 0, none⟩), .pointer (some ⟨bs, 0, none⟩), .pointer (some ⟨bq, 0, none⟩)] w fun e w' =>
      e = .returned (.int .i64 (wrP G q pl wd last).2) ∧ QP bw bq bs ms g (wrP G q pl wd last).1 w' ∧ KW bq ms g w w' ∧ RowKit.Below bw w w' := by
  obtain ⟨i0, hi0, hz0, hz1, hz2⟩ := info_parts infoP
  obtain ⟨nx, hnx⟩ : ∃ nx, nx = endA G pl.2 (ltr wd) := ⟨_, rfl⟩
  have hS2 : St G.n nx := by rw [hnx]; exact endA_st G pl.2 hst _
  have hn2 := hv.n2; have hn1 := hv.n1
  have HOK : Hid (okP (last, nx)) := ⟨hl, fun x hx => by have := hS2.ins x hx; omega, by have := hS2.len hn1; show nx.length ≤ 64; omega⟩
  have hnl : nx.length ≤ 64 := HOK.out.2.2
  have HWR : Hid (wrP G q pl wd last = if nx = [] then (q, 13) else if (last, nx) ∈ q then (q, 0) else if q.length = 1024 then (q, 4) else (q ++ [(last, nx)], 0)) := by rw [Hid, hnx]; rfl
  obtain ⟨w1, hw1⟩ : ∃ w1, w1 = w.alloc (.cells #[.int .i64 pl.1, .slice pp pl.2.length d] 69) := ⟨_, rfl⟩
  have b1 : VRow w1 w.heap.size 69 [.int .i64 pl.1, .slice pp pl.2.length d] := by subst hw1; exact VRow.new w _ _
  have hB1 : RowKit.Below w.heap.size w w1 := by subst hw1; exact (RowKit.Below.refl _ _).alloc (Nat.le_refl _) _
  have a1 := b1.at 1 rfl
  have g1 := hG.below hB1 hG.lt
  have e0 := g1.at 0 rfl; have e1 := g1.at 1 rfl; have e2 := g1.at 2 rfl
  have HF := hidI (lkFollowT_any G p c pl.2 pp d wd w1 (hin.below hB1) (hpl.below hB1) hv hst hw hs)
  rw [← hnx] at HF
  have HQ := hidI hQ
  have HT := hidI ht
  have hq0 := hQ.box.lt
  have hbb : bs < w.heap.size := hQ.box.lt
  clear hQ hG hin hv hpl hst hw hs hnx hS2 b1 g1 hn2 hn1 ht
  go_enter Tryz.func31, Tryz.ntmps31
  go_upto_region 1 with fail
  rw [← hw1]
  clear hw1
  go_wp2_with fail
  refine HF.out.mono ?_
  rintro e w2 ⟨qn, dn, rfl, hsn, hB2⟩
  have hB3 := hB1.trans (hB2.mono hB1.size)
  clear HF a1 e0 e1 e2 hB1 hB2
  obtain ⟨w3, hw3⟩ : ∃ w3, w3 = w2.alloc (.cells #[.int .i64 last, .slice qn nx.length dn] 69) := ⟨_, rfl⟩
  have b3 : VRow w3 w2.heap.size 69 [.int .i64 last, .slice qn nx.length dn] := by subst hw3; exact VRow.new w2 _ _
  have hB4 : RowKit.Below w2.heap.size w2 w3 := by subst hw3; exact (RowKit.Below.refl _ _).alloc (Nat.le_refl _) _
  have hBw : RowKit.Below w.heap.size w w3 := hB3.trans (hB4.mono hB3.size)
  have hs3 := hsn.below hB4
  have c0 := b3.at 0 rfl; have c1 := b3.at 1 rfl
  have HQ3 := hidI (HQ.out.below hBw)
  obtain ⟨ks, hks⟩ : ∃ ks : ByteArray, ks = ⟨(keyB last nx).toArray⟩ := ⟨_, rfl⟩
  have HKP : Hid (kP (last, nx) = .string ks) := by rw [hks]; rfl
  have HK : Hid (∀ W, RowKit.Below w3.heap.size w3 W → Calls Tryz.prog 30 #[.agg #[.int .i64 last, .slice qn nx.length dn]] W fun e w' => e = .returned (.string ks) ∧ RowKit.Below W.heap.size W w') := fun W hW => by
    rw [hks]; exact lkKey_any last nx qn dn W HOK.out.1 (hs3.1.below hW) HOK.out.2.1 HOK.out.2.2 (HT.out.below (hBw.trans (hW.mono hBw.size)))
  have HS3 := hidI hs3
  have k0 := HQ3.out.box.at 0 rfl
  have hnb : w2.heap.size < w3.heap.size := b3.lt
  have hbs3 : bs < w3.heap.size := Nat.lt_of_lt_of_le hbb hBw.size
  have HL : Hid (∀ W, RowKit.Below w3.heap.size w3 W → (Instr.lookup 72 (.map (some ms)) (.string ks) false).run Tryz.prog W = .ok (.bool (decide ((last, nx) ∈ q))) W) := fun W hW => by
    rw [← HKP.out]; exact seen_look (HQ3.out.below hW).seen HOK.out
  have HB3 := hidI b3
  have hBw2 := hidI hBw
  clear hB3 hB4 hsn hs3 hks HT b3 hBw
  go_upto_region 2 with fail
  rw [← hw3]
  clear hw3
  generalize w2.heap.size = nb at *
  by_cases hn : nx = []
  · have hW0 : Hid (wrP G q pl wd last = (q, 13)) := by rw [Hid, HWR.out, if_pos hn]
    have hl0 : (nx.length : Int) = 0 := by rw [hn]; rfl
    clear hn
    go_wp2
    go_ret
    rw [hW0.out]
    exact ⟨rfl, ⟨g, .inl rfl, HQ3.out⟩, KW.below hBw2.out, hBw2.out.mono hbw⟩
  have hl0 : ¬ (nx.length : Int) = 0 := by have := List.length_pos_iff.2 hn; omega
  by_cases hm : (last, nx) ∈ q
  · have hW0 : Hid (wrP G q pl wd last = (q, 0)) := by rw [Hid, HWR.out, if_neg hn, if_pos hm]
    rw [decide_eq_true hm] at HL
    clear hm hn
    go_upto_region 4 with fail
    go_region_held3 (fun w' => w'.cell? ⟨bs, 0, none⟩ = some (.map (some ms)) ∧ w'.cell? ⟨nb, 0, none⟩ = some (.int .i64 last) ∧ w'.cell? ⟨nb, 1, none⟩ = some (.slice qn nx.length dn) ∧ RowKit.Below w3.heap.size w3 w' ∧ (Instr.lookup 72 (.map (some ms)) (.string ks) false).run Tryz.prog w' = .ok (.bool true) w')
      (first | (go_split_ands; refine ⟨?_, ?_, ?_, ?_, ?_⟩ <;> first | assumption | (go_keep; done) | exact below_dN (RowKit.Below.refl _ _) 1 | exact HL.out _ (below_dN (RowKit.Below.refl _ _) 1) | exact (RowKit.Below.cell (by assumption) hbs3).trans k0 | exact (RowKit.Below.cell (by assumption) hnb).trans c0 | exact (RowKit.Below.cell (by assumption) hnb).trans c1 | exact HL.out _ (by assumption)))
      (first | (go_at_call 30; go_split_ands; with_reducible refine (HK.out _ (by assumption)).mono ?_; rintro e wA ⟨rfl, hBa⟩; have hBz := RowKit.Below.trans (show RowKit.Below w3.heap.size w3 _ by assumption) (hBa.mono (RowKit.Below.size (by assumption)))))
    all_goals
      have hBX : RowKit.Below w.heap.size w wA := hBw2.out.trans (hBz.mono hBw2.out.size)
      have hQX := HQ3.out.below hBz
      go_wp2
      go_ret
      rw [hW0.out]
      exact ⟨rfl, ⟨g, .inl rfl, hQX⟩, KW.below hBX, hBX.mono hbw⟩
  rw [decide_eq_false hm] at HL
  by_cases hq4 : q.length = 1024
  · have hW0 : Hid (wrP G q pl wd last = (q, 4)) := by rw [Hid, HWR.out, if_neg hn, if_neg hm, if_pos hq4]
    have hq5 : (q.length : Int) = 1024 := by omega
    clear hm hn hq4
    go_upto_region 4 with fail
    go_region_held3 (fun w' => w'.cell? ⟨bs, 0, none⟩ = some (.map (some ms)) ∧ w'.cell? ⟨nb, 0, none⟩ = some (.int .i64 last) ∧ w'.cell? ⟨nb, 1, none⟩ = some (.slice qn nx.length dn) ∧ RowKit.Below w3.heap.size w3 w' ∧ (Instr.lookup 72 (.map (some ms)) (.string ks) false).run Tryz.prog w' = .ok (.bool false) w')
      (first | (go_split_ands; refine ⟨?_, ?_, ?_, ?_, ?_⟩ <;> first | assumption | (go_keep; done) | exact below_dN (RowKit.Below.refl _ _) 1 | exact HL.out _ (below_dN (RowKit.Below.refl _ _) 1) | exact (RowKit.Below.cell (by assumption) hbs3).trans k0 | exact (RowKit.Below.cell (by assumption) hnb).trans c0 | exact (RowKit.Below.cell (by assumption) hnb).trans c1 | exact HL.out _ (by assumption)))
      (first | (go_at_call 30; go_split_ands; with_reducible refine (HK.out _ (by assumption)).mono ?_; rintro e wA ⟨rfl, hBa⟩; have hBz := RowKit.Below.trans (show RowKit.Below w3.heap.size w3 _ by assumption) (hBa.mono (RowKit.Below.size (by assumption)))))
    all_goals
      have hBX : RowKit.Below w.heap.size w wA := hBw2.out.trans (hBz.mono hBw2.out.size)
      have hQX := HQ3.out.below hBz
      obtain ⟨es, cap, h1, h2, h3, h4⟩ := hQX.row
      have q0 := h2.at 0 rfl
      clear h1 h2 h3 h4
      go_wp2
      go_ret
      rw [hW0.out]
      exact ⟨rfl, ⟨g, .inl rfl, hQX⟩, KW.below hBX, hBX.mono hbw⟩
  · have hW0 : Hid (wrP G q pl wd last = (q ++ [(last, nx)], 0)) := by rw [Hid, HWR.out, if_neg hn, if_neg hm, if_neg hq4]
    have hq5 : ¬ (q.length : Int) = 1024 := by omega
    clear hm hn hq4
    go_upto_region 4 with fail
    go_region_held3 (fun w' => w'.cell? ⟨bs, 0, none⟩ = some (.map (some ms)) ∧ w'.cell? ⟨nb, 0, none⟩ = some (.int .i64 last) ∧ w'.cell? ⟨nb, 1, none⟩ = some (.slice qn nx.length dn) ∧ RowKit.Below w3.heap.size w3 w' ∧ (Instr.lookup 72 (.map (some ms)) (.string ks) false).run Tryz.prog w' = .ok (.bool false) w')
      (first | (go_split_ands; refine ⟨?_, ?_, ?_, ?_, ?_⟩ <;> first | assumption | (go_keep; done) | exact below_dN (RowKit.Below.refl _ _) 1 | exact HL.out _ (below_dN (RowKit.Below.refl _ _) 1) | exact (RowKit.Below.cell (by assumption) hbs3).trans k0 | exact (RowKit.Below.cell (by assumption) hnb).trans c0 | exact (RowKit.Below.cell (by assumption) hnb).trans c1 | exact HL.out _ (by assumption)))
      (first | (go_at_call 30; go_split_ands; with_reducible refine (HK.out _ (by assumption)).mono ?_; rintro e wA ⟨rfl, hBa⟩; have hBz := RowKit.Below.trans (show RowKit.Below w3.heap.size w3 _ by assumption) (hBa.mono (RowKit.Below.size (by assumption)))))
    all_goals
      have HBX : Hid (RowKit.Below w.heap.size w wA) := hBw2.out.trans (hBz.mono hBw2.out.size)
      have HQX := hidI (HQ3.out.below hBz)
      have HBZ := hidI hBz
      obtain ⟨es, cap, h1, h2, h3, h4⟩ := HQX.out.row
      have q0 := h2.at 0 rfl
      have HNS : Hid (∀ W, RowKit.Below wA.heap.size wA W → ∃ wm, (Instr.mapUpdate 72 (.map (some ms)) (.string ks) (.bool true)).run Tryz.prog W = .ok () wm ∧ Mp kP okP Value.bool wm ms (seenP (q ++ [(last, nx)])) ∧ W.mapTurned wm ms ∧ W.cell? ⟨bs, 0, none⟩ = some (.map (some ms))) := fun W hW => by
        obtain ⟨wm, y1, y2, y3⟩ := seen_store (HQX.out.below hW) HOK.out
        rw [HKP.out] at y1
        exact ⟨wm, y1, y2, y3, (HQX.out.below hW).box.at 0 rfl⟩
      clear h1 h2 h3 h4 hBz
      have k0A := (RowKit.Below.cell HBZ.out hbs3).trans k0
      have c0A := (RowKit.Below.cell HBZ.out hnb).trans c0
      have c1A := (RowKit.Below.cell HBZ.out hnb).trans c1
      go_upto_region 8 with fail
      go_cut [] (fun wx => Mp kP okP Value.bool wx ms (seenP (q ++ [(last, nx)])) ∧ ∃ wB, RowKit.Below wA.heap.size wA wB ∧ wB.mapTurned wx ms)
      case first =>
        go_region_with (go_at_call 30; refine (HK.out _ (RowKit.Below.trans HBZ.out ((below_dN (RowKit.Below.refl _ _) 1).mono HBZ.out.size))).mono ?_; rintro e wB ⟨rfl, hBb⟩; have hBAB := RowKit.Below.trans (below_dN (RowKit.Below.refl wA.heap.size wA) 1) hBb; obtain ⟨wm, hst, hPN, hturn, hcB⟩ := HNS.out wB hBAB)
        all_goals
          go_wp2_with fail
          go_meet
          exact ⟨hPN, wB, hBAB, hturn⟩
      case rest =>
        obtain ⟨hPN, wB, hBAB, hturn⟩ := hcut
        have kA : ∀ t, KX0 t wA wc := fun t => (KX0.below hBAB).trans (KX0.turn hturn)
        have KWA : KW bq ms g wA wc := (KW.below hBAB).trans (KW.turn hturn)
        have hwA : bw ≤ wA.heap.size := Nat.le_trans hbw HBX.out.size
        have hwB : bw ≤ wB.heap.size := Nat.le_trans hwA hBAB.size
        have hBx : RowKit.Below bw w wc := ((HBX.out.mono hbw).trans (hBAB.mono hwA)).grown hturn.grown hwB (fun j e => by cases e; exact hms)
        have hwx : bw ≤ wc.heap.size := Nat.le_trans hwB hturn.grown.size
        have hwsz : w.heap.size ≤ wc.heap.size := Nat.le_trans HBX.out.size KWA.sz
        obtain ⟨es', cap', h1, h2, h3, h4⟩ := HQX.out.row
        have rsx := (kA _).vrow h2
        have osx := (kA _).own h3
        have hbx := (kA _).vrow HQX.out.box
        have HSL : Hid (∀ e ∈ es', SlT wc e.2.1 e.1.2) := fun e he => (h4 e he).keep (kA _)
        have HX := hidI ((HS3.out.below HBZ.out).keep (kA _))
        have nbx := (kA _).vrow (HB3.out.below HBZ.out HB3.out.lt)
        have HKW := hidI ((KW.below HBX.out).trans KWA)
        have hoS := osx.alloc (.cells (qeE (((last, nx), (qn, dn)) : QE)).toArray 69)
        have hnew := cell_newQ wc (((last, nx), (qn, dn)) : QE)
        have HPN := hidI hPN
        have HES := hidI h1
        clear kA KWA hturn hBAB hPN h1 h2 h3 h4 q0 k0A c0A c1A
        have q0 := rsx.at 0 rfl
        have c0 := nbx.at 0 rfl; have c1 := nbx.at 1 rfl
        have hql : q.length + 1 ≤ 1025 := by omega
        go_wp2_with (at_builtin; refine wpList_append_own _ rfl _ _ 70 rfl bw 69 i0 _ 2 32 Tryz.underlying70 hi0 hz0 hz1 hz2 rfl (by decide) _ _ _ rfl hoS ⟨wc.heap.size, 0, none⟩ 1 1 (catQ [((last, nx), (qn, dn))]) rfl rfl hnew (catQ_one _) (by simp only [maxLen]; omega) (by omega) (by rw [World.size_alloc]; omega) ?_; intro v' w9 hown' hgrow _; obtain ⟨g9, cap9, rfl, z0, ⟨u9, z1⟩, y1, y2, y3⟩ := queue_push HES.out rsx osx HSL.out hbx (x := ((last, nx), (qn, dn))) HPN.out HX.out hown' hgrow hbq hwx)
        go_ret
        rw [hW0.out]
        exact ⟨rfl, ⟨g9, .inr (by rw [List.length_append, List.length_singleton]; omega), y3⟩, HKW.out.trans y2, hBx.trans y1⟩
end Go.Proofs.YtjpilmedlecdhaaGreatDoor
namespace Go.Proofs.YtjpilmedlecdhaaGreatDoor
open Go.RowKit Go.Sort Go.Shelf Go.Lib

/-! ### Words of a formed table -/
theorem base_okw {T : Tb} (hf : fmd T = true) (k : Nat) (hk : k < T.base.length) : Chg.okw T.q (bget T.base k).data.toList = true ∧ (bget T.base k).size ≤ 65536 := by
  have hN := pre_all (fmd_split hf).1
  have h := allB_get (fmd_split hf).2.2.1 k hk
  unfold wOk at h
  simp only [Bool.and_eq_true, decide_eq_true_eq] at h
  exact ⟨wchk_okw h.2.1, by omega⟩
theorem swap_okw {T : Tb} (hf : fmd T = true) (k : Nat) (hk : k < T.swaps.length) : Chg.okw T.q T.swaps[k].wd.data.toList = true ∧ T.swaps[k].wd.size ≤ 65536 := by
  have hN := pre_all (fmd_split hf).1
  have h := allB_get (fmd_split hf).2.2.2 k (by rw [List.length_map]; exact hk)
  unfold wOk at h
  rw [bget_eq _ _ (by rw [List.length_map]; exact hk), List.getElem_map] at h
  simp only [Bool.and_eq_true, decide_eq_true_eq] at h
  exact ⟨wchk_okw h.2.1, by omega⟩

/-! ### Places stay places -/
def OkQ (G : Gr) (q : List Pl) : Prop := ∀ p ∈ q, St G.n p.2 ∧ -1 ≤ p.1 ∧ p.1 < 16
theorem OkQ.wr {G : Gr} {q : List Pl} (h : OkQ G q) {p : Pl} (hp : St G.n p.2) (w : ByteArray) {last : Int} (h1 : -1 ≤ last) (h2 : last < 16) : OkQ G (wrP G q p w last).1 := by
  unfold wrP
  split
  · exact h
  · split
    · exact h
    · split
      · exact h
      · intro x hx
        rcases List.mem_append.1 hx with hx | hx
        · exact h x hx
        · rw [List.mem_singleton.1 hx]; exact ⟨endA_st G p.2 hp _, h1, h2⟩
theorem OkQ.bs {T : Tb} {G : Gr} {p : Pl} {x : List Pl × Int} (h : OkQ G x.1) (hp : St G.n p.2) {j : Nat} (hj : j < 16) : OkQ G (bsP T G p x j).1 := by
  unfold bsP; split
  · exact h
  · split
    · exact h.wr hp _ (by omega) (by omega)
    · exact h
theorem OkQ.ss {T : Tb} {G : Gr} {p : Pl} {x : List Pl × Int} (h : OkQ G x.1) (hp : St G.n p.2) (s : Sw) : OkQ G (ssP T G p x s).1 := by
  unfold ssP; split
  · exact h
  · split
    · exact h.wr hp _ (by omega) (by omega)
    · exact h
theorem OkQ.rb {T : Tb} {G : Gr} {p : Pl} {q : List Pl} (h : OkQ G q) (hp : St G.n p.2) : ∀ k, k ≤ 16 → OkQ G (rB T G p q k).1
  | 0, _ => h
  | k + 1, hk => by rw [rB_succ]; exact (OkQ.rb h hp k (by omega)).bs hp (by omega)
theorem OkQ.rs {T : Tb} {G : Gr} {p : Pl} {x : List Pl × Int} (h : OkQ G x.1) (hp : St G.n p.2) : ∀ k, k ≤ T.swaps.length → OkQ G (rS T G p x k).1
  | 0, _ => by unfold rS; rw [List.take_zero]; exact h
  | k + 1, hk => by rw [rS_succ _ _ _ _ _ (by omega)]; exact (OkQ.rs h hp k (by omega)).ss hp _
theorem bsP_err {T : Tb} {G : Gr} {p : Pl} {x : List Pl × Int} (h : x.2 ≠ 0) (j : Nat) : bsP T G p x j = x := if_pos h
theorem ssP_err {T : Tb} {G : Gr} {p : Pl} {x : List Pl × Int} (h : x.2 ≠ 0) (s : Sw) : ssP T G p x s = x := if_pos h
theorem bsP_go {T : Tb} {G : Gr} {p : Pl} {q : List Pl} {j : Nat} (h : frW T p.1 (j : Int) = true) : bsP T G p (q, 0) j = wrP G q p (bget T.base j) (j : Int) := by unfold bsP; simp [h]
theorem bsP_no {T : Tb} {G : Gr} {p : Pl} {q : List Pl} {j : Nat} (h : frW T p.1 (j : Int) = false) : bsP T G p (q, 0) j = (q, 0) := by unfold bsP; simp [h]
theorem ssP_go {T : Tb} {G : Gr} {p : Pl} {q : List Pl} {s : Sw} (h : frW T p.1 s.i = true) : ssP T G p (q, 0) s = wrP G q p s.wd (-1) := by unfold ssP; simp [h]
theorem ssP_no {T : Tb} {G : Gr} {p : Pl} {q : List Pl} {s : Sw} (h : frW T p.1 s.i = false) : ssP T G p (q, 0) s = (q, 0) := by unfold ssP; simp [h]
theorem foldl_bs_err {T : Tb} {G : Gr} {p : Pl} {x : List Pl × Int} (h : x.2 ≠ 0) : ∀ l : List Nat, l.foldl (bsP T G p) x = x
  | [] => rfl
  | a :: l => by rw [List.foldl_cons, bsP_err h]; exact foldl_bs_err h l
theorem foldl_ss_err {T : Tb} {G : Gr} {p : Pl} {x : List Pl × Int} (h : x.2 ≠ 0) : ∀ l : List Sw, l.foldl (ssP T G p) x = x
  | [] => rfl
  | a :: l => by rw [List.foldl_cons, ssP_err h]; exact foldl_ss_err h l
theorem rS_err {T : Tb} {G : Gr} {p : Pl} {x : List Pl × Int} (h : x.2 ≠ 0) (k : Nat) : rS T G p x k = x := foldl_ss_err h _
theorem rB_stop {T : Tb} {G : Gr} {p : Pl} {q : List Pl} {k : Nat} (h : (rB T G p q k).2 ≠ 0) : ∀ m, rB T G p q (k + m) = rB T G p q k
  | 0 => rfl
  | m + 1 => by rw [← Nat.add_assoc, rB_succ, rB_stop h m, bsP_err h]
theorem rS_stop {T : Tb} {G : Gr} {p : Pl} {x : List Pl × Int} {k : Nat} (h : (rS T G p x k).2 ≠ 0) : ∀ m, k + m ≤ T.swaps.length → rS T G p x (k + m) = rS T G p x k
  | 0, _ => rfl
  | m + 1, hm => by rw [← Nat.add_assoc, rS_succ _ _ _ _ _ (by omega), rS_stop h m (by omega), ssP_err h]
/-- An error among the Base words ends the round. -/
theorem rnd_base {T : Tb} {G : Gr} {p : Pl} {q : List Pl} {k : Nat} (hk : k ≤ T.base.length) (h : (rB T G p q k).2 ≠ 0) : (rndP T G p q).2 = (rB T G p q k).2 := by
  have h1 := rB_stop h (T.base.length - k)
  rw [Nat.add_sub_cancel' hk] at h1
  unfold rndP
  rw [h1, rS_err h]
theorem rnd_swap {T : Tb} {G : Gr} {p : Pl} {q : List Pl} {k : Nat} (hk : k ≤ T.swaps.length) (h : (rS T G p (rB T G p q T.base.length) k).2 ≠ 0) : (rndP T G p q).2 = (rS T G p (rB T G p q T.base.length) k).2 := by
  have h1 := rS_stop h (T.swaps.length - k) (by omega)
  rw [Nat.add_sub_cancel' hk] at h1
  unfold rndP
  rw [h1]
theorem kpN_err {T : Tb} {G : Gr} {f i : Nat} {q : List Pl} (h : i < q.length) (he : (rndP T G q[i] q).2 ≠ 0) : kpN T G (f + 1) i q = (rndP T G q[i] q).2 := by rw [kpN, dif_pos h, if_pos he]
theorem kpN_go {T : Tb} {G : Gr} {f i : Nat} {q : List Pl} (h : i < q.length) (he : (rndP T G q[i] q).2 = 0) : kpN T G (f + 1) i q = kpN T G f (i + 1) (rndP T G q[i] q).1 := by rw [kpN, dif_pos h, if_neg (by omega)]
theorem kpN_end {T : Tb} {G : Gr} {f i : Nat} {q : List Pl} (h : ¬ i < q.length) : kpN T G f i q = 0 := by
  cases f with
  | zero => rfl
  | succ f => rw [kpN, dif_neg h]
/-- Lists of numbers are kept. -/
theorem QI.nums {bw bq bs ms g : Nat} {q : List Pl} {W W' : World} (h : QI bw bq bs ms g q W) (k : KW bq ms g W W') : KX0 3 W W' := fun i cur fz e => by
  obtain ⟨es, cap, h1, h2, h3, h4⟩ := h.row
  obtain ⟨cg, fg, eg⟩ := h.gb
  obtain ⟨em, cl, em1, _⟩ := h.seen
  have hq : W.heap[bq]? = _ := h2
  refine (k.blk i (Array.getElem?_eq_some_iff.1 e).1 ?_ ?_ ?_).trans e
  · rintro rfl; rw [hq] at e; simp only [Option.some.injEq, Obj.cells.injEq] at e; exact absurd e.2.1 (by decide)
  · rintro rfl; rw [em1] at e; cases e
  · rintro rfl; rw [eg] at e; simp only [Option.some.injEq, Obj.cells.injEq] at e; exact absurd e.2.1 (by decide)
/-- An entry of the queue. -/
theorem QI.get {bw bq bs ms g : Nat} {q : List Pl} {W : World} (h : QI bw bq bs ms g q W) (i : Nat) (hi : i < q.length) :
    ∃ cap pp d, W.cell? ⟨bq, 0, none⟩ = some (.slice (some ⟨g, 0, none⟩) q.length cap) ∧ W.cell? ⟨g, i * 2, none⟩ = some (.int .i64 q[i].1) ∧ W.cell? ⟨g, i * 2 + 1, none⟩ = some (.slice pp q[i].2.length d) ∧ SlT W pp q[i].2 := by
  obtain ⟨es, cap, h1, h2, h3, h4⟩ := h.row
  have hl : es.length = q.length := by rw [← h1, List.length_map]
  have hi' : i < es.length := by omega
  have he : es[i].1 = q[i] := by subst h1; rw [List.getElem_map]
  have c0 := ownQ_cell h3 i hi' 0 (by omega)
  have c1 := ownQ_cell h3 i hi' 1 (by omega)
  have hs := h4 es[i] (List.getElem_mem hi')
  rw [he] at hs
  refine ⟨cap, es[i].2.1, es[i].2.2, h2.at 0 rfl, ?_, ?_, hs⟩
  · rw [← he]; exact c0
  · rw [← he]; exact c1
theorem QI.lenbox {bw bq bs ms g : Nat} {q : List Pl} {W : World} (h : QI bw bq bs ms g q W) : ∃ cap, W.cell? ⟨bq, 0, none⟩ = some (.slice (some ⟨g, 0, none⟩) q.length cap) := by
  obtain ⟨es, cap, h1, h2, h3, h4⟩ := h.row
  exact ⟨cap, h2.at 0 rfl⟩
end Go.Proofs.YtjpilmedlecdhaaGreatDoor
namespace Go.Proofs.YtjpilmedlecdhaaGreatDoor
open Go.RowKit Go.Sort Go.Shelf Go.Lib

theorem chkL_fit (T : Tb) (G : Gr) : chkL T G = if fitA T G ≠ 0 then fitA T G else if rdbl T = false then 14 else kpA T G := by
  unfold chkL fitA
  by_cases h1 : fmd T = false ∨ chkG G ≠ 0
  · rw [if_pos h1, if_pos h1]; simp
  · rw [if_neg h1, if_neg h1]
    by_cases h2 : G.q ≠ T.q
    · rw [if_pos h2, if_pos h2]; simp
    · rw [if_neg h2, if_neg h2]; simp
theorem fit_zero {T : Tb} {G : Gr} (h : fitA T G = 0) : fmd T = true ∧ Vg G ∧ G.q = T.q := by
  unfold fitA at h
  split at h
  · cases h
  · rename_i h1
    split at h
    · cases h
    · rename_i h2
      refine ⟨?_, chkG_ok.1 (Classical.byContradiction fun e => h1 (.inr e)), Classical.byContradiction h2⟩
      cases hx : fmd T
      · exact absurd (.inl hx) h1
      · rfl

theorem below_alz {w W : World} (h : RowKit.Below w.heap.size w W) (o : Obj) : RowKit.Below w.heap.size w (W.alloc o) := h.alloc h.size o
/-- The first entry of a map. -/
def mapI (W : World) (m : Nat) (x : Pl) : World := Go.ChangeMaps.setBlock W m (.map #[⟨kP x, .bool true, 0⟩] 1)
theorem first_run {x : Pl} (hx : okP x) {ks : ByteArray} (hk : kP x = .string ks) {W : World} {m : Nat} (h : W.heap[m]? = some (.map #[] 0)) :
    (Instr.mapUpdate 72 (.map (some m)) (.string ks) (.bool true)).run Tryz.prog W = .ok () (mapI W m x) := by
  rw [← hk]
  obtain ⟨kl, hkey⟩ := keyP.reads x hx
  have h0 : ∀ e ∈ (#[] : Array MapEntry).toList, ∃ l, keyOf Tryz.prog 9 e.key = some l := by simp
  rcases keyP.law.find W hkey _ h0 with ⟨h1, _⟩ | ⟨j, e0, h1, h2', h3'⟩
  · simp [Instr.mapUpdate, run_underlying Tryz.underlying72, MapKept.run_getObj_map h, keyP.law.check W false hkey, h1, MapKept.run_setObj_map _ h, Result.andThen, mapI, Go.ChangeMaps.setBlock]
  · simp at h2'
theorem first_map {x : Pl} (hx : okP x) {W : World} {m : Nat} (h : W.heap[m]? = some (.map #[] 0)) :
    Mp kP okP Value.bool (mapI W m x) m (seenP [x]) ∧ W.mapTurned (mapI W m x) m := by
  obtain ⟨ks, hk⟩ : ∃ ks, kP x = .string ks := ⟨_, rfl⟩
  have h0 : Mp kP okP Value.bool W m (fun _ => none) := ⟨#[], 0, h, by simp, by simp, by simp⟩
  obtain ⟨wm, h1, h2, h3⟩ := h0.store keyP Tryz.underlying72 x hx true
  have h4 := first_run hx hk h
  rw [hk] at h1
  rw [h4] at h1
  cases h1
  exact ⟨h2.congr (fun p => by unfold mset seenP; by_cases e : p = x <;> simp [e]), h3⟩

/-- Where a round of Check stands: the queue, and the place that is looked at. -/
structure CS (G : Gr) (bw bq bs ms pb : Nat) (pl : Pl) (pp : Option Addr) (d : Nat) (wc : World) (q : List Pl) (g : Nat) (W : World) : Prop where
  qi : QI bw bq bs ms g q W
  ne : pb ≠ g
  row : VRow W pb 69 [.int .i64 pl.1, .slice pp pl.2.length d]
  sl : SlT W pp pl.2
  bel : RowKit.Below bw wc W
  ok : OkQ G q
  l1 : 1 ≤ q.length
  l2 : q.length ≤ 1024
/-- The same, with some block. -/
def CSE (G : Gr) (bw bq bs ms pb : Nat) (pl : Pl) (pp : Option Addr) (d : Nat) (wc : World) (q : List Pl) (W : World) : Prop := ∃ g, CS G bw bq bs ms pb pl pp d wc q g W
/-- What stands below. -/
structure CB (T : Tb) (G : Gr) (p1 p2 : Option Addr) (c1 c2 : Nat) (p : Option Addr) (c : Nat) (w : World) (gb sb mb bw : Nat) (wc : World) : Prop where
  tl : VRow wc w.heap.size 26 [.int .i64 T.q, .int .i64 T.n, .slice p1 T.base.length c1, .slice p2 T.swaps.length c2]
  gl : VRow wc gb 30 [.int .i64 G.q, .int .i64 G.n, .slice p G.es.length c]
  sbx : VRow wc sb 66 [.map (some mb)]
  sw : SwB T.swaps wc mb
  x : RowKit.Below w.heap.size w wc
  tb : TbIn w T p1 p2 c1 c2
  g : Sg 3 w edE p G.es
  t10 : T10 w
  h1 : w.heap.size < bw
  h2 : gb < bw
  h3 : sb < bw
  h4 : mb < bw
  h5 : bw ≤ wc.heap.size
section
variable {T : Tb} {G : Gr} {p1 p2 : Option Addr} {c1 c2 : Nat} {p : Option Addr} {c : Nat} {w : World} {gb sb mb bw bq bs ms pb : Nat} {pl : Pl} {pp : Option Addr} {d : Nat} {wc W : World} {q : List Pl}
theorem CB.later (h : CB T G p1 p2 c1 c2 p c w gb sb mb bw wc) (hB : RowKit.Below bw wc W) : CB T G p1 p2 c1 c2 p c w gb sb mb bw W where
  tl := (hB.block _ h.h1).trans h.tl
  gl := (hB.block _ h.h2).trans h.gl
  sbx := (hB.block _ h.h3).trans h.sbx
  sw := MpB.same h.sw (hB.block _ h.h4)
  x := h.x.trans (hB.mono (Nat.le_of_lt h.h1))
  tb := h.tb
  g := h.g
  t10 := h.t10
  h1 := h.h1
  h2 := h.h2
  h3 := h.h3
  h4 := h.h4
  h5 := Nat.le_trans h.h5 hB.size
theorem free_step (h : CB T G p1 p2 c1 c2 p c w gb sb mb bw wc) (hs : CSE G bw bq bs ms pb pl pp d wc q W) (hf : fmd T = true) (hl : -1 ≤ pl.1 ∧ pl.1 < 16) (j : Int) (hj : (Lit.int .i64 j).wf = true) :
    Calls Tryz.prog 33 #[.int .i64 j, .pointer (some ⟨sb, 0, none⟩), .pointer (some ⟨pb, 0, none⟩)] W fun e w' => e = .returned (.bool (frW T pl.1 j)) ∧ w' = W := by
  obtain ⟨g, hs⟩ := hs
  have h2 := h.later hs.bel
  exact lkFree_any T hf sb pb mb pl.1 j _ W h2.sbx hs.row h2.sw (WalkArith.wf_i64 (by omega)) hj
theorem write_step (h : CB T G p1 p2 c1 c2 p c w gb sb mb bw wc) (hs : CSE G bw bq bs ms pb pl pp d wc q W) (hv : Vg G) (hl : St G.n pl.2) (hpq : bq < pb) (hpm : ms < pb) (hbq : bw ≤ bq) (hms : bw ≤ ms) (wd : ByteArray) (last : Int) (hla : -1 ≤ last ∧ last < 16) (hw : Chg.okw G.q wd.data.toList = true) (hz : wd.size ≤ 65536) :
    Calls Tryz.prog 31 #[.agg #[.int .i64 pl.1, .slice pp pl.2.length d], .string wd, .int .i64 last, .pointer (some ⟨gb, 0, none⟩), .pointer (some ⟨bs, 0, none⟩), .pointer (some ⟨bq, 0, none⟩)] W fun e w' =>
      e = .returned (.int .i64 (wrP G q pl wd last).2) ∧ CSE G bw bq bs ms pb pl pp d wc (wrP G q pl wd last).1 w' := by
  obtain ⟨g, hs⟩ := hs
  have h2 := h.later hs.bel
  refine (lkWrite_any G p c bw gb bs bq ms g q pl pp d wd last W hs.qi h2.gl (h2.g.below h2.x) hv hs.sl hl hw hz (h2.t10.below h2.x) hla hs.l1 hs.l2 hms hbq h2.h5).mono ?_
  rintro e w' ⟨he, ⟨g', hg, hq⟩, hk, hB⟩
  have hr := hk.vrow hs.row (by omega) (by omega) hs.ne
  have hgrw := wrP_grw G q pl wd last
  refine ⟨he, g', hq, ?_, hr, hs.sl.keep (hs.qi.nums hk), hs.bel.trans hB, hs.ok.wr hl wd hla.1 hla.2, Nat.le_trans hs.l1 hgrw.pre.length_le, hgrw.len hs.l2⟩
  rcases hg with rfl | hg
  · exact hs.ne
  · exact hq.ne hg hr
theorem CSE.below {W' : World} (hs : CSE G bw bq bs ms pb pl pp d wc q W) (hW : bw ≤ W.heap.size) (hB : RowKit.Below W.heap.size W W') : CSE G bw bq bs ms pb pl pp d wc q W' := by
  obtain ⟨g, h⟩ := hs
  exact ⟨g, h.qi.below hB, h.ne, h.row.below hB h.row.lt, h.sl.below hB, h.bel.trans (hB.mono hW), h.ok, h.l1, h.l2⟩
end

end Go.Proofs.YtjpilmedlecdhaaGreatDoor
namespace Go.Proofs.YtjpilmedlecdhaaGreatDoor
open Go.RowKit

theorem chk_split {T : Tb} {G : Gr} (h : chkL T G = 0) : fmd T = true ∧ Vg G ∧ G.q = T.q := by
  refine fit_zero ?_
  rw [chkL_fit] at h
  by_cases e : fitA T G = 0
  · exact e
  · rw [if_pos e] at h; exact h
theorem okw_app {q : Int} {a b : List UInt8} (h1 : Chg.okw q a = true) (h2 : Chg.okw q b = true) : Chg.okw q (a ++ b) = true := by
  unfold Chg.okw at *; rw [List.all_append, h1, h2]; rfl
theorem baseW_okw {T : Tb} (hf : fmd T = true) {x : Int} (h0 : 0 ≤ x) (h1 : x < T.base.length) : Chg.okw T.q (baseW T x).data.toList = true := (base_okw hf x.toNat (by omega)).1
theorem encW_okw {T : Tb} (hf : fmd T = true) : ∀ (m : Nat) (l : List Int), l.length ≤ m → l.any (outB T.base.length) = false → Chg.okw T.q (encW T l).data.toList = true
  | _, [], _, _ => by rw [encW_nil]; rfl
  | _, [x], _, ho => by
    have hx := outB_f (any_f ho 0 (by simp))
    simp only [List.getElem_cons_zero] at hx
    rw [encW_one]; exact baseW_okw hf hx.1 hx.2
  | 0, x :: y :: r, hn, _ => by simp at hn
  | m + 1, x :: y :: r, hn, ho => by
    have hx := outB_f (any_f ho 0 (by simp))
    simp only [List.getElem_cons_zero] at hx
    have ho1 : (y :: r).any (outB T.base.length) = false := by rw [List.any_cons] at ho; simp at ho ⊢; exact ho.2
    have ho2 : r.any (outB T.base.length) = false := by rw [List.any_cons] at ho1; simp at ho1 ⊢; exact ho1.2
    cases hs : swapW T.swaps x y with
    | none =>
      rw [encW_base hs, toL_app]
      exact okw_app (baseW_okw hf hx.1 hx.2) (encW_okw hf m (y :: r) (by simp at hn ⊢; omega) ho1)
    | some w =>
      obtain ⟨k, hk, _, _, h3⟩ := swapW_mem hs
      rw [encW_swap hs, toL_app]
      exact okw_app (by rw [← h3]; exact (swap_okw hf k hk).1) (encW_okw hf m r (by simp at hn ⊢; omega) ho2)
/-- All that the law asks of what is written for inputs. -/
structure InvL (T : Tb) (G : Gr) (l : List Int) (W : ByteArray) : Prop where
  enc : encA T l = (W, 0)
  dec : decA T W = (l, 0)
  acc : accA G W = true
  size : (W.size : Int) = l.length * T.n
  chk : Chg.wchk G.q W.data.toList = 0
  len : W.size ≤ 65536
theorem inv_all {T : Tb} {G : Gr} (h : chkL T G = 0) {l : List Int} (ho : l.any (outB T.base.length) = false) (hl : l.length ≤ 10) : InvL T G l (encW T l) := by
  obtain ⟨hf, hv, hq⟩ := chk_split h
  obtain ⟨h1, h2⟩ := inv_law h ho
  have hN := pre_all (fmd_split hf).1
  have hz := encW_size hf l ho
  have hb : l.length * T.n.toNat ≤ 10 * 8 := Nat.mul_le_mul hl (by omega)
  have hok := encW_okw hf l.length l (Nat.le_refl _) ho
  have hck : Chg.wchk T.q (encW T l).data.toList = 0 := Chg.wchk_ok _ _ (by omega) (by omega) (by rw [toL_len]; omega) hok
  refine ⟨encA_ok hf ho, decA_ok hf hck (by rw [hz]; exact Nat.mul_mod_left _ _) h1, h2, ?_, by rw [hq]; exact hck, by omega⟩
  rw [hz, Int.natCast_mul]
  congr 1
  omega
end Go.Proofs.YtjpilmedlecdhaaGreatDoor
namespace Go.Proofs.YtjpilmedlecdhaaGreatDoor
open Go.RowKit

theorem chk17 : chkL exT g17 = 0 := by kernel_rfl
/-- The letters from one on are a valid continuation, behind a run of letters 0, and whether a letter 1 was there. -/
def rlF (d k : Int) : Int → Bool → List UInt8 → Bool
  | _, _, [] => true
  | run, b, c :: r => if c = 48 then (if 0 ≤ k ∧ k < run + 1 then false else rlF d k (run + 1) b r) else if b = true ∧ run < d then false else rlF d k 0 true r
theorem v17 : Vg g17 := chkG_ok.1 (by kernel_rfl)
theorem e17 : ∀ e ∈ g17.es, (e.l = 0 → e.t = e.f + 1 ∧ e.t ≤ 7) ∧ (e.l = 1 → e.t = 0 ∧ 1 ≤ e.f) := by decide
/-- A path in the graph from a set of states on: the letters are a valid continuation. -/
theorem rl_acc : ∀ (l : List UInt8) (st : List Int) (run : Int) (b : Bool), (∀ c ∈ l, c = 48 ∨ c = 49) → (∀ x ∈ st, (b = true → x = run) ∧ (b = false → run ≤ x)) →
    endA g17 st (l.map (fun c => Chg.dig c.toNat)) ≠ [] → rlF 1 7 run b l = true
  | [], _, _, _, _, _, _ => rfl
  | c :: r, st, run, b, hc, hst, hne => by
    have e0 : endA g17 st ((c :: r).map (fun c => Chg.dig c.toNat)) = endA g17 (nextA g17 st (Chg.dig c.toNat)) (r.map (fun c => Chg.dig c.toNat)) := rfl
    rw [e0] at hne
    have hn : nextA g17 st (Chg.dig c.toNat) ≠ [] := fun e => hne (by rw [e]; exact endA_nil _ _)
    have hcr : ∀ c ∈ r, c = 48 ∨ c = 49 := fun x hx => hc x (List.mem_cons_of_mem _ hx)
    rcases hc c (List.mem_cons_self ..) with rfl | rfl
    · have hd : Chg.dig (((48 : UInt8).toNat : Nat) : Int) = 0 := by decide
      rw [hd] at hne hn
      obtain ⟨y, hy⟩ := List.exists_mem_of_ne_nil _ hn
      have hs : ∀ y ∈ nextA g17 st 0, (b = true → y = run + 1) ∧ (b = false → run + 1 ≤ y) ∧ y ≤ 7 := fun y hy => by
        obtain ⟨e, he, h1, h2, h3⟩ := (mem_nextA v17).1 hy
        obtain ⟨h4, _⟩ := e17 e he
        obtain ⟨h5, h6⟩ := h4 h2
        obtain ⟨h7, h8⟩ := hst _ h3
        exact ⟨fun hb => by have := h7 hb; omega, fun hb => by have := h8 hb; omega, by omega⟩
      have h9 := hs y hy
      have h10 : ¬ ((0 : Int) ≤ 7 ∧ 7 < run + 1) := by
        cases b
        · have := h9.2.1 rfl; omega
        · have := h9.1 rfl; omega
      unfold rlF
      rw [if_pos rfl, if_neg h10]
      exact rl_acc r _ (run + 1) b hcr (fun y hy => ⟨(hs y hy).1, (hs y hy).2.1⟩) hne
    · have hd : Chg.dig (((49 : UInt8).toNat : Nat) : Int) = 1 := by decide
      rw [hd] at hne hn
      obtain ⟨y, hy⟩ := List.exists_mem_of_ne_nil _ hn
      have hs : ∀ y ∈ nextA g17 st 1, y = 0 ∧ (b = true → 1 ≤ run) := fun y hy => by
        obtain ⟨e, he, h1, h2, h3⟩ := (mem_nextA v17).1 hy
        obtain ⟨_, h4⟩ := e17 e he
        obtain ⟨h5, h6⟩ := h4 h2
        exact ⟨by omega, fun hb => by have := (hst _ h3).1 hb; omega⟩
      have h9 := hs y hy
      have h10 : ¬ (b = true ∧ run < 1) := fun h => by have := h9.2 h.1; omega
      unfold rlF
      rw [if_neg (by decide), if_neg h10]
      exact rl_acc r _ 0 true hcr (fun y hy => ⟨fun _ => (hs y hy).1, fun h => by cases h⟩) hne
theorem let2_all : ∀ n : Nat, n < 256 → Chg.okc 2 (UInt8.ofNat n) = true → UInt8.ofNat n = 48 ∨ UInt8.ofNat n = 49 := by decide +kernel
theorem let2 {c : UInt8} (h : Chg.okc 2 c = true) : c = 48 ∨ c = 49 := by
  have := let2_all c.toNat (UInt8.toNat_lt c)
  rw [UInt8.ofNat_toNat] at this
  exact this h
/-- What the table writes is a word of the constraint. -/
theorem rl_enc {l : List Int} (ho : l.any (outB exT.base.length) = false) : rlF 1 7 0 false (encW exT l).data.toList = true := by
  obtain ⟨hf, hv, hq⟩ := chk_split chk17
  obtain ⟨h1, h2⟩ := inv_law chk17 ho
  have hok := encW_okw hf l.length l (Nat.le_refl _) ho
  refine rl_acc _ (upto 8) 0 false (fun c hc => let2 (List.all_eq_true.1 hok c hc)) (fun x hx => ⟨fun h => (by cases h), fun _ => (by have := mem_upto.1 hx; omega)⟩) (fun e => ?_)
  unfold accA at h2
  have h3 : (endA g17 (upto 8) (ltr (encW exT l))).length = 0 := by
    have : endA g17 (upto 8) (ltr (encW exT l)) = [] := e
    rw [this]; rfl
  have h4 : endA g17 (upto g17.n.toNat) (ltr (encW exT l)) = endA g17 (upto 8) (ltr (encW exT l)) := rfl
  rw [h4, h3] at h2
  simp at h2
/-- A run of letters in the check of a word: the place where it ends. -/
theorem rlF_zero (d k run : Int) (b : Bool) (r : List UInt8) : rlF d k run b (48 :: r) = if 0 ≤ k ∧ k < run + 1 then false else rlF d k (run + 1) b r := by
  rw [rlF]; rfl
theorem rlF_one {c : UInt8} (h : c ≠ 48) (d k run : Int) (b : Bool) (r : List UInt8) : rlF d k run b (c :: r) = if b = true ∧ run < d then false else rlF d k 0 true r := by
  rw [rlF, if_neg h]
end Go.Proofs.YtjpilmedlecdhaaGreatDoor
