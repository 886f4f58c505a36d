/-
  Words, plain lemmas and walks, merged: ChWp, ChWq, ChWr, ChWs.
-/
import Derived.Test.YtlgjhmenjfmpfaaMbb
import Derived.Test.YtlgjhmenjfmpfaaMba
namespace Go.Proofs.Ytlgjhmenjfmpfaa.Chg
open Go.RowKit Go.Shelf
attribute [local go_sem] Oper.semAt_some

theorem infoBool : (Try.prog.info? 4).map (fun i => (i.zero, i.size, i.bytes)) = some (some (.bool false), 1, 1) := by kernel_rfl

def PInv (l : List ByteArray) (p : Option Addr) (c : Nat) (x : Int) (w : World) (k : Nat) (a : Act) (W : World) : Prop :=
  ∃ (xv : Int) (bs : List Bool) (ov : Value) (ds : List Deferred), ∃ (t2 t3 t4 t5 t6 t7 t8 t10 t11 t12 t13 t14 t15 t16 t17 t18 t19 t20 t21 t22 t23 t24 t25 t26 t27 t28 t29 t30 t31 t32 t33 t34 t35 t36 t37 t38 t39 t40 t41 t42 t43 t44 t45 t49 t50 t51 t52 t53 t54 t55 t56 t57 t58 t59 t60 t61 t62 t63 t64 t65 t66 t67 t68 t69 t70 t71 t72 t73 t74 t75 t76 t77 t78 t79 t80 t81 t82 t83 t84 t85 t86 : Value), a = { tmps := #[.slice p l.length c, .int .i64 xv, t2, t3, t4, t5, t6, t7, t8, ov, t10, t11, t12, t13, t14, t15, t16, t17, t18, t19, t20, t21, t22, t23, t24, t25, t26, t27, t28, t29, t30, t31, t32, t33, t34, t35, t36, t37, t38, t39, t40, t41, t42, t43, t44, t45, .slice p l.length c, .int .i64 l.length, .int .i64 k, t49, t50, t51, t52, t53, t54, t55, t56, t57, t58, t59, t60, t61, t62, t63, t64, t65, t66, t67, t68, t69, t70, t71, t72, t73, t74, t75, t76, t77, t78, t79, t80, t81, t82, t83, t84, t85, t86], defers := ds } ∧
    k ≤ l.length ∧ Hid (polS x (l.take k) = (xv, bs)) ∧ W.ownsRow w.heap.size 4 1 ov k (bs.map Value.bool) ∧ Marks w.heap.size W ds ∧ Below w.heap.size w W
def pmu (l : List ByteArray) (a : Act) : Nat := l.length - (intOf (a.tmps.getD 48 undef)).toNat

set_option maxRecDepth 100000 in
set_option maxHeartbeats 2000000 in
theorem polar_in (l : List ByteArray) (p : Option Addr) (c : Nat) (x : Int) (w : World) (hx1 : -65536 ≤ x) (hx2 : x ≤ 65536) (hl : l.length ≤ 4096) (hp : Sl w Value.string p l) (hz : ∀ j (hj : j < l.length), l[j].size ≤ maxLen) :
    CallsIn Fence.wide 9 Try.prog 31 #[.slice p l.length c, .int .i64 x] w fun e w' => ∃ q d, e = .returned (.tuple #[.slice q (polR x l).length d, .int .i64 (polErr x l)]) ∧ Sl w' Value.bool q (polR x l) ∧ Below w.heap.size w w' := by
  obtain ⟨i0, hi0, hz0, hz1, hz2⟩ := info_parts infoBool
  refine callsIn_of_wp_marks Try.func31 rfl trivial ?_ rfl
  simp only [Try.ntmps31, List.size_toArray, List.length_cons, List.length_nil, Nat.reduceAdd, Nat.reduceSub, Array.replicate_succ, Array.replicate_zero, List.push_toArray, List.append_toArray, List.nil_append, List.cons_append]
  gi_wp2
  gi_loopw [29] (fun i wr => ∃ k : Nat, k ≤ l.length ∧ i = .int .i64 k ∧ Hid (∀ j (hj : j < l.length), j < k → wchk 2 l[j].data.toList = 0 ∧ l[j].size = (l.headD ByteArray.empty).size) ∧ Dr w wr) (fun i _ => l.length - (intOf i).toNat)
  case atStart => exact ⟨0, by omega, rfl, fun _ _ h => by omega, Dr.refl _⟩
  case round =>
    obtain ⟨k, hk, rfl, hj, hD⟩ := hrel
    by_cases hlt : k < l.length
    · obtain ⟨b1, o1, rfl, hb1, hc1⟩ := (hp.dr hD).get k hlt
      have e1 := hc1 k hlt
      have e0 := hc1 0 (by omega)
      rw [Nat.add_zero] at e0
      clear hc1
      have hzk := hz k hlt
      gi_wp2_with (refine ⟨trivial, ?_⟩; gi_at_call 35)
      refine (callsIn_wide.2 (wcheck_any 2 l[k] _ hzk)).mono ?_
      rintro e w1 ⟨rfl, hD1⟩
      by_cases hc : wchk 2 l[k].data.toList = 0
      · have HC := hidI hc
        rw [HC.out]; clear hc
        have e0' := (hD1.cell ⟨b1, o1, none⟩).trans e0
        by_cases hn : l[k].size = l[0].size
        · have hn' : ((l[k].size : Int) == (l[0].size : Int)) = true := by simp [hn]
          have HN := hidI hn; clear hn
          gi_wp2
          go_roundw
          case rel =>
            refine ⟨k + 1, by omega, by go_num, fun j h1 h2 => ?_, hD.trans hD1⟩
            rcases Nat.lt_succ_iff_lt_or_eq.1 h2 with h3 | h3
            · exact hj.out j h1 h3
            · subst h3; exact ⟨HC.out, by rw [HN.out, headD_size l (by omega)]⟩
          case measure => simp [intOf]; omega
        · have hn' : ((l[k].size : Int) == (l[0].size : Int)) = false := by simpa using fun h : (l[k].size : Int) = l[0].size => hn (by omega)
          have HE := hidI (pol_chk x l hx1 hx2 hl 11 (chkL_len _ l k hlt hj.out HC.out (by rw [headD_size l (by omega)]; exact hn)) (by decide))
          clear hn
          gi_wp2
          refine ⟨_, results_tmp2 (t := 4) (u := 5) rfl _ _ _, none, 0, ?_, ?_, (hD.trans hD1).below _⟩
          · rw [HE.out.1, HE.out.2]; rfl
          · rw [HE.out.2]; exact Sl.nil _ _ _
      · have HE := hidI (pol_chk x l hx1 hx2 hl _ (chkL_bad _ l k hlt hj.out hc) hc)
        have hc' : (wchk 2 l[k].data.toList == 0) = false := by simpa using hc
        clear hc
        gi_wp2
        refine ⟨_, results_tmp2 (t := 4) (u := 5) rfl _ _ _, none, 0, ?_, ?_, (hD.trans hD1).below _⟩
        · rw [HE.out.1, HE.out.2]; rfl
        · rw [HE.out.2]; exact Sl.nil _ _ _
    · have HE := hidI (pol_ok x l hx1 hx2 hl (chkL_ok _ l (fun j h => hj.out j h (by omega))))
      obtain rfl : k = l.length := by omega
      have HJ := hidI (fun j (h : j < l.length) => hj.out j h h)
      clear hj hlt hk
      gi_wp2
      refine wpIn_loop (fun a W => ∃ k, PInv l p c x w k a W) (fun a _ => pmu l a) ⟨0, _, _, .slice none 0 0, [], _, _, _, _, _, _, _, _, _, _, _, _, _, _, _, _, _, _, _, _, _, _, _, _, _, _, _, _, _, _, _, _, _, _, _, _, _, _, _, _, _, _, _, _, _, _, _, _, _, _, _, _, _, _, _, _, _, _, _, _, _, _, _, _, _, _, _, _, _, _, _, _, _, _, _, _, _, _, _, _, _, rfl, by omega, rfl, World.ownsRow_nil _ _ _ _, trivial, hD.below _⟩ ?_
      rintro a W ⟨k, xv, bs, ov, ds, t2, t3, t4, t5, t6, t7, t8, t10, t11, t12, t13, t14, t15, t16, t17, t18, t19, t20, t21, t22, t23, t24, t25, t26, t27, t28, t29, t30, t31, t32, t33, t34, t35, t36, t37, t38, t39, t40, t41, t42, t43, t44, t45, t49, t50, t51, t52, t53, t54, t55, t56, t57, t58, t59, t60, t61, t62, t63, t64, t65, t66, t67, t68, t69, t70, t71, t72, t73, t74, t75, t76, t77, t78, t79, t80, t81, t82, t83, t84, t85, t86, rfl, hk, hS, hown, hM, hB⟩
      have hp' := hp.below hB
      have hX := polS_bd x l k (fun j h => wchk_long2 _ (HJ.out j h).1) hk hx1 hx2
      rw [hS.out] at hX
      simp only at hX
      have hmu : pmu l { tmps := #[.slice p l.length c, .int .i64 xv, t2, t3, t4, t5, t6, t7, t8, ov, t10, t11, t12, t13, t14, t15, t16, t17, t18, t19, t20, t21, t22, t23, t24, t25, t26, t27, t28, t29, t30, t31, t32, t33, t34, t35, t36, t37, t38, t39, t40, t41, t42, t43, t44, t45, .slice p l.length c, .int .i64 l.length, .int .i64 k, t49, t50, t51, t52, t53, t54, t55, t56, t57, t58, t59, t60, t61, t62, t63, t64, t65, t66, t67, t68, t69, t70, t71, t72, t73, t74, t75, t76, t77, t78, t79, t80, t81, t82, t83, t84, t85, t86], defers := ds } = l.length - k := rfl
      have HMU := hidI hmu
      clear hmu
      by_cases hlt : k < l.length
      · obtain ⟨b1, o1, rfl, hb1, hc1⟩ := hp'.get k hlt
        have e1 := hc1 k hlt
        clear hc1
        have HL := hidI (polS_take x l k hlt)
        have hs := wchk_long2 _ (HJ.out k hlt).1
        have hok := hidI (HJ.out k hlt).1
        generalize l[k] = s at *
        gi_wp2_with (refine ⟨trivial, ?_⟩; gi_at_call 42)
        refine (values_in Fence.wide 8 trivial rfl s _).mono ?_
        rintro e w' ⟨rfl, rfl⟩
        gi_wp2
        have b0 := (Boxed.new W 3 (.int .i64 0)).alloc (.cells #[.string s] 9)
        have b3 := Boxed.new (W.alloc (.cells #[.int .i64 0] 3)) 9 (.string s)
        simp only [World.size_alloc] at b3
        have hg0 : W.grownBy ((W.alloc (.cells #[.int .i64 0] 3)).alloc (.cells #[.string s] 9)) none := grownBy_trans (World.grownBy_alloc _ _ _) (World.grownBy_alloc _ _ _)
        have hsz0 : ((W.alloc (.cells #[.int .i64 0] 3)).alloc (.cells #[.string s] 9)).heap.size = W.heap.size + 2 := by simp
        have HSZ := hidI hsz0
        clear hsz0
        refine' wpIn_rangeFunc_ownG rfl (by omega) (gf := 54) (lb := #[.pointer (some ⟨W.heap.size + 1, 0, none⟩)]) rfl trivial (enters_of Try.func54 (by kernel_rfl) rfl)
          (values_stops Fence.wide 8 trivial rfl (by omega) (W.heap.size + 1) s hs hok.out _ b3) KH.trans (KH_b (by rw [HSZ.out]; omega)) (Below.refl _ _) (fun _ => rfl)
          (fun pre V => Boxed V W.heap.size 3 (.int .i64 (stf false s (pre.map (·.1))).1) ∧ ((W.alloc (.cells #[.int .i64 0] 3)).alloc (.cells #[.string s] 9)).grownBy V (some W.heap.size))
          (fun _ _ _ => False)
          (OwnFrom.and ((boxed_own _ _ _).from _) (grownBy_own _ _))
          (fun _ _ _ _ _ hs _ _ => hs)
          ⟨b0, grownBy_refl _ _⟩
          _ ?assign ?body ?done ?stop
        case assign =>
          intro l x W K hK
          unfold encI
          gi_wp2
          exact hK
        case body =>
          rintro l pre ⟨j, hj⟩ V ⟨c0, hG⟩ hlen
          have hp : (pre.map (·.1)).length < s.size := by simpa using hlen
          have HS : Hid ((pre ++ [(⟨j, hj⟩ : Idx s)]).map (·.1) = pre.map (·.1) ++ [j]) := by simp [Hid]
          generalize pre.map (·.1) = q at c0 hp HS ⊢
          have HT := hidI (congrArg Prod.fst (stf_snoc false s q j))
          have bd := (stf_bd false s q).1
          have d0 := c0.cell
          have f0 := c0.frozen
          have hv := vAt_bd false s j
          clear hX hown hM hB HL HMU b0 b3 hg0 hp' HJ HE hD hS
          gi_wp2
          exact ⟨(KeepsOthers.setCell _ _ _).from _, KH.set _ _ (by omega), by rw [HS.out, HT.out]; exact c0.set _, grownBy_trans hG (grownBy_setCell' _ _ _)⟩
        case done =>
          rintro D ys V hD' hys ⟨c0, hG⟩ hK
          rw [hys, fold_done] at c0
          have d0 := c0.cell
          have f0 := c0.frozen
          have hd := dsp_bd s
          change V.cell? _ = some (.int .i64 (dsp s)) at d0
          have hszV := hG.size
          rw [HSZ.out] at hD' hszV
          have hne : ov.ownBlock = none ∨ ov.ownBlock ≠ some W.heap.size := by
            cases ho : ov.ownBlock with
            | none => exact .inl rfl
            | some g => exact .inr fun e => by have := (hown.lt g ho).2; cases e; omega
          have hownV := (hown.kept hg0 (by cases ov.ownBlock <;> simp)).kept hG hne
          have hMV : Marks w.heap.size V ({ target := .collected D, args := #[] } :: ds) :=
            ((hM.keep (fun D' _ hk _ => (hg0.block D' (Array.getElem?_eq_some_iff.1 hk).1 (by simp)).trans hk)).grown hG b0 rfl).cons (by have := hB.size; omega) hK
              (fun d hd => by obtain ⟨D', h1, h2⟩ := hM.lt d hd; exact ⟨D', h1, by omega⟩)
          have hBV : Below w.heap.size w V := (hB.grown hg0 hB.size (by simp)).grown hG (by rw [HSZ.out]; have := hB.size; omega) (fun j e => by cases e; exact hB.size)
          have hWB : w.heap.size ≤ W.heap.size := hB.size
          have bX : -274000000 ≤ xv ∧ xv ≤ 274000000 := by omega
          clear hown hM hB b0 b3 hg0 hG hp' HE hD hX
          by_cases hi : max (xv - dsp s) (dsp s - xv) < max (xv + dsp s) (-xv - dsp s)
          · have hownI := hownV.kept (grownBy_setCell' V W.heap.size (.int .i64 (-dsp s))) hne
            have hnew : ∀ (j : Nat) (u : Value), ([.bool true] : List Value)[j]? = some u → ((V.setCell ⟨W.heap.size, 0, none⟩ (.int .i64 (-dsp s))).alloc (.cells #[.bool true] 4)).cell? ((⟨V.heap.size, 0, none⟩ : Addr).add j) = some u := by
              have h := cell_one_new (V.setCell ⟨W.heap.size, 0, none⟩ (.int .i64 (-dsp s))) (.bool true) 4
              rwa [World.size_setCell] at h
            gi_wp2_with (gi_at_builtin; refine wpListIn_append_own _ rfl _ _ 53 rfl w.heap.size 4 i0 (.bool false) 1 1 Try.underlying53 hi0 hz0 hz1 hz2 rfl (by decide) _ _ _ rfl (hownI.alloc _) ⟨V.heap.size, 0, none⟩ 1 1 [.bool true] rfl rfl hnew (by simp [Value.oneCell']) (by simp [maxLen]; omega) (by omega) (by have := hBV.size; simp; omega) ?_; intro v' w1 hown' hgrow _)
            have hinv : inv xv s = true := decide_eq_true hi
            refine ⟨⟨k + 1, xv + -dsp s, bs ++ [true], v', _, _, _, _, _, _, _, _, _, _, _, _, _, _, _, _, _, _, _, _, _, _, _, _, _, _, _, _, _, _, _, _, _, _, _, _, _, _, _, _, _, _, _, _, _, _, _, _, _, _, _, _, _, _, _, _, _, _, _, _, _, _, _, _, _, _, _, _, _, _, _, _, _, _, _, _, _, _, _, _, _, _, rfl, by omega, ?_, by rw [List.map_append]; exact hown', (hMV.others (KeepsOthers.setCell _ _ _)).appended hownI hgrow, ((hBV.setCell (p := ⟨W.heap.size, 0, none⟩) hWB _).alloc (by have := hBV.size; simp; omega) _).grown hgrow (by have := hBV.size; simp; omega) (fun j e => (hownI.lt j e).1)⟩, ?_⟩
            · unfold Hid; rw [HL.out, hS.out]; simp only [polF, hinv]; rfl
            · rw [HMU.out]
              refine Nat.lt_of_le_of_lt (Nat.le_of_eq (show pmu _ _ = l.length - (intOf (.int .i64 ((k : Int) + 1))).toNat from rfl)) ?_
              simp [intOf]; omega
          · gi_wp2_with (gi_at_builtin; refine wpListIn_append_own _ rfl _ _ 53 rfl w.heap.size 4 i0 (.bool false) 1 1 Try.underlying53 hi0 hz0 hz1 hz2 rfl (by decide) _ _ _ rfl (hownV.alloc _) ⟨V.heap.size, 0, none⟩ 1 1 [.bool false] rfl rfl (cell_one_new _ _ _) (by simp [Value.oneCell']) (by simp [maxLen]; omega) (by omega) (by have := hBV.size; simp; omega) ?_; intro v' w1 hown' hgrow _)
            have hinv : inv xv s = false := decide_eq_false (Int.not_lt.2 hi)
            refine ⟨⟨k + 1, xv + dsp s, bs ++ [false], v', _, _, _, _, _, _, _, _, _, _, _, _, _, _, _, _, _, _, _, _, _, _, _, _, _, _, _, _, _, _, _, _, _, _, _, _, _, _, _, _, _, _, _, _, _, _, _, _, _, _, _, _, _, _, _, _, _, _, _, _, _, _, _, _, _, _, _, _, _, _, _, _, _, _, _, _, _, _, _, _, _, _, rfl, by omega, ?_, by rw [List.map_append]; exact hown', hMV.appended hownV hgrow, (hBV.alloc (by have := hBV.size; simp; omega) _).grown hgrow (by have := hBV.size; simp; omega) (fun j e => (hownV.lt j e).1)⟩, ?_⟩
            · unfold Hid; rw [HL.out, hS.out]; simp only [polF, hinv]; rfl
            · rw [HMU.out]
              refine Nat.lt_of_le_of_lt (Nat.le_of_eq (show pmu _ _ = l.length - (intOf (.int .i64 ((k : Int) + 1))).toNat from rfl)) ?_
              simp [intOf]; omega
        case stop =>
          rintro D c pre W _ _ h _
          exact h.elim
      · obtain rfl : k = l.length := by omega
        have hfull : Hid (polS x l = (xv, bs)) := by have := hS.out; rwa [List.take_length] at this
        obtain ⟨q, d, rfl, hsl⟩ := own_sl hown
        clear hX hp' HMU
        gi_wp2
        refine leaves_marks ds W hM (fun W' hW' => ?_)
        refine ⟨_, results_tmp2 (t := 4) (u := 5) rfl _ _ _, q, d, ?_, ?_, hB.trans hW'.below⟩
        · rw [HE.out.1, HE.out.2, hfull.out]; rfl
        · rw [HE.out.2, hfull.out]; exact hW'.sl hsl
end Go.Proofs.Ytlgjhmenjfmpfaa.Chg
namespace Go.Proofs.Ytlgjhmenjfmpfaa.Chg
open Go.RowKit

/-- A slice of bools, and an error number, in memory of the call's own. -/
def RetSlB (r : List Bool) (k : Int) (w : World) (e : Ending) (w' : World) : Prop :=
  ∃ q d, e = .returned (.tuple #[.slice q r.length d, .int .i64 k]) ∧ Sl w' Value.bool q r ∧ Below w.heap.size w w'
theorem RetSlB.mk {r r' : List Bool} {k k' : Int} {w w' : World} {q : Option Addr} {d : Nat} (hr : k = k' ∧ r = r') (hs : Sl w' Value.bool q r') (hB : Below w.heap.size w w') :
    RetSlB r k w (.returned (.tuple #[.slice q r'.length d, .int .i64 k'])) w' := by
  obtain ⟨rfl, rfl⟩ := hr; exact ⟨q, d, rfl, hs, hB⟩
theorem RetSlB.nil {r : List Bool} {k k' : Int} {w w' : World} {q : Option Addr} {d : Nat} (hr : k = k' ∧ r = []) (hB : Below w.heap.size w w') :
    RetSlB r k w (.returned (.tuple #[.slice q 0 d, .int .i64 k'])) w' := by
  obtain ⟨rfl, rfl⟩ := hr; exact ⟨q, d, rfl, Sl.nil _ _ _, hB⟩

set_option maxHeartbeats 400000 in
theorem polar_any (l : List ByteArray) (p : Option Addr) (c : Nat) (x : Int) (w : World) (hl : l.length ≤ 9223372036854775807) (hp : Sl w Value.string p l) (hz : ∀ j (hj : j < l.length), l[j].size ≤ maxLen) :
    Calls Try.prog 31 #[.slice p l.length c, .int .i64 x] w (RetSlB (polR x l) (polErr x l) w) := by
  by_cases h1 : x < -65536
  · have HP := hidI (pol_out x l (.inl h1))
    go_enter Try.func31, Try.ntmps31
    go_wp2
    go_ret2
    exact RetSlB.nil HP.out (Below.refl _ _)
  by_cases h2 : 65536 < x
  · have HP := hidI (pol_out x l (.inr h2))
    go_enter Try.func31, Try.ntmps31
    go_wp2
    go_ret2
    exact RetSlB.nil HP.out (Below.refl _ _)
  by_cases h3 : 4096 < l.length
  · have HP := hidI (pol_long x l (by omega) (by omega) h3)
    go_enter Try.func31, Try.ntmps31
    go_wp2
    go_ret2
    exact RetSlB.nil HP.out (Below.refl _ _)
  exact callsIn_wide.1 (polar_in l p c x w (by omega) (by omega) (by omega) hp hz)

end Go.Proofs.Ytlgjhmenjfmpfaa.Chg
namespace Go.Proofs.Ytlgjhmenjfmpfaa.Chg
open Go.RowKit

theorem ex1 : vld false 63 2 ⟨#[49, 49, 48, 49]⟩ = (true, 0) := by decide +kernel
theorem ex2 : vld false 63 1 ⟨#[49, 49, 48, 49]⟩ = (false, 0) := by decide +kernel
theorem ex3 : polErr 0 [⟨#[49, 49]⟩, ⟨#[49, 48]⟩, ⟨#[49, 49]⟩] = 0 ∧ polR 0 [⟨#[49, 49]⟩, ⟨#[49, 48]⟩, ⟨#[49, 49]⟩] = [false, false, true] := by decide +kernel
theorem ex4 : blc 6 = (20, 0) := by decide +kernel
theorem ex5 : spe 1 ⟨#[49, 49, 48, 48]⟩ = (2, 2, 0) := by decide +kernel
theorem ex6 : ∀ j (hj : j < ([⟨#[49, 49]⟩, ⟨#[49, 48]⟩, ⟨#[49, 49]⟩] : List ByteArray).length), ([⟨#[49, 49]⟩, ⟨#[49, 48]⟩, ⟨#[49, 49]⟩] : List ByteArray)[j].size ≤ maxLen := by decide +kernel
theorem sl_new {α : Type} (w : World) (t : Nat) (enc : α → Value) (l : List α) : Sl (w.alloc (.cells (l.map enc).toArray t)) enc (some ⟨w.heap.size, 0, none⟩) l := by
  refine .inr ⟨w.heap.size, 0, rfl, by simp, fun i hi => ?_⟩
  rw [(VRow.new w t (l.map enc)).cell (0 + i), Nat.zero_add]
  simp [hi]
theorem polR_len (x : Int) (l : List ByteArray) (h : l.length ≤ 9223372036854775807) : (polR x l).length ≤ 9223372036854775807 := by
  unfold polR; split
  · rw [polS_len]; exact h
  · simp
theorem small_len (s : ByteArray) (h : s.size ≤ 100) : s.size ≤ maxLen := by unfold maxLen; omega

set_option maxRecDepth 100000 in
set_option maxHeartbeats 1000000 in
theorem awake_any (w : World) : Calls Try.prog 14 #[] w fun e w' => e = .returned (.bool true) ∧ Below w.heap.size w w' := by
  go_enter Try.func14, Try.ntmps14
  go_wp2_with fail
  refine (valid_any 2 ⟨#[49, 49, 48, 49]⟩ _ (small_len _ (by decide))).mono ?_
  rintro e w1 ⟨rfl, hB1⟩
  rw [ex1]
  go_wp2_with fail
  refine (valid_any 1 ⟨#[49, 49, 48, 49]⟩ _ (small_len _ (by decide))).mono ?_
  rintro e w2 ⟨rfl, hB2⟩
  rw [ex2]
  go_wp2_with fail
  refine (polar_any [⟨#[49, 49]⟩, ⟨#[49, 48]⟩, ⟨#[49, 49]⟩] _ 3 0 _ (by decide) (sl_new w2 9 Value.string [⟨#[49, 49]⟩, ⟨#[49, 48]⟩, ⟨#[49, 49]⟩]) ex6).mono ?_
  rintro e w3 ⟨q, d, rfl, hs3, hB3⟩
  rw [ex3.1]
  rw [ex3.2] at hs3 ⊢
  go_wp2_with fail
  refine (balanced_any 6 _).mono ?_
  rintro e w' ⟨rfl, rfl⟩
  rw [ex4]
  go_wp2_with fail
  refine (spectrum_any 1 ⟨#[49, 49, 48, 48]⟩ _ (small_len _ (by decide))).mono ?_
  rintro e w4 ⟨rfl, hB4⟩
  rw [ex5]
  have hs4 := hs3.below hB4
  go_wp2_with fail
  refine (equalB_any [false, false, true] [false, false, true] _ _ d 3 _ (hs4.below ((Below.refl _ _).alloc (Nat.le_refl _) _)) (sl_new w4 4 Value.bool [false, false, true]) (by decide) (by decide)).mono ?_
  rintro e w5 ⟨rfl, hD5⟩
  rw [show decide (([false, false, true] : List Bool) = [false, false, true]) = true from rfl]
  go_wp2
  go_ret
  refine ⟨rfl, hB1.trans ((hB2.mono hB1.size).trans (Below.trans (b := w2.alloc (.cells #[.string ⟨#[49, 49]⟩, .string ⟨#[49, 48]⟩, .string ⟨#[49, 49]⟩] 9)) ((Below.refl _ _).alloc (Nat.le_trans hB1.size hB2.size) _) ?_))⟩
  have h12 : w.heap.size ≤ w2.heap.size := Nat.le_trans hB1.size hB2.size
  have h3 : w.heap.size ≤ w3.heap.size := Nat.le_trans h12 (Nat.le_trans (by simp) hB3.size)
  have h4 : w.heap.size ≤ w4.heap.size := Nat.le_trans h3 hB4.size
  refine (hB3.mono (Nat.le_trans h12 (by simp))).trans ((hB4.mono h3).trans (Below.trans (b := w4.alloc (.cells #[.bool false, .bool false, .bool true] 4)) ((Below.refl _ _).alloc h4 _) (hD5.below _)))

end Go.Proofs.Ytlgjhmenjfmpfaa.Chg
namespace Go.Proofs.Ytlgjhmenjfmpfaa.Chg
open Go.RowKit

theorem dsp_count (s : ByteArray) : 2 * (Lib.countByte s.data.toList 49 : Int) - s.size = dsp s := by
  have h : ∀ k, k ≤ s.size → 2 * (((s.data.toList.take k).count 49 : Nat) : Int) - k = Su (vAt false s) k := by
    intro k
    induction k with
    | zero => intro _; simp [Su]
    | succ k ih =>
      intro hk
      have := ih (by omega)
      rw [take_snoc s k (by omega), List.count_append, Su, vAt_f s k (by omega)]
      have hc : ([s[k]] : List UInt8).count 49 = if s[k] = 49 then 1 else 0 := by
        by_cases e : s[k] = 49
        · simp [e]
        · simp [e]
      rw [hc]
      unfold val1
      by_cases e : s[k] = 49
      · rw [if_pos e, if_pos (by rw [e]; rfl)]; omega
      · have e' : ¬ ((s[k].toNat : Int) = 49) := fun h => e (UInt8.toNat.inj (by show s[k].toNat = 49; omega))
        rw [if_neg e, if_neg e']; omega
  have := h s.size (Nat.le_refl _)
  rw [List.take_of_length_le (by simp)] at this
  exact this

/-- What Disparity answers. -/
def dis (s : ByteArray) : Int × Int := if wchk 2 s.data.toList ≠ 0 then (0, wchk 2 s.data.toList) else (dsp s, 0)

/-- A binary word, and short enough. -/
def bin (s : ByteArray) (n : Int) : Bool := decide ((s.size : Int) ≤ n) && (wchk 2 s.data.toList == 0)

set_option maxHeartbeats 400000 in
theorem binary_any (s : ByteArray) (n : Int) (w : World) (hs : s.size ≤ maxLen) :
    Calls Try.prog 15 #[.string s, .int .i64 n] w fun e w' => e = .returned (.bool (bin s n)) ∧ Dr w w' := by
  by_cases h1 : (s.size : Int) ≤ n
  · have HB : Hid (bin s n = (wchk 2 s.data.toList == 0)) := by unfold Hid bin; rw [decide_eq_true h1]; rfl
    go_enter Try.func15, Try.ntmps15
    go_wp2_with fail
    refine (wcheck_any 2 s _ hs).mono ?_
    rintro e w1 ⟨rfl, hD⟩
    go_wp2
    go_ret
    exact ⟨ret_bool HB.out.symm, hD⟩
  · have HB : Hid (bin s n = false) := by unfold Hid bin; rw [decide_eq_false h1]; rfl
    have hd := decide_eq_false h1
    go_enter Try.func15, Try.ntmps15
    go_wp2
    go_ret
    exact ⟨ret_bool HB.out.symm, Dr.refl _⟩

def iabs (x : Int) : Int := max x (-x)
end Go.Proofs.Ytlgjhmenjfmpfaa.Chg
