/-
  Words, plain lemmas and walks, merged: Ge, Gb, Gf, Gg, Gh, Gi, Gj, Fh, Fi.
-/
import Derived.Test.YtkcapbdcmhdcmaaFrec
import Derived.Test.YtkcapbdcmhdcmaaFrea
import Derived.Maps.AppendAt
import Derived.Deep.CutBlock
import Derived.ArgAppend
set_option linter.unusedVariables false
set_option linter.unusedSimpArgs false
namespace Go.Proofs.Ytkcapbdcmhdcmaa
open Go.RowKit Go.Sort Go.Shelf Go.Lib

theorem grown_set {w w1 : World} {g i : Nat} (h : w.grownBy w1 (some g)) (u : Value) : w.grownBy (w1.setCell ⟨g, i, none⟩ u) (some g) :=
  ⟨h.os, h.tape, h.output, by rw [setCell_eq]; simpa [mapBlock] using h.size, fun k hk hne => (Below.heap_setCell _ _ _ _ (fun e => hne (by rw [e]))).trans (h.block k hk hne)⟩
/-- Edges once each, in the memory that the call owned. -/
theorem grown_dr {w w1 w' : World} {r : Option Nat} (h : Dr w1 w') (k : w.grownBy w1 r) : w.grownBy w' r := by
  obtain ⟨q, rfl⟩ := h; exact ⟨k.os, k.tape, k.output, k.size, k.block⟩
def RetCmp (B g cap : Nat) (l : List Ed) (w : World) (e : Ending) (w' : World) : Prop := e = .returned (.slice (some ⟨g, 0, none⟩) l.length cap) ∧ w'.ownsRow B 45 3 (.slice (some ⟨g, 0, none⟩) l.length cap) l.length (cat l) ∧ w.grownBy w' (some g)
theorem RetCmp.of {B g cap : Nat} {x r : List Ed} {w w' : World} (hr : x = r) (ho : w'.ownsRow B 45 3 (.slice (some ⟨g, 0, none⟩) r.length cap) r.length (cat r)) (hg : w.grownBy w' (some g)) : RetCmp B g cap x w (.returned (.slice (some ⟨g, 0, none⟩) r.length cap)) w' := by
  subst hr; exact ⟨rfl, ho, hg⟩
theorem compactE_short (l : List Ed) (B g n cap : Nat) (w : World) (h : w.ownsRow B 45 3 (.slice (some ⟨g, 0, none⟩) n cap) n (cat l)) (h2 : n < 2) :
    Calls Try.prog 61 #[.slice (some ⟨g, 0, none⟩) n cap] w (RetCmp B g cap (compact l) w) := by
  have hl : l.length = n := by have := h.1; rw [cat_len] at this; omega
  have hc : compact l = l := by
    match l, hl with
    | [], _ => rfl
    | [_], _ => rfl
    | _ :: _ :: _, hl => simp at hl; omega
  rw [hc]
  have h2' : (n : Int) < 2 := by omega
  have HH := hidI h
  clear h hc
  go_enter Try.func61, Try.ntmps61
  go_wp2
  go_ret
  subst hl
  exact ⟨rfl, HH.out, World.grownBy.refl _ _⟩
set_option maxRecDepth 100000 in
set_option maxHeartbeats 2000000 in
theorem compactE_long (l : List Ed) (B g n cap : Nat) (w : World) (h : w.ownsRow B 45 3 (.slice (some ⟨g, 0, none⟩) n cap) n (cat l)) (h2 : 2 ≤ n) (hn : n ≤ 100000) :
    Calls Try.prog 61 #[.slice (some ⟨g, 0, none⟩) n cap] w (RetCmp B g cap (compact l) w) := by
  have hl : l.length = n := by have := h.1; rw [cat_len] at this; omega
  have hnc : n ≤ cap := own_cap h _ _ _ rfl
  have h2' : ¬ ((n : Int) < 2) := by omega
  have HH := hidI h
  clear h
  go_enter Try.func61, Try.ntmps61
  go_wp2
  go_loopw [3] (fun kv wr => ∃ k : Nat, 1 ≤ k ∧ k ≤ n ∧ kv = .int .i64 k ∧ Hid (∀ m (hm : m + 1 < l.length), m + 1 < k → l[m] ≠ l[m + 1]) ∧ Dr w wr) (fun kv _ => n - (intOf kv).toNat)
  case atStart => exact ⟨1, by omega, by omega, rfl, fun m _ h => by omega, Dr.refl _⟩
  case round =>
    obtain ⟨k, hk1, hk, rfl, hj, hD⟩ := hrel
    have hown := HH.out.dr hD
    by_cases hlt : k < n
    · obtain ⟨m, rfl⟩ : ∃ m, k = m + 1 := ⟨k - 1, by omega⟩
      obtain ⟨e0, e1, e2, _, hg⟩ := own_cell3 hown (m + 1) (by omega)
      obtain ⟨e3, e4, e5, _, _⟩ := own_cell3 hown m (by omega)
      have hI : (m : Int) + 1 < (n : Int) := by omega
      have hI2 : (m : Int) < (n : Int) := by omega
      have hq := eqlE l[m + 1] l[m]
      have hgd := guardE .eql
      by_cases heq : l[m + 1] = l[m]
      · rw [decide_eq_true heq] at hq
        have HQ := hidI heq
        clear heq
        have hk0 : ¬ cap = m + 1 := by omega
        have q0 : IntKind.i64.wrap ((m : Int) + 1) = (m : Int) + 1 := IntWalk.i64_in _ (by omega)
        have hI3 : (m : Int) + 1 ≤ (n : Int) := by omega
        have hI4 : (n : Int) ≤ (cap : Int) := by omega
        go_wp2_with fail
        (refine wp_region_quiet_lit (by kernel_rfl) (by kernel_rfl) ?_; (repeat (first | go_big_quiet_step (fail) | quiet_step (fail))); refine wpQuiet_nil ?_; intro _ hwq; obtain ⟨nq, hwq2⟩ := hwq; subst hwq2)
        clear e0 e1 e2 e3 e4 e5 hq hgd hI hI2
        go_wp2
        have HC0 : Hid (l.take (m + 1) = compact (l.take (m + 1 + 1))) := by
          unfold Hid
          rw [compact_succ l m (by omega), if_pos HQ.out.symm]
          exact (compact_same _ (fun i hi => by
            rw [List.length_take] at hi
            rw [List.getElem_take, List.getElem_take]
            exact hj.out i (by omega) (by omega))).symm
        have hgr : w.grownBy (wr.drewN nq) (some g) := grown_dr (hD.one nq) (World.grownBy.refl _ _)
        have hown1 : (wr.drewN nq).ownsRow B 45 3 (.slice (some ⟨g, 0, none⟩) n cap) n (cat l) := hown
        have HG := hidI hgr
        have HO := hidI hown1
        clear hgr hown1 hown hD
        generalize wr.drewN nq = w1 at HG HO ⊢
        go_loopw [3, 5] (fun kv jv wr => ∃ (kk i : Nat) (d : List Ed), 1 ≤ kk ∧ kk ≤ m + (i + 1) ∧ i + 1 ≤ n - (m + 1) ∧ kv = .int .i64 kk ∧ jv = .int .i64 (i + 1 : Nat) ∧ Hid (d.length = n ∧ d.take kk = compact (l.take (m + 1 + (i + 1))) ∧ d.drop (m + (i + 1)) = l.drop (m + (i + 1))) ∧
          wr.ownsRow B 45 3 (.slice (some ⟨g, 0, none⟩) n cap) n (cat d) ∧ w.grownBy wr (some g)) (fun _ jv _ => n - (intOf jv).toNat)
        case atStart => exact ⟨m + 1, 0, l, by omega, by omega, by omega, rfl, rfl, ⟨hl, HC0.out, rfl⟩, HO.out, HG.out⟩
        case round =>
          obtain ⟨kk, i, d, hkk1, hkk, hi, rfl, rfl, hd, hown, hgw⟩ := hrel
          obtain ⟨hdl, hdt, hdd⟩ := hd.out
          have hgets : ∀ x, m + (i + 1) ≤ x → ∀ (h1 : x < d.length) (h2 : x < l.length), d[x] = l[x] := fun x hx h1 h2 => by
            have e1 : d[x]? = (d.drop (m + (i + 1)))[x - (m + (i + 1))]? := by rw [List.getElem?_drop]; congr 1; omega
            have e2 : l[x]? = (l.drop (m + (i + 1)))[x - (m + (i + 1))]? := by rw [List.getElem?_drop]; congr 1; omega
            have : d[x]? = l[x]? := by rw [e1, e2, hdd]
            rw [List.getElem?_eq_getElem h1, List.getElem?_eq_getElem h2] at this
            exact Option.some.inj this
          by_cases hlt : i + 1 < n - (m + 1)
          · obtain ⟨e0, e1, e2, hfz, hg⟩ := own_cell3 hown (m + 1 + (i + 1)) (by omega)
            obtain ⟨e3, e4, e5, _, _⟩ := own_cell3 hown (m + 1 + i) (by omega)
            obtain ⟨k0, k1, k2, _, _⟩ := own_cell3 hown kk (by omega)
            have hx1 : d[m + 1 + (i + 1)] = l[m + 1 + (i + 1)] := hgets _ (by omega) _ (by omega)
            have hx0 : d[m + 1 + i] = l[m + 1 + i] := hgets _ (by omega) _ (by omega)
            rw [hx1] at e0 e1 e2
            rw [hx0] at e3 e4 e5
            rw [Nat.add_mul (m + 1) (i + 1) 3] at e0 e1 e2
            rw [Nat.add_mul (m + 1) i 3] at e3 e4 e5
            have HX1 := hidI hx1
            clear hx1 hx0 hgets
            have HD := hidI hdd; have HT := hidI hdt; have HL := hidI hdl
            clear hdd hdt
            have hz : (i : Int) + 1 < (n : Int) - ((m : Int) + 1) := by omega
            have hI1 : (i : Int) + 1 < ((n - (m + 1) : Nat) : Int) := by omega
            have hI2 : (i : Int) < ((n - (m + 1) : Nat) : Int) := by omega
            have hq := neqE l[m + 1 + (i + 1)] l[m + 1 + i]
            have hgd := guardE .neq
            have HCT := hidI (compact_succ l (m + 1 + i) (by omega))
            by_cases heq : l[m + 1 + (i + 1)] = l[m + 1 + i]
            · rw [decide_eq_true heq] at hq
              have HN : Hid (d.length = n ∧ d.take kk = compact (l.take (m + 1 + (i + 1 + 1))) ∧ d.drop (m + (i + 1 + 1)) = l.drop (m + (i + 1 + 1))) := ⟨HL.out, HT.out.trans (HCT.out.trans (if_pos heq.symm)).symm
                , by have := congrArg (List.drop 1) HD.out; rw [List.drop_drop, List.drop_drop] at this; exact this⟩
              clear heq HCT k0 k1 k2
              go_wp2_with fail
              (refine wp_region_quiet_lit (by kernel_rfl) (by kernel_rfl) ?_; (repeat (first | go_big_quiet_step (fail) | quiet_step (fail))); refine wpQuiet_nil ?_; intro _ hwq; obtain ⟨nq, hwq2⟩ := hwq; subst hwq2)
              clear e0 e1 e2 e3 e4 e5 hq hgd
              go_wp2
              go_roundw
              case rel => exact ⟨kk, i + 1, d, hkk1, by omega, by omega, rfl, by go_num, HN, hown, grown_dr ⟨nq, rfl⟩ hgw⟩
              case measure => simp [intOf]; omega
            · rw [decide_eq_false heq] at hq
              have HN : Hid ((d.set kk l[m + 1 + (i + 1)]).length = n ∧ (d.set kk l[m + 1 + (i + 1)]).take (kk + 1) = compact (l.take (m + 1 + (i + 1 + 1))) ∧ (d.set kk l[m + 1 + (i + 1)]).drop (m + (i + 1 + 1)) = l.drop (m + (i + 1 + 1))) := by
                refine ⟨by rw [List.length_set]; exact HL.out, ?_, ?_⟩
                · have h1 : compact (l.take (m + 1 + (i + 1 + 1))) = compact (l.take (m + 1 + (i + 1))) ++ [l[m + 1 + (i + 1)]] := HCT.out.trans (if_neg (fun e => heq e.symm))
                  rw [h1, ← HT.out, List.take_succ_eq_append_getElem (by rw [List.length_set]; omega), List.getElem_set_self, List.take_set_of_le (Nat.le_refl _)]
                · rw [List.drop_set_of_lt (by omega)]
                  have := congrArg (List.drop 1) HD.out; rw [List.drop_drop, List.drop_drop] at this; exact this
              have k3 := hfz (kk * 3); have k4 := hfz (kk * 3 + 1); have k5 := hfz (kk * 3 + 2)
              have hkI : (kk : Int) < (n : Int) := by omega
              have HX3 := fun (q : Nat) => own_set3 (w := wr.drewN q) (k := kk) (show (wr.drewN q).ownsRow B 45 3 (.slice (some ⟨g, 0, none⟩) n cap) n (cat d) from hown) l[m + 1 + (i + 1)]
              have HX := hidI HX3
              clear heq HCT HX3
              go_wp2_with fail
              (refine wp_region_quiet_lit (by kernel_rfl) (by kernel_rfl) ?_; (repeat (first | go_big_quiet_step (fail) | quiet_step (fail))); refine wpQuiet_nil ?_; intro _ hwq; obtain ⟨nq, hwq2⟩ := hwq; subst hwq2)
              clear hq hgd
              go_wp2
              go_roundw
              case rel => (repeat apply Exists.intro); exact ⟨⟨kk + 1, i + 1, d.set kk l[m + 1 + (i + 1)], by omega, by omega, by omega, by go_num, by go_num, HN, HX.out nq, grown_set (grown_set (grown_set (grown_dr ⟨nq, rfl⟩ hgw) _) _) _⟩, rfl⟩
              case measure => simp [intOf]; omega
          · have hie : i + 1 = n - (m + 1) := by omega
            have HCE : Hid (compact l = d.take kk) := by
              unfold Hid
              rw [hdt, show m + 1 + (i + 1) = l.length by omega, List.take_length]
            have hkn : kk < n := by omega
            have hkl : (d.take kk).length = kk := by rw [List.length_take]; omega
            obtain ⟨W', hcl, hownW, hgW⟩ := own_clear hown kk hkn
            have HL := hidI hkl
            have hkI : (kk : Int) ≤ (n : Int) := by omega
            have hkc : (kk : Int) ≤ (cap : Int) := by omega
            have hk00 : ¬ cap = kk := by omega
            have hni : ¬ ((i : Int) + 1 < ((n - (m + 1) : Nat) : Int)) := by omega
            have HGW := hidI (World.grownBy.trans hgw hgW)
            have HOW := hidI hownW
            clear hgets hdt hdd hkl hie hown hownW hgW
            go_wp2
            go_ret
            have := RetCmp.of (B := B) (cap := cap) HCE.out (by rw [HL.out]; exact HOW.out) HGW.out
            rw [HL.out] at this
            exact this
      · rw [decide_eq_false heq] at hq
        have HN : Hid (∀ i (hi : i + 1 < l.length), i + 1 < m + 1 + 1 → l[i] ≠ l[i + 1]) := fun i hi hlt => by
          by_cases e : i = m
          · subst e; exact fun e => heq e.symm
          · exact hj.out i hi (by omega)
        clear heq
        go_wp2_with fail
        (refine wp_region_quiet_lit (by kernel_rfl) (by kernel_rfl) ?_; (repeat (first | go_big_quiet_step (fail) | quiet_step (fail))); refine wpQuiet_nil ?_; intro _ hwq; obtain ⟨nq, hwq2⟩ := hwq; subst hwq2)
        go_wp2
        go_roundw
        case rel => exact ⟨m + 1 + 1, by omega, by omega, by go_num, HN, hD.one _⟩
        case measure => simp [intOf]; omega
    · obtain rfl : k = n := by omega
      have HC : Hid (compact l = l) := compact_same l (fun m hm => hj.out m hm (by omega))
      go_wp2
      go_ret
      subst hl
      exact RetCmp.of HC.out hown (grown_dr hD (World.grownBy.refl _ _))
theorem own_forms {w : World} {base size n : Nat} {e : TypeId} {v : Value} {xs : List Value} (h : w.ownsRow base e size v n xs) : (v = .slice none 0 0 ∧ n = 0) ∨ ∃ g cap, v = .slice (some ⟨g, 0, none⟩) n cap := by
  rcases h.2 with h | ⟨g, cap, _, hv, _⟩
  · exact .inl h
  · exact .inr ⟨g, cap, hv⟩
/-- Edges in memory of the call's own, from block B on. -/
def RetOwnB (B : Nat) (l : List Ed) (w : World) (e : Ending) (w' : World) : Prop := ∃ v, e = .returned v ∧ w'.ownsRow B 45 3 v l.length (cat l) ∧ Below B w w'
theorem compactE_any (l : List Ed) (B n : Nat) (v : Value) (w : World) (h : w.ownsRow B 45 3 v n (cat l)) (hn : n ≤ 100000) (hB : B ≤ w.heap.size) :
    Calls Try.prog 61 #[v] w (RetOwnB B (compact l) w) := by
  rcases own_forms h with ⟨rfl, rfl⟩ | ⟨g, cap, rfl⟩
  · have : l = [] := List.length_eq_zero_iff.1 (by have := h.1; rw [cat_len] at this; omega)
    subst this
    clear h
    go_enter Try.func61, Try.ntmps61
    go_wp2
    go_ret
    exact ⟨_, rfl, World.ownsRow_nil _ _ _ _, Below.refl _ _⟩
  · have hg : B ≤ g := (h.lt g rfl).1
    by_cases h2 : n < 2
    · refine (compactE_short l B g n cap w h h2).mono ?_
      rintro e w' ⟨rfl, ho, hgr⟩
      exact ⟨_, rfl, ho, (Below.refl _ _).grown hgr hB (fun j e => by cases e; exact hg)⟩
    · refine (compactE_long l B g n cap w h (by omega) hn).mono ?_
      rintro e w' ⟨rfl, ho, hgr⟩
      exact ⟨_, rfl, ho, (Below.refl _ _).grown hgr hB (fun j e => by cases e; exact hg)⟩
theorem sortE_any (l : List Ed) (B n bf : Nat) (v : Value) (w : World) (h : w.ownsRow B 45 3 v n (cat l)) (hf : w.cell? ⟨bf, 0, none⟩ = some (.func (.func 60) #[] #[])) (hne : v.ownBlock ≠ some bf) (hn : n ≤ 100000) (hB : B ≤ w.heap.size) :
    Calls Try.prog 58 #[v, .func (.func 84) #[] #[.pointer (some ⟨bf, 0, none⟩)]] w fun e w' => e = .returned (.tuple #[]) ∧ w'.ownsRow B 45 3 v n (cat (srtE l)) ∧ Below B w w' := by
  rcases own_forms h with ⟨rfl, rfl⟩ | ⟨g, cap, rfl⟩
  · have : l = [] := List.length_eq_zero_iff.1 (by have := h.1; rw [cat_len] at this; omega)
    subst this
    have hcon := AnyF.slices_SortFunc_none Try.laySortE none 0 (.func (.func 84) #[] #[.pointer (some ⟨bf, 0, none⟩)]) w
    refine Calls.mono hcon ?_
    rintro e w' ⟨rfl, rfl⟩
    exact ⟨rfl, by rw [show srtE [] = [] by simp [srtE]]; exact World.ownsRow_nil _ _ _ _, Below.refl _ _⟩
  · have hg : B ≤ g := (h.lt g rfl).1
    refine (sortE_own l B _ g n cap bf w h hf (fun e => hne (by rw [e]; rfl)) hn).mono ?_
    rintro e w' ⟨rfl, ho, hgr⟩
    exact ⟨rfl, ho, (Below.refl _ _).grown hgr hB (fun j e => by cases e; exact hg)⟩
end Go.Proofs.Ytkcapbdcmhdcmaa
namespace Go.Proofs.Ytkcapbdcmhdcmaa
open Go.RowKit Go.Sort

def mn3 (x y z : Int) : Int := if z < (if y < x then y else x) then z else (if y < x then y else x)
theorem mn3_neg {x y z : Int} : mn3 x y z < 0 ↔ x < 0 ∨ y < 0 ∨ z < 0 := by unfold mn3; split <;> split at * <;> omega
theorem run_mn3 (x y z : Int) (w : World) : (Builtin.min_ #[3, 3, 3] 3 #[.int .i64 x, .int .i64 y, .int .i64 z]).run Try.prog w = .ok (.int .i64 (mn3 x y z)) w := by kernel_rfl
def mx2 (x y : Int) : Int := if x < y then y else x
theorem mx2_ge {n x y : Int} : n ≤ mx2 x y ↔ n ≤ x ∨ n ≤ y := by unfold mx2; split <;> omega
theorem run_mx2 (x y : Int) (w : World) : (Builtin.max_ #[3, 3] 3 #[.int .i64 x, .int .i64 y]).run Try.prog w = .ok (.int .i64 (mx2 x y)) w := by kernel_rfl
theorem gBy_any (w : World) : Calls Try.prog 59 #[.func (.func 60) #[] #[]] w fun e w' => e = .returned (.func (.func 84) #[] #[.pointer (some ⟨w.heap.size, 0, none⟩)]) ∧ w.alloc (.cells #[.func (.func 60) #[] #[]] 75) = w' := by
  go_enter Try.func59, Try.ntmps59
  go_wp2
  go_ret
  exact ⟨rfl, rfl⟩
theorem gCheck_pre (G : Gr) (p : Option Addr) (c : Nat) (w : World) (hl : G.es.length ≤ 9223372036854775807) (h : ¬ (1 ≤ G.q ∧ G.q ≤ 256 ∧ 0 ≤ G.n ∧ G.n ≤ 64 ∧ G.es.length ≤ 1024)) :
    Calls Try.prog 62 #[(.agg #[.int .i64 G.q, .int .i64 G.n, .slice p G.es.length c])] w fun e w' => e = .returned (.int .i64 (chkG G)) ∧ Below w.heap.size w w' := by
  have hB0 : Below w.heap.size w (w.alloc (.cells #[.int .i64 G.q, .int .i64 G.n, .slice p G.es.length c] 41)) := (Below.refl _ _).alloc (Nat.le_refl _) _
  by_cases h1 : G.q < 1
  · have HR := hidI (chkG_q (G := G) (.inl h1))
    clear h
    go_enter Try.func62, Try.ntmps62
    go_wp2
    go_ret
    exact ⟨ret_int HR.out.symm, hB0⟩
  by_cases h2 : 256 < G.q
  · have HR := hidI (chkG_q (G := G) (.inr h2))
    clear h
    go_enter Try.func62, Try.ntmps62
    go_wp2
    go_ret
    exact ⟨ret_int HR.out.symm, hB0⟩
  by_cases h3 : G.n < 0
  · have HR := hidI (chkG_n (G := G) (by omega) (by omega) h3)
    clear h
    go_enter Try.func62, Try.ntmps62
    go_wp2
    go_ret
    exact ⟨ret_int HR.out.symm, hB0⟩
  have HR := hidI (chkG_l (G := G) (by omega) (by omega) (by omega) (by omega))
  by_cases h4 : 64 < G.n
  · clear h
    go_enter Try.func62, Try.ntmps62
    go_wp2
    go_ret
    exact ⟨ret_int HR.out.symm, hB0⟩
  · have h5 : (1024 : Int) < (G.es.length : Int) := by omega
    clear h
    go_enter Try.func62, Try.ntmps62
    go_wp2
    go_ret
    exact ⟨ret_int HR.out.symm, hB0⟩

set_option maxRecDepth 100000 in
set_option maxHeartbeats 2000000 in
theorem gCheck_ok (G : Gr) (p : Option Addr) (c : Nat) (w : World) (hin : Sg 3 w edE p G.es) (q1 : 1 ≤ G.q) (q2 : G.q ≤ 256) (n1 : 0 ≤ G.n) (n2 : G.n ≤ 64) (hl : G.es.length ≤ 1024) :
    Calls Try.prog 62 #[(.agg #[.int .i64 G.q, .int .i64 G.n, .slice p G.es.length c])] w fun e w' => e = .returned (.int .i64 (chkG G)) ∧ Below w.heap.size w w' := by
  have hB0 : Below w.heap.size w (w.alloc (.cells #[.int .i64 G.q, .int .i64 G.n, .slice p G.es.length c] 41)) := (Below.refl _ _).alloc (Nat.le_refl _) _
  have b0 : VRow (w.alloc (.cells #[.int .i64 G.q, .int .i64 G.n, .slice p G.es.length c] 41)) w.heap.size 41 [.int .i64 G.q, .int .i64 G.n, .slice p G.es.length c] := VRow.new w _ _
  have HE := hidI (chkG_e q1 q2 n1 n2 hl)
  have HIN := hidI hin
  have l1 : (G.es.length : Int) ≤ 1024 := by omega
  have d1 : decide (G.q < 1) = false := decide_eq_false (by omega)
  have d2 : decide (256 < G.q) = false := decide_eq_false (by omega)
  have d3 : decide (G.n < 0) = false := decide_eq_false (by omega)
  have d4 : decide (64 < G.n) = false := decide_eq_false (by omega)
  have d5 : decide ((1024 : Int) < (G.es.length : Int)) = false := decide_eq_false (by omega)
  clear hin
  go_enter Try.func62, Try.ntmps62
  go_wp2_with (go_at_call 59; refine (gBy_any _).mono ?_; rintro e w' ⟨rfl, rfl⟩)
  clear d1 d2 d3 d4 d5
  have hBa : Below w.heap.size w ((w.alloc (.cells #[.int .i64 G.q, .int .i64 G.n, .slice p G.es.length c] 41)).alloc (.cells #[.func (.func 60) #[] #[]] 75)) := hB0.alloc (by simp) _
  have ba : VRow ((w.alloc (.cells #[.int .i64 G.q, .int .i64 G.n, .slice p G.es.length c] 41)).alloc (.cells #[.func (.func 60) #[] #[]] 75)) w.heap.size 41 [.int .i64 G.q, .int .i64 G.n, .slice p G.es.length c] := b0.alloc _
  have bf : VRow ((w.alloc (.cells #[.int .i64 G.q, .int .i64 G.n, .slice p G.es.length c] 41)).alloc (.cells #[.func (.func 60) #[] #[]] 75)) (w.heap.size + 1) 75 [.func (.func 60) #[] #[]] := VRow.new1 w _ 75 [.func (.func 60) #[] #[]]
  generalize (w.alloc (.cells #[.int .i64 G.q, .int .i64 G.n, .slice p G.es.length c] 41)).alloc (.cells #[.func (.func 60) #[] #[]] 75) = w0 at *
  clear hB0 b0
  go_loopw [33] (fun iv wr => ∃ k : Nat, k ≤ G.es.length ∧ iv = .int .i64 k ∧ Hid (errTo G.q G.n G.es k = 0) ∧ Below w0.heap.size w0 wr) (fun iv _ => G.es.length - (intOf iv).toNat)
  case atStart => exact ⟨0, by omega, rfl, rfl, Below.refl _ _⟩
  case round =>
    obtain ⟨k, hk, rfl, hj, hB⟩ := hrel
    have hBr := hBa.trans (hB.mono hBa.size)
    have br := ba.below hB ba.lt
    have f0 := br.at 0 rfl; have f1 := br.at 1 rfl; have f2 := br.at 2 rfl
    have bfr := bf.below hB bf.lt
    by_cases hlt : k < G.es.length
    · obtain ⟨b1, o1, rfl, hb1, e0, e1, e2⟩ := (HIN.out.below hBr).get3 k hlt rfl
      cases ho : outE G.q G.n G.es[k]
      · obtain ⟨i1, i2, i3, i4, i5, i6⟩ := outE_no.1 ho
        have HO := hidI ho
        clear ho
        have m1 : decide (mn3 G.es[k].f G.es[k].l G.es[k].t < 0) = false := decide_eq_false (fun h => by rcases mn3_neg.1 h with h | h | h <;> omega)
        have m2 : decide (G.n ≤ mx2 G.es[k].f G.es[k].t) = false := decide_eq_false (fun h => by rcases mx2_ge.1 h with h | h <;> omega)
        have m3 : decide (G.q ≤ G.es[k].l) = false := decide_eq_false (by omega)
        have mm := run_mn3 G.es[k].f G.es[k].l G.es[k].t
        have mx := run_mx2 G.es[k].f G.es[k].t
        have hz := br.lt
        have hz2 := bfr.lt
        rcases Nat.eq_zero_or_pos k with hk0 | hk0
        · have hkd : decide ((0 : Int) < (k : Int)) = false := decide_eq_false (by omega)
          have hkd2 : decide (0 < k) = false := decide_eq_false (by omega)
          have HN : Hid (errTo G.q G.n G.es (k + 1) = 0) := errTo_next hj.out (by subst hk0; exact errAt_first hlt HO.out)
          clear hk0
          go_wp2_with fail
          (refine wp_region_quiet_lit (by kernel_rfl) (by kernel_rfl) ?_; (repeat (first | go_big_quiet_step (fail) | quiet_step (fail))); refine wpQuiet_nil ?_; intro _ hwq; obtain ⟨nq, hwq2⟩ := hwq; subst hwq2)
          clear m1 m2 m3 mm mx hkd hkd2
          go_wp2
          go_roundw
          case rel => exact ⟨k + 1, by omega, by go_num, HN, below_dN (hB.alloc hB.size _) nq⟩
          case measure => simp [intOf]; omega
        · obtain ⟨m, rfl⟩ : ∃ m, k = m + 1 := ⟨k - 1, by omega⟩
          have HS := hidI (errAt_succ hlt HO.out)
          go_wp2_with fail
          refine region_tail 11 (by kernel_rfl) (by kernel_rfl) fun W hD => ?_
          have hcW : VRow W wr.heap.size 45 [.int .i64 G.es[m + 1].f, .int .i64 G.es[m + 1].l, .int .i64 G.es[m + 1].t] := (VRow.new wr 45 _).dr hD
          have hbW : VRow W w.heap.size 41 [.int .i64 G.q, .int .i64 G.n, .slice (some ⟨b1, o1, none⟩) G.es.length c] := (br.alloc _).dr hD
          have hfW : VRow W (w.heap.size + 1) 75 [.func (.func 60) #[] #[]] := (bfr.alloc _).dr hD
          have hBW : Below w0.heap.size w0 W := (hB.alloc hB.size _).trans (hD.below _)
          have hBw : Below w.heap.size w W := hBa.trans (hBW.mono hBa.size)
          obtain ⟨b1', o1', he, _, e3, e4, e5⟩ := (HIN.out.below hBw).get3 m (by omega) rfl
          cases he
          clear e0 e1 e2 f0 f1 f2
          have f2 := hbW.at 2 rfl
          have e0 := hcW.at 0 rfl; have e1 := hcW.at 1 rfl; have e2 := hcW.at 2 rfl
          have g0 := hfW.at 0 rfl
          simp only [List.take_succ_cons, List.take_zero, List.drop_succ_cons, List.drop_zero]
          have n0 : (0 : Int) ≤ (m : Int) := by omega
          have n1 : (m : Int) < (G.es.length : Int) := by omega
          have q1' : IntKind.i64.wrap (m : Int) = (m : Int) := IntWalk.i64_in _ (by omega)
          iterate 11 still_step
          refine wpStill_nil ?_
          clear q1'
          go_wp2_with fail
          refine (gByc_up G.es[m] G.es[m + 1] (w.heap.size + 1) _ g0).mono ?_
          rintro e w1 ⟨rfl, hU1⟩
          have hB1 := hBW.trans (hU1.below.mono hBW.size)
          clear m1 m2 m3 mm mx e0 e1 e2 e3 e4 e5 f2 g0
          by_cases hcs : 0 ≤ cmpE G.es[m] G.es[m + 1]
          · have HF : Hid (chkG G = 10) := HE.out.trans ((errTo_hit hj.out (by rw [HS.out, if_pos hcs]; decide) hlt).trans (by rw [HS.out, if_pos hcs]))
            go_wp2
            go_ret
            exact ⟨ret_int HF.out.symm, hBa.trans (hB1.mono hBa.size)⟩
          · have HN : Hid (errTo G.q G.n G.es (m + 1 + 1) = 0) := errTo_next hj.out (by rw [HS.out, if_neg hcs])
            have hcs' : cmpE G.es[m] G.es[m + 1] < 0 := by omega
            go_wp2
            go_roundw
            case rel => exact ⟨m + 1 + 1, by omega, by go_num, HN, hB1⟩
            case measure => simp [intOf]; omega
      · have HO := hidI ho
        have HF : Hid (chkG G = 2) := HE.out.trans ((errTo_hit hj.out (by rw [errAt_out hlt ho]; decide) hlt).trans (errAt_out hlt ho))
        have mm := run_mn3 G.es[k].f G.es[k].l G.es[k].t
        have mx := run_mx2 G.es[k].f G.es[k].t
        have hz := br.lt
        have hz2 := bfr.lt
        have hBx := (hB.alloc hB.size (.cells #[.int .i64 G.es[k].f, .int .i64 G.es[k].l, .int .i64 G.es[k].t] 45))
        clear ho
        by_cases m1 : mn3 G.es[k].f G.es[k].l G.es[k].t < 0
        · have m1' := decide_eq_true m1
          clear m1
          go_wp2
          go_ret
          exact ⟨ret_int HF.out.symm, hBa.trans (hBx.mono hBa.size)⟩
        · have m1' := decide_eq_false m1
          have i : 0 ≤ G.es[k].f ∧ 0 ≤ G.es[k].l ∧ 0 ≤ G.es[k].t := ⟨by by_cases h : G.es[k].f < 0; exact absurd (mn3_neg.2 (.inl h)) m1; omega, by by_cases h : G.es[k].l < 0; exact absurd (mn3_neg.2 (.inr (.inl h))) m1; omega, by by_cases h : G.es[k].t < 0; exact absurd (mn3_neg.2 (.inr (.inr h))) m1; omega⟩
          by_cases m2 : G.n ≤ mx2 G.es[k].f G.es[k].t
          · have m2' := decide_eq_true m2
            clear m1 m2 i
            go_wp2
            go_ret
            exact ⟨ret_int HF.out.symm, hBa.trans (hBx.mono hBa.size)⟩
          · have m3 : G.q ≤ G.es[k].l := by
              have h1 := outE_iff.1 HO.out
              have h2 : ¬ (G.n ≤ G.es[k].f ∨ G.n ≤ G.es[k].t) := fun h => m2 (mx2_ge.2 h)
              omega
            have m2' := decide_eq_false m2
            have m3' := decide_eq_true m3
            clear m1 m2 m3 i
            go_wp2
            go_ret
            exact ⟨ret_int HF.out.symm, hBa.trans (hBx.mono hBa.size)⟩
    · obtain rfl : k = G.es.length := by omega
      have HF : Hid (chkG G = 0) := HE.out.trans hj.out
      go_wp2
      go_ret
      exact ⟨ret_int HF.out.symm, hBr⟩
theorem gCheck_any (G : Gr) (p : Option Addr) (c : Nat) (w : World) (hin : Sg 3 w edE p G.es) (hl : G.es.length ≤ 9223372036854775807) :
    Calls Try.prog 62 #[(.agg #[.int .i64 G.q, .int .i64 G.n, .slice p G.es.length c])] w fun e w' => e = .returned (.int .i64 (chkG G)) ∧ Below w.heap.size w w' := by
  by_cases h : 1 ≤ G.q ∧ G.q ≤ 256 ∧ 0 ≤ G.n ∧ G.n ≤ 64 ∧ G.es.length ≤ 1024
  · exact gCheck_ok G p c w hin h.1 h.2.1 h.2.2.1 h.2.2.2.1 h.2.2.2.2
  · exact gCheck_pre G p c w hl h
theorem gCheck_r (G : Gr) (p : Option Addr) (c : Nat) (w : World) (r : Int) (hr : chkG G = r) (hin : Sg 3 w edE p G.es) (hl : G.es.length ≤ 9223372036854775807) :
    Calls Try.prog 62 #[(.agg #[.int .i64 G.q, .int .i64 G.n, .slice p G.es.length c])] w fun e w' => e = .returned (.int .i64 r) ∧ Below w.heap.size w w' := by
  subst hr; exact gCheck_any G p c w hin hl
end Go.Proofs.Ytkcapbdcmhdcmaa
namespace Go.Proofs.Ytkcapbdcmhdcmaa
open Go.RowKit Go.Sort Go.Shelf Go.Lib

/-- A graph and an error number, the edges in memory of the call's own. -/
def RetGr (G : Gr) (k : Int) (w : World) (e : Ending) (w' : World) : Prop := ∃ p c, e = .returned (.tuple #[(.agg #[.int .i64 G.q, .int .i64 G.n, .slice p G.es.length c]), .int .i64 k]) ∧ Sg 3 w' edE p G.es ∧ G.es.length ≤ c ∧ Below w.heap.size w w'
theorem RetGr.of {G' : Gr} {k' : Int} {x : Gr × Int} {w w' : World} {p : Option Addr} {c : Nat} (hr : x = (G', k')) (hs : Sg 3 w' edE p G'.es) (hc : G'.es.length ≤ c) (hB : Below w.heap.size w w') :
    RetGr x.1 x.2 w (.returned (.tuple #[(.agg #[.int .i64 G'.q, .int .i64 G'.n, .slice p G'.es.length c]), .int .i64 k'])) w' := by subst hr; exact ⟨p, c, rfl, hs, hc, hB⟩

set_option maxRecDepth 100000 in
set_option maxHeartbeats 1000000 in
theorem gMake_any (q n : Int) (l : List Ed) (p : Option Addr) (c : Nat) (w : World) (hin : Sg 3 w edE p l) (hl : l.length ≤ 100000) :
    Calls Try.prog 44 #[.int .i64 q, .int .i64 n, .slice p l.length c] w (RetGr (makeA q n l).1 (makeA q n l).2 w) := by
  have hB0 : Below w.heap.size w (w.alloc (.cells #[.int .i64 0, .int .i64 0, .slice none 0 0] 41)) := (Below.refl _ _).alloc (Nat.le_refl _) _
  have b0 : VRow (w.alloc (.cells #[.int .i64 0, .int .i64 0, .slice none 0 0] 41)) w.heap.size 41 [.int .i64 0, .int .i64 0, .slice none 0 0] := VRow.new w _ _
  go_enter Try.func44, Try.ntmps44
  go_wp2_with fail
  refine (cloneE_any l p c _ (hin.below hB0) hl).mono ?_
  rintro e w1 ⟨v1, rfl, hown1, hB1⟩
  have x1 := hB0.trans (hB1.mono hB0.size)
  have b1 := b0.below hB1 (by simp)
  go_wp2_with fail
  refine (gBy_any _).mono ?_
  rintro e w2 ⟨rfl, rfl⟩
  have hown2 := hown1.alloc (.cells #[.func (.func 60) #[] #[]] 75)
  have bf2 : VRow (w1.alloc (.cells #[.func (.func 60) #[] #[]] 75)) w1.heap.size 75 [.func (.func 60) #[] #[]] := VRow.new w1 _ _
  have b2 := b1.alloc (.cells #[.func (.func 60) #[] #[]] 75)
  have x2 := x1.alloc x1.size (.cells #[.func (.func 60) #[] #[]] 75)
  have hne : v1.ownBlock ≠ some w1.heap.size := fun e => by have := (hown1.lt _ e).2; omega
  have hz0 : w.heap.size < (w.alloc (.cells #[.int .i64 0, .int .i64 0, .slice none 0 0] 41)).heap.size := b0.lt
  have HS : Hid (compact (srtE l) = norm l) := norm_sort l
  have hBz := hB1.size
  clear hB1 hB0 b0
  generalize (w.alloc (.cells #[.int .i64 0, .int .i64 0, .slice none 0 0] 41)).heap.size = B at *
  go_wp2_with fail
  refine (sortE_any l B l.length w1.heap.size v1 _ hown2 (bf2.at 0 rfl) hne hl (Nat.le_trans hBz (by simp))).mono ?_
  rintro e w3 ⟨rfl, hown3, hB3⟩
  have x3 := x2.trans (hB3.mono (Nat.le_of_lt hz0))
  have b3 := b2.below hB3 hz0
  have hBz3 : B ≤ w3.heap.size := Nat.le_trans hBz (Nat.le_trans (by simp) hB3.size)
  clear hown2 bf2 b2 hne hown1
  go_wp2_with fail
  refine (compactE_any (srtE l) B l.length v1 _ hown3 hl hBz3).mono ?_
  rw [HS.out]
  rintro e w4 ⟨v4, rfl, hown4, hB4⟩
  have x4 := x3.trans (hB4.mono (Nat.le_of_lt hz0))
  have b4 := b3.below hB4 hz0
  obtain ⟨p4, c4, rfl, hs4, hc4, _⟩ := own_sg hown4
  have f0 := b4.at 0 rfl; have f1 := b4.at 1 rfl; have f2 := b4.at 2 rfl
  have hfz := fun j => b4.frozen j
  have hz4 := b4.lt
  have hw5 : Sg 3 (w4.alloc (.cells #[.int .i64 (⟨q, n, norm l⟩ : Gr).q, .int .i64 (⟨q, n, norm l⟩ : Gr).n, .slice p4 (⟨q, n, norm l⟩ : Gr).es.length c4] 41)) edE p4 (norm l) := hs4.below ((Below.refl _ _).alloc (Nat.le_refl _) _)
  have hln : (norm l).length ≤ 100000 := by
    have := compact_len (srtE l); rw [HS.out, srtE_len] at this; omega
  obtain ⟨r, hr⟩ : ∃ r, chkG ⟨q, n, norm l⟩ = r := ⟨_, rfl⟩
  have b4' : VRow (w4.alloc (.cells #[.int .i64 (⟨q, n, norm l⟩ : Gr).q, .int .i64 (⟨q, n, norm l⟩ : Gr).n, .slice p4 (⟨q, n, norm l⟩ : Gr).es.length c4] 41)) w.heap.size 41 [.int .i64 0, .int .i64 0, .slice none 0 0] := b4.alloc _
  have c4' : VRow (w4.alloc (.cells #[.int .i64 (⟨q, n, norm l⟩ : Gr).q, .int .i64 (⟨q, n, norm l⟩ : Gr).n, .slice p4 (⟨q, n, norm l⟩ : Gr).es.length c4] 41)) w4.heap.size 41 [.int .i64 (⟨q, n, norm l⟩ : Gr).q, .int .i64 (⟨q, n, norm l⟩ : Gr).n, .slice p4 (⟨q, n, norm l⟩ : Gr).es.length c4] := VRow.new w4 _ _
  have x4' := x4.alloc x4.size (.cells #[.int .i64 (⟨q, n, norm l⟩ : Gr).q, .int .i64 (⟨q, n, norm l⟩ : Gr).n, .slice p4 (⟨q, n, norm l⟩ : Gr).es.length c4] 41)
  have hL : Hid ((norm l).length ≤ c4) := hc4
  by_cases hr0 : r = 0
  · subst hr0
    have HR := hidI (makeA_ok hr)
    go_wp2_with fail
    refine (gCheck_r ⟨q, n, norm l⟩ p4 c4 _ 0 hr hw5 (by show (norm l).length ≤ _; omega)).mono ?_
    rintro e w5 ⟨rfl, hB5⟩
    have x5 := x4'.trans (hB5.mono x4'.size)
    have b5 := b4'.below hB5 b4'.lt
    have c5 := c4'.below hB5 c4'.lt
    have o5 := (hown4.alloc (.cells #[.int .i64 (⟨q, n, norm l⟩ : Gr).q, .int .i64 (⟨q, n, norm l⟩ : Gr).n, .slice p4 (⟨q, n, norm l⟩ : Gr).es.length c4] 41)).below hB5
    have g0 := c5.at 0 rfl; have g1 := c5.at 1 rfl; have g2 := c5.at 2 rfl
    have k0 := b5.at 0 rfl; have k1 := b5.at 1 rfl; have k2 := b5.at 2 rfl
    have z0 := b5.frozen 0; have z1 := b5.frozen 1; have z2 := b5.frozen 2
    clear f0 f1 f2 hfz hr
    go_wp2
    have r6 := VRow.set (i := 2) (.slice p4 (norm l).length c4) (VRow.set (i := 1) (.int .i64 n) (VRow.set (i := 0) (.int .i64 q) b5))
    have y0 := r6.at 0 rfl; have y1 := r6.at 1 rfl; have y2 := r6.at 2 rfl
    have o6 := ownsRow_setCell_below (a := ⟨w.heap.size, 2, none⟩) (ownsRow_setCell_below (a := ⟨w.heap.size, 1, none⟩) (ownsRow_setCell_below (a := ⟨w.heap.size, 0, none⟩) o5 hz0 (.int .i64 q)) hz0 (.int .i64 n)) hz0 (.slice p4 (norm l).length c4)
    have x6 : Below w.heap.size w (((w5.setCell ⟨w.heap.size, 0, none⟩ (.int .i64 q)).setCell ⟨w.heap.size, 1, none⟩ (.int .i64 n)).setCell ⟨w.heap.size, 2, none⟩ (.slice p4 (norm l).length c4)) := ((x5.setCell (Nat.le_refl _) _).setCell (Nat.le_refl _) _).setCell (Nat.le_refl _) _
    refine bodyPost_ret (v := .tuple #[.agg #[.int .i64 q, .int .i64 n, .slice p4 (norm l).length c4], .int .i64 0]) (by simp [results, Try.results44, go_sem, y0, y1, y2]) rfl ?_
    obtain ⟨p6, c6, hv, hs6, _, _⟩ := own_sg o6
    cases hv
    exact RetGr.of HR.out hs6 hL.out x6
  · have hrb : (r == 0) = false := by simpa using hr0
    have HR := hidI (makeA_bad (by rw [hr]; exact hr0))
    rw [hr] at HR
    go_wp2_with fail
    refine (gCheck_r ⟨q, n, norm l⟩ p4 c4 _ r hr hw5 (by show (norm l).length ≤ _; omega)).mono ?_
    rintro e w5 ⟨rfl, hB5⟩
    have x5 := x4'.trans (hB5.mono x4'.size)
    have b5 := b4'.below hB5 b4'.lt
    have o5 := (hown4.alloc (.cells #[.int .i64 (⟨q, n, norm l⟩ : Gr).q, .int .i64 (⟨q, n, norm l⟩ : Gr).n, .slice p4 (⟨q, n, norm l⟩ : Gr).es.length c4] 41)).below hB5
    have k0 := b5.at 0 rfl; have k1 := b5.at 1 rfl; have k2 := b5.at 2 rfl
    have z0 := b5.frozen 0; have z1 := b5.frozen 1; have z2 := b5.frozen 2
    clear f0 f1 f2 hfz hr
    go_wp2
    have r6 := VRow.set (i := 2) (.slice none 0 0) (VRow.set (i := 1) (.int .i64 0) (VRow.set (i := 0) (.int .i64 0) b5))
    have y0 := r6.at 0 rfl; have y1 := r6.at 1 rfl; have y2 := r6.at 2 rfl
    have o6 := ownsRow_setCell_below (a := ⟨w.heap.size, 2, none⟩) (ownsRow_setCell_below (a := ⟨w.heap.size, 1, none⟩) (ownsRow_setCell_below (a := ⟨w.heap.size, 0, none⟩) o5 hz0 (.int .i64 0)) hz0 (.int .i64 0)) hz0 (.slice none 0 0)
    have x6 : Below w.heap.size w (((w5.setCell ⟨w.heap.size, 0, none⟩ (.int .i64 0)).setCell ⟨w.heap.size, 1, none⟩ (.int .i64 0)).setCell ⟨w.heap.size, 2, none⟩ (.slice none 0 0)) := ((x5.setCell (Nat.le_refl _) _).setCell (Nat.le_refl _) _).setCell (Nat.le_refl _) _
    refine bodyPost_ret (v := .tuple #[.agg #[.int .i64 0, .int .i64 0, .slice none 0 0], .int .i64 r]) (by simp [results, Try.results44, go_sem, y0, y1, y2]) rfl ?_
    exact RetGr.of (G' := ⟨0, 0, []⟩) HR.out (Sg.nil _ _ _ _) (by simp) x6
end Go.Proofs.Ytkcapbdcmhdcmaa
namespace Go.Proofs.Ytkcapbdcmhdcmaa
open Go.RowKit Go.Sort

def TwoRows (w : World) (a b : Ed) (u v : Value) (wx : World) : Prop :=
  ∃ g h, u = .slice (some ⟨g, 0, none⟩) 3 3 ∧ v = .slice (some ⟨h, 0, none⟩) 3 3 ∧ VRow wx g 3 ((edL a).map (Value.int .i64)) ∧ VRow wx h 3 ((edL b).map (Value.int .i64)) ∧ Up w wx
theorem edL_len (x : Ed) : (edL x).length = 3 := rfl
end Go.Proofs.Ytkcapbdcmhdcmaa
namespace Go.Proofs.Ytkcapbdcmhdcmaa
open Go.RowKit Go.Sort Go.Shelf Go.Lib

/-! ### Plain -/
def sameG (G H : Gr) : Bool := decide (G.q = H.q) && (decide (G.n = H.n) && decide (G.es = H.es))
theorem sameG_refl (G : Gr) : sameG G G = true := by simp [sameG]
theorem sameG_iff {G H : Gr} : sameG G H = true ↔ G = H := by
  cases G; cases H; simp [sameG]
theorem sameG_len {G H : Gr} (h : G.es.length ≠ H.es.length) : sameG G H = false := by
  simp [sameG]; intro _ _ e; exact h (by rw [e])
theorem es_ne {l m : List Ed} (k : Nat) (h1 : k < l.length) (h2 : k < m.length) (h : l[k] ≠ m[k]) : l ≠ m := by intro e; subst e; exact h rfl
def detB : List Ed → Bool
  | x :: y :: l => !(decide (x.f = y.f) && decide (x.l = y.l)) && detB (y :: l)
  | _ => true
theorem detB_t : ∀ {l : List Ed}, (∀ k (h : k + 1 < l.length), ¬ (l[k].f = l[k + 1].f ∧ l[k].l = l[k + 1].l)) → detB l = true
  | [], _ => rfl
  | [_], _ => rfl
  | x :: y :: l, h => by
    have h0 := h 0 (by simp)
    simp only [List.getElem_cons_zero, List.getElem_cons_succ] at h0
    rw [detB, detB_t (fun k hk => by have := h (k + 1) (by simpa using hk); simpa using this)]
    by_cases h1 : x.f = y.f
    · have : x.l ≠ y.l := fun e => h0 ⟨h1, e⟩
      simp [this]
    · simp [h1]
theorem detB_f : ∀ {l : List Ed} (k : Nat) (h : k + 1 < l.length), l[k].f = l[k + 1].f → l[k].l = l[k + 1].l → detB l = false
  | [], k, h, _, _ => by simp at h
  | [_], k, h, _, _ => by simp at h
  | x :: y :: l, 0, _, h1, h2 => by
    simp only [List.getElem_cons_zero, List.getElem_cons_succ] at h1 h2
    simp [detB, h1, h2]
  | x :: y :: l, k + 1, h, h1, h2 => by
    rw [detB, detB_f k (by simpa using h) (by simpa using h1) (by simpa using h2), Bool.and_false]
/-- Whether a graph is deterministic, and the error number. -/
def detA (G : Gr) : Bool × Int := if chkG G = 0 then (detB G.es, 0) else (false, 1)
theorem detA_bad {G : Gr} (h : chkG G ≠ 0) : detA G = (false, 1) := by unfold detA; rw [if_neg h]
theorem detA_ok {G : Gr} (h : chkG G = 0) : detA G = (detB G.es, 0) := by unfold detA; rw [if_pos h]
def greatG (G : Gr) : Bool := decide (30 < G.es.length) || (decide (10 < G.n) && decide (G.n ≤ 64))

/-! ### Walks -/
set_option maxRecDepth 100000 in
set_option maxHeartbeats 1000000 in
theorem rSame_any (G H : Gr) (p p' : Option Addr) (c c' : Nat) (w : World) (hG : Sg 3 w edE p G.es) (hH : Sg 3 w edE p' H.es) (lG : G.es.length ≤ 9223372036854775807) (lH : H.es.length ≤ 9223372036854775807) :
    Calls Try.prog 23 #[(.agg #[.int .i64 G.q, .int .i64 G.n, .slice p G.es.length c]), (.agg #[.int .i64 H.q, .int .i64 H.n, .slice p' H.es.length c'])] w fun e w' => e = .returned (.bool (sameG G H)) ∧ Below w.heap.size w w' := by
  have hB0 : Below w.heap.size w ((w.alloc (.cells #[.int .i64 G.q, .int .i64 G.n, .slice p G.es.length c] 41)).alloc (.cells #[.int .i64 H.q, .int .i64 H.n, .slice p' H.es.length c'] 41)) := ((Below.refl _ _).alloc (Nat.le_refl _) _).alloc (by simp) _
  have b0 : VRow ((w.alloc (.cells #[.int .i64 G.q, .int .i64 G.n, .slice p G.es.length c] 41)).alloc (.cells #[.int .i64 H.q, .int .i64 H.n, .slice p' H.es.length c'] 41)) w.heap.size 41 [.int .i64 G.q, .int .i64 G.n, .slice p G.es.length c] := (VRow.new w _ _).alloc _
  have b1 : VRow ((w.alloc (.cells #[.int .i64 G.q, .int .i64 G.n, .slice p G.es.length c] 41)).alloc (.cells #[.int .i64 H.q, .int .i64 H.n, .slice p' H.es.length c'] 41)) (w.heap.size + 1) 41 [.int .i64 H.q, .int .i64 H.n, .slice p' H.es.length c'] := VRow.new1 w _ _ _
  have HG := hidI hG; have HH := hidI hH
  clear hG hH
  by_cases hq : G.q = H.q
  · by_cases hn : G.n = H.n
    · by_cases hlen : G.es.length = H.es.length
      · have HS : Hid (sameG G H = decide (G.es = H.es)) := by unfold Hid sameG; rw [decide_eq_true hq, decide_eq_true hn]; rfl
        have d1 : (G.q != H.q) = false := by simpa using hq
        have d2 : (G.n != H.n) = false := by simpa using hn
        have d3 : ((G.es.length : Int) != (H.es.length : Int)) = false := by simp; omega
        have HL := hidI hlen
        clear hq hn hlen
        go_enter Try.func23, Try.ntmps23
        go_wp2
        clear d1 d2 d3
        generalize ((w.alloc (.cells #[.int .i64 G.q, .int .i64 G.n, .slice p G.es.length c] 41)).alloc (.cells #[.int .i64 H.q, .int .i64 H.n, .slice p' H.es.length c'] 41)) = w0 at *
        go_loopw [5] (fun iv wr => ∃ k : Nat, k ≤ G.es.length ∧ iv = .int .i64 k ∧ Hid (G.es.take k = H.es.take k) ∧ Dr w0 wr) (fun iv _ => G.es.length - (intOf iv).toNat)
        case atStart => exact ⟨0, by omega, rfl, by simp [Hid], Dr.refl _⟩
        case round =>
          obtain ⟨k, hk, rfl, hj, hD⟩ := hrel
          have g2 := (b0.dr hD).at 2 rfl
          have h2 := (b1.dr hD).at 2 rfl
          have hBr := hB0.trans (hD.below _)
          by_cases hlt : k < G.es.length
          · have hlt2 : k < H.es.length := by have := HL.out; omega
            obtain ⟨b3, o3, rfl, _, e0, e1, e2⟩ := (HG.out.below hBr).get3 k hlt rfl
            obtain ⟨b4, o4, rfl, _, e3, e4, e5⟩ := (HH.out.below hBr).get3 k hlt2 rfl
            have hI : (k : Int) < (H.es.length : Int) := by omega
            have hq := neqE G.es[k] H.es[k]
            have hgd := guardE .neq
            by_cases heq : G.es[k] = H.es[k]
            · rw [decide_eq_true heq] at hq
              have HN : Hid (G.es.take (k + 1) = H.es.take (k + 1)) := by unfold Hid; rw [List.take_succ_eq_append_getElem hlt, List.take_succ_eq_append_getElem hlt2, hj.out, heq]
              clear heq
              go_wp2_with fail
              (refine wp_region_quiet_lit (by kernel_rfl) (by kernel_rfl) ?_; (repeat (first | go_big_quiet_step (fail) | quiet_step (fail))); refine wpQuiet_nil ?_; intro _ hwq; obtain ⟨nq, hwq2⟩ := hwq; subst hwq2)
              clear e0 e1 e2 e3 e4 e5 hq hgd g2 h2
              go_wp2
              go_roundw
              case rel => exact ⟨k + 1, by omega, by go_num, HN, hD.one _⟩
              case measure => simp [intOf]; omega
            · rw [decide_eq_false heq] at hq
              have HF : Hid (sameG G H = false) := HS.out.trans (decide_eq_false (es_ne k hlt hlt2 heq))
              clear heq
              go_wp2_with fail
              (refine wp_region_quiet_lit (by kernel_rfl) (by kernel_rfl) ?_; (repeat (first | go_big_quiet_step (fail) | quiet_step (fail))); refine wpQuiet_nil ?_; intro _ hwq; obtain ⟨nq, hwq2⟩ := hwq; subst hwq2)
              clear e0 e1 e2 e3 e4 e5 hq hgd g2 h2
              go_wp2
              go_ret
              exact ⟨ret_bool HF.out.symm, hB0.trans ((hD.one _).below _)⟩
          · have HT : Hid (sameG G H = true) := by
              refine HS.out.trans (decide_eq_true ?_)
              have := hj.out
              rwa [List.take_of_length_le (by omega), List.take_of_length_le (by have := HL.out; omega)] at this
            go_wp2
            go_ret
            exact ⟨ret_bool HT.out.symm, hBr⟩
      · have HF := hidI (sameG_len hlen)
        have d1 : (G.q != H.q) = false := by simpa using hq
        have d2 : (G.n != H.n) = false := by simpa using hn
        have d3 : ((G.es.length : Int) != (H.es.length : Int)) = true := by simp; omega
        clear hq hn hlen
        go_enter Try.func23, Try.ntmps23
        go_wp2
        go_ret
        exact ⟨ret_bool HF.out.symm, hB0⟩
    · have HF : Hid (sameG G H = false) := by unfold Hid sameG; rw [decide_eq_false hn]; simp
      have d1 : (G.q != H.q) = false := by simpa using hq
      have d2 : (G.n != H.n) = true := by simpa using hn
      clear hq hn
      go_enter Try.func23, Try.ntmps23
      go_wp2
      go_ret
      exact ⟨ret_bool HF.out.symm, hB0⟩
  · have HF : Hid (sameG G H = false) := by unfold Hid sameG; rw [decide_eq_false hq]; rfl
    have d1 : (G.q != H.q) = true := by simpa using hq
    clear hq
    go_enter Try.func23, Try.ntmps23
    go_wp2
    go_ret
    exact ⟨ret_bool HF.out.symm, hB0⟩

end Go.Proofs.Ytkcapbdcmhdcmaa
namespace Go.Proofs.Ytkcapbdcmhdcmaa
open Go.RowKit Go.Sort Go.Shelf Go.Lib

theorem ret_bi' {a : Bool} {b : Int} {x : Bool × Int} (h : x = (a, b)) : Ending.returned (.tuple #[.bool a, .int .i64 b]) = .returned (.tuple #[.bool x.1, .int .i64 x.2]) := by subst h; rfl
def TwoEds (w : World) (a b : Ed) (u v : Value) (wx : World) : Prop :=
  ∃ g h, u = .pointer (some ⟨g, 0, none⟩) ∧ v = .pointer (some ⟨h, 0, none⟩) ∧ VRow wx g 45 (edE a) ∧ VRow wx h 45 (edE b) ∧ Below w.heap.size w wx
end Go.Proofs.Ytkcapbdcmhdcmaa
namespace Go.Proofs.Ytkcapbdcmhdcmaa
open Go.RowKit Go.Sort Go.Shelf Go.Lib

/-! ### Appending -/
section
variable {P : Program} {w : World}
theorem run_append_sg (base : Nat) (t ty e : TypeId) (i : TypeInfo) (z : Value) (ht : P.underlying t = some (.slice e)) (hi : P.info? e = some i) (hz : i.zero = some z) (hs : i.size = 3) (hby : i.bytes = 24) (hzs : z.cells.size = 3)
    (v : Value) (xs : List Ed) (n : Nat) (hown : w.ownsRow base e 3 v n (cat xs)) (p : Option Addr) (c : Nat) (l : List Ed) (m : Nat) (hm : l.length = m) (hl : Sg 3 w edE p l) (h63 : n + m ≤ 100000) (hbase : base ≤ w.heap.size) :
    ∃ v' w', (Builtin.append_ #[t, t] ty #[v, .slice p m c]).run P w = .ok v' w' ∧ w'.ownsRow base e 3 v' (n + m) (cat (xs ++ l)) ∧ w.grownBy w' v.ownBlock := by
  subst hm
  cases p with
  | none =>
    rcases hl with h0 | ⟨_, _, hp, _⟩
    · subst h0
      refine ⟨v, w, ?_, by simpa using hown, World.grownBy.refl w _⟩
      rcases hown.2 with ⟨rfl, h0⟩ | ⟨g, cap, cur, rfl, _, _, hnc, _⟩
      · simp [Builtin.append_, run_underlying ht, sizeOf, typeInfo, hi, Builtin.lenOf, Builtin.firstCells]
      · simp [Builtin.append_, run_underlying ht, sizeOf, typeInfo, hi, Builtin.lenOf, Builtin.firstCells, hnc, storeCells]
    · cases hp
  | some ad =>
    have hn : ∀ j u, (cat l)[j]? = some u → w.cell? (ad.add j) = some u := by
      rcases hl with h0 | ⟨b, off, hp, _, hc⟩
      · subst h0; simp [cat]
      · cases hp
        intro j u hu
        rw [show (⟨b, off, none⟩ : Addr).add j = ⟨b, off + j, none⟩ by unfold Addr.add; split <;> simp_all]; exact sg_cells hc j u hu
    obtain ⟨v', w', h1, h2, h3, _, _⟩ := run_append_own_at w base t ty e i z 3 24 ht hi hz hs hby hzs (by decide) v n _ hown ad l.length c (cat l) (cat_len l) hn (cat_one l) (by simp only [maxLen]; omega) (by omega) hbase
    exact ⟨v', w', h1, by rw [cat_app]; exact h2, h3⟩
theorem step_append_run {ops : Array Oper} {o : Oper} {a : Act} {K : Act → World → Prop} {Q : Exit → Act → World → Prop} {E : Prop} (hgd : o.guard = none) (s x : Operand) (t : TypeId)
    (ho : o.op = .call { callee := .builtin .append, args := #[s, x], argTypes := #[t, t] }) (sv xv : Value) (hs : a.eval s = sv) (hx : a.eval x = xv) (v' : Value) (w' : World)
    (hrun : (Builtin.append_ #[t, t] o.type #[sv, xv]).run P w = .ok v' w') (h : K (a.put o.dst v') w') : if Region.wanted o (yielded ops a.tmps) = true then Oper.wp P o a w K Q else E := by
  have hw : Region.wanted o (yielded ops a.tmps) = true := by simp [Region.wanted, hgd]
  rw [if_pos hw]
  unfold Oper.wp execOp
  simp only [ho, resolve, invoke, builtin, Sem.run_bind, Sem.run_pure, Result.andThen_ok, List.map_toArray, List.map_cons, List.map_nil, hs, hx, hrun]
  exact h
end
theorem step_append_sg {P : Program} {w : World} {ops : Array Oper} {o : Oper} {a : Act} {K : Act → World → Prop} {Q : Exit → Act → World → Prop} {E : Prop} (hgd : o.guard = none) (s x : Operand) (t : TypeId)
    (ho : o.op = .call { callee := .builtin .append, args := #[s, x], argTypes := #[t, t] }) (sv : Value) (p : Option Addr) (m c : Nat) (hs : a.eval s = sv) (hx : a.eval x = .slice p m c)
    (base : Nat) (e : TypeId) (i : TypeInfo) (z : Value) (ht : P.underlying t = some (.slice e)) (hi : P.info? e = some i) (hz : i.zero = some z) (hsz : i.size = 3) (hby : i.bytes = 24) (hzs : z.cells.size = 3)
    (xs : List Ed) (n : Nat) (l : List Ed) (hm : l.length = m) (h63 : n + m ≤ 100000) (hown : w.ownsRow base e 3 sv n (cat xs)) (hl : Sg 3 w edE p l) (hbase : base ≤ w.heap.size)
    (h : ∀ v' w', w'.ownsRow base e 3 v' (n + m) (cat (xs ++ l)) → w.grownBy w' sv.ownBlock → K (a.put o.dst v') w') : if Region.wanted o (yielded ops a.tmps) = true then Oper.wp P o a w K Q else E := by
  obtain ⟨v', w', h1, h2, h3⟩ := run_append_sg base t o.type e i z ht hi hz hsz hby hzs sv xs n hown p c l m hm hl h63 hbase
  exact step_append_run hgd s x t ho sv _ hs hx v' w' h1 (h v' w' h2 h3)
theorem own_conv {w : World} {B B' e n : Nat} {v : Value} {xs ys : List Ed} (h : w.ownsRow B e 3 v n (cat xs)) (he : ys = xs) (hB : B' ≤ B) : w.ownsRow B' e 3 v ys.length (cat ys) := by
  subst he
  have hn : ys.length = n := by have := h.1; rw [cat_len] at this; omega
  subst hn
  refine ⟨h.1, ?_⟩
  rcases h.2 with h | ⟨g, cap, cur, a, b, r⟩
  · exact .inl h
  · exact .inr ⟨g, cap, cur, a, Nat.le_trans hB b, r⟩
theorem heap_old1 (w : World) (o o' : Obj) : ((w.alloc o).alloc o').heap[w.heap.size]? = some o := (Below.heap_alloc _ o' _ (by simp)).trans (heap_alloc_new w o)
theorem drB (B : Nat) (w : World) : RowKit.Below B w w.drew := ⟨rfl, rfl, rfl, Nat.le_refl _, fun _ _ => rfl⟩
theorem keep3 {W W' : World} {b o0 o1 o2 : Nat} {v0 v1 v2 : Value} (hb : b < W.heap.size) (h0 : W.cell? ⟨b, o0, none⟩ = some v0) (h1 : W.cell? ⟨b, o1, none⟩ = some v1) (h2 : W.cell? ⟨b, o2, none⟩ = some v2) (h : RowKit.Below W.heap.size W W') :
    W'.cell? ⟨b, o0, none⟩ = some v0 ∧ W'.cell? ⟨b, o1, none⟩ = some v1 ∧ W'.cell? ⟨b, o2, none⟩ = some v2 ∧ RowKit.Below W.heap.size W W' :=
  ⟨(h.cell (p := ⟨b, o0, none⟩) hb).trans h0, (h.cell (p := ⟨b, o1, none⟩) hb).trans h1, (h.cell (p := ⟨b, o2, none⟩) hb).trans h2, h⟩
theorem heap_new1 (w : World) (o o' : Obj) : ((w.alloc o).alloc o').heap[w.heap.size + 1]? = some o' := by
  have := heap_alloc_new (w.alloc o) o'; rwa [World.size_alloc] at this
theorem Sg.take {w : World} {p : Option Addr} {l : List Ed} (h : Sg 3 w edE p l) (k : Nat) : Sg 3 w edE p (l.take k) := by
  rcases h with h | ⟨b, off, hp, hb, hc⟩
  · subst h; exact .inl (by simp)
  · exact .inr ⟨b, off, hp, hb, fun i hi j hj => by rw [List.getElem_take]; exact hc i (by rw [List.length_take] at hi; omega) j hj⟩
theorem Sg.drop {w : World} {b off : Nat} {l : List Ed} (h : Sg 3 w edE (some ⟨b, off, none⟩) l) (k : Nat) : Sg 3 w edE (some ⟨b, off + k * 3, none⟩) (l.drop k) := by
  rcases h with h | ⟨b', off', hp, hb, hc⟩
  · subst h; exact .inl (by simp)
  · cases hp
    refine .inr ⟨b, off + k * 3, rfl, hb, fun i hi j hj => ?_⟩
    rw [List.length_drop] at hi
    have := hc (k + i) (by omega) j hj
    rw [List.getElem_drop, ← this]
    congr 2
    rw [Nat.add_mul]; omega
theorem own_empty {W : World} {g B : Nat} {e : TypeId} (h : W.heap[g]? = some (.cells #[] e (0, 0))) (hB : B ≤ g) : W.ownsRow B e 3 (.slice (some ⟨g, 0, none⟩) 0 0) 0 (cat []) :=
  ⟨rfl, .inr ⟨g, 0, #[], rfl, hB, h, Nat.le_refl _, by simp, rfl, rfl⟩⟩

/-! ### Insertion -/
/-- Where an edge belongs. -/
def posE (x : Ed) (l : List Ed) (k : Nat) : Prop := k ≤ l.length ∧ ∀ m (h : m < l.length), m < k → ltE l[m] x = true
theorem insE_at {x : Ed} : ∀ {l : List Ed} {k : Nat}, l.Pairwise (fun a b => ltE a b = true) → posE x l k → (∀ h : k < l.length, ltE l[k] x = false) → (∀ h : k < l.length, l[k] ≠ x) → insE x l = l.take k ++ x :: l.drop k
  | [], k, _, hp, _, _ => by have := hp.1; simp at this; subst this; rfl
  | y :: l, 0, _, _, h1, h2 => by
    have h1 := h1 (by simp); have h2 := h2 (by simp)
    simp only [List.getElem_cons_zero] at h1 h2
    unfold insE
    rw [if_pos]
    · rfl
    · cases hb : ltE x y
      · exact absurd (ltE_total h1 hb) h2
      · rfl
  | y :: l, k + 1, hs, hp, h1, h2 => by
    have hy := hp.2 0 (by simp) (by omega)
    simp only [List.getElem_cons_zero] at hy
    have ih := insE_at (x := x) (l := l) (k := k) (List.pairwise_cons.1 hs).2 ⟨by have := hp.1; simp at this; omega, fun m hm hk => by have := hp.2 (m + 1) (by simpa using hm) (by omega); simpa using this⟩
      (fun h => by have := h1 (by simpa using h); simpa using this) (fun h => by have := h2 (by simpa using h); simpa using this)
    unfold insE
    rw [if_neg (by rw [ltE_asymm hy]; decide), if_neg (fun e => by subst e; rw [ltE_irrefl] at hy; cases hy), ih]
    rfl
theorem insE_mem {x : Ed} {l : List Ed} (hs : l.Pairwise (fun a b => ltE a b = true)) (hm : x ∈ l) : insE x l = l :=
  norm_unique (insE_srt hs) hs (fun z => by rw [mem_insE]; exact ⟨fun h => h.elim (fun e => by subst e; exact hm) id, .inr⟩)
theorem norm_take_succ (l : List Ed) (k : Nat) (h : k < l.length) : norm (l.take (k + 1)) = insE l[k] (norm (l.take k)) := by
  rw [List.take_succ_eq_append_getElem h, norm_snoc]
theorem insE_len (x : Ed) : ∀ l : List Ed, (insE x l).length ≤ l.length + 1
  | [] => by simp [insE]
  | y :: l => by
    have := insE_len x l
    unfold insE; split
    · simp
    · split
      · simp
      · simp; omega
theorem norm_len (l : List Ed) : ∀ k, k ≤ l.length → (norm (l.take k)).length ≤ k := by
  intro k
  induction k with
  | zero => intro _; simp [norm]
  | succ k ih =>
    intro h
    rw [norm_take_succ l k (by omega)]
    have := insE_len l[k] (norm (l.take k)); have := ih (by omega); omega

end Go.Proofs.Ytkcapbdcmhdcmaa
namespace Go.Proofs.Ytkcapbdcmhdcmaa
open Go.RowKit Go.Sort Go.Shelf Go.Lib

/-- A word put ahead of the first one that is not less; no change where this is the word. -/
def insB (s : ByteArray) : List ByteArray → List ByteArray
  | [] => [s]
  | y :: l => if ordB y s < 0 then y :: insB s l else if y = s then y :: l else s :: y :: l
def posB (s : ByteArray) (l : List ByteArray) (k : Nat) : Prop := k ≤ l.length ∧ ∀ m (h : m < l.length), m < k → ordB l[m] s < 0
theorem insB_at {s : ByteArray} : ∀ {l : List ByteArray} {k : Nat}, posB s l k → (∀ h : k < l.length, ¬ ordB l[k] s < 0) → (∀ h : k < l.length, l[k] ≠ s) → insB s l = l.take k ++ s :: l.drop k
  | [], k, hp, _, _ => by have := hp.1; simp at this; subst this; rfl
  | y :: l, 0, _, h1, h2 => by
    have h1 := h1 (by simp); have h2 := h2 (by simp)
    simp only [List.getElem_cons_zero] at h1 h2
    unfold insB
    rw [if_neg h1, if_neg h2]; rfl
  | y :: l, k + 1, hp, h1, h2 => by
    have hy := hp.2 0 (by simp) (by omega)
    simp only [List.getElem_cons_zero] at hy
    have ih := insB_at (s := s) (l := l) (k := k) ⟨by have := hp.1; simp at this; omega, fun m hm hk => by have := hp.2 (m + 1) (by simpa using hm) (by omega); simpa using this⟩
      (fun h => by have := h1 (by simpa using h); simpa using this) (fun h => by have := h2 (by simpa using h); simpa using this)
    unfold insB
    rw [if_pos hy, ih]; rfl
theorem insB_in {s : ByteArray} : ∀ {l : List ByteArray} {k : Nat}, posB s l k → (∀ h : k < l.length, ¬ ordB l[k] s < 0) → ∀ h : k < l.length, l[k] = s → insB s l = l
  | [], k, _, _, h, _ => by simp at h
  | y :: l, 0, _, h1, _, h2 => by
    have h1 := h1 (by simp)
    simp only [List.getElem_cons_zero] at h1 h2
    unfold insB
    rw [if_neg h1, if_pos h2]
  | y :: l, k + 1, hp, h1, h, h2 => by
    have hy := hp.2 0 (by simp) (by omega)
    simp only [List.getElem_cons_zero] at hy
    have ih := insB_in (s := s) (l := l) (k := k) ⟨by have := hp.1; simp at this; omega, fun m hm hk => by have := hp.2 (m + 1) (by simpa using hm) (by omega); simpa using this⟩
      (fun h => by have := h1 (by simpa using h); simpa using this) (by simpa using h) (by simpa using h2)
    unfold insB
    rw [if_pos hy, ih]
theorem insB_len (s : ByteArray) : ∀ l : List ByteArray, (insB s l).length ≤ l.length + 1
  | [] => by simp [insB]
  | y :: l => by
    have := insB_len s l
    unfold insB; split
    · simp; omega
    · split <;> simp

/-! ### Appending words -/
theorem infoStrF : (Try.prog.info? 9).map (fun i => (i.zero, i.size, i.bytes)) = some (some (.string ⟨#[]⟩), 1, 16) := by kernel_rfl
theorem one_strs (l : List ByteArray) : ∀ u ∈ l.map Value.string, u.oneCell' = true := by
  intro u hu; obtain ⟨x, _, rfl⟩ := List.mem_map.1 hu; rfl
theorem news_strs {w : World} {b off : Nat} {l : List ByteArray} (h : ∀ i (h : i < l.length), w.cell? ⟨b, off + i, none⟩ = some (.string l[i])) : ∀ j u, (l.map Value.string)[j]? = some u → w.cell? ((⟨b, off, none⟩ : Addr).add j) = some u := by
  intro j u hu
  rw [List.getElem?_map] at hu
  obtain ⟨x, hx, rfl⟩ := Option.map_eq_some_iff.1 hu
  obtain ⟨hj, rfl⟩ := List.getElem?_eq_some_iff.1 hx
  rw [Addr.add_lit]; exact h j hj
/-- A list that lies in memory, behind words of the call's own. -/
theorem run_app1 (w : World) (base : Nat) (ty : TypeId) (v : Value) (xs : List ByteArray) (n : Nat) (hown : w.ownsRow base 9 1 v n (xs.map Value.string)) (p : Option Addr) (c m : Nat) (l : List ByteArray) (hm : l.length = m) (hl : Sl w Value.string p l)
    (h63 : n + m ≤ 1000000) (hbase : base ≤ w.heap.size) :
    ∃ v' w', (Builtin.append_ #[22, 22] ty #[v, .slice p m c]).run Try.prog w = .ok v' w' ∧ w'.ownsRow base 9 1 v' (n + m) ((xs ++ l).map Value.string) ∧ w.grownBy w' v.ownBlock := by
  obtain ⟨i0, hi, hz, hs, hb⟩ := info_parts infoStrF
  subst hm
  cases p with
  | none =>
    rcases hl with h0 | ⟨_, _, hp, _⟩
    · subst h0
      refine ⟨v, w, ?_, by simpa using hown, World.grownBy.refl w _⟩
      rcases hown.2 with ⟨rfl, h0⟩ | ⟨g, cap, cur, rfl, _, _, hnc, _⟩
      · simp [Builtin.append_, run_underlying Try.underlying22, sizeOf, typeInfo, hi, Builtin.lenOf, Builtin.firstCells]
      · simp [Builtin.append_, run_underlying Try.underlying22, sizeOf, typeInfo, hi, Builtin.lenOf, Builtin.firstCells, hnc, storeCells]
    · cases hp
  | some ad =>
    have hn : ∀ j u, (l.map Value.string)[j]? = some u → w.cell? (ad.add j) = some u := by
      rcases hl with h0 | ⟨b, off, hp, _, hc⟩
      · subst h0; simp
      · cases hp; exact news_strs hc
    obtain ⟨v', w', h1, h2, h3, _, _⟩ := run_append_own_at w base 22 ty 9 i0 (.string ⟨#[]⟩) 1 16 Try.underlying22 hi hz hs hb rfl (by decide) v n _ hown ad l.length c (l.map Value.string) (by simp) hn (one_strs l) (by simp only [maxLen]; omega) (by omega) hbase
    exact ⟨v', w', h1, by rw [List.map_append]; exact h2, h3⟩
/-- Words of the call's own behind a full slice. -/
theorem run_app2 (w : World) (ty : TypeId) (po : Option Addr) (xs : List ByteArray) (n : Nat) (hn : xs.length = n) (hx : Sl w Value.string po xs) (u : Value) (B m : Nat) (ys : List ByteArray) (hu : w.ownsRow B 9 1 u m (ys.map Value.string)) (hm : 0 < m) (h63 : n + m ≤ 1000000) :
    ∃ v' w', (Builtin.append_ #[22, 22] ty #[.slice po n n, u]).run Try.prog w = .ok v' w' ∧ w'.ownsRow w.heap.size 9 1 v' (n + m) ((xs ++ ys).map Value.string) ∧ Below w.heap.size w w' := by
  obtain ⟨i0, hi, hz, hs, hb⟩ := info_parts infoStrF
  subst hn
  rcases hu.2 with ⟨rfl, h0⟩ | ⟨g, cap, cur, rfl, hbg⟩
  · have := hu.1; rw [h0] at this; simp at this; omega
  have hnews := hu.cells (g := g) rfl
  have hl : (ys.map Value.string).length = m * 1 := hu.1
  cases po with
  | some b =>
    have ho : ∀ j v, (xs.map Value.string)[j]? = some v → w.cell? (b.add j) = some v := by
      rcases hx with h0 | ⟨b', off, hp, _, hc⟩
      · subst h0; simp
      · cases hp; exact news_strs hc
    obtain ⟨v', w', h1, h2, h3⟩ := run_append_arg_grows (P := Try.prog) w 22 ty 9 i0 (.string ⟨#[]⟩) 1 16 Try.underlying22 hi hz hs hb rfl (by decide) b xs.length xs.length (xs.map Value.string) (by simp) ho ⟨g, 0, none⟩ m cap (ys.map Value.string) hl hnews (by omega) (by simp only [maxLen]; omega) (by omega)
    exact ⟨v', w', h1, by rw [List.map_append]; exact h2, (Below.refl _ _).grown h3 (Nat.le_refl _) (by simp)⟩
  | none =>
    have h0 : xs = [] := by rcases hx with h | ⟨_, _, hp, _⟩; exact h; cases hp
    subst h0
    obtain ⟨v', w', h1, h2, h3, _⟩ := run_append_own_at w w.heap.size 22 ty 9 i0 (.string ⟨#[]⟩) 1 16 Try.underlying22 hi hz hs hb rfl (by decide) (.slice none 0 0) 0 [] (World.ownsRow_nil w _ _ 1) ⟨g, 0, none⟩ m cap (ys.map Value.string) hl hnews (one_strs ys) (by simp only [maxLen]; omega) (by omega) (Nat.le_refl _)
    exact ⟨v', w', h1, by simpa using h2, (Below.refl _ _).grown h3 (Nat.le_refl _) (by simp [Value.ownBlock])⟩
theorem own_one1 (w : World) (s : ByteArray) {B : Nat} (hB : B ≤ w.heap.size) : (w.alloc (.cells #[.string s] 9)).ownsRow B 9 1 (.slice (some ⟨w.heap.size, 0, none⟩) 1 1) 1 ([s].map Value.string) :=
  ⟨rfl, .inr ⟨w.heap.size, 1, _, rfl, hB, heap_alloc_new w _, Nat.le_refl _, by simp [maxLen], rfl, rfl⟩⟩
theorem step_app1 {w : World} {ops : Array Oper} {o : Oper} {a : Act} {K : Act → World → Prop} {Q : Exit → Act → World → Prop} {E : Prop} (hgd : o.guard = none) (s x : Operand)
    (ho : o.op = .call { callee := .builtin .append, args := #[s, x], argTypes := #[22, 22] }) (base : Nat) (sv : Value) (xs : List ByteArray) (n : Nat) (p : Option Addr) (c m : Nat) (l : List ByteArray) (hs : a.eval s = sv) (hx : a.eval x = .slice p m c)
    (hown : w.ownsRow base 9 1 sv n (xs.map Value.string)) (hm : l.length = m) (hl : Sl w Value.string p l) (h63 : n + m ≤ 1000000) (hbase : base ≤ w.heap.size)
    (h : ∀ v' w', w'.ownsRow base 9 1 v' (n + m) ((xs ++ l).map Value.string) → w.grownBy w' sv.ownBlock → K (a.put o.dst v') w') : if Region.wanted o (yielded ops a.tmps) = true then Oper.wp Try.prog o a w K Q else E := by
  obtain ⟨v', w', h1, h2, h3⟩ := run_app1 w base o.type sv xs n hown p c m l hm hl h63 hbase
  exact step_append_run hgd s x 22 ho sv _ hs hx v' w' h1 (h v' w' h2 h3)
theorem step_app2 {w : World} {ops : Array Oper} {o : Oper} {a : Act} {K : Act → World → Prop} {Q : Exit → Act → World → Prop} {E : Prop} (hgd : o.guard = none) (s x : Operand)
    (ho : o.op = .call { callee := .builtin .append, args := #[s, x], argTypes := #[22, 22] }) (po : Option Addr) (xs : List ByteArray) (n : Nat) (u : Value) (hs : a.eval s = .slice po n n) (hx : a.eval x = u) (hn : xs.length = n) (hxs : Sl w Value.string po xs)
    (B m : Nat) (ys : List ByteArray) (hu : w.ownsRow B 9 1 u m (ys.map Value.string)) (hm : 0 < m) (h63 : n + m ≤ 1000000)
    (h : ∀ v' w', w'.ownsRow w.heap.size 9 1 v' (n + m) ((xs ++ ys).map Value.string) → Below w.heap.size w w' → K (a.put o.dst v') w') : if Region.wanted o (yielded ops a.tmps) = true then Oper.wp Try.prog o a w K Q else E := by
  obtain ⟨v', w', h1, h2, h3⟩ := run_app2 w o.type po xs n hn hxs u B m ys hu hm h63
  exact step_append_run hgd s x 22 ho _ _ hs hx v' w' h1 (h v' w' h2 h3)
/-- How a slice's head can look. -/
def Sh (q : Option Addr) (c : Nat) : Prop := (q = none ∧ c = 0) ∨ ∃ b o, q = some ⟨b, o, none⟩
/-- A list of words is handed back: in memory, new or as it came. -/
def RetSt (l : List ByteArray) (w : World) (e : Ending) (w' : World) : Prop := ∃ q n c, e = .returned (.slice q n c) ∧ n = l.length ∧ n ≤ c ∧ Sh q c ∧ Sl w' Value.string q l ∧ Below w.heap.size w w'
theorem RetSt.own {l xs : List ByteArray} {w w' : World} {v : Value} {B n : Nat} (h : w'.ownsRow B 9 1 v n (xs.map Value.string)) (hx : xs = l) (hB : Below w.heap.size w w') : RetSt l w (.returned v) w' := by
  subst hx
  obtain ⟨q, c, rfl, hs⟩ := own_sl h
  refine ⟨q, _, c, rfl, rfl, ?_, ?_, hs, hB⟩
  · rcases h.2 with ⟨he, h0⟩ | ⟨g, cap, cur, he, _, _, hc, _⟩
    · simp only [Value.slice.injEq] at he; omega
    · simp only [Value.slice.injEq] at he; have := h.1; simp at this; omega
  · rcases h.2 with ⟨he, h0⟩ | ⟨g, cap, cur, he, _⟩
    · simp only [Value.slice.injEq] at he; exact .inl ⟨he.1, he.2.2⟩
    · simp only [Value.slice.injEq] at he; exact .inr ⟨g, 0, he.1⟩
theorem Sl.drop1 {w : World} {b off : Nat} {l : List ByteArray} (h : Sl w Value.string (some ⟨b, off, none⟩) l) (k : Nat) : Sl w Value.string (some ⟨b, off + k, none⟩) (l.drop k) := by
  rcases h with h | ⟨b', off', hp, hb, hc⟩
  · subst h; exact .inl (by simp)
  · cases hp
    refine .inr ⟨b, off + k, rfl, hb, fun i hi => ?_⟩
    rw [List.length_drop] at hi
    have := hc (k + i) (by omega)
    rw [List.getElem_drop, ← this]
    congr 2
    omega

set_option maxRecDepth 100000 in
set_option maxHeartbeats 2000000 in
theorem rInsert_any (s : ByteArray) (l : List ByteArray) (p : Option Addr) (c : Nat) (w : World) (hin : Sl w Value.string p l) (hsh : Sh p c) (hlc : l.length ≤ c) (hl : l.length ≤ 10000) :
    Calls Try.prog 30 #[.slice p l.length c, .string s] w (RetSt (insB s l) w) := by
  have HIN := hidI hin
  have HSH := hidI hsh
  have hlcI : (l.length : Int) ≤ (c : Int) := by omega
  clear hin hsh
  go_enter Try.func30, Try.ntmps30
  go_upto_block 0 with fail
  go_cut [5] (fun s5 wx => ∃ j : Nat, s5 = .int .i64 j ∧ Hid (posB s l j ∧ ∀ h : j < l.length, ¬ ordB l[j] s < 0) ∧ Dr w wx)
  case first =>
    obtain ⟨wo, rfl⟩ : ∃ wo : World, wo = w := ⟨_, rfl⟩
    go_wp2_with fail
    go_loopw [5] (fun s5 wx => ∃ j : Nat, s5 = .int .i64 j ∧ Hid (posB s l j) ∧ Dr wo wx) (fun s5 _ => l.length - (intOf s5).toNat)
    case atStart => exact ⟨0, rfl, ⟨by omega, fun m _ h => by omega⟩, Dr.refl _⟩
    case round =>
      obtain ⟨j, rfl, hp, hD⟩ := hrel
      have hjN := hp.out.1
      by_cases hjl : j < l.length
      · have hI : (j : Int) < (l.length : Int) := by omega
        obtain ⟨b1, o1, rfl, hb1, hc1⟩ := (HIN.out.dr hD).get j hjl
        have e0 := hc1 j hjl
        obtain ⟨r, hr⟩ : ∃ r, r = decide (ordB l[j] s < 0) := ⟨_, rfl⟩
        have HO : Hid (∀ W, Calls Try.prog 35 #[.string l[j], .string s] W fun e w' => e = .returned (.bool r) ∧ w' = W) := fun W => by
          rw [hr]; exact rless_any l[j] s W
        have HP : Hid (r = true → posB s l (j + 1)) := fun h => ⟨by omega, fun m hm h1 => by
          by_cases e : m = j
          · subst e; exact of_decide_eq_true (hr.symm.trans h)
          · exact hp.out.2 m hm (by omega)⟩
        have HQ : Hid (r = false → ∀ h : j < l.length, ¬ ordB l[j] s < 0) := fun h _ => of_decide_eq_false (hr.symm.trans h)
        generalize l[j] = u at *
        clear hc1 hr
        go_wp2_with fail
        refine (HO.out wr).mono ?_
        rintro e w2 ⟨rfl, hw⟩
        replace hD : Dr wo w2 := by rw [hw]; exact hD
        clear hw
        cases r
        · have HF := hidI (HQ.out rfl)
          go_wp2_with fail
          go_meet
          exact ⟨j, rfl, ⟨hp.out, HF.out⟩, hD⟩
        · have HN := hidI (HP.out rfl)
          go_wp2_with fail
          go_roundw
          case rel => exact ⟨j + 1, by go_num, HN, hD⟩
          case measure => simp [intOf]; omega
      · have hd : decide ((j : Int) < (l.length : Int)) = false := decide_eq_false (by omega)
        have hd2 : decide (j < l.length) = false := decide_eq_false (by omega)
        go_wp2_with fail
        go_meet
        exact ⟨j, rfl, ⟨hp.out, fun h => absurd h hjl⟩, hD⟩
  case rest =>
    obtain ⟨j, rfl, hp, hD⟩ := hcut
    have hjN := hp.out.1.1
    have hIN := HIN.out.dr hD
    have hB := hD.below w.heap.size
    by_cases hjl : j < l.length
    · have hI : (j : Int) < (l.length : Int) := by omega
      obtain ⟨b1, o1, rfl, hb1, hc1⟩ := hIN.get j hjl
      have e0 := hc1 j hjl
      by_cases heq : l[j] = s
      · have HX : Hid (insB s l = l) := insB_in hp.out.1 hp.out.2 hjl heq
        have hb : (l[j].toList == s.toList) = true := by rw [heq]; simp
        generalize l[j] = u at *
        clear hc1 heq
        go_wp2
        go_ret
        exact ⟨_, _, _, rfl, by rw [HX.out], hlc, HSH.out, by rw [HX.out]; exact hIN, hB⟩
      · have HX : Hid (insB s l = l.take j ++ s :: l.drop j) := insB_at hp.out.1 hp.out.2 (fun _ => heq)
        have hb := bts_f heq
        clear hc1
        generalize l[j] = u at *
        have HDL : Hid ((l.drop j).length = l.length - j) := by unfold Hid; simp
        have HNL : Hid ((l.take j).length = j) := by unfold Hid; rw [List.length_take]; omega
        have hcj : ¬ c = j := by omega
        have hI3 : (j : Int) ≤ (c : Int) := by omega
        go_wp2_with fail
        go_region_held3 (fun w' => Below wc.heap.size wc w')
          ((go_split_ands; first
            | assumption
            | exact RowKit.Below.refl _ _
            | exact drB _ _
            | exact RowKit.Below.trans (by assumption) (by assumption)
            | exact RowKit.Below.trans (by assumption) (RowKit.Below.mono (by assumption) (RowKit.Below.size (by assumption)))
            | exact RowKit.Below.grown (by assumption) hgA (RowKit.Below.size (by assumption)) (fun j0 e => by simp [Value.ownBlock] at e; omega)
            | exact RowKit.Below.alloc (by assumption) (RowKit.Below.size (by assumption)) _
            | exact RowKit.Below.trans (by assumption) (drB _ _)
            | fail))
          (first
            | (go_split_ands; (refine step_app1 (by rfl) _ _ (by rfl) wc.heap.size (.slice (some ⟨wc.heap.size, 0, none⟩) 1 1) [s] 1 _ _ _ (l.drop j) (by rfl) (by rfl) (by first | exact own_one1 _ s (Nat.le_refl _) | exact ownsRow_dr (own_one1 _ s (Nat.le_refl _)) ⟨1, rfl⟩) (by first | exact HDL.out | simp) ((hIN.below (by assumption)).drop1 j) (by omega) (RowKit.Below.size (by assumption)) ?_); intro vA wA hoA hgA)
            | (go_split_ands; (refine step_app2 (by rfl) _ _ (by rfl) _ (l.take j) j vA (by rfl) (by rfl) HNL.out ((hIN.below (by assumption)).take j) wc.heap.size _ ([s] ++ l.drop j) hoA (by omega) (by omega) ?_); intro vB wB hoB hgB)
            | fail)
        all_goals
          go_split_ands
          have hBC : RowKit.Below wc.heap.size wc wB := by assumption
          have hfin := RetSt.own (w := w) (l := insB s l) hoB (by rw [HX.out]; simp) (hB.trans (hBC.mono hB.size))
          clear hoA hgA hoB hgB
          go_wp2
          go_ret
          exact hfin
    · have HX : Hid (insB s l = l.take j ++ s :: l.drop j) := insB_at hp.out.1 hp.out.2 (fun h => absurd h hjl)
      obtain rfl : j = l.length := by omega
      have hd : decide ((l.length : Int) < (l.length : Int)) = false := decide_eq_false (by omega)
      have hd2 : decide (l.length < l.length) = false := decide_eq_false (by omega)
      rcases HSH.out with ⟨rfl, rfl⟩ | ⟨b1, o1, rfl⟩
      · obtain rfl : l = [] := List.length_eq_zero_iff.1 (by omega)
        simp only [List.length_nil] at *
        have HX : Hid (insB s [] = ([] : List ByteArray).take 0 ++ s :: ([] : List ByteArray).drop 0) := HX
        have HDL : Hid ((([] : List ByteArray).drop 0).length = 0 - 0) := rfl
        have HNL : Hid ((([] : List ByteArray).take 0).length = 0) := rfl
        go_wp2_with fail
        go_region_held3 (fun w' => Below wc.heap.size wc w')
          ((go_split_ands; first
            | assumption
            | exact RowKit.Below.refl _ _
            | exact drB _ _
            | exact RowKit.Below.trans (by assumption) (by assumption)
            | exact RowKit.Below.trans (by assumption) (RowKit.Below.mono (by assumption) (RowKit.Below.size (by assumption)))
            | exact RowKit.Below.grown (by assumption) hgA (RowKit.Below.size (by assumption)) (fun j0 e => by simp [Value.ownBlock] at e; omega)
            | exact RowKit.Below.alloc (by assumption) (RowKit.Below.size (by assumption)) _
            | exact RowKit.Below.trans (by assumption) (drB _ _)
            | fail))
          (first
            | (go_split_ands; (refine step_app1 (by rfl) _ _ (by rfl) wc.heap.size (.slice (some ⟨wc.heap.size, 0, none⟩) 1 1) [s] 1 _ _ _ (([] : List ByteArray).drop 0) (by rfl) (by rfl) (by first | exact own_one1 _ s (Nat.le_refl _) | exact ownsRow_dr (own_one1 _ s (Nat.le_refl _)) ⟨1, rfl⟩) (by first | exact HDL.out | simp) (.inl rfl) (by omega) (RowKit.Below.size (by assumption)) ?_); intro vA wA hoA hgA)
            | (go_split_ands; (refine step_app2 (by rfl) _ _ (by rfl) _ (([] : List ByteArray).take 0) 0 vA (by rfl) (by rfl) HNL.out ((hIN.below (by assumption)).take 0) wc.heap.size _ ([s] ++ ([] : List ByteArray).drop 0) hoA (by omega) (by omega) ?_); intro vB wB hoB hgB)
            | fail)
        all_goals
          go_split_ands
          have hBC : RowKit.Below wc.heap.size wc wB := by assumption
          have hfin := RetSt.own (w := w) (l := insB s []) hoB (by rw [HX.out]; simp) (hB.trans (hBC.mono hB.size))
          clear hoA hgA hoB hgB
          go_wp2
          go_ret
          exact hfin
      · have HDL : Hid ((l.drop l.length).length = l.length - l.length) := by unfold Hid; simp
        have HNL : Hid ((l.take l.length).length = l.length) := by unfold Hid; rw [List.length_take]; omega
        by_cases hcj : c = l.length
        · subst hcj
          go_wp2_with fail
          go_region_held3 (fun w' => Below wc.heap.size wc w')
            ((go_split_ands; first
              | assumption
              | exact RowKit.Below.refl _ _
              | exact drB _ _
              | exact RowKit.Below.trans (by assumption) (by assumption)
              | exact RowKit.Below.trans (by assumption) (RowKit.Below.mono (by assumption) (RowKit.Below.size (by assumption)))
              | exact RowKit.Below.grown (by assumption) hgA (RowKit.Below.size (by assumption)) (fun j0 e => by simp [Value.ownBlock] at e; omega)
              | exact RowKit.Below.alloc (by assumption) (RowKit.Below.size (by assumption)) _
              | exact RowKit.Below.trans (by assumption) (drB _ _)
              | fail))
            (first
              | (go_split_ands; (refine step_app1 (by rfl) _ _ (by rfl) wc.heap.size (.slice (some ⟨wc.heap.size, 0, none⟩) 1 1) [s] 1 _ _ _ (l.drop l.length) (by rfl) (by rfl) (by first | exact own_one1 _ s (Nat.le_refl _) | exact ownsRow_dr (own_one1 _ s (Nat.le_refl _)) ⟨1, rfl⟩) (by first | exact HDL.out | simp) (.inl (by simp)) (by omega) (RowKit.Below.size (by assumption)) ?_); intro vA wA hoA hgA)
              | (go_split_ands; (refine step_app2 (by rfl) _ _ (by rfl) _ (l.take l.length) l.length vA (by rfl) (by rfl) HNL.out ((hIN.below (by assumption)).take l.length) wc.heap.size _ ([s] ++ l.drop l.length) hoA (by omega) (by omega) ?_); intro vB wB hoB hgB)
              | fail)
          all_goals
            go_split_ands
            have hBC : RowKit.Below wc.heap.size wc wB := by assumption
            have hfin := RetSt.own (w := w) (l := insB s l) hoB (by rw [HX.out]; simp) (hB.trans (hBC.mono hB.size))
            clear hoA hgA hoB hgB
            go_wp2
            go_ret
            exact hfin
        · have hI3 : (l.length : Int) ≤ (c : Int) := by omega
          go_wp2_with fail
          go_region_held3 (fun w' => Below wc.heap.size wc w')
            ((go_split_ands; first
              | assumption
              | exact RowKit.Below.refl _ _
              | exact drB _ _
              | exact RowKit.Below.trans (by assumption) (by assumption)
              | exact RowKit.Below.trans (by assumption) (RowKit.Below.mono (by assumption) (RowKit.Below.size (by assumption)))
              | exact RowKit.Below.grown (by assumption) hgA (RowKit.Below.size (by assumption)) (fun j0 e => by simp [Value.ownBlock] at e; omega)
              | exact RowKit.Below.alloc (by assumption) (RowKit.Below.size (by assumption)) _
              | exact RowKit.Below.trans (by assumption) (drB _ _)
              | fail))
            (first
              | (go_split_ands; (refine step_app1 (by rfl) _ _ (by rfl) wc.heap.size (.slice (some ⟨wc.heap.size, 0, none⟩) 1 1) [s] 1 _ _ _ (l.drop l.length) (by rfl) (by rfl) (by first | exact own_one1 _ s (Nat.le_refl _) | exact ownsRow_dr (own_one1 _ s (Nat.le_refl _)) ⟨1, rfl⟩) (by first | exact HDL.out | simp) (.inl (by simp)) (by omega) (RowKit.Below.size (by assumption)) ?_); intro vA wA hoA hgA)
              | (go_split_ands; (refine step_app2 (by rfl) _ _ (by rfl) _ (l.take l.length) l.length vA (by rfl) (by rfl) HNL.out ((hIN.below (by assumption)).take l.length) wc.heap.size _ ([s] ++ l.drop l.length) hoA (by omega) (by omega) ?_); intro vB wB hoB hgB)
              | fail)
          all_goals
            go_split_ands
            have hBC : RowKit.Below wc.heap.size wc wB := by assumption
            have hfin := RetSt.own (w := w) (l := insB s l) hoB (by rw [HX.out]; simp) (hB.trans (hBC.mono hB.size))
            clear hoA hgA hoB hgB
            go_wp2
            go_ret
            exact hfin
end Go.Proofs.Ytkcapbdcmhdcmaa
namespace Go.Proofs.Ytkcapbdcmhdcmaa
open Go.RowKit Go.Sort Go.Shelf Go.Lib

/-- No other word of the list is a factor. -/
def okB (w u : ByteArray) : Bool := decide (u = w) || !Lib.contains w.data.toList u.data.toList
def minB (l : List ByteArray) (w : ByteArray) : Bool := l.all (okB w)
def redL (l : List ByteArray) : Nat → List ByteArray
  | 0 => []
  | k + 1 => match l[k]? with
    | some x => if minB l x = true then insB x (redL l k) else redL l k
    | none => redL l k
def redA (q : Int) (l : List ByteArray) : List ByteArray × Int := if errA q l ≠ 0 then ([], errA q l) else (redL l l.length, 0)
theorem redL_succ {l : List ByteArray} {k : Nat} (h : k < l.length) : redL l (k + 1) = if minB l l[k] = true then insB l[k] (redL l k) else redL l k := by
  rw [redL, List.getElem?_eq_getElem h]
theorem redL_len (l : List ByteArray) : ∀ k, (redL l k).length ≤ k
  | 0 => by simp [redL]
  | k + 1 => by
    have ih := redL_len l k
    rw [redL]
    split
    · rename_i x _
      have := insB_len x (redL l k)
      split <;> omega
    · omega
theorem okB_take (l : List ByteArray) (w : ByteArray) (k : Nat) (h : k < l.length) : (l.take (k + 1)).all (okB w) = ((l.take k).all (okB w) && okB w l[k]) := by
  rw [List.take_succ_eq_append_getElem h, List.all_append, List.all_cons, List.all_nil, Bool.and_true]
theorem okB_eq {w u : ByteArray} (h : u = w) : okB w u = true := by simp [okB, h]
theorem okB_ne {w u : ByteArray} (h : u ≠ w) : okB w u = !Lib.contains w.data.toList u.data.toList := by simp [okB, h]
/-- A list of words and an error. -/
def RetSe (x : List ByteArray × Int) (w : World) (e : Ending) (w' : World) : Prop := ∃ q n c, e = .returned (.tuple #[.slice q n c, .int .i64 x.2]) ∧ n = x.1.length ∧ n ≤ c ∧ Sh q c ∧ Sl w' Value.string q x.1 ∧ RowKit.Below w.heap.size w w'
theorem RetSe.of {l : List ByteArray} {k : Int} {x : List ByteArray × Int} {w w' : World} {q : Option Addr} {n c : Nat} (hr : x = (l, k)) (hn : n = l.length) (hc : n ≤ c) (hq : Sh q c) (hs : Sl w' Value.string q l) (hB : RowKit.Below w.heap.size w w') :
    RetSe x w (.returned (.tuple #[.slice q n c, .int .i64 k])) w' := by subst hr; exact ⟨q, n, c, rfl, hn, hc, hq, hs, hB⟩

set_option maxRecDepth 100000 in
set_option maxHeartbeats 2000000 in
theorem rReduce14_any (q : Int) (l : List ByteArray) (p : Option Addr) (c : Nat) (w : World) (hin : Sl w Value.string p l) (hl : l.length ≤ 9223372036854775807) (hz : Sz l) :
    Calls Try.prog 8 #[.int .i64 q, .slice p l.length c] w (RetSe (redA q l) w) := by
  have HIN := hidI hin
  have HZ := hidI hz
  clear hin hz
  by_cases h1 : q < 1
  · have HX : Hid (redA q l = ([], 12)) := by have : errA q l = 12 := if_pos (.inl h1); simp [Hid, redA, this]
    go_enter Try.func8, Try.ntmps8
    go_wp2
    go_ret2
    exact RetSe.of HX.out rfl (Nat.le_refl _) (.inr ⟨_, _, rfl⟩) (.inl rfl) ((RowKit.Below.refl _ _).alloc (Nat.le_refl _) _)
  by_cases h2 : 16 < q
  · have HX : Hid (redA q l = ([], 12)) := by have : errA q l = 12 := if_pos (.inr h2); simp [Hid, redA, this]
    go_enter Try.func8, Try.ntmps8
    go_wp2
    go_ret2
    exact RetSe.of HX.out rfl (Nat.le_refl _) (.inr ⟨_, _, rfl⟩) (.inl rfl) ((RowKit.Below.refl _ _).alloc (Nat.le_refl _) _)
  by_cases h3 : 64 < l.length
  · have HX : Hid (redA q l = ([], 4)) := by have : errA q l = 4 := by { unfold errA; rw [if_neg (by omega), if_pos h3] }; simp [Hid, redA, this]
    have h3I : (64 : Int) < (l.length : Int) := by omega
    go_enter Try.func8, Try.ntmps8
    go_wp2
    go_ret2
    exact RetSe.of HX.out rfl (Nat.le_refl _) (.inr ⟨_, _, rfl⟩) (.inl rfl) ((RowKit.Below.refl _ _).alloc (Nat.le_refl _) _)
  have HE : Hid (errA q l = fst1 q l) := by unfold Hid errA; rw [if_neg (by omega), if_neg h3]
  have h3I : ¬ (64 : Int) < (l.length : Int) := by omega
  go_enter Try.func8, Try.ntmps8
  go_wp2
  go_loopw [6, 7] (fun ov iv wr => ∃ k : Nat, k ≤ l.length ∧ iv = .int .i64 k ∧ (∃ po no co, ov = .slice po no co ∧ no = (redL l k).length ∧ no ≤ co ∧ Sh po co ∧ Sl wr Value.string po (redL l k)) ∧ Hid (fst1 q (l.drop k) = fst1 q l) ∧ RowKit.Below w.heap.size w wr) (fun _ iv _ => l.length - (intOf iv).toNat)
  case atStart => exact ⟨0, by omega, rfl, ⟨_, _, _, rfl, rfl, Nat.le_refl _, .inr ⟨_, _, rfl⟩, .inl rfl⟩, rfl, (RowKit.Below.refl _ _).alloc (Nat.le_refl _) _⟩
  case round =>
    obtain ⟨k, hk, rfl, ⟨po, no, co, rfl, hno, hnc, hsh, hso⟩, hj, hB⟩ := hrel
    by_cases hlt : k < l.length
    · have hltI : (k : Int) < (l.length : Int) := by omega
      have HS := hidI (fun W => rone_any q l[k] W (by have := HZ.out _ (List.getElem_mem hlt); omega))
      have HF := hidI (fst1_at (q := q) hlt)
      have HN := hidI (redL_succ hlt)
      have hNl := redL_len l k
      have HM : Hid (minB l l[k] = l.all (okB l[k])) := rfl
      have HT := hidI (fun (k1 : Nat) (h : k1 < l.length) => okB_take l l[k] k1 h)
      have HFA := hidI (fun (k1 : Nat) (h : k1 < l.length) W => rfactor_any l[k] l[k1] W (HZ.out _ (List.getElem_mem hlt)) (HZ.out _ (List.getElem_mem h)))
      have HSO := hidI hso
      have HSH := hidI hsh
      subst hno
      obtain ⟨b1, o1, rfl, hb1, hc1⟩ := (HIN.out.below hB).get k hlt
      have e0 := hc1 k hlt
      have HC0 := hidI hc1
      clear hc1 hso hsh
      generalize redL l k = N at *
      by_cases hr : oneA q l[k] = 0
      · rw [hr] at HS
        have HJ : Hid (fst1 q (l.drop (k + 1)) = fst1 q l) := by
          rw [Hid, ← hj.out, HF.out, hr]; simp
        clear HF hr
        generalize hxs : l[k] = x at *
        have hxs := hidI hxs
        go_wp2_with fail
        refine (HS.out wr).mono ?_
        rintro e w2 ⟨rfl, hD2⟩
        have e0' := (hD2.cell _).trans e0
        have hB2 := hB.trans (hD2.below _)
        have hSO2 := hidI (HSO.out.dr hD2)
        have HC := hidI (fun (i : Nat) (h : i < l.length) => (hD2.cell _).trans (HC0.out i h))
        clear e0 HSO hD2 hB hb1 HC0
        have HE0 := hidI e0'
        clear e0'
        go_wp2_with fail
        go_loopw [9, 10] (fun mv kv wx => ∃ (k1 : Nat) (m : Bool), k1 ≤ l.length ∧ kv = .int .i64 k1 ∧ mv = .bool m ∧ Hid (m = (l.take k1).all (okB x)) ∧ Dr w2 wx) (fun _ kv _ => l.length - (intOf kv).toNat)
        case atStart => exact ⟨0, true, by omega, rfl, rfl, rfl, Dr.refl _⟩
        case round =>
          obtain ⟨k1, m, hk1, rfl, rfl, hm, hD⟩ := hrel
          by_cases hlt1 : k1 < l.length
          · have hlt1I : (k1 : Int) < (l.length : Int) := by omega
            have e0 := (hD.cell _).trans HE0.out
            have e1 := (hD.cell _).trans (HC.out k1 hlt1)
            have HT1 := hidI (HT.out k1 hlt1)
            cases m
            · have HN : Hid (false = (l.take (k1 + 1)).all (okB x)) := by rw [Hid, HT1.out, ← hm.out]; rfl
              go_upto_region 16 with fail
              (refine wp_region_quiet_lit (by kernel_rfl) (by kernel_rfl) ?_; (repeat (first | go_big_quiet_step (fail) | quiet_step (fail))); refine wpQuiet_nil ?_; intro _ hwq; obtain ⟨nq, hwq2⟩ := hwq; subst hwq2)
              go_wp2
              go_roundw
              case rel => exact ⟨k1 + 1, false, by omega, by go_num, rfl, HN, hD.one _⟩
              case measure => simp [intOf]; omega
            · by_cases heq : l[k1] = x
              · have hb := bts_t heq
                have HN : Hid (true = (l.take (k1 + 1)).all (okB x)) := by rw [Hid, HT1.out, ← hm.out, okB_eq heq]; rfl
                generalize l[k1] = u at *
                clear heq
                go_upto_region 16 with fail
                (refine wp_region_quiet_lit (by kernel_rfl) (by kernel_rfl) ?_; (repeat (first | go_big_quiet_step (fail) | quiet_step (fail))); refine wpQuiet_nil ?_; intro _ hwq; obtain ⟨nq, hwq2⟩ := hwq; subst hwq2)
                go_wp2
                go_roundw
                case rel => exact ⟨k1 + 1, true, by omega, by go_num, rfl, HN, hD.one _⟩
                case measure => simp [intOf]; omega
              · have hb := bts_f heq
                have HN : Hid ((!Lib.contains x.data.toList l[k1].data.toList) = (l.take (k1 + 1)).all (okB x)) := by rw [Hid, HT1.out, ← hm.out, okB_ne heq]; simp
                have HF1 := hidI (HFA.out k1 hlt1)
                generalize Lib.contains x.data.toList l[k1].data.toList = r at *
                generalize l[k1] = u at *
                clear heq
                go_upto_region 16 with fail
                (refine wp_region_quiet_lit (by kernel_rfl) (by kernel_rfl) ?_; (repeat (first | go_big_quiet_step ((go_at_call 29; exact Calls.quiet_of_same (HF1.out _))) | quiet_step ((go_at_call 29; exact Calls.quiet_of_same (HF1.out _))))); refine wpQuiet_nil ?_; intro _ hwq; obtain ⟨nq, hwq2⟩ := hwq; subst hwq2)
                go_wp2
                go_roundw
                case rel => exact ⟨k1 + 1, !r, by omega, by go_num, rfl, HN, hD.one _⟩
                case measure => simp [intOf]; omega
          · obtain rfl : k1 = l.length := by omega
            have hlt1I : ¬ (l.length : Int) < (l.length : Int) := by omega
            have e0 := (hD.cell _).trans HE0.out
            have hMM : Hid (minB l x = m) := by have := hm.out; rw [List.take_length] at this; rw [Hid, this]; exact HM.out
            have hB3 := hB2.trans (hD.below _)

            have hso3 := hSO2.out.dr hD
            cases m
            · have HNN : Hid (redL l (k + 1) = N) := by rw [Hid, HN.out, hMM.out]; rfl
              go_wp2
              go_roundw
              case rel => exact ⟨k + 1, by omega, by go_num, ⟨_, _, _, rfl, by rw [HNN.out], hnc, HSH.out, by rw [HNN.out]; exact hso3⟩, HJ, hB3⟩
              case measure => simp [intOf]; omega
            · have HNN : Hid (redL l (k + 1) = insB x N) := by rw [Hid, HN.out, hMM.out]; rfl
              go_wp2_with fail
              refine (rInsert_any x N po co _ hso3 HSH.out hnc (by omega)).mono ?_
              rintro e w4 ⟨q4, n4, c4, rfl, hn4, hc4, hq4, hs4, hB4⟩
              subst hn4
              have hB5 := hB3.trans (hB4.mono hB3.size)
              go_wp2
              go_roundw
              case rel => exact ⟨k + 1, by omega, by go_num, ⟨_, _, _, rfl, by rw [HNN.out], hc4, hq4, by rw [HNN.out]; exact hs4⟩, HJ, hB5⟩
              case measure => simp [intOf]; omega
      · have hrn : (oneA q l[k] != 0) = true := by simpa using hr
        have HJ : Hid (redA q l = ([], oneA q l[k])) := by
          have : errA q l = oneA q l[k] := by rw [HE.out, ← hj.out, HF.out, if_pos hr]
          rw [Hid, redA, this, if_pos hr]
        generalize oneA q l[k] = r at *
        generalize l[k] = s at *
        clear hr
        go_wp2_with fail
        refine (HS.out wr).mono ?_
        rintro e w2 ⟨rfl, hD2⟩
        have hB2 := hB.trans (hD2.below _)
        go_wp2
        go_ret2
        exact RetSe.of HJ.out rfl (Nat.le_refl _) (.inr ⟨_, _, rfl⟩) (.inl rfl) (hB2.alloc hB2.size _)
    · obtain rfl : k = l.length := by omega
      have hltI : ¬ (l.length : Int) < (l.length : Int) := by omega
      have HX : Hid (redA q l = (redL l l.length, 0)) := by
        have : errA q l = 0 := by rw [HE.out, ← hj.out, fst1_end (Nat.le_refl _)]
        simp [Hid, redA, this]
      go_wp2
      go_ret2
      exact RetSe.of HX.out (by first | exact hno | rfl) (by first | exact hnc | omega) hsh hso hB
end Go.Proofs.Ytkcapbdcmhdcmaa
