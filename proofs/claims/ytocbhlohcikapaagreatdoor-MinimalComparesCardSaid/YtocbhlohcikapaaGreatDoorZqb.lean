/-
  Words, plain lemmas and walks, merged: Ge, Gb, Gf, Gg, Gh, Gi.
-/
import Derived.Test.YtocbhlohcikapaaGreatDoorZqa
set_option linter.unusedVariables false
set_option linter.unusedSimpArgs false
namespace Go.Proofs.YtocbhlohcikapaaGreatDoor
open Go.RowKit Go.Sort Go.Shelf Go.Lib

theorem grown_set {w w1 : World} {g i : Nat} (h : w.grownBy w1 (some g)) (u : Value) : w.grownBy (w1.setCell ⟨g, i, none⟩ u) (some g) :=
  ⟨h.os, h.tape, h.output, by rw [setCell_eq]; simpa [mapBlock] using h.size, fun k hk hne => (Below.heap_setCell _ _ _ _ (fun e => hne (by rw [e]))).trans (h.block k hk hne)⟩
/-- Edges once each, in the memory that the call owned. -/
theorem grown_dr {w w1 w' : World} {r : Option Nat} (h : Dr w1 w') (k : w.grownBy w1 r) : w.grownBy w' r := by
  obtain ⟨q, rfl⟩ := h; exact ⟨k.os, k.tape, k.output, k.size, k.block⟩
def RetCmp (B g cap : Nat) (l : List Ed) (w : World) (e : Ending) (w' : World) : Prop := e = .returned (.slice (some ⟨g, 0, none⟩) l.length cap) ∧ w'.ownsRow B 44 3 (.slice (some ⟨g, 0, none⟩) l.length cap) l.length (cat l) ∧ w.grownBy w' (some g)
theorem RetCmp.of {B g cap : Nat} {x r : List Ed} {w w' : World} (hr : x = r) (ho : w'.ownsRow B 44 3 (.slice (some ⟨g, 0, none⟩) r.length cap) r.length (cat r)) (hg : w.grownBy w' (some g)) : RetCmp B g cap x w (.returned (.slice (some ⟨g, 0, none⟩) r.length cap)) w' := by
  subst hr; exact ⟨rfl, ho, hg⟩
theorem compactE_short (l : List Ed) (B g n cap : Nat) (w : World) (h : w.ownsRow B 44 3 (.slice (some ⟨g, 0, none⟩) n cap) n (cat l)) (h2 : n < 2) :
    Calls Tryz.prog 125 #[.slice (some ⟨g, 0, none⟩) n cap] w (RetCmp B g cap (compact l) w) := by
  have hl : l.length = n := by have := h.1; rw [cat_len] at this; omega
  have hc : compact l = l := by
    match l, hl with
    | [], _ => rfl
    | [_], _ => rfl
    | _ :: _ :: _, hl => simp at hl; omega
  rw [hc]
  have h2' : (n : Int) < 2 := by omega
  have HH := hidI h
  clear h hc
  go_enter Tryz.func125, Tryz.ntmps125
  go_wp2
  go_ret
  subst hl
  exact ⟨rfl, HH.out, World.grownBy.refl _ _⟩
set_option maxRecDepth 100000 in
set_option maxHeartbeats 2000000 in
theorem compactE_long (l : List Ed) (B g n cap : Nat) (w : World) (h : w.ownsRow B 44 3 (.slice (some ⟨g, 0, none⟩) n cap) n (cat l)) (h2 : 2 ≤ n) (hn : n ≤ 100000) :
    Calls Tryz.prog 125 #[.slice (some ⟨g, 0, none⟩) n cap] w (RetCmp B g cap (compact l) w) := by
  have hl : l.length = n := by have := h.1; rw [cat_len] at this; omega
  have hnc : n ≤ cap := own_cap h _ _ _ rfl
  have h2' : ¬ ((n : Int) < 2) := by omega
  have HH := hidI h
  clear h
  go_enter Tryz.func125, Tryz.ntmps125
  go_wp2
  go_loopw [3] (fun kv wr => ∃ k : Nat, 1 ≤ k ∧ k ≤ n ∧ kv = .int .i64 k ∧ Hid (∀ m (hm : m + 1 < l.length), m + 1 < k → l[m] ≠ l[m + 1]) ∧ Dr w wr) (fun kv _ => n - (intOf kv).toNat)
  case atStart => exact ⟨1, by omega, by omega, rfl, fun m _ h => by omega, Dr.refl _⟩
  case round =>
    obtain ⟨k, hk1, hk, rfl, hj, hD⟩ := hrel
    have hown := HH.out.dr hD
    by_cases hlt : k < n
    · obtain ⟨m, rfl⟩ : ∃ m, k = m + 1 := ⟨k - 1, by omega⟩
      obtain ⟨e0, e1, e2, _, hg⟩ := own_cell3 hown (m + 1) (by omega)
      obtain ⟨e3, e4, e5, _, _⟩ := own_cell3 hown m (by omega)
      have hI : (m : Int) + 1 < (n : Int) := by omega
      have hI2 : (m : Int) < (n : Int) := by omega
      have hq := eqlE l[m + 1] l[m]
      have hgd := guardE .eql
      by_cases heq : l[m + 1] = l[m]
      · rw [decide_eq_true heq] at hq
        have HQ := hidI heq
        clear heq
        have hk0 : ¬ cap = m + 1 := by omega
        have q0 : IntKind.i64.wrap ((m : Int) + 1) = (m : Int) + 1 := IntWalk.i64_in _ (by omega)
        have hI3 : (m : Int) + 1 ≤ (n : Int) := by omega
        have hI4 : (n : Int) ≤ (cap : Int) := by omega
        go_wp2_with fail
        (refine wp_region_quiet_lit (by kernel_rfl) (by kernel_rfl) ?_; (repeat (first | go_big_quiet_step (fail) | quiet_step (fail))); refine wpQuiet_nil ?_; intro _ hwq; obtain ⟨nq, hwq2⟩ := hwq; subst hwq2)
        clear e0 e1 e2 e3 e4 e5 hq hgd hI hI2
        go_wp2
        have HC0 : Hid (l.take (m + 1) = compact (l.take (m + 1 + 1))) := by
          unfold Hid
          rw [compact_succ l m (by omega), if_pos HQ.out.symm]
          exact (compact_same _ (fun i hi => by
            rw [List.length_take] at hi
            rw [List.getElem_take, List.getElem_take]
            exact hj.out i (by omega) (by omega))).symm
        have hgr : w.grownBy (wr.drewN nq) (some g) := grown_dr (hD.one nq) (World.grownBy.refl _ _)
        have hown1 : (wr.drewN nq).ownsRow B 44 3 (.slice (some ⟨g, 0, none⟩) n cap) n (cat l) := hown
        have HG := hidI hgr
        have HO := hidI hown1
        clear hgr hown1 hown hD
        generalize wr.drewN nq = w1 at HG HO ⊢
        go_loopw [3, 5] (fun kv jv wr => ∃ (kk i : Nat) (d : List Ed), 1 ≤ kk ∧ kk ≤ m + (i + 1) ∧ i + 1 ≤ n - (m + 1) ∧ kv = .int .i64 kk ∧ jv = .int .i64 (i + 1 : Nat) ∧ Hid (d.length = n ∧ d.take kk = compact (l.take (m + 1 + (i + 1))) ∧ d.drop (m + (i + 1)) = l.drop (m + (i + 1))) ∧
          wr.ownsRow B 44 3 (.slice (some ⟨g, 0, none⟩) n cap) n (cat d) ∧ w.grownBy wr (some g)) (fun _ jv _ => n - (intOf jv).toNat)
        case atStart => exact ⟨m + 1, 0, l, by omega, by omega, by omega, rfl, rfl, ⟨hl, HC0.out, rfl⟩, HO.out, HG.out⟩
        case round =>
          obtain ⟨kk, i, d, hkk1, hkk, hi, rfl, rfl, hd, hown, hgw⟩ := hrel
          obtain ⟨hdl, hdt, hdd⟩ := hd.out
          have hgets : ∀ x, m + (i + 1) ≤ x → ∀ (h1 : x < d.length) (h2 : x < l.length), d[x] = l[x] := fun x hx h1 h2 => by
            have e1 : d[x]? = (d.drop (m + (i + 1)))[x - (m + (i + 1))]? := by rw [List.getElem?_drop]; congr 1; omega
            have e2 : l[x]? = (l.drop (m + (i + 1)))[x - (m + (i + 1))]? := by rw [List.getElem?_drop]; congr 1; omega
            have : d[x]? = l[x]? := by rw [e1, e2, hdd]
            rw [List.getElem?_eq_getElem h1, List.getElem?_eq_getElem h2] at this
            exact Option.some.inj this
          by_cases hlt : i + 1 < n - (m + 1)
          · obtain ⟨e0, e1, e2, hfz, hg⟩ := own_cell3 hown (m + 1 + (i + 1)) (by omega)
            obtain ⟨e3, e4, e5, _, _⟩ := own_cell3 hown (m + 1 + i) (by omega)
            obtain ⟨k0, k1, k2, _, _⟩ := own_cell3 hown kk (by omega)
            have hx1 : d[m + 1 + (i + 1)] = l[m + 1 + (i + 1)] := hgets _ (by omega) _ (by omega)
            have hx0 : d[m + 1 + i] = l[m + 1 + i] := hgets _ (by omega) _ (by omega)
            rw [hx1] at e0 e1 e2
            rw [hx0] at e3 e4 e5
            rw [Nat.add_mul (m + 1) (i + 1) 3] at e0 e1 e2
            rw [Nat.add_mul (m + 1) i 3] at e3 e4 e5
            have HX1 := hidI hx1
            clear hx1 hx0 hgets
            have HD := hidI hdd; have HT := hidI hdt; have HL := hidI hdl
            clear hdd hdt
            have hz : (i : Int) + 1 < (n : Int) - ((m : Int) + 1) := by omega
            have hI1 : (i : Int) + 1 < ((n - (m + 1) : Nat) : Int) := by omega
            have hI2 : (i : Int) < ((n - (m + 1) : Nat) : Int) := by omega
            have hq := neqE l[m + 1 + (i + 1)] l[m + 1 + i]
            have hgd := guardE .neq
            have HCT := hidI (compact_succ l (m + 1 + i) (by omega))
            by_cases heq : l[m + 1 + (i + 1)] = l[m + 1 + i]
            · rw [decide_eq_true heq] at hq
              have HN : Hid (d.length = n ∧ d.take kk = compact (l.take (m + 1 + (i + 1 + 1))) ∧ d.drop (m + (i + 1 + 1)) = l.drop (m + (i + 1 + 1))) := ⟨HL.out, HT.out.trans (HCT.out.trans (if_pos heq.symm)).symm
                , by have := congrArg (List.drop 1) HD.out; rw [List.drop_drop, List.drop_drop] at this; exact this⟩
              clear heq HCT k0 k1 k2
              go_wp2_with fail
              (refine wp_region_quiet_lit (by kernel_rfl) (by kernel_rfl) ?_; (repeat (first | go_big_quiet_step (fail) | quiet_step (fail))); refine wpQuiet_nil ?_; intro _ hwq; obtain ⟨nq, hwq2⟩ := hwq; subst hwq2)
              clear e0 e1 e2 e3 e4 e5 hq hgd
              go_wp2
              go_roundw
              case rel => exact ⟨kk, i + 1, d, hkk1, by omega, by omega, rfl, by go_num, HN, hown, grown_dr ⟨nq, rfl⟩ hgw⟩
              case measure => simp [intOf]; omega
            · rw [decide_eq_false heq] at hq
              have HN : Hid ((d.set kk l[m + 1 + (i + 1)]).length = n ∧ (d.set kk l[m + 1 + (i + 1)]).take (kk + 1) = compact (l.take (m + 1 + (i + 1 + 1))) ∧ (d.set kk l[m + 1 + (i + 1)]).drop (m + (i + 1 + 1)) = l.drop (m + (i + 1 + 1))) := by
                refine ⟨by rw [List.length_set]; exact HL.out, ?_, ?_⟩
                · have h1 : compact (l.take (m + 1 + (i + 1 + 1))) = compact (l.take (m + 1 + (i + 1))) ++ [l[m + 1 + (i + 1)]] := HCT.out.trans (if_neg (fun e => heq e.symm))
                  rw [h1, ← HT.out, List.take_succ_eq_append_getElem (by rw [List.length_set]; omega), List.getElem_set_self, List.take_set_of_le (Nat.le_refl _)]
                · rw [List.drop_set_of_lt (by omega)]
                  have := congrArg (List.drop 1) HD.out; rw [List.drop_drop, List.drop_drop] at this; exact this
              have k3 := hfz (kk * 3); have k4 := hfz (kk * 3 + 1); have k5 := hfz (kk * 3 + 2)
              have hkI : (kk : Int) < (n : Int) := by omega
              have HX3 := fun (q : Nat) => own_set3 (w := wr.drewN q) (k := kk) (show (wr.drewN q).ownsRow B 44 3 (.slice (some ⟨g, 0, none⟩) n cap) n (cat d) from hown) l[m + 1 + (i + 1)]
              have HX := hidI HX3
              clear heq HCT HX3
              go_wp2_with fail
              (refine wp_region_quiet_lit (by kernel_rfl) (by kernel_rfl) ?_; (repeat (first | go_big_quiet_step (fail) | quiet_step (fail))); refine wpQuiet_nil ?_; intro _ hwq; obtain ⟨nq, hwq2⟩ := hwq; subst hwq2)
              clear hq hgd
              go_wp2
              go_roundw
              case rel => (repeat apply Exists.intro); exact ⟨⟨kk + 1, i + 1, d.set kk l[m + 1 + (i + 1)], by omega, by omega, by omega, by go_num, by go_num, HN, HX.out nq, grown_set (grown_set (grown_set (grown_dr ⟨nq, rfl⟩ hgw) _) _) _⟩, rfl⟩
              case measure => simp [intOf]; omega
          · have hie : i + 1 = n - (m + 1) := by omega
            have HCE : Hid (compact l = d.take kk) := by
              unfold Hid
              rw [hdt, show m + 1 + (i + 1) = l.length by omega, List.take_length]
            have hkn : kk < n := by omega
            have hkl : (d.take kk).length = kk := by rw [List.length_take]; omega
            obtain ⟨W', hcl, hownW, hgW⟩ := own_clear hown kk hkn
            have HL := hidI hkl
            have hkI : (kk : Int) ≤ (n : Int) := by omega
            have hkc : (kk : Int) ≤ (cap : Int) := by omega
            have hk00 : ¬ cap = kk := by omega
            have hni : ¬ ((i : Int) + 1 < ((n - (m + 1) : Nat) : Int)) := by omega
            have HGW := hidI (World.grownBy.trans hgw hgW)
            have HOW := hidI hownW
            clear hgets hdt hdd hkl hie hown hownW hgW
            go_wp2
            go_ret
            have := RetCmp.of (B := B) (cap := cap) HCE.out (by rw [HL.out]; exact HOW.out) HGW.out
            rw [HL.out] at this
            exact this
      · rw [decide_eq_false heq] at hq
        have HN : Hid (∀ i (hi : i + 1 < l.length), i + 1 < m + 1 + 1 → l[i] ≠ l[i + 1]) := fun i hi hlt => by
          by_cases e : i = m
          · subst e; exact fun e => heq e.symm
          · exact hj.out i hi (by omega)
        clear heq
        go_wp2_with fail
        (refine wp_region_quiet_lit (by kernel_rfl) (by kernel_rfl) ?_; (repeat (first | go_big_quiet_step (fail) | quiet_step (fail))); refine wpQuiet_nil ?_; intro _ hwq; obtain ⟨nq, hwq2⟩ := hwq; subst hwq2)
        go_wp2
        go_roundw
        case rel => exact ⟨m + 1 + 1, by omega, by omega, by go_num, HN, hD.one _⟩
        case measure => simp [intOf]; omega
    · obtain rfl : k = n := by omega
      have HC : Hid (compact l = l) := compact_same l (fun m hm => hj.out m hm (by omega))
      go_wp2
      go_ret
      subst hl
      exact RetCmp.of HC.out hown (grown_dr hD (World.grownBy.refl _ _))
theorem own_forms {w : World} {base size n : Nat} {e : TypeId} {v : Value} {xs : List Value} (h : w.ownsRow base e size v n xs) : (v = .slice none 0 0 ∧ n = 0) ∨ ∃ g cap, v = .slice (some ⟨g, 0, none⟩) n cap := by
  rcases h.2 with h | ⟨g, cap, _, hv, _⟩
  · exact .inl h
  · exact .inr ⟨g, cap, hv⟩
/-- Edges in memory of the call's own, from block B on. -/
def RetOwnB (B : Nat) (l : List Ed) (w : World) (e : Ending) (w' : World) : Prop := ∃ v, e = .returned v ∧ w'.ownsRow B 44 3 v l.length (cat l) ∧ Below B w w'
theorem compactE_any (l : List Ed) (B n : Nat) (v : Value) (w : World) (h : w.ownsRow B 44 3 v n (cat l)) (hn : n ≤ 100000) (hB : B ≤ w.heap.size) :
    Calls Tryz.prog 125 #[v] w (RetOwnB B (compact l) w) := by
  rcases own_forms h with ⟨rfl, rfl⟩ | ⟨g, cap, rfl⟩
  · have : l = [] := List.length_eq_zero_iff.1 (by have := h.1; rw [cat_len] at this; omega)
    subst this
    clear h
    go_enter Tryz.func125, Tryz.ntmps125
    go_wp2
    go_ret
    exact ⟨_, rfl, World.ownsRow_nil _ _ _ _, Below.refl _ _⟩
  · have hg : B ≤ g := (h.lt g rfl).1
    by_cases h2 : n < 2
    · refine (compactE_short l B g n cap w h h2).mono ?_
      rintro e w' ⟨rfl, ho, hgr⟩
      exact ⟨_, rfl, ho, (Below.refl _ _).grown hgr hB (fun j e => by cases e; exact hg)⟩
    · refine (compactE_long l B g n cap w h (by omega) hn).mono ?_
      rintro e w' ⟨rfl, ho, hgr⟩
      exact ⟨_, rfl, ho, (Below.refl _ _).grown hgr hB (fun j e => by cases e; exact hg)⟩
theorem sortE_any (l : List Ed) (B n bf : Nat) (v : Value) (w : World) (h : w.ownsRow B 44 3 v n (cat l)) (hf : w.cell? ⟨bf, 0, none⟩ = some (.func (.func 124) #[] #[])) (hne : v.ownBlock ≠ some bf) (hn : n ≤ 100000) (hB : B ≤ w.heap.size) :
    Calls Tryz.prog 122 #[v, .func (.func 176) #[] #[.pointer (some ⟨bf, 0, none⟩)]] w fun e w' => e = .returned (.tuple #[]) ∧ w'.ownsRow B 44 3 v n (cat (srtE l)) ∧ Below B w w' := by
  rcases own_forms h with ⟨rfl, rfl⟩ | ⟨g, cap, rfl⟩
  · have : l = [] := List.length_eq_zero_iff.1 (by have := h.1; rw [cat_len] at this; omega)
    subst this
    have hcon := AnyF.slices_SortFunc_none Tryz.laySortE none 0 (.func (.func 176) #[] #[.pointer (some ⟨bf, 0, none⟩)]) w
    refine Calls.mono hcon ?_
    rintro e w' ⟨rfl, rfl⟩
    exact ⟨rfl, by rw [show srtE [] = [] by simp [srtE]]; exact World.ownsRow_nil _ _ _ _, Below.refl _ _⟩
  · have hg : B ≤ g := (h.lt g rfl).1
    refine (sortE_own l B _ g n cap bf w h hf (fun e => hne (by rw [e]; rfl)) hn).mono ?_
    rintro e w' ⟨rfl, ho, hgr⟩
    exact ⟨rfl, ho, (Below.refl _ _).grown hgr hB (fun j e => by cases e; exact hg)⟩
end Go.Proofs.YtocbhlohcikapaaGreatDoor
namespace Go.Proofs.YtocbhlohcikapaaGreatDoor
open Go.RowKit Go.Sort

def mn3 (x y z : Int) : Int := if z < (if y < x then y else x) then z else (if y < x then y else x)
theorem mn3_neg {x y z : Int} : mn3 x y z < 0 ↔ x < 0 ∨ y < 0 ∨ z < 0 := by unfold mn3; split <;> split at * <;> omega
theorem run_mn3 (x y z : Int) (w : World) : (Builtin.min_ #[3, 3, 3] 3 #[.int .i64 x, .int .i64 y, .int .i64 z]).run Tryz.prog w = .ok (.int .i64 (mn3 x y z)) w := by kernel_rfl
def mx2 (x y : Int) : Int := if x < y then y else x
theorem mx2_ge {n x y : Int} : n ≤ mx2 x y ↔ n ≤ x ∨ n ≤ y := by unfold mx2; split <;> omega
theorem run_mx2 (x y : Int) (w : World) : (Builtin.max_ #[3, 3] 3 #[.int .i64 x, .int .i64 y]).run Tryz.prog w = .ok (.int .i64 (mx2 x y)) w := by kernel_rfl
theorem gBy_any (w : World) : Calls Tryz.prog 123 #[.func (.func 124) #[] #[]] w fun e w' => e = .returned (.func (.func 176) #[] #[.pointer (some ⟨w.heap.size, 0, none⟩)]) ∧ w.alloc (.cells #[.func (.func 124) #[] #[]] 142) = w' := by
  go_enter Tryz.func123, Tryz.ntmps123
  go_wp2
  go_ret
  exact ⟨rfl, rfl⟩
theorem gCheck_pre (G : Gr) (p : Option Addr) (c : Nat) (w : World) (hl : G.es.length ≤ 9223372036854775807) (h : ¬ (1 ≤ G.q ∧ G.q ≤ 256 ∧ 0 ≤ G.n ∧ G.n ≤ 64 ∧ G.es.length ≤ 1024)) :
    Calls Tryz.prog 73 #[(.agg #[.int .i64 G.q, .int .i64 G.n, .slice p G.es.length c])] w fun e w' => e = .returned (.int .i64 (chkG G)) ∧ Below w.heap.size w w' := by
  have hB0 : Below w.heap.size w (w.alloc (.cells #[.int .i64 G.q, .int .i64 G.n, .slice p G.es.length c] 24)) := (Below.refl _ _).alloc (Nat.le_refl _) _
  by_cases h1 : G.q < 1
  · have HR := hidI (chkG_q (G := G) (.inl h1))
    clear h
    go_enter Tryz.func73, Tryz.ntmps73
    go_wp2
    go_ret
    exact ⟨ret_int HR.out.symm, hB0⟩
  by_cases h2 : 256 < G.q
  · have HR := hidI (chkG_q (G := G) (.inr h2))
    clear h
    go_enter Tryz.func73, Tryz.ntmps73
    go_wp2
    go_ret
    exact ⟨ret_int HR.out.symm, hB0⟩
  by_cases h3 : G.n < 0
  · have HR := hidI (chkG_n (G := G) (by omega) (by omega) h3)
    clear h
    go_enter Tryz.func73, Tryz.ntmps73
    go_wp2
    go_ret
    exact ⟨ret_int HR.out.symm, hB0⟩
  have HR := hidI (chkG_l (G := G) (by omega) (by omega) (by omega) (by omega))
  by_cases h4 : 64 < G.n
  · clear h
    go_enter Tryz.func73, Tryz.ntmps73
    go_wp2
    go_ret
    exact ⟨ret_int HR.out.symm, hB0⟩
  · have h5 : (1024 : Int) < (G.es.length : Int) := by omega
    clear h
    go_enter Tryz.func73, Tryz.ntmps73
    go_wp2
    go_ret
    exact ⟨ret_int HR.out.symm, hB0⟩

set_option maxRecDepth 100000 in
set_option maxHeartbeats 2000000 in
theorem gCheck_ok (G : Gr) (p : Option Addr) (c : Nat) (w : World) (hin : Sg 3 w edE p G.es) (q1 : 1 ≤ G.q) (q2 : G.q ≤ 256) (n1 : 0 ≤ G.n) (n2 : G.n ≤ 64) (hl : G.es.length ≤ 1024) :
    Calls Tryz.prog 73 #[(.agg #[.int .i64 G.q, .int .i64 G.n, .slice p G.es.length c])] w fun e w' => e = .returned (.int .i64 (chkG G)) ∧ Below w.heap.size w w' := by
  have hB0 : Below w.heap.size w (w.alloc (.cells #[.int .i64 G.q, .int .i64 G.n, .slice p G.es.length c] 24)) := (Below.refl _ _).alloc (Nat.le_refl _) _
  have b0 : VRow (w.alloc (.cells #[.int .i64 G.q, .int .i64 G.n, .slice p G.es.length c] 24)) w.heap.size 24 [.int .i64 G.q, .int .i64 G.n, .slice p G.es.length c] := VRow.new w _ _
  have HE := hidI (chkG_e q1 q2 n1 n2 hl)
  have HIN := hidI hin
  have l1 : (G.es.length : Int) ≤ 1024 := by omega
  have d1 : decide (G.q < 1) = false := decide_eq_false (by omega)
  have d2 : decide (256 < G.q) = false := decide_eq_false (by omega)
  have d3 : decide (G.n < 0) = false := decide_eq_false (by omega)
  have d4 : decide (64 < G.n) = false := decide_eq_false (by omega)
  have d5 : decide ((1024 : Int) < (G.es.length : Int)) = false := decide_eq_false (by omega)
  clear hin
  go_enter Tryz.func73, Tryz.ntmps73
  go_wp2_with (go_at_call 123; refine (gBy_any _).mono ?_; rintro e w' ⟨rfl, rfl⟩)
  clear d1 d2 d3 d4 d5
  have hBa : Below w.heap.size w ((w.alloc (.cells #[.int .i64 G.q, .int .i64 G.n, .slice p G.es.length c] 24)).alloc (.cells #[.func (.func 124) #[] #[]] 142)) := hB0.alloc (by simp) _
  have ba : VRow ((w.alloc (.cells #[.int .i64 G.q, .int .i64 G.n, .slice p G.es.length c] 24)).alloc (.cells #[.func (.func 124) #[] #[]] 142)) w.heap.size 24 [.int .i64 G.q, .int .i64 G.n, .slice p G.es.length c] := b0.alloc _
  have bf : VRow ((w.alloc (.cells #[.int .i64 G.q, .int .i64 G.n, .slice p G.es.length c] 24)).alloc (.cells #[.func (.func 124) #[] #[]] 142)) (w.heap.size + 1) 142 [.func (.func 124) #[] #[]] := VRow.new1 w _ 142 [.func (.func 124) #[] #[]]
  generalize (w.alloc (.cells #[.int .i64 G.q, .int .i64 G.n, .slice p G.es.length c] 24)).alloc (.cells #[.func (.func 124) #[] #[]] 142) = w0 at *
  clear hB0 b0
  go_loopw [33] (fun iv wr => ∃ k : Nat, k ≤ G.es.length ∧ iv = .int .i64 k ∧ Hid (errTo G.q G.n G.es k = 0) ∧ Below w0.heap.size w0 wr) (fun iv _ => G.es.length - (intOf iv).toNat)
  case atStart => exact ⟨0, by omega, rfl, rfl, Below.refl _ _⟩
  case round =>
    obtain ⟨k, hk, rfl, hj, hB⟩ := hrel
    have hBr := hBa.trans (hB.mono hBa.size)
    have br := ba.below hB ba.lt
    have f0 := br.at 0 rfl; have f1 := br.at 1 rfl; have f2 := br.at 2 rfl
    have bfr := bf.below hB bf.lt
    by_cases hlt : k < G.es.length
    · obtain ⟨b1, o1, rfl, hb1, e0, e1, e2⟩ := (HIN.out.below hBr).get3 k hlt rfl
      cases ho : outE G.q G.n G.es[k]
      · obtain ⟨i1, i2, i3, i4, i5, i6⟩ := outE_no.1 ho
        have HO := hidI ho
        clear ho
        have m1 : decide (mn3 G.es[k].f G.es[k].l G.es[k].t < 0) = false := decide_eq_false (fun h => by rcases mn3_neg.1 h with h | h | h <;> omega)
        have m2 : decide (G.n ≤ mx2 G.es[k].f G.es[k].t) = false := decide_eq_false (fun h => by rcases mx2_ge.1 h with h | h <;> omega)
        have m3 : decide (G.q ≤ G.es[k].l) = false := decide_eq_false (by omega)
        have mm := run_mn3 G.es[k].f G.es[k].l G.es[k].t
        have mx := run_mx2 G.es[k].f G.es[k].t
        have hz := br.lt
        have hz2 := bfr.lt
        rcases Nat.eq_zero_or_pos k with hk0 | hk0
        · have hkd : decide ((0 : Int) < (k : Int)) = false := decide_eq_false (by omega)
          have hkd2 : decide (0 < k) = false := decide_eq_false (by omega)
          have HN : Hid (errTo G.q G.n G.es (k + 1) = 0) := errTo_next hj.out (by subst hk0; exact errAt_first hlt HO.out)
          clear hk0
          go_wp2_with fail
          (refine wp_region_quiet_lit (by kernel_rfl) (by kernel_rfl) ?_; (repeat (first | go_big_quiet_step (fail) | quiet_step (fail))); refine wpQuiet_nil ?_; intro _ hwq; obtain ⟨nq, hwq2⟩ := hwq; subst hwq2)
          clear m1 m2 m3 mm mx hkd hkd2
          go_wp2
          go_roundw
          case rel => exact ⟨k + 1, by omega, by go_num, HN, below_dN (hB.alloc hB.size _) nq⟩
          case measure => simp [intOf]; omega
        · obtain ⟨m, rfl⟩ : ∃ m, k = m + 1 := ⟨k - 1, by omega⟩
          have HS := hidI (errAt_succ hlt HO.out)
          go_wp2_with fail
          refine region_tail 11 (by kernel_rfl) (by kernel_rfl) fun W hD => ?_
          have hcW : VRow W wr.heap.size 44 [.int .i64 G.es[m + 1].f, .int .i64 G.es[m + 1].l, .int .i64 G.es[m + 1].t] := (VRow.new wr 44 _).dr hD
          have hbW : VRow W w.heap.size 24 [.int .i64 G.q, .int .i64 G.n, .slice (some ⟨b1, o1, none⟩) G.es.length c] := (br.alloc _).dr hD
          have hfW : VRow W (w.heap.size + 1) 142 [.func (.func 124) #[] #[]] := (bfr.alloc _).dr hD
          have hBW : Below w0.heap.size w0 W := (hB.alloc hB.size _).trans (hD.below _)
          have hBw : Below w.heap.size w W := hBa.trans (hBW.mono hBa.size)
          obtain ⟨b1', o1', he, _, e3, e4, e5⟩ := (HIN.out.below hBw).get3 m (by omega) rfl
          cases he
          clear e0 e1 e2 f0 f1 f2
          have f2 := hbW.at 2 rfl
          have e0 := hcW.at 0 rfl; have e1 := hcW.at 1 rfl; have e2 := hcW.at 2 rfl
          have g0 := hfW.at 0 rfl
          simp only [List.take_succ_cons, List.take_zero, List.drop_succ_cons, List.drop_zero]
          have n0 : (0 : Int) ≤ (m : Int) := by omega
          have n1 : (m : Int) < (G.es.length : Int) := by omega
          have q1' : IntKind.i64.wrap (m : Int) = (m : Int) := IntWalk.i64_in _ (by omega)
          iterate 11 still_step
          refine wpStill_nil ?_
          clear q1'
          go_wp2_with fail
          refine (gByc_up G.es[m] G.es[m + 1] (w.heap.size + 1) _ g0).mono ?_
          rintro e w1 ⟨rfl, hU1⟩
          have hB1 := hBW.trans (hU1.below.mono hBW.size)
          clear m1 m2 m3 mm mx e0 e1 e2 e3 e4 e5 f2 g0
          by_cases hcs : 0 ≤ cmpE G.es[m] G.es[m + 1]
          · have HF : Hid (chkG G = 10) := HE.out.trans ((errTo_hit hj.out (by rw [HS.out, if_pos hcs]; decide) hlt).trans (by rw [HS.out, if_pos hcs]))
            go_wp2
            go_ret
            exact ⟨ret_int HF.out.symm, hBa.trans (hB1.mono hBa.size)⟩
          · have HN : Hid (errTo G.q G.n G.es (m + 1 + 1) = 0) := errTo_next hj.out (by rw [HS.out, if_neg hcs])
            have hcs' : cmpE G.es[m] G.es[m + 1] < 0 := by omega
            go_wp2
            go_roundw
            case rel => exact ⟨m + 1 + 1, by omega, by go_num, HN, hB1⟩
            case measure => simp [intOf]; omega
      · have HO := hidI ho
        have HF : Hid (chkG G = 2) := HE.out.trans ((errTo_hit hj.out (by rw [errAt_out hlt ho]; decide) hlt).trans (errAt_out hlt ho))
        have mm := run_mn3 G.es[k].f G.es[k].l G.es[k].t
        have mx := run_mx2 G.es[k].f G.es[k].t
        have hz := br.lt
        have hz2 := bfr.lt
        have hBx := (hB.alloc hB.size (.cells #[.int .i64 G.es[k].f, .int .i64 G.es[k].l, .int .i64 G.es[k].t] 44))
        clear ho
        by_cases m1 : mn3 G.es[k].f G.es[k].l G.es[k].t < 0
        · have m1' := decide_eq_true m1
          clear m1
          go_wp2
          go_ret
          exact ⟨ret_int HF.out.symm, hBa.trans (hBx.mono hBa.size)⟩
        · have m1' := decide_eq_false m1
          have i : 0 ≤ G.es[k].f ∧ 0 ≤ G.es[k].l ∧ 0 ≤ G.es[k].t := ⟨by by_cases h : G.es[k].f < 0; exact absurd (mn3_neg.2 (.inl h)) m1; omega, by by_cases h : G.es[k].l < 0; exact absurd (mn3_neg.2 (.inr (.inl h))) m1; omega, by by_cases h : G.es[k].t < 0; exact absurd (mn3_neg.2 (.inr (.inr h))) m1; omega⟩
          by_cases m2 : G.n ≤ mx2 G.es[k].f G.es[k].t
          · have m2' := decide_eq_true m2
            clear m1 m2 i
            go_wp2
            go_ret
            exact ⟨ret_int HF.out.symm, hBa.trans (hBx.mono hBa.size)⟩
          · have m3 : G.q ≤ G.es[k].l := by
              have h1 := outE_iff.1 HO.out
              have h2 : ¬ (G.n ≤ G.es[k].f ∨ G.n ≤ G.es[k].t) := fun h => m2 (mx2_ge.2 h)
              omega
            have m2' := decide_eq_false m2
            have m3' := decide_eq_true m3
            clear m1 m2 m3 i
            go_wp2
            go_ret
            exact ⟨ret_int HF.out.symm, hBa.trans (hBx.mono hBa.size)⟩
    · obtain rfl : k = G.es.length := by omega
      have HF : Hid (chkG G = 0) := HE.out.trans hj.out
      go_wp2
      go_ret
      exact ⟨ret_int HF.out.symm, hBr⟩
theorem gCheck_any (G : Gr) (p : Option Addr) (c : Nat) (w : World) (hin : Sg 3 w edE p G.es) (hl : G.es.length ≤ 9223372036854775807) :
    Calls Tryz.prog 73 #[(.agg #[.int .i64 G.q, .int .i64 G.n, .slice p G.es.length c])] w fun e w' => e = .returned (.int .i64 (chkG G)) ∧ Below w.heap.size w w' := by
  by_cases h : 1 ≤ G.q ∧ G.q ≤ 256 ∧ 0 ≤ G.n ∧ G.n ≤ 64 ∧ G.es.length ≤ 1024
  · exact gCheck_ok G p c w hin h.1 h.2.1 h.2.2.1 h.2.2.2.1 h.2.2.2.2
  · exact gCheck_pre G p c w hl h
theorem gCheck_r (G : Gr) (p : Option Addr) (c : Nat) (w : World) (r : Int) (hr : chkG G = r) (hin : Sg 3 w edE p G.es) (hl : G.es.length ≤ 9223372036854775807) :
    Calls Tryz.prog 73 #[(.agg #[.int .i64 G.q, .int .i64 G.n, .slice p G.es.length c])] w fun e w' => e = .returned (.int .i64 r) ∧ Below w.heap.size w w' := by
  subst hr; exact gCheck_any G p c w hin hl
end Go.Proofs.YtocbhlohcikapaaGreatDoor
namespace Go.Proofs.YtocbhlohcikapaaGreatDoor
open Go.RowKit Go.Sort Go.Shelf Go.Lib

/-- A graph and an error number, the edges in memory of the call's own. -/
def RetGr (G : Gr) (k : Int) (w : World) (e : Ending) (w' : World) : Prop := ∃ p c, e = .returned (.tuple #[(.agg #[.int .i64 G.q, .int .i64 G.n, .slice p G.es.length c]), .int .i64 k]) ∧ Sg 3 w' edE p G.es ∧ G.es.length ≤ c ∧ Below w.heap.size w w'
theorem RetGr.of {G' : Gr} {k' : Int} {x : Gr × Int} {w w' : World} {p : Option Addr} {c : Nat} (hr : x = (G', k')) (hs : Sg 3 w' edE p G'.es) (hc : G'.es.length ≤ c) (hB : Below w.heap.size w w') :
    RetGr x.1 x.2 w (.returned (.tuple #[(.agg #[.int .i64 G'.q, .int .i64 G'.n, .slice p G'.es.length c]), .int .i64 k'])) w' := by subst hr; exact ⟨p, c, rfl, hs, hc, hB⟩

set_option maxRecDepth 100000 in
set_option maxHeartbeats 1000000 in
theorem gMake_any (q n : Int) (l : List Ed) (p : Option Addr) (c : Nat) (w : World) (hin : Sg 3 w edE p l) (hl : l.length ≤ 100000) :
    Calls Tryz.prog 58 #[.int .i64 q, .int .i64 n, .slice p l.length c] w (RetGr (makeA q n l).1 (makeA q n l).2 w) := by
  have hB0 : Below w.heap.size w (w.alloc (.cells #[.int .i64 0, .int .i64 0, .slice none 0 0] 24)) := (Below.refl _ _).alloc (Nat.le_refl _) _
  have b0 : VRow (w.alloc (.cells #[.int .i64 0, .int .i64 0, .slice none 0 0] 24)) w.heap.size 24 [.int .i64 0, .int .i64 0, .slice none 0 0] := VRow.new w _ _
  go_enter Tryz.func58, Tryz.ntmps58
  go_wp2_with fail
  refine (cloneE_any l p c _ (hin.below hB0) hl).mono ?_
  rintro e w1 ⟨v1, rfl, hown1, hB1⟩
  have x1 := hB0.trans (hB1.mono hB0.size)
  have b1 := b0.below hB1 (by simp)
  go_wp2_with fail
  refine (gBy_any _).mono ?_
  rintro e w2 ⟨rfl, rfl⟩
  have hown2 := hown1.alloc (.cells #[.func (.func 124) #[] #[]] 142)
  have bf2 : VRow (w1.alloc (.cells #[.func (.func 124) #[] #[]] 142)) w1.heap.size 142 [.func (.func 124) #[] #[]] := VRow.new w1 _ _
  have b2 := b1.alloc (.cells #[.func (.func 124) #[] #[]] 142)
  have x2 := x1.alloc x1.size (.cells #[.func (.func 124) #[] #[]] 142)
  have hne : v1.ownBlock ≠ some w1.heap.size := fun e => by have := (hown1.lt _ e).2; omega
  have hz0 : w.heap.size < (w.alloc (.cells #[.int .i64 0, .int .i64 0, .slice none 0 0] 24)).heap.size := b0.lt
  have HS : Hid (compact (srtE l) = norm l) := norm_sort l
  have hBz := hB1.size
  clear hB1 hB0 b0
  generalize (w.alloc (.cells #[.int .i64 0, .int .i64 0, .slice none 0 0] 24)).heap.size = B at *
  go_wp2_with fail
  refine (sortE_any l B l.length w1.heap.size v1 _ hown2 (bf2.at 0 rfl) hne hl (Nat.le_trans hBz (by simp))).mono ?_
  rintro e w3 ⟨rfl, hown3, hB3⟩
  have x3 := x2.trans (hB3.mono (Nat.le_of_lt hz0))
  have b3 := b2.below hB3 hz0
  have hBz3 : B ≤ w3.heap.size := Nat.le_trans hBz (Nat.le_trans (by simp) hB3.size)
  clear hown2 bf2 b2 hne hown1
  go_wp2_with fail
  refine (compactE_any (srtE l) B l.length v1 _ hown3 hl hBz3).mono ?_
  rw [HS.out]
  rintro e w4 ⟨v4, rfl, hown4, hB4⟩
  have x4 := x3.trans (hB4.mono (Nat.le_of_lt hz0))
  have b4 := b3.below hB4 hz0
  obtain ⟨p4, c4, rfl, hs4, hc4, _⟩ := own_sg hown4
  have f0 := b4.at 0 rfl; have f1 := b4.at 1 rfl; have f2 := b4.at 2 rfl
  have hfz := fun j => b4.frozen j
  have hz4 := b4.lt
  have hw5 : Sg 3 (w4.alloc (.cells #[.int .i64 (⟨q, n, norm l⟩ : Gr).q, .int .i64 (⟨q, n, norm l⟩ : Gr).n, .slice p4 (⟨q, n, norm l⟩ : Gr).es.length c4] 24)) edE p4 (norm l) := hs4.below ((Below.refl _ _).alloc (Nat.le_refl _) _)
  have hln : (norm l).length ≤ 100000 := by
    have := compact_len (srtE l); rw [HS.out, srtE_len] at this; omega
  obtain ⟨r, hr⟩ : ∃ r, chkG ⟨q, n, norm l⟩ = r := ⟨_, rfl⟩
  have b4' : VRow (w4.alloc (.cells #[.int .i64 (⟨q, n, norm l⟩ : Gr).q, .int .i64 (⟨q, n, norm l⟩ : Gr).n, .slice p4 (⟨q, n, norm l⟩ : Gr).es.length c4] 24)) w.heap.size 24 [.int .i64 0, .int .i64 0, .slice none 0 0] := b4.alloc _
  have c4' : VRow (w4.alloc (.cells #[.int .i64 (⟨q, n, norm l⟩ : Gr).q, .int .i64 (⟨q, n, norm l⟩ : Gr).n, .slice p4 (⟨q, n, norm l⟩ : Gr).es.length c4] 24)) w4.heap.size 24 [.int .i64 (⟨q, n, norm l⟩ : Gr).q, .int .i64 (⟨q, n, norm l⟩ : Gr).n, .slice p4 (⟨q, n, norm l⟩ : Gr).es.length c4] := VRow.new w4 _ _
  have x4' := x4.alloc x4.size (.cells #[.int .i64 (⟨q, n, norm l⟩ : Gr).q, .int .i64 (⟨q, n, norm l⟩ : Gr).n, .slice p4 (⟨q, n, norm l⟩ : Gr).es.length c4] 24)
  have hL : Hid ((norm l).length ≤ c4) := hc4
  by_cases hr0 : r = 0
  · subst hr0
    have HR := hidI (makeA_ok hr)
    go_wp2_with fail
    refine (gCheck_r ⟨q, n, norm l⟩ p4 c4 _ 0 hr hw5 (by show (norm l).length ≤ _; omega)).mono ?_
    rintro e w5 ⟨rfl, hB5⟩
    have x5 := x4'.trans (hB5.mono x4'.size)
    have b5 := b4'.below hB5 b4'.lt
    have c5 := c4'.below hB5 c4'.lt
    have o5 := (hown4.alloc (.cells #[.int .i64 (⟨q, n, norm l⟩ : Gr).q, .int .i64 (⟨q, n, norm l⟩ : Gr).n, .slice p4 (⟨q, n, norm l⟩ : Gr).es.length c4] 24)).below hB5
    have g0 := c5.at 0 rfl; have g1 := c5.at 1 rfl; have g2 := c5.at 2 rfl
    have k0 := b5.at 0 rfl; have k1 := b5.at 1 rfl; have k2 := b5.at 2 rfl
    have z0 := b5.frozen 0; have z1 := b5.frozen 1; have z2 := b5.frozen 2
    clear f0 f1 f2 hfz hr
    go_wp2
    have r6 := VRow.set (i := 2) (.slice p4 (norm l).length c4) (VRow.set (i := 1) (.int .i64 n) (VRow.set (i := 0) (.int .i64 q) b5))
    have y0 := r6.at 0 rfl; have y1 := r6.at 1 rfl; have y2 := r6.at 2 rfl
    have o6 := ownsRow_setCell_below (a := ⟨w.heap.size, 2, none⟩) (ownsRow_setCell_below (a := ⟨w.heap.size, 1, none⟩) (ownsRow_setCell_below (a := ⟨w.heap.size, 0, none⟩) o5 hz0 (.int .i64 q)) hz0 (.int .i64 n)) hz0 (.slice p4 (norm l).length c4)
    have x6 : Below w.heap.size w (((w5.setCell ⟨w.heap.size, 0, none⟩ (.int .i64 q)).setCell ⟨w.heap.size, 1, none⟩ (.int .i64 n)).setCell ⟨w.heap.size, 2, none⟩ (.slice p4 (norm l).length c4)) := ((x5.setCell (Nat.le_refl _) _).setCell (Nat.le_refl _) _).setCell (Nat.le_refl _) _
    refine bodyPost_ret (v := .tuple #[.agg #[.int .i64 q, .int .i64 n, .slice p4 (norm l).length c4], .int .i64 0]) (by simp [results, Tryz.results58, go_sem, y0, y1, y2]) rfl ?_
    obtain ⟨p6, c6, hv, hs6, _, _⟩ := own_sg o6
    cases hv
    exact RetGr.of HR.out hs6 hL.out x6
  · have hrb : (r == 0) = false := by simpa using hr0
    have HR := hidI (makeA_bad (by rw [hr]; exact hr0))
    rw [hr] at HR
    go_wp2_with fail
    refine (gCheck_r ⟨q, n, norm l⟩ p4 c4 _ r hr hw5 (by show (norm l).length ≤ _; omega)).mono ?_
    rintro e w5 ⟨rfl, hB5⟩
    have x5 := x4'.trans (hB5.mono x4'.size)
    have b5 := b4'.below hB5 b4'.lt
    have o5 := (hown4.alloc (.cells #[.int .i64 (⟨q, n, norm l⟩ : Gr).q, .int .i64 (⟨q, n, norm l⟩ : Gr).n, .slice p4 (⟨q, n, norm l⟩ : Gr).es.length c4] 24)).below hB5
    have k0 := b5.at 0 rfl; have k1 := b5.at 1 rfl; have k2 := b5.at 2 rfl
    have z0 := b5.frozen 0; have z1 := b5.frozen 1; have z2 := b5.frozen 2
    clear f0 f1 f2 hfz hr
    go_wp2
    have r6 := VRow.set (i := 2) (.slice none 0 0) (VRow.set (i := 1) (.int .i64 0) (VRow.set (i := 0) (.int .i64 0) b5))
    have y0 := r6.at 0 rfl; have y1 := r6.at 1 rfl; have y2 := r6.at 2 rfl
    have o6 := ownsRow_setCell_below (a := ⟨w.heap.size, 2, none⟩) (ownsRow_setCell_below (a := ⟨w.heap.size, 1, none⟩) (ownsRow_setCell_below (a := ⟨w.heap.size, 0, none⟩) o5 hz0 (.int .i64 0)) hz0 (.int .i64 0)) hz0 (.slice none 0 0)
    have x6 : Below w.heap.size w (((w5.setCell ⟨w.heap.size, 0, none⟩ (.int .i64 0)).setCell ⟨w.heap.size, 1, none⟩ (.int .i64 0)).setCell ⟨w.heap.size, 2, none⟩ (.slice none 0 0)) := ((x5.setCell (Nat.le_refl _) _).setCell (Nat.le_refl _) _).setCell (Nat.le_refl _) _
    refine bodyPost_ret (v := .tuple #[.agg #[.int .i64 0, .int .i64 0, .slice none 0 0], .int .i64 r]) (by simp [results, Tryz.results58, go_sem, y0, y1, y2]) rfl ?_
    exact RetGr.of (G' := ⟨0, 0, []⟩) HR.out (Sg.nil _ _ _ _) (by simp) x6
end Go.Proofs.YtocbhlohcikapaaGreatDoor
namespace Go.Proofs.YtocbhlohcikapaaGreatDoor
open Go.RowKit Go.Sort

def TwoRows (w : World) (a b : Ed) (u v : Value) (wx : World) : Prop :=
  ∃ g h, u = .slice (some ⟨g, 0, none⟩) 3 3 ∧ v = .slice (some ⟨h, 0, none⟩) 3 3 ∧ VRow wx g 3 ((edL a).map (Value.int .i64)) ∧ VRow wx h 3 ((edL b).map (Value.int .i64)) ∧ Up w wx
theorem edL_len (x : Ed) : (edL x).length = 3 := rfl
set_option maxRecDepth 100000 in
set_option maxHeartbeats 1000000 in
theorem rCompare_up (a b : Ed) (w : World) : Calls Tryz.prog 126 #[(.agg #[.int .i64 a.f, .int .i64 a.l, .int .i64 a.t]), (.agg #[.int .i64 b.f, .int .i64 b.l, .int .i64 b.t])] w fun e w' => e = .returned (.int .i64 (cmpE a b)) ∧ Up w w' := by
  have hU0 : Up w ((w.alloc (.cells #[.int .i64 a.f, .int .i64 a.l, .int .i64 a.t] 44)).alloc (.cells #[.int .i64 b.f, .int .i64 b.l, .int .i64 b.t] 44)) := (Up.alloc w _).trans (Up.alloc _ _)
  have ha0 : VRow ((w.alloc (.cells #[.int .i64 a.f, .int .i64 a.l, .int .i64 a.t] 44)).alloc (.cells #[.int .i64 b.f, .int .i64 b.l, .int .i64 b.t] 44)) w.heap.size 44 [.int .i64 a.f, .int .i64 a.l, .int .i64 a.t] := (VRow.new w 44 _).alloc _
  have hb0 : VRow ((w.alloc (.cells #[.int .i64 a.f, .int .i64 a.l, .int .i64 a.t] 44)).alloc (.cells #[.int .i64 b.f, .int .i64 b.l, .int .i64 b.t] 44)) (w.heap.size + 1) 44 [.int .i64 b.f, .int .i64 b.l, .int .i64 b.t] := VRow.new1 w _ 44 [.int .i64 b.f, .int .i64 b.l, .int .i64 b.t]
  go_enter Tryz.func126, Tryz.ntmps126
  go_wp2_with fail
  generalize (w.alloc (.cells #[.int .i64 a.f, .int .i64 a.l, .int .i64 a.t] 44)).alloc (.cells #[.int .i64 b.f, .int .i64 b.l, .int .i64 b.t] 44) = w0 at *
  have a0 := ha0.at 0 rfl; have a1 := ha0.at 1 rfl; have a2 := ha0.at 2 rfl
  have b0 := hb0.at 0 rfl; have b1 := hb0.at 1 rfl; have b2 := hb0.at 2 rfl
  go_upto_region 1 with fail
  go_cut [5, 6] (fun s5 s6 wx => TwoRows w0 a b s5 s6 wx)
  case first =>
    go_region_held3 (fun w' => w'.cell? ⟨w.heap.size, 0, none⟩ = some (.int .i64 a.f) ∧ w'.cell? ⟨w.heap.size, 1, none⟩ = some (.int .i64 a.l) ∧ w'.cell? ⟨w.heap.size, 2, none⟩ = some (.int .i64 a.t) ∧
        w'.cell? ⟨w.heap.size + 1, 0, none⟩ = some (.int .i64 b.f) ∧ w'.cell? ⟨w.heap.size + 1, 1, none⟩ = some (.int .i64 b.l) ∧ w'.cell? ⟨w.heap.size + 1, 2, none⟩ = some (.int .i64 b.t))
      (first | go_keep) (first | fail)
    all_goals (go_wp2_with fail; go_meet)
    · exact ⟨_, _, rfl, rfl, ((VRow.new w0 3 [.int .i64 a.f, .int .i64 a.l, .int .i64 a.t]).alloc _).dr ⟨1, rfl⟩, (VRow.new1 w0 _ 3 [.int .i64 b.f, .int .i64 b.l, .int .i64 b.t]).dr ⟨1, rfl⟩, ((Up.alloc w0 _).trans (Up.alloc _ _)).trans (Up.drew _)⟩
    · exact ⟨_, _, rfl, rfl, (VRow.new1 w0 _ 3 [.int .i64 a.f, .int .i64 a.l, .int .i64 a.t]).dr ⟨1, rfl⟩, ((VRow.new w0 3 [.int .i64 b.f, .int .i64 b.l, .int .i64 b.t]).alloc _).dr ⟨1, rfl⟩, ((Up.alloc w0 _).trans (Up.alloc _ _)).trans (Up.drew _)⟩
  case rest =>
    obtain ⟨g, h, rfl, rfl, hra, hrb, hU1⟩ := hcut
    have hUw := hU0.trans hU1
    have hsa := Sl.of_vrow (enc := Value.int .i64) (l := edL a) hra
    have hsb := Sl.of_vrow (enc := Value.int .i64) (l := edL b) hrb
    clear a0 a1 a2 b0 b1 b2 ha0 hb0 hra hrb hU0 hU1
    go_wp2
    go_loopw [7] (fun iv wr => ∃ k : Nat, k ≤ 3 ∧ iv = .int .i64 k ∧ Hid (cmpE a b = cmpL ((edL a).drop k) ((edL b).drop k)) ∧ Dr wc wr) (fun iv _ => 3 - (intOf iv).toNat)
    case atStart => exact ⟨0, by omega, rfl, rfl, Dr.refl _⟩
    case round =>
      obtain ⟨k, hk, rfl, hj, hD⟩ := hrel
      by_cases hlt : k < 3
      · obtain ⟨b1, o1, he1, _, hc1⟩ := (hsa.dr hD).get k hlt
        obtain ⟨b2, o2, he2, _, hc2⟩ := (hsb.dr hD).get k hlt
        cases he1; cases he2
        have e1 := hc1 k hlt
        have e2 := hc2 k hlt
        simp only [Nat.zero_add] at e1 e2
        have h3 : (k : Int) < 3 := by omega
        have HD1 := hidI (cmpL_diff k (show k < (edL a).length from hlt) (show k < (edL b).length from hlt))
        have HS1 := hidI (cmpL_same k (show k < (edL a).length from hlt) (show k < (edL b).length from hlt))
        generalize (edL a)[k] = x at *
        generalize (edL b)[k] = y at *
        clear hc1 hc2
        by_cases h1 : x < y
        · have HE : Hid (cmpE a b = -1) := hj.out.trans ((HD1.out (by unfold c3; rw [if_pos h1]; decide)).trans (by unfold c3; rw [if_pos h1]))
          go_wp2_with fail
          (refine wp_region_quiet_lit (by kernel_rfl) (by kernel_rfl) ?_; (repeat (first | go_big_quiet_step (fail) | quiet_step (fail))); refine wpQuiet_nil ?_; intro _ hwq; obtain ⟨nq, hwq2⟩ := hwq; subst hwq2)
          go_wp2
          go_ret
          exact ⟨ret_int HE.out.symm, hUw.trans (Up.of_dr (hD.one nq))⟩
        · by_cases h2 : y < x
          · have HE : Hid (cmpE a b = 1) := hj.out.trans ((HD1.out (by unfold c3; rw [if_neg h1, if_pos h2]; decide)).trans (by unfold c3; rw [if_neg h1, if_pos h2]))
            have h1' : decide (x < y) = false := decide_eq_false h1
            go_wp2_with fail
            (refine wp_region_quiet_lit (by kernel_rfl) (by kernel_rfl) ?_; (repeat (first | go_big_quiet_step (fail) | quiet_step (fail))); refine wpQuiet_nil ?_; intro _ hwq; obtain ⟨nq, hwq2⟩ := hwq; subst hwq2)
            go_wp2_with fail
            (refine wp_region_quiet_lit (by kernel_rfl) (by kernel_rfl) ?_; (repeat (first | go_big_quiet_step (fail) | quiet_step (fail))); refine wpQuiet_nil ?_; intro _ hwq; obtain ⟨nq, hwq2⟩ := hwq; subst hwq2)
            go_wp2
            go_ret
            exact ⟨ret_int HE.out.symm, hUw.trans (Up.of_dr ((hD.one _).one _))⟩
          · have HE : Hid (cmpE a b = cmpL ((edL a).drop (k + 1)) ((edL b).drop (k + 1))) := hj.out.trans (HS1.out (by omega))
            have h1' : decide (x < y) = false := decide_eq_false h1
            have h2' : decide (y < x) = false := decide_eq_false h2
            go_wp2_with fail
            (refine wp_region_quiet_lit (by kernel_rfl) (by kernel_rfl) ?_; (repeat (first | go_big_quiet_step (fail) | quiet_step (fail))); refine wpQuiet_nil ?_; intro _ hwq; obtain ⟨nq, hwq2⟩ := hwq; subst hwq2)
            go_wp2_with fail
            (refine wp_region_quiet_lit (by kernel_rfl) (by kernel_rfl) ?_; (repeat (first | go_big_quiet_step (fail) | quiet_step (fail))); refine wpQuiet_nil ?_; intro _ hwq; obtain ⟨nq, hwq2⟩ := hwq; subst hwq2)
            go_wp2
            go_roundw
            case rel => exact ⟨k + 1, by omega, by go_num, HE, hD.one _⟩
            case measure => simp [intOf]; omega
      · have HE : Hid (cmpE a b = 0) := hj.out.trans (cmpL_ends k (by rw [edL_len]; omega) (by rw [edL_len]; omega))
        have h3 : ¬ ((k : Int) < 3) := by omega
        go_wp2
        go_ret
        exact ⟨ret_int HE.out.symm, hUw.trans (Up.of_dr hD)⟩

theorem rCheck_pre (G : Gr) (p : Option Addr) (c : Nat) (w : World) (hl : G.es.length ≤ 9223372036854775807) (h : ¬ (1 ≤ G.q ∧ G.q ≤ 256 ∧ 0 ≤ G.n ∧ G.n ≤ 64 ∧ G.es.length ≤ 1024)) :
    Calls Tryz.prog 59 #[(.agg #[.int .i64 G.q, .int .i64 G.n, .slice p G.es.length c])] w fun e w' => e = .returned (.int .i64 (chkG G)) ∧ Below w.heap.size w w' := by
  have hB0 : Below w.heap.size w (w.alloc (.cells #[.int .i64 G.q, .int .i64 G.n, .slice p G.es.length c] 24)) := (Below.refl _ _).alloc (Nat.le_refl _) _
  by_cases h1 : G.q < 1
  · have HR := hidI (chkG_q (G := G) (.inl h1))
    clear h
    go_enter Tryz.func59, Tryz.ntmps59
    go_wp2
    go_ret
    exact ⟨ret_int HR.out.symm, hB0⟩
  by_cases h2 : 256 < G.q
  · have HR := hidI (chkG_q (G := G) (.inr h2))
    clear h
    go_enter Tryz.func59, Tryz.ntmps59
    go_wp2
    go_ret
    exact ⟨ret_int HR.out.symm, hB0⟩
  by_cases h3 : G.n < 0
  · have HR := hidI (chkG_n (G := G) (by omega) (by omega) h3)
    clear h
    go_enter Tryz.func59, Tryz.ntmps59
    go_wp2
    go_ret
    exact ⟨ret_int HR.out.symm, hB0⟩
  have HR := hidI (chkG_l (G := G) (by omega) (by omega) (by omega) (by omega))
  by_cases h4 : 64 < G.n
  · clear h
    go_enter Tryz.func59, Tryz.ntmps59
    go_wp2
    go_ret
    exact ⟨ret_int HR.out.symm, hB0⟩
  · have h5 : (1024 : Int) < (G.es.length : Int) := by omega
    clear h
    go_enter Tryz.func59, Tryz.ntmps59
    go_wp2
    go_ret
    exact ⟨ret_int HR.out.symm, hB0⟩


set_option maxRecDepth 100000 in
set_option maxHeartbeats 2000000 in
theorem rCheck_ok (G : Gr) (p : Option Addr) (c : Nat) (w : World) (hin : Sg 3 w edE p G.es) (q1 : 1 ≤ G.q) (q2 : G.q ≤ 256) (n1 : 0 ≤ G.n) (n2 : G.n ≤ 64) (hl : G.es.length ≤ 1024) :
    Calls Tryz.prog 59 #[(.agg #[.int .i64 G.q, .int .i64 G.n, .slice p G.es.length c])] w fun e w' => e = .returned (.int .i64 (chkG G)) ∧ Below w.heap.size w w' := by
  have hB0 : Below w.heap.size w (w.alloc (.cells #[.int .i64 G.q, .int .i64 G.n, .slice p G.es.length c] 24)) := (Below.refl _ _).alloc (Nat.le_refl _) _
  have b0 : VRow (w.alloc (.cells #[.int .i64 G.q, .int .i64 G.n, .slice p G.es.length c] 24)) w.heap.size 24 [.int .i64 G.q, .int .i64 G.n, .slice p G.es.length c] := VRow.new w _ _
  have HE := hidI (chkG_e q1 q2 n1 n2 hl)
  have HIN := hidI hin
  have l1 : (G.es.length : Int) ≤ 1024 := by omega
  have d1 : decide (G.q < 1) = false := decide_eq_false (by omega)
  have d2 : decide (256 < G.q) = false := decide_eq_false (by omega)
  have d3 : decide (G.n < 0) = false := decide_eq_false (by omega)
  have d4 : decide (64 < G.n) = false := decide_eq_false (by omega)
  have d5 : decide ((1024 : Int) < (G.es.length : Int)) = false := decide_eq_false (by omega)
  clear hin
  go_enter Tryz.func59, Tryz.ntmps59
  go_wp2
  clear d1 d2 d3 d4 d5
  generalize (w.alloc (.cells #[.int .i64 G.q, .int .i64 G.n, .slice p G.es.length c] 24)) = w0 at *
  go_loopw [3] (fun iv wr => ∃ k : Nat, k ≤ G.es.length ∧ iv = .int .i64 k ∧ Hid (errTo G.q G.n G.es k = 0) ∧ Below w0.heap.size w0 wr) (fun iv _ => G.es.length - (intOf iv).toNat)
  case atStart => exact ⟨0, by omega, rfl, rfl, Below.refl _ _⟩
  case round =>
    obtain ⟨k, hk, rfl, hj, hB⟩ := hrel
    have hBr := hB0.trans (hB.mono hB0.size)
    have br := b0.below hB b0.lt
    have f0 := br.at 0 rfl; have f1 := br.at 1 rfl; have f2 := br.at 2 rfl
    by_cases hlt : k < G.es.length
    · obtain ⟨b1, o1, rfl, hb1, e0, e1, e2⟩ := (HIN.out.below hBr).get3 k hlt rfl
      cases ho : outE G.q G.n G.es[k]
      · obtain ⟨i1, i2, i3, i4, i5, i6⟩ := outE_no.1 ho
        have HO := hidI ho
        clear ho
        have m1 : decide (G.es[k].f < 0) = false := decide_eq_false (by omega)
        have m2 : decide (G.n ≤ G.es[k].f) = false := decide_eq_false (by omega)
        have m3 : decide (G.es[k].t < 0) = false := decide_eq_false (by omega)
        have m4 : decide (G.n ≤ G.es[k].t) = false := decide_eq_false (by omega)
        have m5 : decide (G.es[k].l < 0) = false := decide_eq_false (by omega)
        have m6 : decide (G.q ≤ G.es[k].l) = false := decide_eq_false (by omega)
        have hz := br.lt
        rcases Nat.eq_zero_or_pos k with hk0 | hk0
        · have hkd : decide ((0 : Int) < (k : Int)) = false := decide_eq_false (by omega)
          have hkd2 : decide (0 < k) = false := decide_eq_false (by omega)
          have HN : Hid (errTo G.q G.n G.es (k + 1) = 0) := errTo_next hj.out (by subst hk0; exact errAt_first hlt HO.out)
          clear hk0
          go_wp2_with fail
          (refine wp_region_quiet_lit (by kernel_rfl) (by kernel_rfl) ?_; (repeat (first | go_big_quiet_step (fail) | quiet_step (fail))); refine wpQuiet_nil ?_; intro _ hwq; obtain ⟨nq, hwq2⟩ := hwq; subst hwq2)
          clear m1 m2 m3 m4 m5 m6 hkd hkd2
          go_wp2
          go_roundw
          case rel => exact ⟨k + 1, by omega, by go_num, HN, below_dN (hB.alloc hB.size _) nq⟩
          case measure => simp [intOf]; omega
        · obtain ⟨m, rfl⟩ : ∃ m, k = m + 1 := ⟨k - 1, by omega⟩
          have HS := hidI (errAt_succ hlt HO.out)
          go_wp2_with fail
          refine region_tail 10 (by kernel_rfl) (by kernel_rfl) fun W hD => ?_
          have hcW : VRow W wr.heap.size 44 [.int .i64 G.es[m + 1].f, .int .i64 G.es[m + 1].l, .int .i64 G.es[m + 1].t] := (VRow.new wr 44 _).dr hD
          have hbW : VRow W w.heap.size 24 [.int .i64 G.q, .int .i64 G.n, .slice (some ⟨b1, o1, none⟩) G.es.length c] := (br.alloc _).dr hD
          have hBW : Below w0.heap.size w0 W := (hB.alloc hB.size _).trans (hD.below _)
          have hBw : Below w.heap.size w W := hB0.trans (hBW.mono hB0.size)
          obtain ⟨b1', o1', he, _, e3, e4, e5⟩ := (HIN.out.below hBw).get3 m (by omega) rfl
          cases he
          clear e0 e1 e2 f0 f1 f2
          have f2 := hbW.at 2 rfl
          have e0 := hcW.at 0 rfl; have e1 := hcW.at 1 rfl; have e2 := hcW.at 2 rfl
          simp only [List.take_succ_cons, List.take_zero, List.drop_succ_cons, List.drop_zero]
          have n0 : (0 : Int) ≤ (m : Int) := by omega
          have n1 : (m : Int) < (G.es.length : Int) := by omega
          have q1' : IntKind.i64.wrap (m : Int) = (m : Int) := IntWalk.i64_in _ (by omega)
          iterate 10 still_step
          refine wpStill_nil ?_
          clear q1'
          go_wp2_with fail
          refine (rCompare_up G.es[m] G.es[m + 1] _).mono ?_
          rintro e w1 ⟨rfl, hU1⟩
          have hB1 := hBW.trans (hU1.below.mono hBW.size)
          clear m1 m2 m3 m4 m5 m6 e0 e1 e2 e3 e4 e5 f2
          by_cases hcs : 0 ≤ cmpE G.es[m] G.es[m + 1]
          · have HF : Hid (chkG G = 10) := HE.out.trans ((errTo_hit hj.out (by rw [HS.out, if_pos hcs]; decide) hlt).trans (by rw [HS.out, if_pos hcs]))
            go_wp2
            go_ret
            exact ⟨ret_int HF.out.symm, hB0.trans (hB1.mono hB0.size)⟩
          · have HN : Hid (errTo G.q G.n G.es (m + 1 + 1) = 0) := errTo_next hj.out (by rw [HS.out, if_neg hcs])
            have hcs' : cmpE G.es[m] G.es[m + 1] < 0 := by omega
            go_wp2
            go_roundw
            case rel => exact ⟨m + 1 + 1, by omega, by go_num, HN, hB1⟩
            case measure => simp [intOf]; omega
      · have HO := hidI ho
        have HF : Hid (chkG G = 2) := HE.out.trans ((errTo_hit hj.out (by rw [errAt_out hlt ho]; decide) hlt).trans (errAt_out hlt ho))
        have hz := br.lt
        have hBx := (hB.alloc hB.size (.cells #[.int .i64 G.es[k].f, .int .i64 G.es[k].l, .int .i64 G.es[k].t] 44))
        clear ho
        by_cases m1 : G.es[k].f < 0
        · have m' := decide_eq_true m1
          clear m1
          go_wp2
          go_ret
          exact ⟨ret_int HF.out.symm, hB0.trans (hBx.mono hB0.size)⟩
        have e1' := decide_eq_false m1
        by_cases m2 : G.n ≤ G.es[k].f
        · have m' := decide_eq_true m2
          clear m2
          go_wp2
          go_ret
          exact ⟨ret_int HF.out.symm, hB0.trans (hBx.mono hB0.size)⟩
        have e2' := decide_eq_false m2
        by_cases m3 : G.es[k].t < 0
        · have m' := decide_eq_true m3
          clear m3
          go_wp2
          go_ret
          exact ⟨ret_int HF.out.symm, hB0.trans (hBx.mono hB0.size)⟩
        have e3' := decide_eq_false m3
        by_cases m4 : G.n ≤ G.es[k].t
        · have m' := decide_eq_true m4
          clear m4
          go_wp2
          go_ret
          exact ⟨ret_int HF.out.symm, hB0.trans (hBx.mono hB0.size)⟩
        have e4' := decide_eq_false m4
        by_cases m5 : G.es[k].l < 0
        · have m' := decide_eq_true m5
          clear m5
          go_wp2
          go_ret
          exact ⟨ret_int HF.out.symm, hB0.trans (hBx.mono hB0.size)⟩
        have e5' := decide_eq_false m5
        have m6 : G.q ≤ G.es[k].l := by
          have h1 := outE_iff.1 HO.out
          omega
        have m' := decide_eq_true m6
        clear m1 m2 m3 m4 m5 m6
        go_wp2
        go_ret
        exact ⟨ret_int HF.out.symm, hB0.trans (hBx.mono hB0.size)⟩
    · obtain rfl : k = G.es.length := by omega
      have HF : Hid (chkG G = 0) := HE.out.trans hj.out
      go_wp2
      go_ret
      exact ⟨ret_int HF.out.symm, hBr⟩

theorem rCheck_any (G : Gr) (p : Option Addr) (c : Nat) (w : World) (hin : Sg 3 w edE p G.es) (hl : G.es.length ≤ 9223372036854775807) :
    Calls Tryz.prog 59 #[(.agg #[.int .i64 G.q, .int .i64 G.n, .slice p G.es.length c])] w fun e w' => e = .returned (.int .i64 (chkG G)) ∧ Below w.heap.size w w' := by
  by_cases h : 1 ≤ G.q ∧ G.q ≤ 256 ∧ 0 ≤ G.n ∧ G.n ≤ 64 ∧ G.es.length ≤ 1024
  · exact rCheck_ok G p c w hin h.1 h.2.1 h.2.2.1 h.2.2.2.1 h.2.2.2.2
  · exact rCheck_pre G p c w hl h
theorem rCheck_r (G : Gr) (p : Option Addr) (c : Nat) (w : World) (r : Int) (hr : chkG G = r) (hin : Sg 3 w edE p G.es) (hl : G.es.length ≤ 9223372036854775807) :
    Calls Tryz.prog 59 #[(.agg #[.int .i64 G.q, .int .i64 G.n, .slice p G.es.length c])] w fun e w' => e = .returned (.int .i64 r) ∧ Below w.heap.size w w' := by
  subst hr; exact rCheck_any G p c w hin hl
end Go.Proofs.YtocbhlohcikapaaGreatDoor
namespace Go.Proofs.YtocbhlohcikapaaGreatDoor
open Go.RowKit Go.Sort Go.Shelf Go.Lib

/-! ### Plain -/
def sameG (G H : Gr) : Bool := decide (G.q = H.q) && (decide (G.n = H.n) && decide (G.es = H.es))
theorem sameG_refl (G : Gr) : sameG G G = true := by simp [sameG]
theorem sameG_iff {G H : Gr} : sameG G H = true ↔ G = H := by
  cases G; cases H; simp [sameG]
theorem sameG_len {G H : Gr} (h : G.es.length ≠ H.es.length) : sameG G H = false := by
  simp [sameG]; intro _ _ e; exact h (by rw [e])
theorem es_ne {l m : List Ed} (k : Nat) (h1 : k < l.length) (h2 : k < m.length) (h : l[k] ≠ m[k]) : l ≠ m := by intro e; subst e; exact h rfl
def detB : List Ed → Bool
  | x :: y :: l => !(decide (x.f = y.f) && decide (x.l = y.l)) && detB (y :: l)
  | _ => true
theorem detB_t : ∀ {l : List Ed}, (∀ k (h : k + 1 < l.length), ¬ (l[k].f = l[k + 1].f ∧ l[k].l = l[k + 1].l)) → detB l = true
  | [], _ => rfl
  | [_], _ => rfl
  | x :: y :: l, h => by
    have h0 := h 0 (by simp)
    simp only [List.getElem_cons_zero, List.getElem_cons_succ] at h0
    rw [detB, detB_t (fun k hk => by have := h (k + 1) (by simpa using hk); simpa using this)]
    by_cases h1 : x.f = y.f
    · have : x.l ≠ y.l := fun e => h0 ⟨h1, e⟩
      simp [this]
    · simp [h1]
theorem detB_f : ∀ {l : List Ed} (k : Nat) (h : k + 1 < l.length), l[k].f = l[k + 1].f → l[k].l = l[k + 1].l → detB l = false
  | [], k, h, _, _ => by simp at h
  | [_], k, h, _, _ => by simp at h
  | x :: y :: l, 0, _, h1, h2 => by
    simp only [List.getElem_cons_zero, List.getElem_cons_succ] at h1 h2
    simp [detB, h1, h2]
  | x :: y :: l, k + 1, h, h1, h2 => by
    rw [detB, detB_f k (by simpa using h) (by simpa using h1) (by simpa using h2), Bool.and_false]
/-- Whether a graph is deterministic, and the error number. -/
def detA (G : Gr) : Bool × Int := if chkG G = 0 then (detB G.es, 0) else (false, 1)
theorem detA_bad {G : Gr} (h : chkG G ≠ 0) : detA G = (false, 1) := by unfold detA; rw [if_neg h]
theorem detA_ok {G : Gr} (h : chkG G = 0) : detA G = (detB G.es, 0) := by unfold detA; rw [if_pos h]
def greatG (G : Gr) : Bool := decide (30 < G.es.length) || (decide (10 < G.n) && decide (G.n ≤ 64))

/-! ### Walks -/
theorem rGreat_any (G : Gr) (p : Option Addr) (c : Nat) (w : World) (hl : G.es.length ≤ 9223372036854775807) :
    Calls Tryz.prog 110 #[(.agg #[.int .i64 G.q, .int .i64 G.n, .slice p G.es.length c])] w fun e w' => e = .returned (.bool (greatG G)) ∧ Below w.heap.size w w' := by
  go_enter Tryz.func110, Tryz.ntmps110
  go_wp2
  all_goals go_ret
  all_goals exact ⟨ret_bool (by unfold greatG; rw [Bool.eq_iff_iff]; simp; omega), (Below.refl _ _).alloc (Nat.le_refl _) _⟩
set_option maxRecDepth 100000 in
set_option maxHeartbeats 1000000 in
theorem rSame_any (G H : Gr) (p p' : Option Addr) (c c' : Nat) (w : World) (hG : Sg 3 w edE p G.es) (hH : Sg 3 w edE p' H.es) (lG : G.es.length ≤ 9223372036854775807) (lH : H.es.length ≤ 9223372036854775807) :
    Calls Tryz.prog 19 #[(.agg #[.int .i64 G.q, .int .i64 G.n, .slice p G.es.length c]), (.agg #[.int .i64 H.q, .int .i64 H.n, .slice p' H.es.length c'])] w fun e w' => e = .returned (.bool (sameG G H)) ∧ Below w.heap.size w w' := by
  have hB0 : Below w.heap.size w ((w.alloc (.cells #[.int .i64 G.q, .int .i64 G.n, .slice p G.es.length c] 24)).alloc (.cells #[.int .i64 H.q, .int .i64 H.n, .slice p' H.es.length c'] 24)) := ((Below.refl _ _).alloc (Nat.le_refl _) _).alloc (by simp) _
  have b0 : VRow ((w.alloc (.cells #[.int .i64 G.q, .int .i64 G.n, .slice p G.es.length c] 24)).alloc (.cells #[.int .i64 H.q, .int .i64 H.n, .slice p' H.es.length c'] 24)) w.heap.size 24 [.int .i64 G.q, .int .i64 G.n, .slice p G.es.length c] := (VRow.new w _ _).alloc _
  have b1 : VRow ((w.alloc (.cells #[.int .i64 G.q, .int .i64 G.n, .slice p G.es.length c] 24)).alloc (.cells #[.int .i64 H.q, .int .i64 H.n, .slice p' H.es.length c'] 24)) (w.heap.size + 1) 24 [.int .i64 H.q, .int .i64 H.n, .slice p' H.es.length c'] := VRow.new1 w _ _ _
  have HG := hidI hG; have HH := hidI hH
  clear hG hH
  by_cases hq : G.q = H.q
  · by_cases hn : G.n = H.n
    · by_cases hlen : G.es.length = H.es.length
      · have HS : Hid (sameG G H = decide (G.es = H.es)) := by unfold Hid sameG; rw [decide_eq_true hq, decide_eq_true hn]; rfl
        have d1 : (G.q != H.q) = false := by simpa using hq
        have d2 : (G.n != H.n) = false := by simpa using hn
        have d3 : ((G.es.length : Int) != (H.es.length : Int)) = false := by simp; omega
        have HL := hidI hlen
        clear hq hn hlen
        go_enter Tryz.func19, Tryz.ntmps19
        go_wp2
        clear d1 d2 d3
        generalize ((w.alloc (.cells #[.int .i64 G.q, .int .i64 G.n, .slice p G.es.length c] 24)).alloc (.cells #[.int .i64 H.q, .int .i64 H.n, .slice p' H.es.length c'] 24)) = w0 at *
        go_loopw [5] (fun iv wr => ∃ k : Nat, k ≤ G.es.length ∧ iv = .int .i64 k ∧ Hid (G.es.take k = H.es.take k) ∧ Dr w0 wr) (fun iv _ => G.es.length - (intOf iv).toNat)
        case atStart => exact ⟨0, by omega, rfl, by simp [Hid], Dr.refl _⟩
        case round =>
          obtain ⟨k, hk, rfl, hj, hD⟩ := hrel
          have g2 := (b0.dr hD).at 2 rfl
          have h2 := (b1.dr hD).at 2 rfl
          have hBr := hB0.trans (hD.below _)
          by_cases hlt : k < G.es.length
          · have hlt2 : k < H.es.length := by have := HL.out; omega
            obtain ⟨b3, o3, rfl, _, e0, e1, e2⟩ := (HG.out.below hBr).get3 k hlt rfl
            obtain ⟨b4, o4, rfl, _, e3, e4, e5⟩ := (HH.out.below hBr).get3 k hlt2 rfl
            have hI : (k : Int) < (H.es.length : Int) := by omega
            have hq := neqE G.es[k] H.es[k]
            have hgd := guardE .neq
            by_cases heq : G.es[k] = H.es[k]
            · rw [decide_eq_true heq] at hq
              have HN : Hid (G.es.take (k + 1) = H.es.take (k + 1)) := by unfold Hid; rw [List.take_succ_eq_append_getElem hlt, List.take_succ_eq_append_getElem hlt2, hj.out, heq]
              clear heq
              go_wp2_with fail
              (refine wp_region_quiet_lit (by kernel_rfl) (by kernel_rfl) ?_; (repeat (first | go_big_quiet_step (fail) | quiet_step (fail))); refine wpQuiet_nil ?_; intro _ hwq; obtain ⟨nq, hwq2⟩ := hwq; subst hwq2)
              clear e0 e1 e2 e3 e4 e5 hq hgd g2 h2
              go_wp2
              go_roundw
              case rel => exact ⟨k + 1, by omega, by go_num, HN, hD.one _⟩
              case measure => simp [intOf]; omega
            · rw [decide_eq_false heq] at hq
              have HF : Hid (sameG G H = false) := HS.out.trans (decide_eq_false (es_ne k hlt hlt2 heq))
              clear heq
              go_wp2_with fail
              (refine wp_region_quiet_lit (by kernel_rfl) (by kernel_rfl) ?_; (repeat (first | go_big_quiet_step (fail) | quiet_step (fail))); refine wpQuiet_nil ?_; intro _ hwq; obtain ⟨nq, hwq2⟩ := hwq; subst hwq2)
              clear e0 e1 e2 e3 e4 e5 hq hgd g2 h2
              go_wp2
              go_ret
              exact ⟨ret_bool HF.out.symm, hB0.trans ((hD.one _).below _)⟩
          · have HT : Hid (sameG G H = true) := by
              refine HS.out.trans (decide_eq_true ?_)
              have := hj.out
              rwa [List.take_of_length_le (by omega), List.take_of_length_le (by have := HL.out; omega)] at this
            go_wp2
            go_ret
            exact ⟨ret_bool HT.out.symm, hBr⟩
      · have HF := hidI (sameG_len hlen)
        have d1 : (G.q != H.q) = false := by simpa using hq
        have d2 : (G.n != H.n) = false := by simpa using hn
        have d3 : ((G.es.length : Int) != (H.es.length : Int)) = true := by simp; omega
        clear hq hn hlen
        go_enter Tryz.func19, Tryz.ntmps19
        go_wp2
        go_ret
        exact ⟨ret_bool HF.out.symm, hB0⟩
    · have HF : Hid (sameG G H = false) := by unfold Hid sameG; rw [decide_eq_false hn]; simp
      have d1 : (G.q != H.q) = false := by simpa using hq
      have d2 : (G.n != H.n) = true := by simpa using hn
      clear hq hn
      go_enter Tryz.func19, Tryz.ntmps19
      go_wp2
      go_ret
      exact ⟨ret_bool HF.out.symm, hB0⟩
  · have HF : Hid (sameG G H = false) := by unfold Hid sameG; rw [decide_eq_false hq]; rfl
    have d1 : (G.q != H.q) = true := by simpa using hq
    clear hq
    go_enter Tryz.func19, Tryz.ntmps19
    go_wp2
    go_ret
    exact ⟨ret_bool HF.out.symm, hB0⟩

end Go.Proofs.YtocbhlohcikapaaGreatDoor
namespace Go.Proofs.YtocbhlohcikapaaGreatDoor
open Go.RowKit Go.Sort Go.Shelf Go.Lib

theorem ret_bi' {a : Bool} {b : Int} {x : Bool × Int} (h : x = (a, b)) : Ending.returned (.tuple #[.bool a, .int .i64 b]) = .returned (.tuple #[.bool x.1, .int .i64 x.2]) := by subst h; rfl
def TwoEds (w : World) (a b : Ed) (u v : Value) (wx : World) : Prop :=
  ∃ g h, u = .pointer (some ⟨g, 0, none⟩) ∧ v = .pointer (some ⟨h, 0, none⟩) ∧ VRow wx g 44 (edE a) ∧ VRow wx h 44 (edE b) ∧ Below w.heap.size w wx
set_option maxRecDepth 100000 in
set_option maxHeartbeats 2000000 in
theorem gDet_any (G : Gr) (p : Option Addr) (c : Nat) (w : World) (hin : Sg 3 w edE p G.es) (hl : G.es.length ≤ 9223372036854775807) :
    Calls Tryz.prog 30 #[(.agg #[.int .i64 G.q, .int .i64 G.n, .slice p G.es.length c])] w fun e w' => e = .returned (.tuple #[.bool (detA G).1, .int .i64 (detA G).2]) ∧ Below w.heap.size w w' := by
  have hB0 : Below w.heap.size w (w.alloc (.cells #[.int .i64 G.q, .int .i64 G.n, .slice p G.es.length c] 24)) := (Below.refl _ _).alloc (Nat.le_refl _) _
  have b0 : VRow (w.alloc (.cells #[.int .i64 G.q, .int .i64 G.n, .slice p G.es.length c] 24)) w.heap.size 24 [.int .i64 G.q, .int .i64 G.n, .slice p G.es.length c] := VRow.new w _ _
  have HIN := hidI hin
  obtain ⟨r, hr⟩ : ∃ r, chkG G = r := ⟨_, rfl⟩
  by_cases hr0 : r = 0
  · subst hr0
    have HD := hidI (detA_ok hr)
    have HR := hidI hr
    have hlen : G.es.length ≤ 1024 := (chkG_ok.1 hr).len
    clear hr hin
    go_enter Tryz.func30, Tryz.ntmps30
    go_wp2_with fail
    refine (gCheck_r G p c _ 0 HR.out (HIN.out.below hB0) hl).mono ?_
    rintro e w1 ⟨rfl, hB1⟩
    have x1 := hB0.trans (hB1.mono hB0.size)
    have b1 := b0.below hB1 b0.lt
    have f2 := b1.at 2 rfl
    clear hB0 b0 hB1
    go_wp2
    go_loopw [4] (fun iv wr => ∃ k : Nat, 1 ≤ k ∧ (k ≤ G.es.length ∨ k = 1) ∧ iv = .int .i64 k ∧ Hid (∀ m (h : m + 1 < G.es.length), m + 1 < k → ¬ (G.es[m].f = G.es[m + 1].f ∧ G.es[m].l = G.es[m + 1].l)) ∧ Below w1.heap.size w1 wr) (fun iv _ => G.es.length - (intOf iv).toNat)
    case atStart => exact ⟨1, by omega, .inr rfl, rfl, fun m _ h => by omega, Below.refl _ _⟩
    case round =>
      obtain ⟨k, hk1, hk, rfl, hj, hB⟩ := hrel
      have xr := x1.trans (hB.mono x1.size)
      have br := b1.below hB b1.lt
      have f2 := br.at 2 rfl
      by_cases hlt : k < G.es.length
      · obtain ⟨m, rfl⟩ : ∃ m, k = m + 1 := ⟨k - 1, by omega⟩
        obtain ⟨b3, o3, rfl, hb3, e0, e1, e2⟩ := (HIN.out.below xr).get3 (m + 1) hlt rfl
        obtain ⟨b4, o4, he4, _, e3, e4, e5⟩ := (HIN.out.below xr).get3 m (by omega) rfl
        cases he4
        have hI : (m : Int) + 1 < (G.es.length : Int) := by omega
        have hI2 : (m : Int) < (G.es.length : Int) := by omega
        have HN : Hid (¬ (G.es[m].f = G.es[m + 1].f ∧ G.es[m].l = G.es[m + 1].l) → ∀ i (h : i + 1 < G.es.length), i + 1 < m + 1 + 1 → ¬ (G.es[i].f = G.es[i + 1].f ∧ G.es[i].l = G.es[i + 1].l)) := fun hn i hi h1 => by
          by_cases e : i = m
          · subst e; exact hn
          · exact hj.out i hi (by omega)
        have HF : Hid (G.es[m].f = G.es[m + 1].f → G.es[m].l = G.es[m + 1].l → detB G.es = false) := detB_f m hlt
        have q0 : IntKind.i64.wrap ((m : Int) + 1) = (m : Int) + 1 := IntWalk.i64_in _ (by omega)
        have q1 : IntKind.i64.wrap (m : Int) = (m : Int) := IntWalk.i64_in _ (by omega)
        have m0 : (0 : Int) ≤ (m : Int) := by omega
        have m2 : (0 : Int) ≤ (m : Int) + 1 := by omega
        go_upto_region 6 with fail
        go_cut [5, 6] (fun s5 s6 wx => TwoEds wr G.es[m] G.es[m + 1] s5 s6 wx)
        case first =>
          go_region_held3 (fun w' => w'.cell? ⟨w.heap.size, 2, none⟩ = some (.slice (some ⟨b3, o3, none⟩) G.es.length c) ∧ w'.cell? ⟨b3, o3 + (m + 1) * 3, none⟩ = some (.int .i64 G.es[m + 1].f) ∧ w'.cell? ⟨b3, o3 + (m + 1) * 3 + 1, none⟩ = some (.int .i64 G.es[m + 1].l) ∧ w'.cell? ⟨b3, o3 + (m + 1) * 3 + 2, none⟩ = some (.int .i64 G.es[m + 1].t) ∧
              w'.cell? ⟨b3, o3 + m * 3, none⟩ = some (.int .i64 G.es[m].f) ∧ w'.cell? ⟨b3, o3 + m * 3 + 1, none⟩ = some (.int .i64 G.es[m].l) ∧ w'.cell? ⟨b3, o3 + m * 3 + 2, none⟩ = some (.int .i64 G.es[m].t))
            (first | go_keep) (first | fail)
          all_goals (go_wp2_with fail; go_meet)
          all_goals first
            | exact ⟨_, _, rfl, rfl, ((VRow.new wr 44 (edE G.es[m])).alloc _).dr ⟨1, rfl⟩, (VRow.new1 wr _ 44 (edE G.es[m + 1])).dr ⟨1, rfl⟩, below_dN (((Below.refl _ _).alloc (Nat.le_refl _) _).alloc (by simp) _) 1⟩
            | exact ⟨_, _, rfl, rfl, (VRow.new1 wr _ 44 (edE G.es[m])).dr ⟨1, rfl⟩, ((VRow.new wr 44 (edE G.es[m + 1])).alloc _).dr ⟨1, rfl⟩, below_dN (((Below.refl _ _).alloc (Nat.le_refl _) _).alloc (by simp) _) 1⟩
        case rest =>
          obtain ⟨g, h, rfl, rfl, hra, hrb, hBc⟩ := hcut
          have g0 := hra.at 0 rfl; have g1 := hra.at 1 rfl
          have h0 := hrb.at 0 rfl; have h1 := hrb.at 1 rfl
          have hB2 := hB.trans (hBc.mono hB.size)
          clear e0 e1 e2 e3 e4 e5 f2
          by_cases h3 : G.es[m].f = G.es[m + 1].f
          · have d3 : (G.es[m].f == G.es[m + 1].f) = true := by simpa using h3
            by_cases h4 : G.es[m].l = G.es[m + 1].l
            · have d4 : (G.es[m].l == G.es[m + 1].l) = true := by simpa using h4
              have HX : Hid (detA G = (false, 0)) := HD.out.trans (by rw [HF.out h3 h4])
              clear h3 h4
              go_wp2
              go_ret2
              exact ⟨ret_bi' HX.out, x1.trans (hB2.mono x1.size)⟩
            · have d4 : (G.es[m].l == G.es[m + 1].l) = false := by simpa using h4
              have HX := hidI (HN.out (fun h => h4 h.2))
              clear h3 h4
              go_wp2
              go_roundw
              case rel => exact ⟨m + 1 + 1, by omega, by omega, by go_num, HX, hB2⟩
              case measure => simp [intOf]; omega
          · have d3 : (G.es[m].f == G.es[m + 1].f) = false := by simpa using h3
            have HX := hidI (HN.out (fun h => h3 h.1))
            clear h3
            go_wp2
            go_roundw
            case rel => exact ⟨m + 1 + 1, by omega, by omega, by go_num, HX, hB2⟩
            case measure => simp [intOf]; omega
      · have HX : Hid (detA G = (true, 0)) := HD.out.trans (by rw [detB_t (fun m hm => hj.out m hm (by omega))])
        have hI : ¬ ((k : Int) < (G.es.length : Int)) := by omega
        go_wp2
        go_ret2
        exact ⟨ret_bi' HX.out, xr⟩
  · have hrb : (r == 0) = false := by simpa using hr0
    have HD := hidI (detA_bad (G := G) (by rw [hr]; exact hr0))
    have HR := hidI hr
    clear hr hin hr0
    go_enter Tryz.func30, Tryz.ntmps30
    go_wp2_with fail
    refine (gCheck_r G p c _ r HR.out (HIN.out.below hB0) hl).mono ?_
    rintro e w1 ⟨rfl, hB1⟩
    go_wp2
    go_ret2
    exact ⟨ret_bi' HD.out, hB0.trans (hB1.mono hB0.size)⟩

set_option maxRecDepth 100000 in
set_option maxHeartbeats 2000000 in
theorem rDet_any (G : Gr) (p : Option Addr) (c : Nat) (w : World) (hin : Sg 3 w edE p G.es) (hl : G.es.length ≤ 9223372036854775807) :
    Calls Tryz.prog 97 #[(.agg #[.int .i64 G.q, .int .i64 G.n, .slice p G.es.length c])] w fun e w' => e = .returned (.tuple #[.bool (detA G).1, .int .i64 (detA G).2]) ∧ Below w.heap.size w w' := by
  have hB0 : Below w.heap.size w (w.alloc (.cells #[.int .i64 G.q, .int .i64 G.n, .slice p G.es.length c] 24)) := (Below.refl _ _).alloc (Nat.le_refl _) _
  have b0 : VRow (w.alloc (.cells #[.int .i64 G.q, .int .i64 G.n, .slice p G.es.length c] 24)) w.heap.size 24 [.int .i64 G.q, .int .i64 G.n, .slice p G.es.length c] := VRow.new w _ _
  have HIN := hidI hin
  obtain ⟨r, hr⟩ : ∃ r, chkG G = r := ⟨_, rfl⟩
  by_cases hr0 : r = 0
  · subst hr0
    have HD := hidI (detA_ok hr)
    have HR := hidI hr
    have hlen : G.es.length ≤ 1024 := (chkG_ok.1 hr).len
    clear hr hin
    go_enter Tryz.func97, Tryz.ntmps97
    go_wp2_with fail
    refine (rCheck_r G p c _ 0 HR.out (HIN.out.below hB0) hl).mono ?_
    rintro e w1 ⟨rfl, hB1⟩
    have x1 := hB0.trans (hB1.mono hB0.size)
    have b1 := b0.below hB1 b0.lt
    have f2 := b1.at 2 rfl
    clear hB0 b0 hB1
    go_wp2
    go_loopw [4] (fun iv wr => ∃ k : Nat, 1 ≤ k ∧ (k ≤ G.es.length ∨ k = 1) ∧ iv = .int .i64 k ∧ Hid (∀ m (h : m + 1 < G.es.length), m + 1 < k → ¬ (G.es[m].f = G.es[m + 1].f ∧ G.es[m].l = G.es[m + 1].l)) ∧ Below w1.heap.size w1 wr) (fun iv _ => G.es.length - (intOf iv).toNat)
    case atStart => exact ⟨1, by omega, .inr rfl, rfl, fun m _ h => by omega, Below.refl _ _⟩
    case round =>
      obtain ⟨k, hk1, hk, rfl, hj, hB⟩ := hrel
      have xr := x1.trans (hB.mono x1.size)
      have br := b1.below hB b1.lt
      have f2 := br.at 2 rfl
      by_cases hlt : k < G.es.length
      · obtain ⟨m, rfl⟩ : ∃ m, k = m + 1 := ⟨k - 1, by omega⟩
        obtain ⟨b3, o3, rfl, hb3, e0, e1, e2⟩ := (HIN.out.below xr).get3 (m + 1) hlt rfl
        obtain ⟨b4, o4, he4, _, e3, e4, e5⟩ := (HIN.out.below xr).get3 m (by omega) rfl
        cases he4
        have hI : (m : Int) + 1 < (G.es.length : Int) := by omega
        have hI2 : (m : Int) < (G.es.length : Int) := by omega
        have q1 : IntKind.i64.wrap (m : Int) = (m : Int) := IntWalk.i64_in _ (by omega)
        have m0 : (0 : Int) ≤ (m : Int) := by omega
        have HN : Hid (¬ (G.es[m].f = G.es[m + 1].f ∧ G.es[m].l = G.es[m + 1].l) → ∀ i (h : i + 1 < G.es.length), i + 1 < m + 1 + 1 → ¬ (G.es[i].f = G.es[i + 1].f ∧ G.es[i].l = G.es[i + 1].l)) := fun hn i hi h1 => by
          by_cases e : i = m
          · subst e; exact hn
          · exact hj.out i hi (by omega)
        have HF : Hid (G.es[m].f = G.es[m + 1].f → G.es[m].l = G.es[m + 1].l → detB G.es = false) := detB_f m hlt
        by_cases h3 : G.es[m].f = G.es[m + 1].f
        · have d3 : (G.es[m + 1].f == G.es[m].f) = true := by simpa using h3.symm
          by_cases h4 : G.es[m].l = G.es[m + 1].l
          · have d4 : (G.es[m + 1].l == G.es[m].l) = true := by simpa using h4.symm
            have HX : Hid (detA G = (false, 0)) := HD.out.trans (by rw [HF.out h3 h4])
            clear h3 h4
            go_wp2_with fail
            (refine wp_region_quiet_lit (by kernel_rfl) (by kernel_rfl) ?_; (repeat (first | go_big_quiet_step (fail) | quiet_step (fail))); refine wpQuiet_nil ?_; intro _ hwq; obtain ⟨nq, hwq2⟩ := hwq; subst hwq2)
            go_wp2
            go_ret2
            exact ⟨ret_bi' HX.out, below_dN xr nq⟩
          · have d4 : (G.es[m + 1].l == G.es[m].l) = false := by simpa using fun h : G.es[m + 1].l = G.es[m].l => h4 h.symm
            have HX := hidI (HN.out (fun h => h4 h.2))
            clear h3 h4
            go_wp2_with fail
            (refine wp_region_quiet_lit (by kernel_rfl) (by kernel_rfl) ?_; (repeat (first | go_big_quiet_step (fail) | quiet_step (fail))); refine wpQuiet_nil ?_; intro _ hwq; obtain ⟨nq, hwq2⟩ := hwq; subst hwq2)
            go_wp2
            go_roundw
            case rel => exact ⟨m + 1 + 1, by omega, by omega, by go_num, HX, below_dN hB nq⟩
            case measure => simp [intOf]; omega
        · have d3 : (G.es[m + 1].f == G.es[m].f) = false := by simpa using fun h : G.es[m + 1].f = G.es[m].f => h3 h.symm
          have HX := hidI (HN.out (fun h => h3 h.1))
          clear h3
          go_wp2_with fail
          (refine wp_region_quiet_lit (by kernel_rfl) (by kernel_rfl) ?_; (repeat (first | go_big_quiet_step (fail) | quiet_step (fail))); refine wpQuiet_nil ?_; intro _ hwq; obtain ⟨nq, hwq2⟩ := hwq; subst hwq2)
          go_wp2
          go_roundw
          case rel => exact ⟨m + 1 + 1, by omega, by omega, by go_num, HX, below_dN hB nq⟩
          case measure => simp [intOf]; omega
      · have HX : Hid (detA G = (true, 0)) := HD.out.trans (by rw [detB_t (fun m hm => hj.out m hm (by omega))])
        have hI : ¬ ((k : Int) < (G.es.length : Int)) := by omega
        go_wp2
        go_ret2
        exact ⟨ret_bi' HX.out, xr⟩
  · have hrb : (r == 0) = false := by simpa using hr0
    have HD := hidI (detA_bad (G := G) (by rw [hr]; exact hr0))
    have HR := hidI hr
    clear hr hin hr0
    go_enter Tryz.func97, Tryz.ntmps97
    go_wp2_with fail
    refine (rCheck_r G p c _ r HR.out (HIN.out.below hB0) hl).mono ?_
    rintro e w1 ⟨rfl, hB1⟩
    go_wp2
    go_ret2
    exact ⟨ret_bi' HD.out, hB0.trans (hB1.mono hB0.size)⟩
end Go.Proofs.YtocbhlohcikapaaGreatDoor
