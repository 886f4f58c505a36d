/-
  Walks: slices.Compact on edges of the call's own.
-/
import Derived.Test.YtlgjhmenjfmpfaaGd
namespace Go.Proofs.Ytlgjhmenjfmpfaa
open Go.RowKit Go.Sort Go.Shelf Go.Lib

theorem grown_set {w w1 : World} {g i : Nat} (h : w.grownBy w1 (some g)) (u : Value) : w.grownBy (w1.setCell ⟨g, i, none⟩ u) (some g) :=
  ⟨h.os, h.tape, h.output, by rw [setCell_eq]; simpa [mapBlock] using h.size, fun k hk hne => (Below.heap_setCell _ _ _ _ (fun e => hne (by rw [e]))).trans (h.block k hk hne)⟩
/-- Edges once each, in the memory that the call owned. -/
theorem grown_dr {w w1 w' : World} {r : Option Nat} (h : Dr w1 w') (k : w.grownBy w1 r) : w.grownBy w' r := by
  obtain ⟨q, rfl⟩ := h; exact ⟨k.os, k.tape, k.output, k.size, k.block⟩
def RetCmp (B g cap : Nat) (l : List Ed) (w : World) (e : Ending) (w' : World) : Prop := e = .returned (.slice (some ⟨g, 0, none⟩) l.length cap) ∧ w'.ownsRow B 47 3 (.slice (some ⟨g, 0, none⟩) l.length cap) l.length (cat l) ∧ w.grownBy w' (some g)
theorem RetCmp.of {B g cap : Nat} {x r : List Ed} {w w' : World} (hr : x = r) (ho : w'.ownsRow B 47 3 (.slice (some ⟨g, 0, none⟩) r.length cap) r.length (cat r)) (hg : w.grownBy w' (some g)) : RetCmp B g cap x w (.returned (.slice (some ⟨g, 0, none⟩) r.length cap)) w' := by
  subst hr; exact ⟨rfl, ho, hg⟩
theorem compactE_short (l : List Ed) (B g n cap : Nat) (w : World) (h : w.ownsRow B 47 3 (.slice (some ⟨g, 0, none⟩) n cap) n (cat l)) (h2 : n < 2) :
    Calls Try.prog 59 #[.slice (some ⟨g, 0, none⟩) n cap] w (RetCmp B g cap (compact l) w) := by
  have hl : l.length = n := by have := h.1; rw [cat_len] at this; omega
  have hc : compact l = l := by
    match l, hl with
    | [], _ => rfl
    | [_], _ => rfl
    | _ :: _ :: _, hl => simp at hl; omega
  rw [hc]
  have h2' : (n : Int) < 2 := by omega
  have HH := hidI h
  clear h hc
  go_enter Try.func59, Try.ntmps59
  go_wp2
  go_ret
  subst hl
  exact ⟨rfl, HH.out, World.grownBy.refl _ _⟩
set_option maxRecDepth 100000 in
set_option maxHeartbeats 2000000 in
theorem compactE_long (l : List Ed) (B g n cap : Nat) (w : World) (h : w.ownsRow B 47 3 (.slice (some ⟨g, 0, none⟩) n cap) n (cat l)) (h2 : 2 ≤ n) (hn : n ≤ 100000) :
    Calls Try.prog 59 #[.slice (some ⟨g, 0, none⟩) n cap] w (RetCmp B g cap (compact l) w) := by
  have hl : l.length = n := by have := h.1; rw [cat_len] at this; omega
  have hnc : n ≤ cap := own_cap h _ _ _ rfl
  have h2' : ¬ ((n : Int) < 2) := by omega
  have HH := hidI h
  clear h
  go_enter Try.func59, Try.ntmps59
  go_wp2
  go_loopw [3] (fun kv wr => ∃ k : Nat, 1 ≤ k ∧ k ≤ n ∧ kv = .int .i64 k ∧ Hid (∀ m (hm : m + 1 < l.length), m + 1 < k → l[m] ≠ l[m + 1]) ∧ Dr w wr) (fun kv _ => n - (intOf kv).toNat)
  case atStart => exact ⟨1, by omega, by omega, rfl, fun m _ h => by omega, Dr.refl _⟩
  case round =>
    obtain ⟨k, hk1, hk, rfl, hj, hD⟩ := hrel
    have hown := HH.out.dr hD
    by_cases hlt : k < n
    · obtain ⟨m, rfl⟩ : ∃ m, k = m + 1 := ⟨k - 1, by omega⟩
      obtain ⟨e0, e1, e2, _, hg⟩ := own_cell3 hown (m + 1) (by omega)
      obtain ⟨e3, e4, e5, _, _⟩ := own_cell3 hown m (by omega)
      have hI : (m : Int) + 1 < (n : Int) := by omega
      have hI2 : (m : Int) < (n : Int) := by omega
      have hq := eqlE l[m + 1] l[m]
      have hgd := guardE .eql
      by_cases heq : l[m + 1] = l[m]
      · rw [decide_eq_true heq] at hq
        have HQ := hidI heq
        clear heq
        have hk0 : ¬ cap = m + 1 := by omega
        have q0 : IntKind.i64.wrap ((m : Int) + 1) = (m : Int) + 1 := IntWalk.i64_in _ (by omega)
        have hI3 : (m : Int) + 1 ≤ (n : Int) := by omega
        have hI4 : (n : Int) ≤ (cap : Int) := by omega
        go_wp2_with fail
        (refine wp_region_quiet_lit (by kernel_rfl) (by kernel_rfl) ?_; (repeat (first | go_big_quiet_step (fail) | quiet_step (fail))); refine wpQuiet_nil ?_; intro _ hwq; obtain ⟨nq, hwq2⟩ := hwq; subst hwq2)
        clear e0 e1 e2 e3 e4 e5 hq hgd hI hI2
        go_wp2
        have HC0 : Hid (l.take (m + 1) = compact (l.take (m + 1 + 1))) := by
          unfold Hid
          rw [compact_succ l m (by omega), if_pos HQ.out.symm]
          exact (compact_same _ (fun i hi => by
            rw [List.length_take] at hi
            rw [List.getElem_take, List.getElem_take]
            exact hj.out i (by omega) (by omega))).symm
        have hgr : w.grownBy (wr.drewN nq) (some g) := grown_dr (hD.one nq) (World.grownBy.refl _ _)
        have hown1 : (wr.drewN nq).ownsRow B 47 3 (.slice (some ⟨g, 0, none⟩) n cap) n (cat l) := hown
        have HG := hidI hgr
        have HO := hidI hown1
        clear hgr hown1 hown hD
        generalize wr.drewN nq = w1 at HG HO ⊢
        go_loopw [3, 5] (fun kv jv wr => ∃ (kk i : Nat) (d : List Ed), 1 ≤ kk ∧ kk ≤ m + (i + 1) ∧ i + 1 ≤ n - (m + 1) ∧ kv = .int .i64 kk ∧ jv = .int .i64 (i + 1 : Nat) ∧ Hid (d.length = n ∧ d.take kk = compact (l.take (m + 1 + (i + 1))) ∧ d.drop (m + (i + 1)) = l.drop (m + (i + 1))) ∧
          wr.ownsRow B 47 3 (.slice (some ⟨g, 0, none⟩) n cap) n (cat d) ∧ w.grownBy wr (some g)) (fun _ jv _ => n - (intOf jv).toNat)
        case atStart => exact ⟨m + 1, 0, l, by omega, by omega, by omega, rfl, rfl, ⟨hl, HC0.out, rfl⟩, HO.out, HG.out⟩
        case round =>
          obtain ⟨kk, i, d, hkk1, hkk, hi, rfl, rfl, hd, hown, hgw⟩ := hrel
          obtain ⟨hdl, hdt, hdd⟩ := hd.out
          have hgets : ∀ x, m + (i + 1) ≤ x → ∀ (h1 : x < d.length) (h2 : x < l.length), d[x] = l[x] := fun x hx h1 h2 => by
            have e1 : d[x]? = (d.drop (m + (i + 1)))[x - (m + (i + 1))]? := by rw [List.getElem?_drop]; congr 1; omega
            have e2 : l[x]? = (l.drop (m + (i + 1)))[x - (m + (i + 1))]? := by rw [List.getElem?_drop]; congr 1; omega
            have : d[x]? = l[x]? := by rw [e1, e2, hdd]
            rw [List.getElem?_eq_getElem h1, List.getElem?_eq_getElem h2] at this
            exact Option.some.inj this
          by_cases hlt : i + 1 < n - (m + 1)
          · obtain ⟨e0, e1, e2, hfz, hg⟩ := own_cell3 hown (m + 1 + (i + 1)) (by omega)
            obtain ⟨e3, e4, e5, _, _⟩ := own_cell3 hown (m + 1 + i) (by omega)
            obtain ⟨k0, k1, k2, _, _⟩ := own_cell3 hown kk (by omega)
            have hx1 : d[m + 1 + (i + 1)] = l[m + 1 + (i + 1)] := hgets _ (by omega) _ (by omega)
            have hx0 : d[m + 1 + i] = l[m + 1 + i] := hgets _ (by omega) _ (by omega)
            rw [hx1] at e0 e1 e2
            rw [hx0] at e3 e4 e5
            rw [Nat.add_mul (m + 1) (i + 1) 3] at e0 e1 e2
            rw [Nat.add_mul (m + 1) i 3] at e3 e4 e5
            have HX1 := hidI hx1
            clear hx1 hx0 hgets
            have HD := hidI hdd; have HT := hidI hdt; have HL := hidI hdl
            clear hdd hdt
            have hz : (i : Int) + 1 < (n : Int) - ((m : Int) + 1) := by omega
            have hI1 : (i : Int) + 1 < ((n - (m + 1) : Nat) : Int) := by omega
            have hI2 : (i : Int) < ((n - (m + 1) : Nat) : Int) := by omega
            have hq := neqE l[m + 1 + (i + 1)] l[m + 1 + i]
            have hgd := guardE .neq
            have HCT := hidI (compact_succ l (m + 1 + i) (by omega))
            by_cases heq : l[m + 1 + (i + 1)] = l[m + 1 + i]
            · rw [decide_eq_true heq] at hq
              have HN : Hid (d.length = n ∧ d.take kk = compact (l.take (m + 1 + (i + 1 + 1))) ∧ d.drop (m + (i + 1 + 1)) = l.drop (m + (i + 1 + 1))) := ⟨HL.out, HT.out.trans (HCT.out.trans (if_pos heq.symm)).symm
                , by have := congrArg (List.drop 1) HD.out; rw [List.drop_drop, List.drop_drop] at this; exact this⟩
              clear heq HCT k0 k1 k2
              go_wp2_with fail
              (refine wp_region_quiet_lit (by kernel_rfl) (by kernel_rfl) ?_; (repeat (first | go_big_quiet_step (fail) | quiet_step (fail))); refine wpQuiet_nil ?_; intro _ hwq; obtain ⟨nq, hwq2⟩ := hwq; subst hwq2)
              clear e0 e1 e2 e3 e4 e5 hq hgd
              go_wp2
              go_roundw
              case rel => exact ⟨kk, i + 1, d, hkk1, by omega, by omega, rfl, by go_num, HN, hown, grown_dr ⟨nq, rfl⟩ hgw⟩
              case measure => simp [intOf]; omega
            · rw [decide_eq_false heq] at hq
              have HN : Hid ((d.set kk l[m + 1 + (i + 1)]).length = n ∧ (d.set kk l[m + 1 + (i + 1)]).take (kk + 1) = compact (l.take (m + 1 + (i + 1 + 1))) ∧ (d.set kk l[m + 1 + (i + 1)]).drop (m + (i + 1 + 1)) = l.drop (m + (i + 1 + 1))) := by
                refine ⟨by rw [List.length_set]; exact HL.out, ?_, ?_⟩
                · have h1 : compact (l.take (m + 1 + (i + 1 + 1))) = compact (l.take (m + 1 + (i + 1))) ++ [l[m + 1 + (i + 1)]] := HCT.out.trans (if_neg (fun e => heq e.symm))
                  rw [h1, ← HT.out, List.take_succ_eq_append_getElem (by rw [List.length_set]; omega), List.getElem_set_self, List.take_set_of_le (Nat.le_refl _)]
                · rw [List.drop_set_of_lt (by omega)]
                  have := congrArg (List.drop 1) HD.out; rw [List.drop_drop, List.drop_drop] at this; exact this
              have k3 := hfz (kk * 3); have k4 := hfz (kk * 3 + 1); have k5 := hfz (kk * 3 + 2)
              have hkI : (kk : Int) < (n : Int) := by omega
              have HX3 := fun (q : Nat) => own_set3 (w := wr.drewN q) (k := kk) (show (wr.drewN q).ownsRow B 47 3 (.slice (some ⟨g, 0, none⟩) n cap) n (cat d) from hown) l[m + 1 + (i + 1)]
              have HX := hidI HX3
              clear heq HCT HX3
              go_wp2_with fail
              (refine wp_region_quiet_lit (by kernel_rfl) (by kernel_rfl) ?_; (repeat (first | go_big_quiet_step (fail) | quiet_step (fail))); refine wpQuiet_nil ?_; intro _ hwq; obtain ⟨nq, hwq2⟩ := hwq; subst hwq2)
              clear hq hgd
              go_wp2
              go_roundw
              case rel => (repeat apply Exists.intro); exact ⟨⟨kk + 1, i + 1, d.set kk l[m + 1 + (i + 1)], by omega, by omega, by omega, by go_num, by go_num, HN, HX.out nq, grown_set (grown_set (grown_set (grown_dr ⟨nq, rfl⟩ hgw) _) _) _⟩, rfl⟩
              case measure => simp [intOf]; omega
          · have hie : i + 1 = n - (m + 1) := by omega
            have HCE : Hid (compact l = d.take kk) := by
              unfold Hid
              rw [hdt, show m + 1 + (i + 1) = l.length by omega, List.take_length]
            have hkn : kk < n := by omega
            have hkl : (d.take kk).length = kk := by rw [List.length_take]; omega
            obtain ⟨W', hcl, hownW, hgW⟩ := own_clear hown kk hkn
            have HL := hidI hkl
            have hkI : (kk : Int) ≤ (n : Int) := by omega
            have hkc : (kk : Int) ≤ (cap : Int) := by omega
            have hk00 : ¬ cap = kk := by omega
            have hni : ¬ ((i : Int) + 1 < ((n - (m + 1) : Nat) : Int)) := by omega
            have HGW := hidI (World.grownBy.trans hgw hgW)
            have HOW := hidI hownW
            clear hgets hdt hdd hkl hie hown hownW hgW
            go_wp2
            go_ret
            have := RetCmp.of (B := B) (cap := cap) HCE.out (by rw [HL.out]; exact HOW.out) HGW.out
            rw [HL.out] at this
            exact this
      · rw [decide_eq_false heq] at hq
        have HN : Hid (∀ i (hi : i + 1 < l.length), i + 1 < m + 1 + 1 → l[i] ≠ l[i + 1]) := fun i hi hlt => by
          by_cases e : i = m
          · subst e; exact fun e => heq e.symm
          · exact hj.out i hi (by omega)
        clear heq
        go_wp2_with fail
        (refine wp_region_quiet_lit (by kernel_rfl) (by kernel_rfl) ?_; (repeat (first | go_big_quiet_step (fail) | quiet_step (fail))); refine wpQuiet_nil ?_; intro _ hwq; obtain ⟨nq, hwq2⟩ := hwq; subst hwq2)
        go_wp2
        go_roundw
        case rel => exact ⟨m + 1 + 1, by omega, by omega, by go_num, HN, hD.one _⟩
        case measure => simp [intOf]; omega
    · obtain rfl : k = n := by omega
      have HC : Hid (compact l = l) := compact_same l (fun m hm => hj.out m hm (by omega))
      go_wp2
      go_ret
      subst hl
      exact RetCmp.of HC.out hown (grown_dr hD (World.grownBy.refl _ _))
theorem own_forms {w : World} {base size n : Nat} {e : TypeId} {v : Value} {xs : List Value} (h : w.ownsRow base e size v n xs) : (v = .slice none 0 0 ∧ n = 0) ∨ ∃ g cap, v = .slice (some ⟨g, 0, none⟩) n cap := by
  rcases h.2 with h | ⟨g, cap, _, hv, _⟩
  · exact .inl h
  · exact .inr ⟨g, cap, hv⟩
/-- Edges in memory of the call's own, from block B on. -/
def RetOwnB (B : Nat) (l : List Ed) (w : World) (e : Ending) (w' : World) : Prop := ∃ v, e = .returned v ∧ w'.ownsRow B 47 3 v l.length (cat l) ∧ Below B w w'
theorem compactE_any (l : List Ed) (B n : Nat) (v : Value) (w : World) (h : w.ownsRow B 47 3 v n (cat l)) (hn : n ≤ 100000) (hB : B ≤ w.heap.size) :
    Calls Try.prog 59 #[v] w (RetOwnB B (compact l) w) := by
  rcases own_forms h with ⟨rfl, rfl⟩ | ⟨g, cap, rfl⟩
  · have : l = [] := List.length_eq_zero_iff.1 (by have := h.1; rw [cat_len] at this; omega)
    subst this
    clear h
    go_enter Try.func59, Try.ntmps59
    go_wp2
    go_ret
    exact ⟨_, rfl, World.ownsRow_nil _ _ _ _, Below.refl _ _⟩
  · have hg : B ≤ g := (h.lt g rfl).1
    by_cases h2 : n < 2
    · refine (compactE_short l B g n cap w h h2).mono ?_
      rintro e w' ⟨rfl, ho, hgr⟩
      exact ⟨_, rfl, ho, (Below.refl _ _).grown hgr hB (fun j e => by cases e; exact hg)⟩
    · refine (compactE_long l B g n cap w h (by omega) hn).mono ?_
      rintro e w' ⟨rfl, ho, hgr⟩
      exact ⟨_, rfl, ho, (Below.refl _ _).grown hgr hB (fun j e => by cases e; exact hg)⟩
theorem sortE_any (l : List Ed) (B n bf : Nat) (v : Value) (w : World) (h : w.ownsRow B 47 3 v n (cat l)) (hf : w.cell? ⟨bf, 0, none⟩ = some (.func (.func 58) #[] #[])) (hne : v.ownBlock ≠ some bf) (hn : n ≤ 100000) (hB : B ≤ w.heap.size) :
    Calls Try.prog 56 #[v, .func (.func 71) #[] #[.pointer (some ⟨bf, 0, none⟩)]] w fun e w' => e = .returned (.tuple #[]) ∧ w'.ownsRow B 47 3 v n (cat (srtE l)) ∧ Below B w w' := by
  rcases own_forms h with ⟨rfl, rfl⟩ | ⟨g, cap, rfl⟩
  · have : l = [] := List.length_eq_zero_iff.1 (by have := h.1; rw [cat_len] at this; omega)
    subst this
    have hcon := AnyF.slices_SortFunc_none Try.laySortE none 0 (.func (.func 71) #[] #[.pointer (some ⟨bf, 0, none⟩)]) w
    refine Calls.mono hcon ?_
    rintro e w' ⟨rfl, rfl⟩
    exact ⟨rfl, by rw [show srtE [] = [] by simp [srtE]]; exact World.ownsRow_nil _ _ _ _, Below.refl _ _⟩
  · have hg : B ≤ g := (h.lt g rfl).1
    refine (sortE_own l B _ g n cap bf w h hf (fun e => hne (by rw [e]; rfl)) hn).mono ?_
    rintro e w' ⟨rfl, ho, hgr⟩
    exact ⟨rfl, ho, (Below.refl _ _).grown hgr hB (fun j e => by cases e; exact hg)⟩
end Go.Proofs.Ytlgjhmenjfmpfaa
