/-
  MinimalIncludes: whatever two graphs and labels come in, the law returns true, and its arguments read as they did; the tables of the library that its row lists are tied to the program's text.
-/
import Derived.Test.YtmdjndbjfgncmaaGreatDoorMil
import Derived.Test.YtmdjndbjfgncmaaGreatDoorMij
set_option linter.unusedVariables false
set_option linter.unusedSimpArgs false
namespace Go.Proofs.YtmdjndbjfgncmaaGreatDoor
open Go.RowKit Go.Sort Go.Shelf Go.Lib

set_option maxRecDepth 100000 in
set_option maxHeartbeats 1000000 in
theorem all13_any (G : Gr) (p : Option Addr) (c N : Nat) (w : World) (hN : G.n = N) (h64 : N ≤ 64) :
    Calls Tryz.prog 25 #[(.agg #[.int .i64 G.q, .int .i64 G.n, .slice p G.es.length c])] w (RetLd (upto N) w) := by
  obtain ⟨w0, hw0⟩ : ∃ w0, w0 = w.alloc (.cells #[.int .i64 G.q, .int .i64 G.n, .slice p G.es.length c] 24) := ⟨_, rfl⟩
  have b0 : VRow w0 w.heap.size 24 [.int .i64 G.q, .int .i64 G.n, .slice p G.es.length c] := by subst hw0; exact VRow.new w _ _
  have hB0 : RowKit.Below w.heap.size w w0 := by subst hw0; exact (RowKit.Below.refl _ _).alloc (Nat.le_refl _) _
  have f1 := b0.at 1 rfl
  rw [hN] at f1
  clear hN
  go_enter Tryz.func25, Tryz.ntmps25
  go_upto_region 1 with fail
  rw [← hw0]
  clear hw0
  go_wp2
  go_loopw [3, 7] (fun sv kv wr => ∃ (k : Nat) (q : Option Addr) (d : Nat), k ≤ N ∧ sv = .slice q k d ∧ kv = .int .i64 k ∧ wr.ownsRow w0.heap.size 3 1 (.slice q k d) k ((upto k).map (Value.int .i64)) ∧ RowKit.Below w0.heap.size w0 wr) (fun _ kv _ => N - (intOf kv).toNat)
  case atStart => exact ⟨0, none, 0, by omega, rfl, rfl, World.ownsRow_nil _ _ _ _, RowKit.Below.refl _ _⟩
  case round =>
    obtain ⟨k, q, d, hk, rfl, rfl, hown, hB⟩ := hrel
    by_cases hlt : k < N
    · have hltI : (k : Int) < (N : Int) := by omega
      have h1 := hown.alloc (.cells #[.int .i64 (k : Int)] 3)
      have h2 := own_oneI wr (k : Int)
      have hB2 := hB.alloc hB.size (.cells #[.int .i64 (k : Int)] 3)
      have hsz := hB2.size
      go_wp2_with (at_builtin; refine wpList_app_both rfl _ _ rfl _ _ rfl rfl w0.heap.size wr.heap.size k 1 (upto k) [(k : Int)] h1 h2 (by omega) hsz ?_; intro v' w9 hown' hgrow; rw [← upto_succ] at hown'; have hB9 := hB2.grown hgrow hsz (fun j e => (h1.lt j e).1); obtain ⟨q9, d9, hv9, _⟩ := own_sl hown'; rw [upto_len] at hv9; subst hv9)
      go_roundw
      case rel => exact ⟨k + 1, q9, d9, by omega, rfl, by go_num, hown', hB9⟩
      case measure => simp [intOf]; omega
    · obtain rfl : N = k := by omega
      have hltI : ¬ (N : Int) < (N : Int) := by omega
      have hBw := hB0.trans (hB.mono hB0.size)
      have hl := upto_len N
      obtain ⟨q9, d9, hv9, hs9⟩ := own_sl hown
      rw [upto_len] at hv9
      cases hv9
      clear hl
      go_wp2
      go_ret
      exact ⟨q, d, by rw [upto_len]; rfl, hs9, hBw⟩
end Go.Proofs.YtmdjndbjfgncmaaGreatDoor
namespace Go.Proofs.YtmdjndbjfgncmaaGreatDoor
open Go.RowKit

def wordA (G : Gr) (w : List Int) : Bool := decide (leadsA G (upto G.n.toNat) w ≠ [])
theorem includes_plain (G H : Gr) : ((srA G H incB).2.2 ≠ 0 → (srA G H incB).1 = [] ∧ (srA G H incB).2.1 = false) ∧
    ((srA G H incB).2.2 = 0 → (srA G H incB).2.1 = false → wordA G (srA G H incB).1 = true ∧ wordA H (srA G H incB).1 = false) ∧
    ((srA G H incB).2.2 = 0 → (srA G H incB).2.1 = true → (srA G H incB).1 = [] ∧ ∀ w, Lab G.q.toNat w → wordA G w = true → wordA H w = true) := by
  by_cases hc : chkG G ≠ 0 ∨ chkG H ≠ 0
  · have e1 : srA G H incB = ([], false, 1) := by unfold srA; rw [if_pos hc]
    rw [e1]
    exact ⟨fun _ => ⟨rfl, rfl⟩, (fun h => by cases h), (fun h => by cases h)⟩
  · have hG : chkG G = 0 := Decidable.byContradiction fun h => hc (.inl h)
    have hH : chkG H = 0 := Decidable.byContradiction fun h => hc (.inr h)
    by_cases kG : (sbA G).2.2 = 0
    · by_cases kH : (sbA H).2.2 = 0
      · have wG := word_iff hG kG
        have wH := word_iff hH kH
        by_cases h0 : st0 G = -1 ∧ st0 H = -1
        · have e1 : srA G H incB = ([], true, 0) := by unfold srA; rw [if_neg hc, if_neg (by simp [kG]), if_neg (by simp [kH]), if_pos h0]
          rw [e1]
          refine ⟨fun h => absurd rfl h, (fun _ h => by cases h), fun _ _ => ⟨rfl, fun w _ h => ?_⟩⟩
          have h2 := (wG w).1 (of_decide_eq_true h)
          rw [h0.1] at h2
          have := run1_neg (es := (sbA G).1.es) w (s := -1) (by omega)
          omega
        · have e1 : srA G H incB = ((fwA (srO G H incB)).1, !(fwA (srO G H incB)).2, 0) := by unfold srA; rw [if_neg hc, if_neg (by simp [kG]), if_neg (by simp [kH]), if_neg h0]
          rw [e1]
          obtain ⟨b1, b2, b3⟩ := sb_bd0 kG
          obtain ⟨c1, c2, c3⟩ := sb_bd0 kH
          have L1 := include_laws (L := (max G.q H.q).toNat) b1 c1 b2 b3 c2 c3
          change (match srO G H incB with | some w => Lab (max G.q H.q).toNat w ∧ 0 ≤ run1 (sbA G).1.es (st0 G) w ∧ run1 (sbA H).1.es (st0 H) w < 0 | none => ∀ v, Lab (max G.q H.q).toNat v → 0 ≤ run1 (sbA G).1.es (st0 G) v → 0 ≤ run1 (sbA H).1.es (st0 H) v) at L1
          cases ho : srO G H incB with
          | none =>
            rw [ho] at L1
            refine ⟨fun h => absurd rfl h, (fun _ h => by cases h), fun _ _ => ⟨rfl, fun w hl h => ?_⟩⟩
            have h2 := (wG w).1 (of_decide_eq_true h)
            have h3 := L1 w (fun x hx => by have := hl x hx; omega) h2
            exact decide_eq_true ((wH w).2 h3)
          | some v =>
            rw [ho] at L1
            obtain ⟨k1, k2, k3⟩ := L1
            refine ⟨fun h => absurd rfl h, fun _ _ => ⟨decide_eq_true ((wG v).2 k2), decide_eq_false (fun h => ?_)⟩, (fun _ h => by cases h)⟩
            have := (wH v).1 h
            omega
      · have e1 : srA G H incB = ([], false, (sbA H).2.2) := by unfold srA; rw [if_neg hc, if_neg (by simp [kG]), if_pos kH]
        rw [e1]
        exact ⟨fun _ => ⟨rfl, rfl⟩, fun h => absurd h kH, fun h => absurd h kH⟩
    · have e1 : srA G H incB = ([], false, (sbA G).2.2) := by unfold srA; rw [if_neg hc, if_pos kG]
      rw [e1]
      exact ⟨fun _ => ⟨rfl, rfl⟩, fun h => absurd h kG, fun h => absurd h kG⟩
end Go.Proofs.YtmdjndbjfgncmaaGreatDoor
namespace Go.Proofs.YtmdjndbjfgncmaaGreatDoor
open Go.RowKit Go.Sort Go.Shelf Go.Lib

theorem minc_any (s t : Int) (w : World) (hs : -1 ≤ s) (ht : -1 ≤ t) :
    Calls Tryz.prog 23 #[.agg #[.int .i64 s, .int .i64 t]] w fun e w' => e = .returned (.bool (incB (s, t))) ∧ RowKit.Below w.heap.size w w' := by
  have hB0 : RowKit.Below w.heap.size w (w.alloc (.cells #[.int .i64 s, .int .i64 t] 48)) := (RowKit.Below.refl _ _).alloc (Nat.le_refl _) _
  have HO : Hid (incB (s, t) = (decide (0 ≤ s) && decide (t < 0))) := rfl
  by_cases h1 : s < 0
  · have e1 : (s == -1) = true := by simp; omega
    have e1' : (s != -1) = false := by simp; omega
    have hd : decide (0 ≤ s) = false := decide_eq_false (by omega)
    have HX : Hid (incB (s, t) = false) := by rw [Hid, HO.out, hd]; rfl
    clear h1 hd HO
    go_enter Tryz.func23, Tryz.ntmps23
    go_wp2
    go_ret
    exact ⟨ret_bool HX.out.symm, hB0⟩
  · have e1 : (s == -1) = false := by simp; omega
    have e1' : (s != -1) = true := by simp; omega
    have hd : decide (0 ≤ s) = true := decide_eq_true (by omega)
    have e2 : (t == -1) = decide (t < 0) := by rw [Bool.eq_iff_iff]; simp; omega
    have HX : Hid (incB (s, t) = decide (t < 0)) := by rw [Hid, HO.out, hd]; rfl
    clear h1 hd HO
    go_enter Tryz.func23, Tryz.ntmps23
    go_wp2
    go_ret
    exact ⟨ret_bool HX.out.symm, hB0⟩
theorem inc_at (n m : Nat) (w : World) : IsAt n m incB 23 #[] w := fun W s t _ h1 _ h2 _ => by
  show Calls Tryz.prog 23 #[.agg #[.int .i64 s, .int .i64 t]] W _
  exact minc_any s t W h1 h2

set_option maxRecDepth 100000 in
set_option maxHeartbeats 1000000 in
theorem mIncluded_any (G H : Gr) (p p' : Option Addr) (c c' : Nat) (w : World) (hin : Sg 3 w edE p G.es) (hin' : Sg 3 w edE p' H.es) (hl : G.es.length ≤ 9223372036854775807) (hl' : H.es.length ≤ 9223372036854775807) :
    Calls Tryz.prog 8 #[(.agg #[.int .i64 G.q, .int .i64 G.n, .slice p G.es.length c]), (.agg #[.int .i64 H.q, .int .i64 H.n, .slice p' H.es.length c'])] w (RetSp (srA G H incB).1 (srA G H incB).2.1 (srA G H incB).2.2 w) := by
  obtain ⟨w0, hw0⟩ : ∃ w0, w0 = (w.alloc (.cells #[.int .i64 G.q, .int .i64 G.n, .slice p G.es.length c] 24)).alloc (.cells #[.int .i64 H.q, .int .i64 H.n, .slice p' H.es.length c'] 24) := ⟨_, rfl⟩
  have hB0 : RowKit.Below w.heap.size w w0 := by subst hw0; exact ((RowKit.Below.refl _ _).alloc (Nat.le_refl _) _).alloc (by simp) _
  have HM := hidI (msearch_any G H p p' c c' incB 23 #[] w0 (hin.below hB0) (hin'.below hB0) hl hl' (enters_of Tryz.func23 (by kernel_rfl) rfl) inc_at)
  clear hin hin'
  generalize srA G H incB = r at *
  go_enter Tryz.func8, Tryz.ntmps8
  go_wp2_with fail
  rw [← hw0]
  clear hw0
  refine HM.out.mono ?_
  rintro e w1 ⟨q, d, rfl, hs, hB1⟩
  go_wp2
  go_ret3
  exact ⟨q, d, rfl, hs, hB0.trans (hB1.mono hB0.size)⟩

set_option maxRecDepth 100000 in
set_option maxHeartbeats 1000000 in
theorem mEqual_any (G H : Gr) (p p' : Option Addr) (c c' : Nat) (w : World) (hin : Sg 3 w edE p G.es) (hin' : Sg 3 w edE p' H.es) (hl : G.es.length ≤ 9223372036854775807) (hl' : H.es.length ≤ 9223372036854775807) :
    Calls Tryz.prog 10 #[(.agg #[.int .i64 G.q, .int .i64 G.n, .slice p G.es.length c]), (.agg #[.int .i64 H.q, .int .i64 H.n, .slice p' H.es.length c'])] w (RetSp (srA G H oneB).1 (srA G H oneB).2.1 (srA G H oneB).2.2 w) := by
  obtain ⟨w0, hw0⟩ : ∃ w0, w0 = (w.alloc (.cells #[.int .i64 G.q, .int .i64 G.n, .slice p G.es.length c] 24)).alloc (.cells #[.int .i64 H.q, .int .i64 H.n, .slice p' H.es.length c'] 24) := ⟨_, rfl⟩
  have hB0 : RowKit.Below w.heap.size w w0 := by subst hw0; exact ((RowKit.Below.refl _ _).alloc (Nat.le_refl _) _).alloc (by simp) _
  have HM := hidI (msearch_any G H p p' c c' oneB 26 #[] w0 (hin.below hB0) (hin'.below hB0) hl hl' (enters_of Tryz.func26 (by kernel_rfl) rfl) one_at)
  clear hin hin'
  generalize srA G H oneB = r at *
  go_enter Tryz.func10, Tryz.ntmps10
  go_wp2_with fail
  rw [← hw0]
  clear hw0
  refine HM.out.mono ?_
  rintro e w1 ⟨q, d, rfl, hs, hB1⟩
  go_wp2
  go_ret3
  exact ⟨q, d, rfl, hs, hB0.trans (hB1.mono hB0.size)⟩

/-! ### Words -/
theorem wordA_len (G : Gr) (ws : List Int) : decide (0 < (leadsA G (upto G.n.toNat) ws).length) = wordA G ws := by
  unfold wordA
  cases leadsA G (upto G.n.toNat) ws with
  | nil => simp
  | cons a l => simp
set_option maxRecDepth 100000 in
set_option maxHeartbeats 1000000 in
theorem word13_any (G : Gr) (p : Option Addr) (c : Nat) (ws : List Int) (q : Option Addr) (d : Nat) (w : World) (hin : Sg 3 w edE p G.es) (hv : Vg G) (hws : Sl w (Value.int .i64) q ws) (hw : ws.length ≤ 10000) :
    Calls Tryz.prog 9 #[(.agg #[.int .i64 G.q, .int .i64 G.n, .slice p G.es.length c]), .slice q ws.length d] w fun e w' => e = .returned (.bool (wordA G ws)) ∧ RowKit.Below w.heap.size w w' := by
  obtain ⟨w0, hw0⟩ : ∃ w0, w0 = w.alloc (.cells #[.int .i64 G.q, .int .i64 G.n, .slice p G.es.length c] 24) := ⟨_, rfl⟩
  have b0 : VRow w0 w.heap.size 24 [.int .i64 G.q, .int .i64 G.n, .slice p G.es.length c] := by subst hw0; exact VRow.new w _ _
  have hB0 : RowKit.Below w.heap.size w w0 := by subst hw0; exact (RowKit.Below.refl _ _).alloc (Nat.le_refl _) _
  have HIN := hidI (hin.below hB0); have HWS := hidI (hws.below hB0)
  obtain ⟨N, hN⟩ : ∃ N : Nat, G.n = N := ⟨G.n.toNat, by have := hv.n1; omega⟩
  have hN64 : N ≤ 64 := by have := hv.n2; omega
  have hes := hv.len
  have HAL := hidI (fun W => all13_any G p c N W hN hN64)
  have hNT : G.n.toNat = N := by omega
  have HLD := hidI (fun W (qa : Option Addr) (da : Nat) (hW : RowKit.Below w0.heap.size w0 W) (hs : Sl W (Value.int .i64) qa (upto N)) => leads13_any G p c (upto N) ws qa q da d W (HIN.out.below hW) hs (HWS.out.below hW) (by omega) (by rw [upto_len]; omega) hw)
  have HWL := hidI (wordA_len G ws)
  rw [hNT] at HWL
  have zb := b0.lt
  have g0 := b0.at 0 rfl; have g1 := b0.at 1 rfl; have g2 := b0.at 2 rfl
  have HB0 := hidI b0
  clear hin hws hN hNT hv b0
  go_enter Tryz.func9, Tryz.ntmps9
  go_upto_region 1 with fail
  rw [← hw0]
  clear hw0
  go_region_held3 (fun w' => w'.cell? ⟨w.heap.size, 0, none⟩ = some (.int .i64 G.q) ∧ w'.cell? ⟨w.heap.size, 1, none⟩ = some (.int .i64 G.n) ∧ w'.cell? ⟨w.heap.size, 2, none⟩ = some (.slice p G.es.length c) ∧ RowKit.Below w0.heap.size w0 w')
    (first | (go_split_ands; refine ⟨?_, ?_, ?_, ?_⟩ <;> first | assumption | (go_keep; done) | exact below_dN (RowKit.Below.refl _ _) 1 | exact (RowKit.Below.cell (by assumption) zb).trans (by assumption)))
    (first
      | (go_at_call 25; go_split_ands; (with_reducible refine (HAL.out _).mono ?_); rintro e wA ⟨qa, da, rfl, hsa, hBa⟩; have hBA : RowKit.Below w0.heap.size w0 wA := RowKit.Below.trans (below_dN (RowKit.Below.refl _ _) 1) hBa)
      | (go_at_call 24; go_split_ands; (with_reducible refine (HLD.out _ qa da (by assumption) hsa).mono ?_); rintro e wB ⟨qb, db, rfl, hsb, hBb⟩; have hBB := hBA.trans (hBb.mono hBA.size)))
  all_goals
    go_wp2
    go_ret
    exact ⟨ret_bool HWL.out, hB0.trans (hBB.mono hB0.size)⟩

/-! ### Which word comes first -/
def lessA (a b : List Int) : Bool := if a.length = b.length then decide (cmpL a b < 0) else decide (a.length < b.length)
theorem cmpL_lxt : ∀ {a b : List Int}, a.length = b.length → (cmpL a b < 0 ↔ lxt a b)
  | [], [], _ => by simp [cmpL, lxt]
  | x :: a, y :: b, h => by
    have h2 : a.length = b.length := by simpa using h
    have ih := cmpL_lxt h2
    unfold cmpL lxt
    by_cases e : c3 x y = 0
    · rw [if_pos e]
      have := c3_zero.1 e
      subst this
      rw [ih]
      constructor
      · intro h; exact .inr ⟨rfl, h⟩
      · rintro (h | ⟨_, h⟩)
        · omega
        · exact h
    · rw [if_neg e, c3_neg]
      constructor
      · exact .inl
      · rintro (h | ⟨h, _⟩)
        · exact h
        · exact absurd (c3_zero.2 h) e
  | [], _ :: _, h => by simp at h
  | _ :: _, [], h => by simp at h
theorem lessA_iff {a b : List Int} : lessA a b = true ↔ slt a b := by
  unfold lessA slt
  by_cases h : a.length = b.length
  · rw [if_pos h, decide_eq_true_eq, cmpL_lxt h]
    constructor
    · intro h2; exact .inr ⟨h, h2⟩
    · rintro (h2 | ⟨_, h2⟩)
      · omega
      · exact h2
  · rw [if_neg h, decide_eq_true_eq]
    constructor
    · exact .inl
    · rintro (h2 | ⟨h2, _⟩)
      · exact h2
      · exact absurd h2 h
set_option maxRecDepth 100000 in
set_option maxHeartbeats 1000000 in
theorem less13_any (a b : List Int) (p q : Option Addr) (c d : Nat) (w : World) (hp : Sl w (Value.int .i64) p a) (hq : Sl w (Value.int .i64) q b) (ha : a.length ≤ 100000) (hb : b.length ≤ 100000) :
    Calls Tryz.prog 12 #[.slice p a.length c, .slice q b.length d] w fun e w' => e = .returned (.bool (lessA a b)) ∧ RowKit.Below w.heap.size w w' := by
  have HC := hidI (compareI_any a b p q c d w hp hq (by omega) (by omega))
  by_cases h : a.length = b.length
  · have HX : Hid (lessA a b = decide (cmpL a b < 0)) := if_pos h
    have hn : ((a.length : Int) != (b.length : Int)) = false := by rw [h]; simp
    generalize cmpL a b = r at *
    clear hp hq h
    go_enter Tryz.func12, Tryz.ntmps12
    go_wp2_with fail
    refine HC.out.mono ?_
    rintro e w' ⟨rfl, rfl⟩
    go_wp2
    go_ret
    exact ⟨ret_bool HX.out.symm, RowKit.Below.refl _ _⟩
  · have HX : Hid (lessA a b = decide (a.length < b.length)) := if_neg h
    have hn : ((a.length : Int) != (b.length : Int)) = true := by simp; omega
    clear hp hq h
    go_enter Tryz.func12, Tryz.ntmps12
    go_wp2
    go_ret
    exact ⟨ret_bool (by rw [HX.out]), RowKit.Below.refl _ _⟩

/-! ### Lengths; two graphs in one list -/
theorem srA_len (G H : Gr) (is : Int × Int → Bool) : (srA G H is).1.length ≤ 5000 := by
  unfold srA
  split
  · simp
  · rename_i hc
    split
    · simp
    · rename_i h1
      split
      · simp
      · rename_i h2
        split
        · simp
        · simp only
          have n1 := (sbA_ok (Decidable.not_not.1 h1)).1.n2
          have n2 := (sbA_ok (Decidable.not_not.1 h2)).1.n2
          cases ho : srO G H is with
          | none => simp [fwA]
          | some w =>
            unfold srO bfsA at ho
            have := bfs_len _ 0 _ w (fun y hy => by obtain rfl := List.mem_singleton.1 hy; simp) ho
            have hm := Nat.mul_le_mul (show (sbA G).1.n.toNat + 1 ≤ 65 by omega) (show (sbA H).1.n.toNat + 1 ≤ 65 by omega)
            simp only [fwA]
            omega
theorem great13_two (G H : Gr) (p p' : Option Addr) (c c' b d : Nat) (w : World) (hl : G.es.length ≤ 9223372036854775807) (hl' : H.es.length ≤ 9223372036854775807) (r : VRow w b 24 [.int .i64 G.q, .int .i64 G.n, .slice p G.es.length c, .int .i64 H.q, .int .i64 H.n, .slice p' H.es.length c']) :
    Calls Tryz.prog 6 #[.slice (some ⟨b, 0, none⟩) 2 d] w fun e w' => e = .returned (.bool (gr13 G || gr13 H)) ∧ RowKit.Below w.heap.size w w' := by
  refine (great13_any b 2 d [⟨(G, p, c), hl⟩, ⟨(H, p', c'), hl'⟩] rfl (by omega) w r.lt ?_).mono ?_
  · intro j hj i v hv
    rw [show 0 + j * 3 + i = j * 3 + i by omega, r.cell]
    have hj2 : j = 0 ∨ j = 1 := by simp at hj; omega
    rcases hj2 with rfl | rfl
    · match i, hv with
      | 0, hv => exact hv
      | 1, hv => exact hv
      | 2, hv => exact hv
      | i + 3, hv => simp [gE] at hv
    · match i, hv with
      | 0, hv => exact hv
      | 1, hv => exact hv
      | 2, hv => exact hv
      | i + 3, hv => simp [gE] at hv
  · rintro e w' ⟨rfl, h⟩
    exact ⟨by simp, h⟩
end Go.Proofs.YtmdjndbjfgncmaaGreatDoor
namespace Go.Proofs.YtmdjndbjfgncmaaGreatDoor
open Go.RowKit Go.Sort Go.Shelf Go.Lib

def lbA (q : Int) (l : List Int) : List Int := l.map (fun x => x % q)
theorem lbA_len (q : Int) (l : List Int) : (lbA q l).length = l.length := by simp [lbA]
theorem lbA_snoc (q : Int) (l : List Int) (k : Nat) (h : k < l.length) : lbA q (l.take (k + 1)) = lbA q (l.take k) ++ [l[k] % q] := by
  unfold lbA; rw [List.take_succ_eq_append_getElem h, List.map_append]; rfl

end Go.Proofs.YtmdjndbjfgncmaaGreatDoor
namespace Go.Proofs.YtmdjndbjfgncmaaGreatDoor
open Go.RowKit Go.Sort Go.Shelf Go.Lib

theorem srA_chk {G H : Gr} {is : Int × Int → Bool} (h : (srA G H is).2.2 = 0) : chkG G = 0 ∧ chkG H = 0 := by
  unfold srA at h
  by_cases hc : chkG G ≠ 0 ∨ chkG H ≠ 0
  · rw [if_pos hc] at h; cases h
  · exact ⟨Decidable.byContradiction fun e => hc (.inl e), Decidable.byContradiction fun e => hc (.inr e)⟩

set_option maxRecDepth 100000 in
set_option maxHeartbeats 4000000 in
theorem lawIncludes_any (G H : Gr) (p p' : Option Addr) (c c' : Nat) (ws : List Int) (qw : Option Addr) (dw : Nat) (w : World) (hin : Sg 3 w edE p G.es) (hin' : Sg 3 w edE p' H.es) (hl : G.es.length ≤ 9223372036854775807) (hl' : H.es.length ≤ 9223372036854775807)
    (hws : Sl w (Value.int .u8) qw ws) (hwl : ws.length ≤ 9223372036854775807) (hwb : ∀ x ∈ ws, 0 ≤ x ∧ x ≤ 255) :
    Calls Tryz.prog 3 #[(.agg #[.int .i64 G.q, .int .i64 G.n, .slice p G.es.length c]), (.agg #[.int .i64 H.q, .int .i64 H.n, .slice p' H.es.length c']), .slice qw ws.length dw] w fun e w' => e = .returned (.bool true) ∧ RowKit.Below w.heap.size w w' := by
  obtain ⟨w0, hw0⟩ : ∃ w0, w0 = (w.alloc (.cells #[.int .i64 G.q, .int .i64 G.n, .slice p G.es.length c] 24)).alloc (.cells #[.int .i64 H.q, .int .i64 H.n, .slice p' H.es.length c'] 24) := ⟨_, rfl⟩
  have b0 : VRow w0 w.heap.size 24 [.int .i64 G.q, .int .i64 G.n, .slice p G.es.length c] := by subst hw0; exact (VRow.new w _ _).alloc _
  have b1 : VRow w0 (w.heap.size + 1) 24 [.int .i64 H.q, .int .i64 H.n, .slice p' H.es.length c'] := by subst hw0; exact VRow.new1 w _ _ _
  have hB0 : RowKit.Below w.heap.size w w0 := by subst hw0; exact ((RowKit.Below.refl _ _).alloc (Nat.le_refl _) _).alloc (by simp) _
  obtain ⟨v0, hv0⟩ : ∃ v0, v0 = w0.alloc (.cells #[.int .i64 G.q, .int .i64 G.n, .slice p G.es.length c, .int .i64 H.q, .int .i64 H.n, .slice p' H.es.length c'] 24) := ⟨_, rfl⟩
  have r0 : VRow v0 w0.heap.size 24 [.int .i64 G.q, .int .i64 G.n, .slice p G.es.length c, .int .i64 H.q, .int .i64 H.n, .slice p' H.es.length c'] := by subst hv0; exact VRow.new w0 _ _
  have hBv : RowKit.Below w0.heap.size w0 v0 := by subst hv0; exact (RowKit.Below.refl _ _).alloc (Nat.le_refl _) _
  have HAW := hidI awake13_any
  have HG := hidI (great13_two G H p p' c c' w0.heap.size 2 v0 hl hl' r0)
  have HIN := hidI (hin.below hB0); have HIN' := hidI (hin'.below hB0)
  have HWS := hidI (hws.below hB0); have HWB := hidI hwb
  obtain ⟨E1, E2, E3⟩ := includes_plain G H
  have EC := srA_chk (G := G) (H := H) (is := incB)
  have l1 := srA_len G H incB
  have HM1 := hidI (fun W (hW : RowKit.Below w0.heap.size w0 W) => mIncluded_any G H p p' c c' W (HIN.out.below hW) (HIN'.out.below hW) hl hl')
  generalize srA G H incB = r1 at *
  obtain ⟨x, sm, k⟩ := r1
  change x.length ≤ 5000 at l1
  have HM2 : Hid (∀ W, RowKit.Below w0.heap.size w0 W → Calls Tryz.prog 8 #[(.agg #[.int .i64 G.q, .int .i64 G.n, .slice p G.es.length c]), (.agg #[.int .i64 H.q, .int .i64 H.n, .slice p' H.es.length c'])] W (RetSp x sm k W)) := HM1
  have HE1 : Hid (k ≠ 0 → x = [] ∧ sm = false) := E1
  have HE2 : Hid (k = 0 → sm = false → wordA G x = true ∧ wordA H x = false) := E2
  have HE3 : Hid (k = 0 → sm = true → x = [] ∧ ∀ w, Lab G.q.toNat w → wordA G w = true → wordA H w = true) := E3
  have HEC : Hid (k = 0 → chkG G = 0 ∧ chkG H = 0) := EC
  have g0 := b0.at 0 rfl; have g1 := b0.at 1 rfl; have g2 := b0.at 2 rfl
  have h0 := b1.at 0 rfl; have h1 := b1.at 1 rfl; have h2 := b1.at 2 rfl
  generalize (gr13 G || gr13 H) = gb at *
  clear hin hin' r0 E1 E2 E3 EC HM1 hws hwb
  go_enter Tryz.func3, Tryz.ntmps3
  go_upto_region 1 with fail
  rw [← hw0]
  clear hw0
  go_wp2_with fail
  rw [← hv0]
  clear hv0
  refine HG.out.mono ?_
  rintro e w1 ⟨rfl, hB1⟩
  have x1 := hBv.trans (hB1.mono hBv.size)
  clear hB1 HG hBv
  cases gb
  · by_cases hlen : 8 < ws.length
    · have hlenI : (8 : Int) < (ws.length : Int) := by omega
      clear g0 g1 g2 h0 h1 h2
      (go_wp2_with fail; refine (HAW.out w1).mono ?_; rintro e wy ⟨rfl, hBy⟩; have xy := (x1).trans (hBy.mono (x1).size); go_wp2; go_ret; exact ⟨rfl, hB0.trans (xy.mono hB0.size)⟩)
    have hlenI : ¬ (8 : Int) < (ws.length : Int) := by omega
    (clear g0 g1 g2 h0 h1 h2; have c0 := b0.below x1 b0.lt; have c1 := b1.below x1 b1.lt; have g0 := c0.at 0 rfl; have g1 := c0.at 1 rfl; have g2 := c0.at 2 rfl; have h0 := c1.at 0 rfl; have h1 := c1.at 1 rfl; have h2 := c1.at 2 rfl; clear c0 c1)
    go_wp2_with fail
    refine (HM2.out w1 x1).mono ?_
    rintro e w2 ⟨qx, dx, rfl, sx, hB2⟩
    have x2 := x1.trans (hB2.mono x1.size)
    clear hB2 HM2
    (clear g0 g1 g2 h0 h1 h2; have c0 := b0.below x2 b0.lt; have c1 := b1.below x2 b1.lt; have g0 := c0.at 0 rfl; have g1 := c0.at 1 rfl; have g2 := c0.at 2 rfl; have h0 := c1.at 0 rfl; have h1 := c1.at 1 rfl; have h2 := c1.at 2 rfl; clear c0 c1)
    by_cases hk : k = 0
    · subst hk
      obtain ⟨cG, cH⟩ := HEC.out rfl
      have hvG := chkG_ok.1 cG
      have hvH := chkG_ok.1 cH
      have HWG := hidI (fun W (vs : List Int) (q : Option Addr) (d : Nat) (hW : RowKit.Below w0.heap.size w0 W) (hs : Sl W (Value.int .i64) q vs) (hn : vs.length ≤ 10000) => word13_any G p c vs q d W (HIN.out.below hW) hvG hs hn)
      have HWH := hidI (fun W (vs : List Int) (q : Option Addr) (d : Nat) (hW : RowKit.Below w0.heap.size w0 W) (hs : Sl W (Value.int .i64) q vs) (hn : vs.length ≤ 10000) => word13_any H p' c' vs q d W (HIN'.out.below hW) hvH hs hn)
      have hq1 := hvG.q1
      have hq2 := hvG.q2
      obtain ⟨Q, hQ⟩ : ∃ Q : Nat, G.q = Q := ⟨G.q.toNat, by omega⟩
      have HQ := hidI hQ
      have hQ0 : 0 < Q := by omega
      have hQ256 : Q ≤ 256 := by omega
      clear cG cH hvG hvH hq1 hq2 hQ
      cases sm
      · obtain ⟨F1, F2⟩ := HE2.out rfl rfl
        have HW1 := hidI (HWG.out w2 x qx dx x2 sx (by omega))
        rw [F1] at HW1
        go_wp2_with fail
        refine HW1.out.mono ?_
        rintro e w3 ⟨rfl, hB3⟩
        have x3 := x2.trans (hB3.mono x2.size)
        have HW2 := hidI (HWH.out w3 x qx dx x3 (sx.below hB3) (by omega))
        rw [F2] at HW2
        clear F1 F2 hB3 sx HW1
        (clear g0 g1 g2 h0 h1 h2; have c0 := b0.below x3 b0.lt; have c1 := b1.below x3 b1.lt; have g0 := c0.at 0 rfl; have g1 := c0.at 1 rfl; have g2 := c0.at 2 rfl; have h0 := c1.at 0 rfl; have h1 := c1.at 1 rfl; have h2 := c1.at 2 rfl; clear c0 c1)
        go_wp2_with fail
        refine HW2.out.mono ?_
        rintro e w4 ⟨rfl, hB4⟩
        have x4 := x3.trans (hB4.mono x3.size)
        clear g0 g1 g2 h0 h1 h2
        (go_wp2_with fail; refine (HAW.out w4).mono ?_; rintro e wy ⟨rfl, hBy⟩; have xy := (x4).trans (hBy.mono (x4).size); go_wp2; go_ret; exact ⟨rfl, hB0.trans (xy.mono hB0.size)⟩)
      · obtain ⟨F1, F2⟩ := HE3.out rfl rfl
        subst F1
        have HF2 := hidI F2
        clear F2
        have gq : w2.cell? ⟨w.heap.size, 0, none⟩ = some (.int .i64 Q) := by rw [← HQ.out]; exact g0
        have hQb : ((Q : Int) == 0) = false := by simp; omega
        have hQn : ¬ (Q : Int) = 0 := by omega
        clear g0 gq
        go_upto_region 10 with fail
        go_loopw [10, 58] (fun sv kv wr => ∃ (k : Nat) (q : Option Addr) (d : Nat), k ≤ ws.length ∧ sv = .slice q k d ∧ kv = .int .i64 k ∧ wr.ownsRow w2.heap.size 3 1 (.slice q k d) k ((lbA Q (ws.take k)).map (Value.int .i64)) ∧ RowKit.Below w2.heap.size w2 wr) (fun _ kv _ => ws.length - (RowKit.intOf kv).toNat)
        case atStart => exact ⟨0, none, 0, by omega, rfl, rfl, World.ownsRow_nil _ _ _ _, RowKit.Below.refl _ _⟩
        case round =>
          obtain ⟨k, q, d, hk, rfl, rfl, hown, hB⟩ := hrel
          have xr := x2.trans (hB.mono x2.size)
          clear g1 g2 h0 h1 h2
          by_cases hlt : k < ws.length
          · have hltI : (k : Int) < (ws.length : Int) := by omega
            obtain ⟨bw, ow, rfl, hbw, hcw⟩ := (HWS.out.below xr).get k hlt
            have e1 := hcw k hlt
            have hb255 := HWB.out _ (List.getElem_mem hlt)
            have HSN := hidI (lbA_snoc Q ws k hlt)
            have hln : (lbA Q (ws.take k)).length = k := by rw [lbA_len, List.length_take]; omega
            have f9 := (b0.below xr b0.lt).at 0 rfl
            rw [HQ.out] at f9
            generalize ws[k] = x at *
            have hr0 := Int.emod_nonneg x hQn
            have hr1 := Int.emod_lt_of_pos x (show (0 : Int) < Q by omega)
            have hv1 : IntKind.i64.wrap (x % (Q : Int)) = x % (Q : Int) := by rw [IntKind.wrap_i64]; omega
            have hv2 : IntKind.i64.wrap x = x := by rw [IntKind.wrap_i64]; omega
            have hv3 : x.tmod (Q : Int) = x % (Q : Int) := Int.tmod_eq_emod_of_nonneg hb255.1
            generalize x % (Q : Int) = y at *
            have h1 := hown.alloc (.cells #[.int .i64 y] 3)
            have h2 := own_oneI wr y
            have hB2 := hB.alloc hB.size (.cells #[.int .i64 y] 3)
            have hsz := hB2.size
            clear hcw hln
            go_wp2_with (at_builtin; refine wpList_app_both rfl _ _ rfl _ _ rfl rfl w2.heap.size wr.heap.size k 1 (lbA Q (ws.take k)) [y] h1 h2 (by omega) hsz ?_; intro v' w9 hown' hgrow; rw [← HSN.out] at hown'; have hB9 := hB2.grown hgrow hsz (fun j e => (h1.lt j e).1); obtain ⟨q9, d9, hv9, _⟩ := own_sl hown'; rw [lbA_len, List.length_take, Nat.min_eq_left (by omega)] at hv9; subst hv9)
            go_roundw
            case rel => exact ⟨k + 1, q9, d9, by omega, rfl, by go_num, hown', hB9⟩
            case measure => simp [RowKit.intOf]; omega
          · obtain rfl : ws.length = k := by omega
            have hltI : ¬ (ws.length : Int) < (ws.length : Int) := by omega
            obtain ⟨q9, d9, hv9, hsv⟩ := own_sl hown
            rw [lbA_len, List.length_take, Nat.min_self] at hv9
            cases hv9
            rw [List.take_length] at hsv
            have hvl := lbA_len Q ws
            have hLab : Lab G.q.toNat (lbA Q ws) := by
              rw [HQ.out, Int.toNat_natCast]
              intro x hx
              obtain ⟨y, hy, rfl⟩ := List.mem_map.1 hx
              exact ⟨Int.emod_nonneg _ hQn, Int.emod_lt_of_pos _ (by omega)⟩
            have HIM := HF2.out (lbA Q ws) hLab
            have HW1 := hidI (HWG.out wr (lbA Q ws) q d xr hsv (by omega))
            have HW2 := hidI (fun W (hW : RowKit.Below wr.heap.size wr W) => HWH.out W (lbA Q ws) q d (xr.trans (hW.mono xr.size)) (hsv.below hW) (by omega))
            rw [hvl] at HW1 HW2
            generalize wordA G (lbA Q ws) = bG at *
            generalize wordA H (lbA Q ws) = bH at *
            have c0 := b0.below xr b0.lt; have c1 := b1.below xr b1.lt
            have g0 := c0.at 0 rfl; have g1 := c0.at 1 rfl; have g2 := c0.at 2 rfl
            clear hvl hLab hown hB hsv c0 c1
            go_wp2_with fail
            refine HW1.out.mono ?_
            rintro e w3 ⟨rfl, hB3⟩
            have x3 := xr.trans (hB3.mono xr.size)
            cases bG
            · clear g0 g1 g2 HIM
              (go_wp2_with fail; refine (HAW.out w3).mono ?_; rintro e wy ⟨rfl, hBy⟩; have xy := (x3).trans (hBy.mono (x3).size); go_wp2; go_ret; exact ⟨rfl, hB0.trans (xy.mono hB0.size)⟩)
            · obtain rfl := HIM rfl
              have c1 := b1.below x3 b1.lt
              clear g0 g1 g2 HIM
              have h0 := c1.at 0 rfl; have h1 := c1.at 1 rfl; have h2 := c1.at 2 rfl
              go_wp2_with fail
              refine (HW2.out w3 hB3).mono ?_
              rintro e w4 ⟨rfl, hB4⟩
              have x4 := x3.trans (hB4.mono x3.size)
              clear h0 h1 h2
              (go_wp2_with fail; refine (HAW.out w4).mono ?_; rintro e wy ⟨rfl, hBy⟩; have xy := (x4).trans (hBy.mono (x4).size); go_wp2; go_ret; exact ⟨rfl, hB0.trans (xy.mono hB0.size)⟩)
    · have hkn : (k != 0) = true := by simpa using hk
      have hke : (k == 0) = false := by simpa using hk
      obtain ⟨rfl, rfl⟩ := HE1.out hk
      clear hk g0 g1 g2 h0 h1 h2
      (go_wp2_with fail; refine (HAW.out w2).mono ?_; rintro e wy ⟨rfl, hBy⟩; have xy := (x2).trans (hBy.mono (x2).size); go_wp2; go_ret; exact ⟨rfl, hB0.trans (xy.mono hB0.size)⟩)
  · clear g0 g1 g2 h0 h1 h2
    (go_wp2_with fail; refine (HAW.out w1).mono ?_; rintro e wy ⟨rfl, hBy⟩; have xy := (x1).trans (hBy.mono (x1).size); go_wp2; go_ret; exact ⟨rfl, hB0.trans (xy.mono hB0.size)⟩)
end Go.Proofs.YtmdjndbjfgncmaaGreatDoor
namespace Go.Proofs.YtmdjndbjfgncmaaGreatDoor
open Go.Joins Go.ChangeShapes Go.WideShapes Go.ChangeAt Go.RowKit Go.Deep

theorem bounds_u8N {q : Int} (h : (Lit.int .u8 q).wf = true) : 0 ≤ q ∧ q ≤ 255 := by
  have := h
  simp [Lit.wf, IntKind.min, IntKind.max, IntKind.bits, IntKind.signed] at this
  exact this
theorem readU8N : Tryz.prog.readableRec 5 = true ∧ 5 < Tryz.prog.types.size := ⟨by kernel_rfl, of_decide_eq_true (by kernel_rfl)⟩
theorem cellsU8N : Tryz.prog.cellsOf 5 = 1 := by kernel_rfl
theorem readU8sN : Tryz.prog.readableRec 25 = true ∧ 25 < Tryz.prog.types.size := ⟨by kernel_rfl, of_decide_eq_true (by kernel_rfl)⟩
theorem u8s_atN {H : Type} {enc : TypeId × Value → H} {W : World} {fuel : Nat} {v : Value} {y : DataW H × List MemPlace}
    (h : DataW.trod enc Tryz.prog W 0 (fun _ => true) true fuel 25 [v] = some y) (hlt : ∀ x ∈ y.2, x.block < W.heap.size) :
    ∃ (p : Option Addr) (l : List Int) (c : Nat), v = .slice p l.length c ∧ Sl W (Value.int .u8) p l ∧ l.length ≤ 9223372036854775807 ∧ ∀ x ∈ l, 0 ≤ x ∧ x ≤ 255 := by
  rcases open_ints Tryz.underlying25 Tryz.underlying5 cellsU8N h with ⟨hcs, hx⟩ | ⟨a, len, cap, zs, hcs, _, hl, hm, hz, hx, hcell, hwf⟩
  · simp at hcs
    subst hcs
    exact ⟨none, [], 0, rfl, Sl.nil _ _ _, by simp, by simp⟩
  · simp at hcs
    subst hcs hx
    simp only [if_true] at hz
    have hlen : (zs.take len).length = len := by simp; omega
    refine ⟨some a, zs.take len, cap, by rw [hlen], ?_, by rw [hlen]; unfold maxLen at hm; omega, fun x hx => bounds_u8N (hwf x (List.mem_of_mem_take hx))⟩
    by_cases h0 : len = 0
    · subst h0; exact .inl (by simp)
    · obtain ⟨b, off, spot⟩ := a
      have hspot : spot = none := by simpa [Addr.add] using World.cell?_spot (hcell 0 (by omega))
      subst hspot
      refine .inr ⟨b, off, rfl, hlt (.cell b off) (MemPlace.mem_row.2 ⟨0, by omega, by simp⟩), fun i hi => ?_⟩
      have hi' : i < zs.length := by rw [hlen] at hi; omega
      rw [← add_plain, hcell i hi']
      simp [List.getD_eq_getElem?_getD, hi']

set_option maxRecDepth 100000 in
theorem door_metI (os : Os) (args : Array Value) : laidMetH Tryz.prog Rows.minimalIncludesRow.laid ((World.doorLaid Tryz.prog 24 os).forCall (fun _ _ => 0) ⟨#[], args, []⟩).memory := door_metN os args
set_option maxRecDepth 100000 in
theorem minimalIncludes_lifted (os : Os) (started : os.Started) (H : Type) (enc : TypeId × Value → H) :
    ReturnsInHanded {} Tryz.checked os 3 .any (fun w args => (Rows.minimalIncludesSpec.pre enc Tryz.prog Tryz.f3 [] false w args ∧ laidMetH Tryz.prog Rows.minimalIncludesRow.laid w) ∧ sizedMet enc Tryz.prog Tryz.f3 (OpenSpec.ofChange Rows.minimalIncludesSpec) false w args)
      (Rows.minimalIncludesSpec.post enc Tryz.prog Tryz.f3 false true false false) := by
  refine returnsInHanded_of_change_and (C := Tryz.checked) (X := fun w _ => laidMetH Tryz.prog Rows.minimalIncludesRow.laid w) (fun _ _ _ hh h => h.of_heap hh) own started (by kernel_rfl) Tryz.func3
    (ChangeSpec.witness_shaped (enc := enc) (C := Tryz.checked) (os := os) (X := fun w _ => laidMetH Tryz.prog Rows.minimalIncludesRow.laid w) false (World.doorLaid Tryz.prog 24 os) #[.agg #[.int .i64 0, .int .i64 0, .slice none 0 0], .agg #[.int .i64 0, .int .i64 0, .slice none 0 0], .slice none 0 0] 8 rfl (World.shaped_of_RefB (by kernel_rfl) (by kernel_rfl)) (by kernel_rfl) (by kernel_rfl) (by kernel_rfl) (door_metI os _)) ?_
  intro W base args ds gs before hval0 hW _ _ _ _
  have hval : ∀ (j : Nat) t v, Tryz.f3.params[j]? = some t → args[j]? = some v → Value.okWide Tryz.prog W .any base t v := hval0
  have hW' := hW
  obtain ⟨p, q, hA0, hV, rfl, hfz, hnd⟩ := hW
  have hA : DataW.TrodAll enc Tryz.prog W 0 (fun _ => true) true Tryz.f3.params.toList args.toList ds p := hA0
  rw [Tryz.params3] at hA hval
  obtain ⟨v0, v1, v2, d0, d1, d2, p0, p1, p2, rfl, rfl, rfl, h0, h1, h2⟩ := trodAll_three hA
  obtain ⟨rfl, rfl⟩ := trodVars_none hV
  have hlt : ∀ x ∈ p0 ++ (p1 ++ p2), x.block < W.heap.size := fun x hx => hW'.lt x (List.mem_append_left _ (by simpa using hx))
  obtain ⟨G0, q0, c0, rfl, s0, l0⟩ := graph_in (hval 0 24 v0 rfl rfl) h0 (fun x hx => hlt x (by simp only [List.mem_append]; simp [hx]))
  obtain ⟨G1, q1, c1, rfl, s1, l1⟩ := graph_in (hval 1 24 v1 rfl rfl) h1 (fun x hx => hlt x (by simp only [List.mem_append]; simp [hx]))
  obtain ⟨a2, len2, cap2, rfl⟩ := okWide_slice Tryz.underlying25 (hval 2 25 v2 rfl rfl)
  obtain ⟨fuel2, hf2⟩ := h2
  simp only [Value.cells] at hf2
  obtain ⟨pm, m, cm, he2, hm, hlm, hbm⟩ := u8s_atN hf2 (fun x hx => hlt x (List.mem_append_right _ (List.mem_append_right _ hx)))
  rw [he2] at hval hW' ⊢
  refine (lawIncludes_any G0 G1 q0 q1 c0 c1 m pm cm W s0 s1 l0 l1 hm hlm hbm).mono fun e W' ⟨he, hB⟩ => ?_
  subst he
  refine ⟨_, rfl, law_post hW' rfl (by kernel_rfl) ?_ rfl rfl rfl hB⟩
  rw [Tryz.params3]
  intro t ht
  simp only [List.mem_cons, List.not_mem_nil, or_false] at ht
  rcases ht with rfl | rfl | rfl
  · exact readGraph
  · exact readGraph
  · exact readU8sN

theorem minimalIncludes_holds : Rows.MinimalIncludesSaid :=
  OpenClaim.holds_of_wide 3 Tryz.f3 rfl rfl rfl rfl rfl rfl rfl ⟨rfl, rfl, rfl, rfl, rfl⟩ rfl rfl rfl rfl rfl (by kernel_rfl) Tryz.func3 (by kernel_rfl)
    (of_decide_eq_true (by kernel_rfl)) (by unfold Func.isWrapper; rw [if_neg (of_decide_eq_false (by kernel_rfl))]; exact ⟨rfl, rfl⟩)
    (fun os started H enc _ => minimalIncludes_lifted os started H enc)

theorem minimalIncludes_card : Rows.MinimalIncludesCardSaid :=
  Claim7.holds_tied_plain_at .later [] [.data, .data, .data] true _ false
    minimalIncludes_holds (fun _ h => by cases h) (by kernel_rfl) (fun _ h => by cases h) minimalIncludes_row_tie rfl ⟨rfl, rfl⟩ (by kernel_rfl) rfl
    (fun f fn hf hfn => by
      obtain rfl : f = 3 := Option.some.inj ((show Tryz.prog.funcNamed "groove/groovelaw13.MinimalIncludes" = some 3 by kernel_rfl).symm.trans hf) |>.symm
      obtain rfl : fn = Tryz.f3 := (Option.some.inj (Tryz.func3.symm.trans hfn)).symm
      exact ⟨by kernel_rfl, fun j t ht => by
        rw [Tryz.params3] at ht
        rcases j with _ | _ | _ | j
        · obtain rfl : t = 24 := by simpa using ht.symm
          exact (show Tryz.prog.wantsStandIn 24 = false by kernel_rfl)
        · obtain rfl : t = 24 := by simpa using ht.symm
          exact (show Tryz.prog.wantsStandIn 24 = false by kernel_rfl)
        · obtain rfl : t = 25 := by simpa using ht.symm
          exact (show Tryz.prog.wantsStandIn 25 = false by kernel_rfl)
        · simp at ht⟩)
    (by kernel_rfl)
#print axioms minimalIncludes_card
end Go.Proofs.YtmdjndbjfgncmaaGreatDoor
