/-
  Words, plain lemmas and walks, merged: Vb, El, Em, En, Eo, Ej, Ep.
-/
import Derived.Test.YtdhkdampdlhdoaaGreatZng
import Derived.Test.YtdhkdampdlhdoaaGreatZne
import Derived.Test.YtdhkdampdlhdoaaGreatZnm
import Derived.Test.YtdhkdampdlhdoaaGreatZnl
import Derived.Deep.AppendLies
set_option linter.unusedVariables false
set_option linter.unusedSimpArgs false
namespace Go.Proofs.YtdhkdampdlhdoaaGreat
open Go.RowKit Go.Sort Go.Shelf Go.Lib

theorem r11has_q (l : List Int) (p : Option Addr) (c : Nat) (n : Int) (w : World) (hp : Sl w (Value.int .i64) p l) (hl : l.length ≤ 9223372036854775807) :
    Calls Tryz.prog 115 #[.slice p l.length c, .int .i64 n] w fun e w' => e = .returned (.bool (decide (n ∈ l))) ∧ w' = w := by
  go_enter Tryz.func115, Tryz.ntmps115
  go_wp2
  go_loop [5] (fun i => ∃ k : Nat, k ≤ l.length ∧ i = .int .i64 k ∧ Hid (∀ j (hj : j < l.length), j < k → l[j] ≠ n)) (fun i => l.length - (intOf i).toNat)
  case atStart => exact ⟨0, by omega, rfl, fun j _ h => absurd h (by omega)⟩
  case round =>
    obtain ⟨k, hk, rfl, hj⟩ := hrel
    by_cases hlt : k < l.length
    · obtain ⟨b1, o1, rfl, hb1, hc1⟩ := hp.get k hlt
      have e1 := hc1 k hlt
      clear hc1
      by_cases he : l[k] = n
      · have HX : Hid (decide (n ∈ l) = true) := decide_eq_true (he ▸ List.getElem_mem hlt)
        have d1 : (l[k] == n) = true := by simpa using he
        generalize l[k] = x at *
        clear he
        go_wp2
        go_ret
        exact ⟨ret_bool HX.out.symm, rfl⟩
      · have d1 : (l[k] == n) = false := by simpa using he
        have HJ : Hid (∀ j (hj : j < l.length), j < k + 1 → l[j] ≠ n) := fun j h1 h2 => by
          rcases Nat.lt_succ_iff_lt_or_eq.1 h2 with h3 | h3
          · exact hj.out j h1 h3
          · subst h3; exact he
        generalize l[k] = x at *
        clear he hj
        go_wp2
        go_round
        case rel => exact ⟨k + 1, by omega, by go_num, HJ⟩
        case measure => simp [intOf]; omega
    · have HX : Hid (decide (n ∈ l) = false) := decide_eq_false (fun hm => by
        obtain ⟨j, hj', rfl⟩ := List.getElem_of_mem hm
        exact hj.out j hj' (by omega) rfl)
      go_wp2
      go_ret
      exact ⟨ret_bool HX.out.symm, rfl⟩

set_option maxRecDepth 100000 in
set_option maxHeartbeats 4000000 in
theorem r11Step_any (G : Gr) (p : Option Addr) (c : Nat) (st : List Int) (q : Option Addr) (d : Nat) (b : Int) (w : World) (hin : Sg 3 w edE p G.es) (hst : Sl w (Value.int .i64) q st) (hl : G.es.length ≤ 10000) (hs : st.length ≤ 100000) (hn0 : 0 ≤ G.n) (hn1 : G.n ≤ 100000) :
    Calls Tryz.prog 89 #[(.agg #[.int .i64 G.q, .int .i64 G.n, .slice p G.es.length c]), .slice q st.length d, .int .i64 b] w (LsT (nextA G st b) w) := by
  have HIN := hidI hin; have HST := hidI hst
  clear hin hst
  obtain ⟨i0, hi0, hz0, hz1, hz3⟩ := info_parts infoIn
  obtain ⟨w1, hw1⟩ : ∃ w1, w1 = (w.alloc (.cells #[.int .i64 G.q, .int .i64 G.n, .slice p G.es.length c] 24)).alloc (.cells #[] 3) := ⟨_, rfl⟩
  have c0 : VRow w1 w.heap.size 24 [.int .i64 G.q, .int .i64 G.n, .slice p G.es.length c] := by subst hw1; exact (VRow.new w _ _).alloc _
  have x1 : RowKit.Below w.heap.size w w1 := by subst hw1; exact ((RowKit.Below.refl _ _).alloc (Nat.le_refl _) _).alloc (by simp) _
  have o1 : w1.ownsRow (w.heap.size + 1) 3 1 (.slice (some ⟨w.heap.size + 1, 0, none⟩) 0 0) 0 [] := by
    subst hw1
    have := own_new (w.alloc (.cells #[.int .i64 G.q, .int .i64 G.n, .slice p G.es.length c] 24)) (w.heap.size + 1) [] 3 (by simp) (by simp [maxLen])
    rw [World.size_alloc] at this; exact this
  have hsz := x1.size
  have hsz1 : w.heap.size + 1 < w1.heap.size := by subst hw1; simp
  go_enter Tryz.func89, Tryz.ntmps89
  go_upto_region 2 with fail
  rw [← hw1]
  clear hw1
  go_wp2_with fail
  go_loopw [7, 8] (fun ov iv wr => ∃ k : Nat, k ≤ G.n.toNat ∧ iv = .int .i64 k ∧ wr.ownsRow (w.heap.size + 1) 3 1 ov ((upto k).filter (nxP G.es st b)).length (((upto k).filter (nxP G.es st b)).map (Value.int .i64)) ∧ RowKit.Below (w.heap.size + 1) w1 wr ∧ w1.heap.size ≤ wr.heap.size) (fun _ iv _ => G.n.toNat - (intOf iv).toNat)
  case atStart => exact ⟨0, by omega, rfl, o1, RowKit.Below.refl _ _, Nat.le_refl _⟩
  case round =>
    obtain ⟨k, hk, rfl, hown, hB, hszr⟩ := hrel
    have xr := x1.trans (hB.mono (by omega))
    have cr := c0.below hB (by omega)
    have f1 := cr.at 1 rfl; have f2 := cr.at 2 rfl
    by_cases hlt : k < G.n.toNat
    · have hlt' : (k : Int) < G.n := by omega
      have HN := hidI (uptof_succ (nxP G.es st b) k)
      have hML := uptof_len (nxP G.es st b) k
      generalize (upto k).filter (nxP G.es st b) = M at *
      go_wp2_with fail
      go_loop [9, 10] (fun fv jv => ∃ j : Nat, j ≤ G.es.length ∧ jv = .int .i64 j ∧ fv = .bool ((G.es.take j).any (nxE st b k))) (fun _ jv => G.es.length - (intOf jv).toNat)
      case atStart => exact ⟨0, by omega, rfl, by simp⟩
      case round =>
        obtain ⟨j, hj, rfl, rfl⟩ := hrel
        by_cases hjl : j < G.es.length
        · obtain ⟨b3, o3, rfl, hb3, e0, e1, e2⟩ := (HIN.out.below xr).get3 j hjl rfl
          have HA := hidI (any_snoc (nxE st b k) G.es j hjl)
          generalize (G.es.take j).any (nxE st b k) = fd at *
          generalize hx : G.es[j] = x at *
          have HS1 := HST.out.below xr
          by_cases h1 : x.t = (k : Int)
          · have d1 : (x.t == (k : Int)) = true := by simpa using h1
            by_cases h2 : x.l = b
            · have d2 : (x.l == b) = true := by simpa using h2
              have HV : Hid ((G.es.take (j + 1)).any (nxE st b k) = (fd || decide (x.f ∈ st))) := by rw [Hid, HA.out]; simp [nxE, h1, h2]
              have HC := hidI (r11has_q st q d x.f wr HS1 (by omega))
              clear h1 h2 HA HS1
              generalize decide (x.f ∈ st) = r at *
              cases r
              · go_wp2_with (go_at_call 115; refine HC.out.mono ?_; rintro e w' ⟨rfl, rfl⟩)
                go_round
                case rel => exact ⟨j + 1, by omega, by go_num, by rw [HV.out]; simp⟩
                case measure => simp [intOf]; omega
              · go_wp2_with (go_at_call 115; refine HC.out.mono ?_; rintro e w' ⟨rfl, rfl⟩)
                go_round
                case rel => exact ⟨j + 1, by omega, by go_num, by rw [HV.out]; simp⟩
                case measure => simp [intOf]; omega
            · have d2 : (x.l == b) = false := by simpa using h2
              have HV : Hid ((G.es.take (j + 1)).any (nxE st b k) = fd) := by rw [Hid, HA.out]; simp [nxE, h2]
              clear h1 h2
              go_wp2_with fail
              go_round
              case rel => exact ⟨j + 1, by omega, by go_num, by rw [HV.out]⟩
              case measure => simp [intOf]; omega
          · have d1 : (x.t == (k : Int)) = false := by simpa using h1
            have HV : Hid ((G.es.take (j + 1)).any (nxE st b k) = fd) := by rw [Hid, HA.out]; simp [nxE, h1]
            clear h1
            go_wp2_with fail
            go_round
            case rel => exact ⟨j + 1, by omega, by go_num, by rw [HV.out]⟩
            case measure => simp [intOf]; omega
        · obtain rfl : j = G.es.length := by omega
          rw [List.take_length]
          have HV : Hid (G.es.any (nxE st b k) = nxP G.es st b k) := rfl
          generalize G.es.any (nxE st b k) = fd at *
          cases fd
          · have HN : Hid (List.filter (nxP G.es st b) (upto (k + 1)) = M) := by rw [Hid, HN.out, ← HV.out]; simp
            go_wp2_with fail
            go_roundw
            case rel => exact ⟨k + 1, by omega, by go_num, by rw [HN.out]; exact hown, hB, hszr⟩
            case measure => simp [intOf]; omega
          · have HN : Hid (List.filter (nxP G.es st b) (upto (k + 1)) = M ++ [(k : Int)]) := by rw [Hid, HN.out, ← HV.out]; simp
            have hnew := cell_one_at wr (.int .i64 (k : Int)) 3 wr.heap.size rfl
            go_wp2_with (at_builtin; refine wpList_append_own _ rfl _ _ 55 rfl (w.heap.size + 1) 3 i0 (.int .i64 0) 1 8 Tryz.underlying55 hi0 hz0 hz1 hz3 rfl (by decide) _ _ _ rfl (hown.alloc _) ⟨wr.heap.size, 0, none⟩ 1 1 [.int .i64 (k : Int)] rfl rfl hnew (by simp [Value.oneCell']) (by simp [maxLen]; omega) (by omega) (by rw [World.size_alloc]; omega) ?_; intro v' w2 hown' hgrow _)
            have hg2 := hgrow.size
            go_roundw
            case rel => exact ⟨k + 1, by omega, by go_num, by rw [HN.out, List.length_append, List.map_append]; exact hown', (hB.alloc (by omega) _).grown hgrow (by simp; omega) (fun j e => (hown.lt j e).1), by rw [World.size_alloc] at hg2; omega⟩
            case measure => simp [intOf]; omega
    · obtain rfl : k = G.n.toNat := by omega
      have hlt' : ¬ ((G.n.toNat : Int) < G.n) := by omega
      go_wp2
      go_ret
      obtain ⟨p', c', rfl, hs'⟩ := own_slT hown
      exact ⟨_, _, rfl, hs', xr⟩

set_option maxRecDepth 100000 in
set_option maxHeartbeats 4000000 in
theorem r11ends_any (G : Gr) (p : Option Addr) (c : Nat) (st : List Int) (q : Option Addr) (d : Nat) (s : ByteArray) (w : World) (hin : Sg 3 w edE p G.es) (hst : SlT w q st) (hl : G.es.length ≤ 10000) (hs : st.length ≤ 100000) (hn0 : 0 ≤ G.n) (hn1 : G.n ≤ 100000) (hss : s.size ≤ 1000000) :
    Calls Tryz.prog 59 #[(.agg #[.int .i64 G.q, .int .i64 G.n, .slice p G.es.length c]), .slice q st.length d, .string s] w (LsT (endA G st (ltr s)) w) := by
  obtain ⟨w1, hw1⟩ : ∃ w1, w1 = w.alloc (.cells #[.int .i64 G.q, .int .i64 G.n, .slice p G.es.length c] 24) := ⟨_, rfl⟩
  have c0 : VRow w1 w.heap.size 24 [.int .i64 G.q, .int .i64 G.n, .slice p G.es.length c] := by subst hw1; exact VRow.new w _ _
  have x1 : RowKit.Below w.heap.size w w1 := by subst hw1; exact (RowKit.Below.refl _ _).alloc (Nat.le_refl _) _
  have HIN := hidI hin; have HST := hidI (hst.below x1); have C0 := hidI c0; have X1 := hidI x1
  have HLE : ∀ k, Hid ((endA G st ((ltr s).take k)).length ≤ 100000) := fun k => by
    cases h : (ltr s).take k with
    | nil => exact hs
    | cons a r =>
      have : endA G st (a :: r) = endA G (nextA G st a) r := rfl
      unfold Hid
      rw [this]
      have h2 : ∀ (l : List Int) (S : List Int), S.length ≤ 100000 → (endA G S l).length ≤ 100000 := by
        intro l
        induction l with
        | nil => intro S h; exact h
        | cons b l ih =>
          intro S h
          have e : endA G S (b :: l) = endA G (nextA G S b) l := rfl
          rw [e]
          exact ih _ (Nat.le_trans (uptof_len _ _) (by omega))
      exact h2 r _ (Nat.le_trans (uptof_len _ _) (by omega))
  clear hin hst x1 c0 hs
  go_enter Tryz.func59, Tryz.ntmps59
  go_upto_region 1 with fail
  rw [← hw1]
  clear hw1
  go_wp2_with fail
  go_loopw [1, 7] (fun sv iv W => ∃ (k : Nat) (q' : Option Addr) (d' : Nat), k ≤ s.size ∧ iv = .int .i64 k ∧ sv = .slice q' (endA G st ((ltr s).take k)).length d' ∧ SlT W q' (endA G st ((ltr s).take k)) ∧ RowKit.Below w1.heap.size w1 W) (fun _ iv _ => s.size - (intOf iv).toNat)
  case atStart => exact ⟨0, q, d, by omega, rfl, rfl, HST.out, RowKit.Below.refl _ _⟩
  case round =>
    obtain ⟨k, q', d', hk, rfl, rfl, hsl, hB⟩ := hrel
    have xr := X1.out.trans (hB.mono X1.out.size)
    have cr := C0.out.below hB C0.out.lt
    have hle := (HLE k).out
    by_cases hlt : k < s.size
    · have HN : Hid (endA G st ((ltr s).take (k + 1)) = nextA G (endA G st ((ltr s).take k)) (Chg.dig (s[k].toNat : Int))) := by rw [Hid, ltr_take s k hlt, endA_snoc]
      have hltI : (k : Int) < (s.size : Int) := by omega
      have f0 := cr.at 0 rfl; have f1 := cr.at 1 rfl; have f2 := cr.at 2 rfl
      have HC := hidI (fun W (hW : RowKit.Below wr.heap.size wr W) => r11Step_any G p c (endA G st ((ltr s).take k)) q' d' (Chg.dig (s[k].toNat : Int)) W (HIN.out.below (xr.trans (hW.mono xr.size))) (hsl.1.below hW) hl (by omega) hn0 hn1)
      generalize endA G st ((ltr s).take k) = L at *
      have cr2 := cr.lt
      clear cr
      go_wp2_with fail
      have hz : w.heap.size < wr.heap.size := cr2
      go_region_held3 (fun w' => w'.cell? ⟨w.heap.size, 0, none⟩ = some (.int .i64 G.q) ∧ w'.cell? ⟨w.heap.size, 1, none⟩ = some (.int .i64 G.n) ∧ w'.cell? ⟨w.heap.size, 2, none⟩ = some (.slice p G.es.length c) ∧ RowKit.Below wr.heap.size wr w')
        (first | (go_split_ands; refine ⟨?_, ?_, ?_, ?_⟩ <;> first | assumption | exact below_drewN (RowKit.Below.refl _ _) 1 | exact (hBa.cell (Nat.lt_of_lt_of_le hz (RowKit.Below.size (by assumption)))).trans (by assumption) | exact RowKit.Below.trans (by assumption) (hBa.mono (RowKit.Below.size (by assumption))) | (go_keep; done)))
        (first
          | (go_at_call 90; refine (Chg.digit_any _ _).mono ?_; rintro e w' ⟨rfl, rfl⟩)
          | (go_at_call 89; go_split_ands; (with_reducible refine (HC.out _ (by assumption)).mono ?_); rintro e wA ⟨qa, da, rfl, hsa, hBa⟩))
      go_wp2_with fail
      have hBx : RowKit.Below wr.heap.size wr wA := RowKit.Below.trans (by assumption) (hBa.mono (RowKit.Below.size (by assumption)))
      go_roundw
      case rel => exact ⟨k + 1, qa, da, by omega, by go_num, by rw [HN.out], by rw [HN.out]; exact hsa, hB.trans (hBx.mono hB.size)⟩
      case measure => simp [intOf]; omega
    · obtain rfl : k = s.size := by omega
      have hltI : ¬ (s.size : Int) < (s.size : Int) := by omega
      have HE : Hid (endA G st (ltr s) = endA G st ((ltr s).take s.size)) := by rw [Hid, ltr_all]
      generalize endA G st ((ltr s).take s.size) = L at *
      go_wp2
      go_ret
      exact ⟨q', d', by rw [HE.out]; rfl, by rw [HE.out]; exact hsl, xr⟩

set_option maxRecDepth 100000 in
set_option maxHeartbeats 4000000 in
theorem r11All_any (G : Gr) (p : Option Addr) (c : Nat) (w : World) (hn0 : 0 ≤ G.n) (hn1 : G.n ≤ 100000) :
    Calls Tryz.prog 56 #[(.agg #[.int .i64 G.q, .int .i64 G.n, .slice p G.es.length c])] w (LsT (upto G.n.toNat) w) := by
  obtain ⟨i0, hi0, hz0, hz1, hz3⟩ := info_parts infoIn
  obtain ⟨w1, hw1⟩ : ∃ w1, w1 = (w.alloc (.cells #[.int .i64 G.q, .int .i64 G.n, .slice p G.es.length c] 24)).alloc (.cells #[] 3) := ⟨_, rfl⟩
  have c0 : VRow w1 w.heap.size 24 [.int .i64 G.q, .int .i64 G.n, .slice p G.es.length c] := by subst hw1; exact (VRow.new w _ _).alloc _
  have x1 : RowKit.Below w.heap.size w w1 := by subst hw1; exact ((RowKit.Below.refl _ _).alloc (Nat.le_refl _) _).alloc (by simp) _
  have o1 : w1.ownsRow (w.heap.size + 1) 3 1 (.slice (some ⟨w.heap.size + 1, 0, none⟩) 0 0) 0 [] := by
    subst hw1
    have := own_new (w.alloc (.cells #[.int .i64 G.q, .int .i64 G.n, .slice p G.es.length c] 24)) (w.heap.size + 1) [] 3 (by simp) (by simp [maxLen])
    rw [World.size_alloc] at this; exact this
  have hsz := x1.size
  have hsz1 : w.heap.size + 1 < w1.heap.size := by subst hw1; simp
  obtain ⟨n, hn⟩ : ∃ n : Nat, G.n = n := ⟨G.n.toNat, by omega⟩
  have HN0 : Hid (upto G.n.toNat = upto n) := by rw [Hid, hn]; rfl
  have HNN := hidI hn
  rw [hn] at c0
  have hn100 : n ≤ 100000 := by omega
  clear hn
  go_enter Tryz.func56, Tryz.ntmps56
  go_upto_region 2 with fail
  rw [← hw1]
  clear hw1
  go_wp2_with fail
  go_loopw [3, 4] (fun ov iv wr => ∃ k : Nat, k ≤ n ∧ iv = .int .i64 k ∧ wr.ownsRow (w.heap.size + 1) 3 1 ov k ((upto k).map (Value.int .i64)) ∧ RowKit.Below (w.heap.size + 1) w1 wr ∧ w1.heap.size ≤ wr.heap.size) (fun _ iv _ => n - (intOf iv).toNat)
  case atStart => exact ⟨0, by omega, rfl, o1, RowKit.Below.refl _ _, Nat.le_refl _⟩
  case round =>
    obtain ⟨k, hk, rfl, hown, hB, hszr⟩ := hrel
    have xr := x1.trans (hB.mono (by omega))
    have cr := c0.below hB (by omega)
    have f1 := cr.at 1 rfl
    by_cases hlt : k < n
    · have hlt' : (k : Int) < (n : Int) := by omega
      have hnew := cell_one_at wr (.int .i64 (k : Int)) 3 wr.heap.size rfl
      have HU : Hid ((upto k).map (Value.int .i64) ++ [.int .i64 (k : Int)] = (upto (k + 1)).map (Value.int .i64)) := by rw [Hid, upto_succ, List.map_append]; rfl
      go_wp2_with (at_builtin; refine wpList_append_own _ rfl _ _ 55 rfl (w.heap.size + 1) 3 i0 (.int .i64 0) 1 8 Tryz.underlying55 hi0 hz0 hz1 hz3 rfl (by decide) _ _ _ rfl (hown.alloc _) ⟨wr.heap.size, 0, none⟩ 1 1 [.int .i64 (k : Int)] rfl rfl hnew (by simp [Value.oneCell']) (by simp [maxLen]; omega) (by omega) (by rw [World.size_alloc]; omega) ?_; intro v' w2 hown' hgrow _)
      have hg2 := hgrow.size
      go_roundw
      case rel => exact ⟨k + 1, by omega, by go_num, by rw [← HU.out]; exact hown', (hB.alloc (by omega) _).grown hgrow (by simp; omega) (fun j e => (hown.lt j e).1), by rw [World.size_alloc] at hg2; omega⟩
      case measure => simp [intOf]; omega
    · obtain rfl : k = n := by omega
      have hlt' : ¬ ((k : Int) < (k : Int)) := by omega
      go_wp2
      go_ret
      obtain ⟨p', c', rfl, hs'⟩ := own_slT hown
      exact ⟨p', c', by rw [HN0.out]; rfl, by rw [HN0.out]; exact hs', xr⟩

/-- Why a word cannot be read in a graph. -/
theorem r11check_ok (G : Gr) (p : Option Addr) (c : Nat) (w : World) (hin : Sg 3 w edE p G.es) (hl : G.es.length ≤ 9223372036854775807) (hv : Vg G) (hq : G.q ≤ 16) :
    Calls Tryz.prog 86 #[(.agg #[.int .i64 G.q, .int .i64 G.n, .slice p G.es.length c])] w fun e w' => e = .returned (.int .i64 0) ∧ RowKit.Below w.heap.size w w' := by
  obtain ⟨w1, hw1⟩ : ∃ w1, w1 = w.alloc (.cells #[.int .i64 G.q, .int .i64 G.n, .slice p G.es.length c] 24) := ⟨_, rfl⟩
  have c0 : VRow w1 w.heap.size 24 [.int .i64 G.q, .int .i64 G.n, .slice p G.es.length c] := by subst hw1; exact VRow.new w _ _
  have x1 : RowKit.Below w.heap.size w w1 := by subst hw1; exact (RowKit.Below.refl _ _).alloc (Nat.le_refl _) _
  have HC := hidI (rCheck_r G p c w1 0 (chkG_ok.2 hv) (hin.below x1) (by omega))
  have f0 := c0.at 0 rfl; have f1 := c0.at 1 rfl; have f2 := c0.at 2 rfl
  have hd : decide ((16 : Int) < G.q) = false := decide_eq_false (by omega)
  clear hin hv hq
  go_enter Tryz.func86, Tryz.ntmps86
  go_upto_region 1 with fail
  rw [← hw1]
  clear hw1
  go_wp2_with fail
  refine HC.out.mono ?_
  rintro e w2 ⟨rfl, hB2⟩
  have c2 := c0.below hB2 c0.lt
  clear f0 f1 f2
  have f0 := c2.at 0 rfl
  go_wp2
  go_ret
  exact ⟨rfl, x1.trans (hB2.mono x1.size)⟩
theorem r11checkWord_ok (G : Gr) (p : Option Addr) (c : Nat) (s : ByteArray) (w : World) (hin : Sg 3 w edE p G.es) (hl : G.es.length ≤ 9223372036854775807) (hv : Vg G) (hq : G.q ≤ 16) (hs : s.size ≤ maxLen) (hc : Chg.wchk G.q s.data.toList = 0) :
    Calls Tryz.prog 58 #[(.agg #[.int .i64 G.q, .int .i64 G.n, .slice p G.es.length c]), .string s] w fun e w' => e = .returned (.int .i64 0) ∧ RowKit.Below w.heap.size w w' := by
  obtain ⟨w1, hw1⟩ : ∃ w1, w1 = w.alloc (.cells #[.int .i64 G.q, .int .i64 G.n, .slice p G.es.length c] 24) := ⟨_, rfl⟩
  have c0 : VRow w1 w.heap.size 24 [.int .i64 G.q, .int .i64 G.n, .slice p G.es.length c] := by subst hw1; exact VRow.new w _ _
  have x1 : RowKit.Below w.heap.size w w1 := by subst hw1; exact (RowKit.Below.refl _ _).alloc (Nat.le_refl _) _
  have HC := hidI (r11check_ok G p c w1 (hin.below x1) hl hv hq)
  have HW := hidI (fun W => (Chg.check07_any G.q s W hs))
  rw [hc] at HW
  have f0 := c0.at 0 rfl; have f1 := c0.at 1 rfl; have f2 := c0.at 2 rfl
  clear hin hv hq hc
  go_enter Tryz.func58, Tryz.ntmps58
  go_upto_region 1 with fail
  rw [← hw1]
  clear hw1
  go_wp2_with fail
  refine HC.out.mono ?_
  rintro e w2 ⟨rfl, hB2⟩
  have c2 := c0.below hB2 c0.lt
  clear f0 f1 f2
  have f0 := c2.at 0 rfl
  go_wp2_with fail
  refine (HW.out _).mono ?_
  rintro e w3 ⟨rfl, rfl⟩
  go_wp2
  go_ret
  exact ⟨rfl, x1.trans (hB2.mono x1.size)⟩

set_option maxRecDepth 100000 in
set_option maxHeartbeats 2000000 in
theorem r11Accepts_any (G : Gr) (p : Option Addr) (c : Nat) (s : ByteArray) (w : World) (hin : Sg 3 w edE p G.es) (hv : Vg G) (hq : G.q ≤ 16) (hc : Chg.wchk G.q s.data.toList = 0) (hss : s.size ≤ 65536) :
    Calls Tryz.prog 23 #[(.agg #[.int .i64 G.q, .int .i64 G.n, .slice p G.es.length c]), .string s] w fun e w' => e = .returned (.tuple #[.bool (accA G s), .int .i64 0]) ∧ RowKit.Below w.heap.size w w' := by
  obtain ⟨w1, hw1⟩ : ∃ w1, w1 = w.alloc (.cells #[.int .i64 G.q, .int .i64 G.n, .slice p G.es.length c] 24) := ⟨_, rfl⟩
  have c0 : VRow w1 w.heap.size 24 [.int .i64 G.q, .int .i64 G.n, .slice p G.es.length c] := by subst hw1; exact VRow.new w _ _
  have x1 : RowKit.Below w.heap.size w w1 := by subst hw1; exact (RowKit.Below.refl _ _).alloc (Nat.le_refl _) _
  have hl := hv.len; have hn0 := hv.n1; have hn1 := hv.n2
  have HC := hidI (r11checkWord_ok G p c s w1 (hin.below x1) (by omega) hv hq (by unfold maxLen; omega) hc)
  have HA := hidI (fun W => r11All_any G p c W hn0 (by omega))
  have HE := hidI (fun (q' : Option Addr) (d' : Nat) (W : World) (hW : RowKit.Below w.heap.size w W) (hs : SlT W q' (upto G.n.toNat)) => r11ends_any G p c (upto G.n.toNat) q' d' s W (hin.below hW) hs (by omega) (by rw [upto_len]; omega) hn0 (by omega) (by omega))
  have HX : Hid (accA G s = decide (0 < (endA G (upto G.n.toNat) (ltr s)).length)) := rfl
  have f0 := c0.at 0 rfl; have f1 := c0.at 1 rfl; have f2 := c0.at 2 rfl
  clear hin hv hq hc hl hn0 hn1
  generalize accA G s = r at *
  generalize endA G (upto G.n.toNat) (ltr s) = E at *
  generalize upto G.n.toNat = U at *
  go_enter Tryz.func23, Tryz.ntmps23
  go_upto_region 1 with fail
  rw [← hw1]
  clear hw1
  go_wp2_with fail
  refine HC.out.mono ?_
  rintro e w2 ⟨rfl, hB2⟩
  have c2 := c0.below hB2 c0.lt
  have x2 := x1.trans (hB2.mono x1.size)
  clear f0 f1 f2 x1 c0 HC hB2
  have f0 := c2.at 0 rfl; have f1 := c2.at 1 rfl; have f2 := c2.at 2 rfl
  have hz := c2.lt
  clear c2
  go_wp2_with fail
  go_region_held3 (fun w' => w'.cell? ⟨w.heap.size, 0, none⟩ = some (.int .i64 G.q) ∧ w'.cell? ⟨w.heap.size, 1, none⟩ = some (.int .i64 G.n) ∧ w'.cell? ⟨w.heap.size, 2, none⟩ = some (.slice p G.es.length c) ∧ RowKit.Below w2.heap.size w2 w')
    (first | (go_split_ands; refine ⟨?_, ?_, ?_, ?_⟩ <;> first | assumption | exact below_drewN (RowKit.Below.refl _ _) 1 | exact (hBa.cell (Nat.lt_of_lt_of_le hz (RowKit.Below.size (by assumption)))).trans (by assumption) | exact (hBb.cell (Nat.lt_of_lt_of_le hz (RowKit.Below.size (by assumption)))).trans (by assumption) | exact RowKit.Below.trans (by assumption) (hBa.mono (RowKit.Below.size (by assumption))) | exact RowKit.Below.trans (by assumption) (hBb.mono (RowKit.Below.size (by assumption))) | (go_keep; done)))
    (first
      | (go_at_call 56; go_split_ands; (with_reducible refine (HA.out _).mono ?_); rintro e wA ⟨qa, da, rfl, hsa, hBa⟩)
      | (go_at_call 59; go_split_ands; (with_reducible refine (HE.out qa da _ (x2.trans (RowKit.Below.mono (by assumption) x2.size)) (hsa.keep ?_)).mono ?_); (exact fun _ _ _ h => h); rintro e wB ⟨qb, db, rfl, hsb, hBb⟩))
  have hBx : RowKit.Below w2.heap.size w2 wB := RowKit.Below.trans (by assumption) (hBb.mono (RowKit.Below.size (by assumption)))
  go_wp2
  go_ret2
  exact ⟨by rw [HX.out]; rfl, x2.trans (hBx.mono x2.size)⟩
#print axioms r11Accepts_any

/-! ### The label of one letter -/
theorem letv_dig (c : Int) (k : Nat) (h : Chg.dig c = (k : Int)) : Chg.letv k = c := by
  unfold Chg.dig at h; unfold Chg.letv
  split at h
  · rw [if_pos (by omega)]; omega
  · split at h
    · rw [if_neg (by omega)]; omega
    · omega

end Go.Proofs.YtdhkdampdlhdoaaGreat
namespace Go.Proofs.YtdhkdampdlhdoaaGreat
open Go Go.RowKit

abbrev SpE := ByteArray × (Option Addr × Nat)
def spE (G : Gr) (e : SpE) : List Value := [.string e.1, .slice e.2.1 (enA G e.1).length e.2.2]
def catS (G : Gr) (l : List SpE) : List Value := l.flatMap (spE G)
theorem catS_app (G : Gr) (a b : List SpE) : catS G (a ++ b) = catS G a ++ catS G b := List.flatMap_append
theorem catS_get (G : Gr) : ∀ (l : List SpE) (k : Nat) (h : k < l.length) (j : Nat), j < 2 → (catS G l)[k * 2 + j]? = (spE G l[k])[j]?
  | e :: l, 0, h, j, hj => by
    unfold catS
    rw [List.flatMap_cons, List.getElem?_append_left (by simp [spE]; omega)]
    simp
  | e :: l, k + 1, h, j, hj => by
    have ih := catS_get G l k (by simpa using h) j hj
    unfold catS at ih ⊢
    rw [List.flatMap_cons, List.getElem?_append_right (by simp [spE]; omega)]
    have : (k + 1) * 2 + j - (spE G e).length = k * 2 + j := by simp [spE]; omega
    rw [this, ih]
    simp
theorem catS_one (G : Gr) (l : List SpE) : ∀ v ∈ catS G l, v.oneCell' = true := by
  intro v hv
  obtain ⟨e, _, he⟩ := List.mem_flatMap.1 hv
  simp [spE] at he
  rcases he with rfl | rfl <;> simp [Value.oneCell']
/-- A row of words with their ends, of the call's own. -/
def SpR (G : Gr) (w : World) (B : Nat) (v : Value) (q : List ByteArray) : Prop := ∃ es : List SpE, es.map (·.1) = q ∧ w.ownsRow B 109 2 v q.length (catS G es) ∧ ∀ e ∈ es, SlT w e.2.1 (enA G e.1)
section
variable {G : Gr} {w w' : World} {B : Nat} {v : Value} {q : List ByteArray}
theorem SpR.below (h : SpR G w B v q) (hB : RowKit.Below w.heap.size w w') : SpR G w' B v q := by
  obtain ⟨es, h1, h2, h3⟩ := h
  exact ⟨es, h1, h2.below hB, fun e he => (h3 e he).below hB⟩
theorem SpR.lt (h : SpR G w B v q) : ∀ j, v.ownBlock = some j → B ≤ j ∧ j < w.heap.size := by
  obtain ⟨es, h1, h2, h3⟩ := h; exact h2.lt
theorem SpR.val (h : SpR G w B v q) : ∃ p c, v = .slice p q.length c := by
  obtain ⟨es, h1, h2, h3⟩ := h
  rcases h2.2 with ⟨e0, h0⟩ | ⟨g', cap', cur, e0, hg, hh, hc, hm, hs, ht⟩
  · exact ⟨none, 0, by rw [e0, h0]⟩
  · exact ⟨_, _, e0⟩
theorem SpR.get (h : SpR G w B v q) (i : Nat) (hi : i < q.length) :
    ∃ g cap pp d, v = .slice (some ⟨g, 0, none⟩) q.length cap ∧ w.cell? ⟨g, i * 2, none⟩ = some (.string q[i]) ∧ w.cell? ⟨g, i * 2 + 1, none⟩ = some (.slice pp (enA G q[i]).length d) ∧ SlT w pp (enA G q[i]) := by
  obtain ⟨es, h1, h2, h3⟩ := h
  have hl : es.length = q.length := by rw [← h1, List.length_map]
  have hi' : i < es.length := by omega
  have he : es[i].1 = q[i] := by subst h1; rw [List.getElem_map]
  rcases h2.2 with ⟨e0, h0⟩ | ⟨g, cap, cur, rfl, _⟩
  · omega
  have c0 := h2.cells (g := g) rfl (i * 2 + 0) (.string q[i]) (by rw [catS_get G es i hi' 0 (by omega), ← he]; rfl)
  have c1 := h2.cells (g := g) rfl (i * 2 + 1) (.slice es[i].2.1 (enA G q[i]).length es[i].2.2) (by rw [catS_get G es i hi' 1 (by omega), ← he]; rfl)
  have hs := h3 es[i] (List.getElem_mem hi')
  rw [he] at hs
  have ea : ∀ n : Nat, ((⟨g, 0, none⟩ : Addr).add n) = ⟨g, n, none⟩ := fun n => by
    unfold Addr.add
    by_cases h : n = 0
    · subst h; rfl
    · rw [if_neg h, Nat.zero_add]
  rw [ea] at c0 c1
  exact ⟨g, cap, es[i].2.1, es[i].2.2, rfl, c0, c1, hs⟩
theorem SpR.mono {B' : Nat} (h : SpR G w B v q) (hB : B' ≤ B) : SpR G w B' v q := by
  obtain ⟨es, h1, h2, h3⟩ := h
  exact ⟨es, h1, ⟨h2.1, h2.2.imp id (fun ⟨g, cap, cur, a, b, z⟩ => ⟨g, cap, cur, a, Nat.le_trans hB b, z⟩)⟩, h3⟩
theorem SpR.nil {g : Nat} (h : w.ownsRow B 109 2 (.slice (some ⟨g, 0, none⟩) 0 0) 0 []) : SpR G w B (.slice (some ⟨g, 0, none⟩) 0 0) [] := ⟨[], rfl, h, fun _ h => by cases h⟩
theorem SpR.push {v' : Value} {x : ByteArray} {p : Option Addr} {d : Nat} {es : List SpE} (h1 : es.map (·.1) = q) (h3 : ∀ e ∈ es, SlT w e.2.1 (enA G e.1)) (hk : KX0 3 w w') (hs : SlT w' p (enA G x))
    (ho : w'.ownsRow B 109 2 v' (q.length + 1) (catS G es ++ catS G [(x, (p, d))])) : SpR G w' B v' (q ++ [x]) := by
  refine ⟨es ++ [(x, (p, d))], by rw [List.map_append, h1]; rfl, ?_, fun e he => ?_⟩
  · rw [List.length_append, catS_app]; exact ho
  · rcases List.mem_append.1 he with he | he
    · exact (h3 e he).keep hk
    · rw [List.mem_singleton.1 he]; exact hs
theorem infoSp : (Tryz.prog.info? 109).map (fun i => (i.zero, i.size, i.bytes)) = some (some (.agg #[.string ⟨#[]⟩, .slice none 0 0]), 2, 40) := by kernel_rfl
end
/-! ### The words with a letter more -/
def nxR (G : Gr) (u : ByteArray) (a : Nat) : List ByteArray := ((List.range a).filter (fun a => accA G (wdA u a))).map (wdA u)
theorem nxR_all (G : Gr) (u : ByteArray) : nxR G u G.q.toNat = nxW G u := rfl
theorem nxR_yes {G : Gr} {u : ByteArray} {a : Nat} (h : accA G (wdA u a) = true) : nxR G u (a + 1) = nxR G u a ++ [wdA u a] := by
  unfold nxR; rw [List.range_succ, List.filter_append]; simp [h]
theorem nxR_no {G : Gr} {u : ByteArray} {a : Nat} (h : accA G (wdA u a) = false) : nxR G u (a + 1) = nxR G u a := by
  unfold nxR; rw [List.range_succ, List.filter_append]; simp [h]
theorem nxR_len (G : Gr) (u : ByteArray) (a : Nat) : (nxR G u a).length ≤ a := by
  unfold nxR
  rw [List.length_map]
  exact Nat.le_trans (List.length_filter_le _ _) (by simp)
theorem nxT_succ (G : Gr) (us : List ByteArray) (k : Nat) (h : k < us.length) : (us.take (k + 1)).flatMap (nxW G) = (us.take k).flatMap (nxW G) ++ nxW G us[k] := by
  rw [List.take_succ_eq_append_getElem h, List.flatMap_append]; simp
theorem nxT_len (G : Gr) (us : List ByteArray) : (us.flatMap (nxW G)).length ≤ us.length * G.q.toNat := by
  induction us with
  | nil => simp
  | cons x l ih =>
    rw [List.flatMap_cons, List.length_append, List.length_cons, Nat.add_mul, Nat.one_mul]
    have : (nxW G x).length ≤ G.q.toNat := by rw [← nxR_all]; exact nxR_len G x _
    omega
end Go.Proofs.YtdhkdampdlhdoaaGreat
namespace Go.Proofs.YtdhkdampdlhdoaaGreat
open Go.RowKit

/-- Where the region of the step stands. -/
structure S8 (W0 : World) (L : List Int) (v29 v8 : Option Value) (W : World) : Prop where
  b : RowKit.Below W0.heap.size W0 W
  r : ∀ v, v29 = some v → ∃ q d, v = .slice q L.length d ∧ SlT W q L
  s : ∀ v, v8 = some v → v29 = some v
/-- Where the region of the append stands. -/
structure SA (W0 : World) (row : List Value) (Fin : Value → World → Prop) (d13 d14 : Bool) (v47 v5 : Option Value) (W : World) : Prop where
  p : d14 = false → RowKit.Below W0.heap.size W0 W ∧ (d13 = false → W.heap.size = W0.heap.size) ∧ (d13 = true → VRow W W0.heap.size 109 row ∧ W.heap.size = W0.heap.size + 1)
  m : d14 = true → ∃ v, v47 = some v ∧ Fin v W
  s : ∀ v, v5 = some v → v47 = some v
section
variable {W0 W W' : World} {row : List Value} {Fin : Value → World → Prop} {d13 d14 : Bool} {v47 v5 : Option Value} {L : List Int} {v29 v8 : Option Value}
theorem S8.done (h : S8 W0 L v29 v8 W) (hB : RowKit.Below W.heap.size W W') {q : Option Addr} {d : Nat} (hs : SlT W' q L) (h8 : v8 = none) : S8 W0 L (some (.slice q L.length d)) v8 W' :=
  ⟨h.b.trans (hB.mono h.b.size), fun v e => ⟨q, d, (Option.some.inj e).symm, hs⟩, fun v e => by rw [h8] at e; cases e⟩
theorem S8.put (h : S8 W0 L v29 v8 W) {v : Value} (hv : v29 = some v) : S8 W0 L v29 (some v) W := ⟨h.b, h.r, fun u e => by rw [hv, e]⟩
theorem SA.alloc (h : SA W0 row Fin d13 d14 v47 v5 W) (h1 : d13 = false) (h2 : d14 = false) : SA W0 row Fin true d14 v47 v5 (W.alloc (.cells row.toArray 109)) := by
  obtain ⟨hb, hs, _⟩ := h.p h2
  have hs := hs h1
  refine ⟨fun _ => ⟨hb.alloc (by omega) _, (fun e => by cases e), fun _ => ⟨?_, by simp [hs]⟩⟩, fun e => (by rw [h2] at e; cases e), h.s⟩
  rw [← hs]; exact VRow.new W _ _
theorem SA.app {v : Value} (hF : Fin v W') (h5 : v5 = none) : SA W0 row Fin d13 true (some v) v5 W' := ⟨(fun e => by cases e), fun _ => ⟨v, rfl, hF⟩, fun u e => by rw [h5] at e; cases e⟩
theorem SA.put (h : SA W0 row Fin d13 d14 v47 v5 W) {v : Value} (hv : v47 = some v) : SA W0 row Fin d13 d14 v47 (some v) W := ⟨h.p, h.m, fun u e => by rw [hv, e]⟩
end
theorem news_rowS {W : World} {b : Nat} {row : List Value} (h : VRow W b 109 row) : ∀ j u, row[j]? = some u → W.cell? ((⟨b, 0, none⟩ : Addr).add j) = some u := fun j u hj => by
  have ea : ((⟨b, 0, none⟩ : Addr).add j) = ⟨b, j, none⟩ := by
    unfold Addr.add
    by_cases h : j = 0
    · subst h; rfl
    · rw [if_neg h, Nat.zero_add]
  rw [ea]; exact h.at j hj

set_option maxRecDepth 100000 in
set_option maxHeartbeats 8000000 in
theorem r11grow_any (G : Gr) (p : Option Addr) (c : Nat) (us : List ByteArray) (v : Value) (B : Nat) (w : World) (hin : Sg 3 w edE p G.es) (hR : SpR G w B v us) (hv : Vg G) (hq : G.q ≤ 16) (hl : us.length ≤ 2000) (hz : ∀ u ∈ us, u.size ≤ 100) :
    Calls Tryz.prog 87 #[(.agg #[.int .i64 G.q, .int .i64 G.n, .slice p G.es.length c]), v] w fun e w' => ∃ v', e = .returned v' ∧ SpR G w' w.heap.size v' (us.flatMap (nxW G)) ∧ RowKit.Below w.heap.size w w' := by
  obtain ⟨i0, hi0, hz0, hz1, hz3⟩ := info_parts infoSp
  obtain ⟨pv, cv, rfl⟩ := hR.val
  have HIN := hidI hin; have HV := hidI hv; have HR := hidI hR; have HZ := hidI hz
  have hel := hv.len; have hn0 := hv.n1; have hn1 := hv.n2
  obtain ⟨w1, hw1⟩ : ∃ w1, w1 = (w.alloc (.cells #[.int .i64 G.q, .int .i64 G.n, .slice p G.es.length c] 24)).alloc (.cells #[] 109) := ⟨_, rfl⟩
  have c0 : VRow w1 w.heap.size 24 [.int .i64 G.q, .int .i64 G.n, .slice p G.es.length c] := by subst hw1; exact (VRow.new w _ _).alloc _
  have x1 : RowKit.Below w.heap.size w w1 := by subst hw1; exact ((RowKit.Below.refl _ _).alloc (Nat.le_refl _) _).alloc (by simp) _
  have o1 : w1.ownsRow (w.heap.size + 1) 109 1 (.slice (some ⟨w.heap.size + 1, 0, none⟩) 0 0) 0 [] := by
    subst hw1
    have := own_new (w.alloc (.cells #[.int .i64 G.q, .int .i64 G.n, .slice p G.es.length c] 24)) (w.heap.size + 1) [] 109 (by simp) (by simp [maxLen])
    rw [World.size_alloc] at this; exact this
  have o2 : w1.ownsRow (w.heap.size + 1) 109 2 (.slice (some ⟨w.heap.size + 1, 0, none⟩) 0 0) 0 [] := by
    refine ⟨by simp, o1.2.imp id (fun ⟨g, cap, cur, a, b, hh, hc, hm, hs, ht⟩ => ?_)⟩
    simp only [Value.slice.injEq, Option.some.injEq, Addr.mk.injEq] at a
    obtain ⟨⟨rfl, _, _⟩, _, rfl⟩ := a
    exact ⟨w.heap.size + 1, 0, cur, rfl, b, hh, Nat.le_refl _, by simp [maxLen], by simpa using hs, by simp⟩
  have hP : SpR G w1 (w.heap.size + 1) (.slice (some ⟨w.heap.size + 1, 0, none⟩) 0 0) ((us.take 0).flatMap (nxW G)) := SpR.nil o2
  clear hin hR hv o1 o2 hz
  go_enter Tryz.func87, Tryz.ntmps87
  go_upto_region 2 with fail
  rw [← hw1]
  clear hw1
  go_wp2_with fail
  go_loopw [5, 6] (fun ov iv wr => ∃ k : Nat, k ≤ us.length ∧ iv = .int .i64 k ∧ SpR G wr (w.heap.size + 1) ov ((us.take k).flatMap (nxW G)) ∧ VRow wr w.heap.size 24 [.int .i64 G.q, .int .i64 G.n, .slice p G.es.length c] ∧ RowKit.Below w.heap.size w wr) (fun _ iv _ => us.length - (intOf iv).toNat)
  case atStart => exact ⟨0, by omega, rfl, hP, c0, x1⟩
  case round =>
    clear hP c0 x1
    obtain ⟨k, hk, rfl, hP, c0, hB⟩ := hrel
    by_cases hlt : k < us.length
    · have hltI : (k : Int) < (us.length : Int) := by omega
      have HT := hidI (nxT_succ G us k hlt)
      have hTL := nxT_len G (us.take k)
      have hxz := HZ.out _ (List.getElem_mem hlt)
      rw [← nxR_all] at HT
      rw [List.length_take] at hTL
      have hTL2 : ((us.take k).flatMap (nxW G)).length ≤ 40000 := by
        have : min k us.length * G.q.toNat ≤ 2000 * 16 := Nat.mul_le_mul (by omega) (by omega)
        omega
      obtain ⟨g, cap, pp, dd, hsv, _⟩ := HR.out.get k hlt
      have hx0 : ∀ W, RowKit.Below w.heap.size w W → ∃ pp d, W.cell? ⟨g, k * 2, none⟩ = some (.string us[k]) ∧ W.cell? ⟨g, k * 2 + 1, none⟩ = some (.slice pp (enA G us[k]).length d) ∧ SlT W pp (enA G us[k]) := fun W hW => by
        obtain ⟨g', cap', pp', d', e1, e2, e3, e4⟩ := (HR.out.below hW).get k hlt
        rw [hsv] at e1
        cases e1
        exact ⟨pp', d', e2, e3, e4⟩
      cases hsv
      have HX := hidI hx0
      have HXE : Hid (us[k] = us[k]) := rfl
      generalize (us.take k).flatMap (nxW G) = X at *
      generalize us[k] = x at *
      have HP0 : Hid (X = X ++ nxR G x 0) := by unfold Hid nxR; simp
      rw [HP0.out] at hP
      clear hx0 hTL HP0
      go_wp2_with fail
      go_loopw [5, 7] (fun ov iv wr => ∃ a : Nat, a ≤ G.q.toNat ∧ iv = .int .i64 a ∧ SpR G wr (w.heap.size + 1) ov (X ++ nxR G x a) ∧ VRow wr w.heap.size 24 [.int .i64 G.q, .int .i64 G.n, .slice p G.es.length c] ∧ RowKit.Below w.heap.size w wr) (fun _ iv _ => G.q.toNat - (intOf iv).toNat)
      case atStart => exact ⟨0, by omega, rfl, hP, c0, hB⟩
      case round =>
        clear hP c0 hB
        obtain ⟨a, ha, rfl, hP, c0, hB⟩ := hrel
        have f0 := c0.at 0 rfl; have f1 := c0.at 1 rfl; have f2 := c0.at 2 rfl
        by_cases hlt3 : a < G.q.toNat
        · have haI : (a : Int) < G.q := by omega
          have ha16 : a < 16 := by omega
          have hI1 : (a : Int) ≤ (a : Int) + 1 := by omega
          have hI2 : (a : Int) + 1 ≤ 16 := by omega
          have hI3 : ((a : Int) + 1).toNat = a + 1 := by omega
          obtain ⟨pp, d, e1, e2, hs⟩ := HX.out wr hB
          have hgw := World.block_lt_of_cell? wr _ e1
          have hcw := c0.lt
          have hSt : (enA G x).length ≤ 100000 := by
            have := (endA_st G _ (St.upto hn0) (ltr x)).len hn0
            unfold enA; omega
          have HP := hidI hP; have HB := hidI hB; have HC0 := hidI c0
          clear hP hB c0
          go_upto_region 8 with fail
          go_cut [8] (fun s8 wx => ∃ q d, s8 = .slice q (enA G (wdA x a)).length d ∧ SlT wx q (enA G (wdA x a)) ∧ RowKit.Below wr.heap.size wr wx)
          case first =>
            obtain ⟨W0, rfl⟩ : ∃ W0 : World, W0 = wr := ⟨_, rfl⟩
            refine region_detZ (by kernel_rfl) 9 [(22, some (.agg #[.int .i64 G.q, .int .i64 G.n, .slice p G.es.length c])), (23, some (.slice (some ⟨g, 0, none⟩) us.length cv)), (24, some (.int .i64 k)), (25, some (.pointer (some ⟨g, k * 2, none⟩))), (26, some (.pointer (some ⟨g, k * 2 + 1, none⟩))), (27, some (.slice pp (enA G x).length d)), (28, some (.int .i64 a)), (29, none), (8, none)] (fun f W => S8 W0 (enA G (wdA x a)) (f 29) (f 8) W) (by kernel_rfl) (by kernel_rfl) (by kernel_rfl) (by kernel_rfl) ⟨below_dN (RowKit.Below.refl _ _) 1, (fun v e => by cases e), (fun v e => by cases e)⟩ ?_ ?_
            focus
              intro i o ho ac f W hS hdep hout hold K hK
              have hc0 := (hS.b.cell hcw).trans f0
              have hc1 := (hS.b.cell (p := ⟨w.heap.size, 1, none⟩) hcw).trans f1
              have hc2 := (hS.b.cell (p := ⟨w.heap.size, 2, none⟩) hcw).trans f2
              have hc3 := (hS.b.cell (p := ⟨g, k * 2, none⟩) hgw).trans e1
              have hc4 := (hS.b.cell (p := ⟨g, k * 2 + 1, none⟩) hgw).trans e2
              have hil : i < 9 := (Array.getElem?_eq_some_iff.1 ho).1
              have hcases : i = 0 ∨ i = 1 ∨ i = 2 ∨ i = 3 ∨ i = 4 ∨ i = 5 ∨ i = 6 ∨ i = 7 ∨ i = 8 := by omega
              clear hil
              have u1 := hout 1 (by kernel_rfl)
              have u2 := hout 2 (by kernel_rfl)
              have u6 := hout 6 (by kernel_rfl)
              have u7 := hout 7 (by kernel_rfl)
              simp at u1 u2 u6 u7
              clear hout f0 f1 f2 e1 e2
              rcases hcases with rfl | rfl | rfl | rfl | rfl | rfl | rfl | rfl | rfl
              all_goals (have h8 : f 8 = none := (hold 8 (by kernel_rfl) _ rfl).1)
              all_goals (simp only [List.getElem?_toArray, List.getElem?_cons_succ, List.getElem?_cons_zero, Option.some.injEq] at ho; subst ho; simp [Region.binds] at hdep; (try go_split_ands))
              all_goals first
                | (go_simp; exact hK _ _ (fun u hu => Option.some.inj hu) hS)
                | (go_simp
                   refine (r11Step_any G p c (enA G x) pp d (a : Int) W (HIN.out.below ((HB.out).trans (hS.b.mono HB.out.size))) ((hs.below hS.b).1) (by omega) hSt hn0 (by omega)).mono ?_
                   rintro e wa ⟨q, d', rfl, hsl, hBa⟩
                   rw [← enA_wd G x ha16] at hsl ⊢
                   exact hK _ _ (fun u hu => by cases hu) (hS.done hBa hsl h8))
                | (obtain ⟨v, hv, hat⟩ : ∃ v, f 29 = some v ∧ ac.tmps[29]? = some v := by assumption
                   go_simp
                   exact hK _ _ (fun u hu => by cases hu) (hS.put hv))
                | fail
            intro f W hS hf
            obtain ⟨v8, hv8, -⟩ := hf (8, none) (by simp)
            have h29 := hS.s v8 hv8
            obtain ⟨q8, d8, hq8, hs8⟩ := hS.r v8 h29
            have hBl := hS.b
            subst hq8
            simp only [putsD, List.map_cons, List.map_nil, Option.getD_some, Option.getD_none, List.foldl_cons, List.foldl_nil, Act.put, List.setIfInBounds_toArray, List.set_cons_zero, List.set_cons_succ]
            rw [hv8]
            simp only [Option.getD_some]
            generalize (f 29).getD undef = v29
            clear hf hv8 h29 hS
            go_wp2_with fail
            go_meet
            exact ⟨q8, d8, rfl, hs8, hBl⟩
          case rest =>
            obtain ⟨q8, d8, rfl, hs8, hB8⟩ := hcut
            have HACC := hidI (accA_en G (wdA x a))
            have hP8 := HP.out.below hB8
            have hB := HB.out.trans (hB8.mono HB.out.size)
            have c8 := HC0.out.below hB8 hcw
            have k1 := (hB8.cell (p := ⟨g, k * 2, none⟩) hgw).trans e1
            have HPY := hidI (fun h => nxR_yes (G := G) (u := x) (a := a) h)
            have HPN := hidI (fun h => nxR_no (G := G) (u := x) (a := a) h)
            have hrl := nxR_len G x a
            have hgw8 : g < wc.heap.size := Nat.lt_of_lt_of_le hgw hB8.size
            clear f0 f1 f2 e1 e2 hs
            obtain ⟨M, hM⟩ : ∃ M, M = (enA G (wdA x a)).length := ⟨_, rfl⟩
            rw [← hM] at HACC ⊢
            have HM := hidI hM
            clear hM
            cases hacc : accA G (wdA x a)
            · have hM0 : M = 0 := by
                have := HACC.out
                rw [hacc] at this
                have := of_decide_eq_false this.symm
                omega
              subst hM0
              have HN := hidI (HPN.out hacc)
              clear hacc HPY HPN
              go_wp2_with fail
              go_roundw
              case rel => exact ⟨a + 1, by omega, by go_num, by rw [HN.out]; exact hP8, c8, hB⟩
              case measure => simp [intOf]; omega
            · have hMI : (0 : Int) < (M : Int) := by
                have := HACC.out
                rw [hacc] at this
                have := of_decide_eq_true this.symm
                omega
              have HY := hidI (HPY.out hacc)
              clear hacc HPY HPN
              go_upto_region 10 with fail
              obtain ⟨W0, rfl⟩ : ∃ W0 : World, W0 = wc := ⟨_, rfl⟩
              have HP8 := hidI hP8; have HC8 := hidI c8; have HB0 := hidI hB; have HS8 := hidI hs8
              have hEL : (X ++ nxR G x a).length ≤ 40100 := by rw [List.length_append]; omega
              have hBz : w.heap.size + 1 ≤ W0.heap.size := c8.lt
              have hng : ¬ (9223372036854775807 < x.size + (min (a + 1) 16 - a)) := by omega
              have hwr : IntKind.i64.wrap ((a : Int) + 1) = (a : Int) + 1 := wrap_small _ (by omega) (by omega)
              clear hP8 c8 hB hs8
              generalize hEE : X ++ nxR G x a = EX at *
              have HEE := hidI hEE
              clear hEE
              refine region_detW (by kernel_rfl) 16 [(some 33, some u5), (some 34, some (.slice (some ⟨g, 0, none⟩) us.length cv)), (some 35, some (.int .i64 k)), (some 36, some (.pointer (some ⟨g, k * 2, none⟩))), (some 37, some (.pointer (some ⟨g, k * 2, none⟩))), (some 38, some (.string x)), (some 39, some (.int .i64 a)), (some 40, some (.int .i64 a)), (some 41, some (.int .i64 ((a : Int) + 1))), (some 42, some (.string (({ data := #[48, 49, 50, 51, 52, 53, 54, 55, 56, 57, 97, 98, 99, 100, 101, 102] } : ByteArray).extract a (a + 1)))), (some 43, some (.string (wdA x a))), (some 44, some (.slice q8 M d8)), (some 45, some (.agg #[.string (wdA x a), .slice q8 M d8])), (some 46, some (.slice (some ⟨W0.heap.size, 0, none⟩) 1 1)), (some 47, none), (some 5, none)]
                (fun dn f W => SA W0 [.string (wdA x a), .slice q8 M d8] (fun v W => SpR G W (w.heap.size + 1) v (EX ++ [wdA x a]) ∧ VRow W w.heap.size 24 [.int .i64 G.q, .int .i64 G.n, .slice p G.es.length c] ∧ RowKit.Below w.heap.size w W) (dn 13) (dn 14) (f 47) (f 5) W) (by kernel_rfl) (by kernel_rfl) (by kernel_rfl) (by kernel_rfl)
                ⟨fun _ => ⟨below_dN (RowKit.Below.refl _ _) 1, fun _ => rfl, (fun e => by cases e)⟩, (fun e => by cases e), (fun v e => by cases e)⟩ ?_ ?_
              focus
                intro i o ho ac dn f W hS hdi hdn hnd hdep hout hold K hK
                have hil : i < 16 := (Array.getElem?_eq_some_iff.1 ho).1
                have hcases : i = 0 ∨ i = 1 ∨ i = 2 ∨ i = 3 ∨ i = 4 ∨ i = 5 ∨ i = 6 ∨ i = 7 ∨ i = 8 ∨ i = 9 ∨ i = 10 ∨ i = 11 ∨ i = 12 ∨ i = 13 ∨ i = 14 ∨ i = 15 := by omega
                clear hil
                have u1 := hout 1 (by kernel_rfl)
                have u6 := hout 6 (by kernel_rfl)
                have u7 := hout 7 (by kernel_rfl)
                have u8 := hout 8 (by kernel_rfl)
                simp at u1 u6 u7 u8
                clear hout
                rcases hcases with rfl | rfl | rfl | rfl | rfl | rfl | rfl | rfl | rfl | rfl | rfl | rfl | rfl | rfl | rfl | rfl
                all_goals (have hf5 := hold 15 (by kernel_rfl) _ rfl _ rfl; have h5 := hf5.1; have h5' := hf5.2; simp at h5'; clear hf5)
                all_goals (simp only [List.getElem?_toArray, List.getElem?_cons_succ, List.getElem?_cons_zero, Option.some.injEq] at ho; subst ho; simp [Region.binds] at hdep; (try go_split_ands))
                all_goals first
                  | (go_simp; exact hK _ _ (fun u hu => Option.some.inj hu) hS)
                  | (have hb := (hS.p (hnd 14 (by kernel_rfl))).1
                     have hc0 := (hb.cell (p := ⟨g, k * 2, none⟩) hgw8).trans k1
                     go_simp
                     exact hK _ _ (fun u hu => Option.some.inj hu) hS)
                  | (go_simp
                     have e13 : dn 13 = false := hdi
                     have e14 := hnd 14 (by kernel_rfl)
                     have hsz := (hS.p e14).2.1 e13
                     exact hK _ _ (fun u hu => by rw [← Option.some.inj hu, hsz]) (hS.alloc e13 e14))
                  | (have e14 : dn 14 = false := hdi
                     have e13 : dn 13 = true := hdn ⟨13, .data⟩ (by simp) rfl
                     obtain ⟨hb, _, hr⟩ := hS.p e14
                     obtain ⟨hrow, hsz⟩ := hr e13
                     obtain ⟨es, q1, q2, q3⟩ := HP8.out.below hb
                     refine step_append_lies W rfl (.tmp 33) (.tmp 46) 89 rfl (w.heap.size + 1) 109 i0 _ 2 40 Tryz.underlying89 hi0 hz0 hz1 hz3 rfl (by decide) u5 EX.length (catS G es) (by simp [Act.eval, *]) q2 ⟨W0.heap.size, 0, none⟩ 1 1 [.string (wdA x a), .slice q8 M d8] (by simp [Act.eval, *]) rfl (news_rowS hrow) (by simp [Value.oneCell']) (by omega) (by simp [maxLen]; omega) (by omega) (by have := hb.size; omega) _ rfl ?_
                     intro gg cap w' hown' hgrow _ _
                     have hk5 := KX0.grown (t := 3) hgrow (own_typed q2) (by decide)
                     have hs5 := (HS8.out.below hb).keep hk5
                     have hsp := SpR.push (x := wdA x a) (p := q8) (d := d8) q1 q3 hk5 hs5 (by rw [HM.out] at hown'; exact hown')
                     have hc5 := (HC8.out.below hb (by omega)).grown hgrow (fun e => by have := (q2.lt _ e.symm).1; omega)
                     have hb5 := (HB0.out.trans (hb.mono (by omega))).grown hgrow (by have := hb.size; omega) (fun j e => by have := (q2.lt j e).1; omega)
                     exact hK _ _ (fun u hu => by cases hu) (SA.app ⟨hsp, hc5, hb5⟩ h5))
                  | (obtain ⟨v, hv, hat⟩ : ∃ v, f 47 = some v ∧ ac.tmps[47]? = some v := by assumption
                     go_simp
                     exact hK _ _ (fun u hu => by cases hu) (hS.put hv))
                  | fail
              intro dn f W hS hall hf
              obtain ⟨v5, hv5, -⟩ := hf (some 5, none) (by simp) 5 rfl
              have h47 := hS.s v5 hv5
              obtain ⟨v, hv, hF⟩ := hS.m (hall 14 (by decide))
              rw [h47] at hv
              obtain rfl := Option.some.inj hv
              have HFF := hidI hF
              simp only [putsD, List.filterMap_cons, List.filterMap_nil, Option.map_some, Option.map_none, Option.getD_some, Option.getD_none, List.foldl_cons, List.foldl_nil, Act.put, List.setIfInBounds_toArray, List.set_cons_zero, List.set_cons_succ]
              rw [hv5]
              simp only [Option.getD_some]
              generalize (f 47).getD undef = v47
              clear hf hv5 h47 hv hS hF hall
              go_wp2_with fail
              go_roundw
              case rel => exact ⟨a + 1, by omega, by go_num, by rw [HY.out, ← List.append_assoc, HEE.out]; exact HFF.out.1, HFF.out.2.1, HFF.out.2.2⟩
              case measure => simp [intOf]; omega
        · obtain rfl : a = G.q.toNat := by omega
          have haI : ¬ ((G.q.toNat : Int) < G.q) := by omega
          rw [← HT.out] at hP
          go_wp2_with fail
          go_roundw
          case rel => exact ⟨k + 1, by omega, by go_num, hP, c0, hB⟩
          case measure => simp [intOf]; omega
    · obtain rfl : k = us.length := by omega
      have hltI : ¬ (us.length : Int) < (us.length : Int) := by omega
      rw [List.take_length] at hP
      go_wp2_with fail
      go_ret
      exact ⟨_, rfl, hP.mono (by omega), hB⟩
end Go.Proofs.YtdhkdampdlhdoaaGreat
namespace Go.Proofs.YtdhkdampdlhdoaaGreat
open Go.RowKit

theorem rf14contains_any (l : List ByteArray) (p : Option Addr) (c : Nat) (u : ByteArray) (w : World) (hp : Sl w Value.string p l) (hl : l.length ≤ 9223372036854775807) :
    Calls Tryz.prog 24 #[.slice p l.length c, .string u] w fun e w' => e = .returned (.bool (isF l u)) ∧ w' = w := by
  have HE : Hid (isF l u = l.any (fun y => decide (y = u))) := isF_any l u
  go_enter Tryz.func24, Tryz.ntmps24
  go_wp2
  go_loop [5] (fun i => ∃ k : Nat, k ≤ l.length ∧ i = .int .i64 k ∧ Hid ((l.take k).any (fun y => decide (y = u)) = false)) (fun i => l.length - (intOf i).toNat)
  case atStart => exact ⟨0, by omega, rfl, by simp [Hid]⟩
  case round =>
    obtain ⟨k, hk, rfl, HF⟩ := hrel
    by_cases hlt : k < l.length
    · have hltI : (k : Int) < (l.length : Int) := by omega
      obtain ⟨b1, o1, rfl, hb1, hc1⟩ := hp.get k hlt
      have e0 := hc1 k hlt
      have HS : Hid ((l.take (k + 1)).any (fun y => decide (y = u)) = decide (l[k] = u)) := by
        unfold Hid
        rw [List.take_succ_eq_append_getElem hlt, List.any_append, HF.out]; simp
      have HM := hidI (List.getElem_mem hlt)
      generalize l[k] = x at *
      by_cases hxu : x = u
      · have hb := bts_t hxu
        have HR : Hid (isF l u = true) := by
          rw [Hid, HE.out]; exact List.any_eq_true.2 ⟨x, HM.out, by simp [hxu]⟩
        clear hxu hc1
        go_wp2
        go_ret
        exact ⟨ret_bool HR.out.symm, rfl⟩
      · have hb := bts_f hxu
        have HS2 : Hid ((l.take (k + 1)).any (fun y => decide (y = u)) = false) := by rw [Hid, HS.out]; simp [hxu]
        clear hxu hc1
        go_wp2
        go_round
        case rel => exact ⟨k + 1, by omega, by go_num, HS2⟩
        case measure => simp [intOf]; omega
    · obtain rfl : k = l.length := by omega
      have hltI : ¬ (l.length : Int) < (l.length : Int) := by omega
      rw [List.take_length] at HF
      have HR : Hid (isF l u = false) := by rw [Hid, HE.out, HF.out]
      go_wp2
      go_ret
      exact ⟨ret_bool HR.out.symm, rfl⟩

set_option maxRecDepth 100000 in
set_option maxHeartbeats 2000000 in
theorem r11texts_any (G : Gr) (us : List ByteArray) (v : Value) (B : Nat) (w : World) (hR : SpR G w B v us) (hl : us.length ≤ 100000) :
    Calls Tryz.prog 57 #[v] w fun e w' => ∃ q d, e = .returned (.slice q us.length d) ∧ w'.ownsRow w.heap.size 9 1 (.slice q us.length d) us.length (us.map Value.string) ∧ RowKit.Below w.heap.size w w' := by
  obtain ⟨i0, hi0, hz0, hz1, hz3⟩ := info_parts infoStrF
  obtain ⟨pv, cv, rfl⟩ := hR.val
  have HR := hidI hR
  obtain ⟨w1, hw1⟩ : ∃ w1, w1 = w.alloc (.cells #[] 9) := ⟨_, rfl⟩
  have x1 : RowKit.Below w.heap.size w w1 := by subst hw1; exact (RowKit.Below.refl _ _).alloc (Nat.le_refl _) _
  have o1 : w1.ownsRow w.heap.size 9 1 (.slice (some ⟨w.heap.size, 0, none⟩) 0 0) 0 (([] : List ByteArray).map Value.string) := by
    subst hw1
    have := own_new w w.heap.size [] 9 (by simp) (by simp [maxLen])
    exact this
  clear hR
  go_enter Tryz.func57, Tryz.ntmps57
  go_upto_region 2 with fail
  rw [← hw1]
  clear hw1
  go_wp2_with fail
  go_loopw [3, 4] (fun ov iv wr => ∃ k : Nat, k ≤ us.length ∧ iv = .int .i64 k ∧ wr.ownsRow w.heap.size 9 1 ov (us.take k).length ((us.take k).map Value.string) ∧ RowKit.Below w.heap.size w wr) (fun _ iv _ => us.length - (intOf iv).toNat)
  case atStart => exact ⟨0, by omega, rfl, by simpa using o1, x1⟩
  case round =>
    clear o1 x1
    obtain ⟨k, hk, rfl, hown, hB⟩ := hrel
    by_cases hlt : k < us.length
    · have hltI : (k : Int) < (us.length : Int) := by omega
      obtain ⟨g, cap, pp, d, hsv, e1, _, _⟩ := (HR.out.below hB).get k hlt
      cases hsv
      have HT : Hid (us.take (k + 1) = us.take k ++ [us[k]]) := by rw [Hid, List.take_succ_eq_append_getElem hlt]
      have hlen : (us.take k).length ≤ 100000 := by rw [List.length_take]; omega
      generalize us[k] = x at *
      generalize us.take k = E at *
      have hnew := cell_one_at wr (.string x) 9 wr.heap.size rfl
      have hownA := hown.alloc (.cells #[.string x] 9)
      have hBz := hB.size
      go_wp2_with (at_builtin; refine wpList_append_own _ rfl _ _ 27 rfl w.heap.size 9 i0 (.string ⟨#[]⟩) 1 16 Tryz.underlying27 hi0 hz0 hz1 hz3 rfl (by decide) _ _ _ rfl hownA ⟨wr.heap.size, 0, none⟩ 1 1 [.string x] rfl rfl hnew (by simp [Value.oneCell']) (by unfold maxLen; omega) (by omega) (by rw [World.size_alloc]; omega) ?_; intro v' w2 hown' hgrow _)
      go_roundw
      case rel => exact ⟨k + 1, by omega, by go_num, by rw [HT.out, List.length_append, List.map_append]; exact hown', (hB.alloc hBz _).grown hgrow (by simp; omega) (fun j e => (hown.lt j e).1)⟩
      case measure => simp [intOf]; omega
    · obtain rfl : k = us.length := by omega
      have hltI : ¬ (us.length : Int) < (us.length : Int) := by omega
      rw [List.take_length] at hown
      go_wp2_with fail
      go_ret
      obtain ⟨q, c, rfl, _⟩ := own_sl hown
      exact ⟨q, c, rfl, hown, hB⟩

set_option maxRecDepth 100000 in
set_option maxHeartbeats 2000000 in
theorem r11checkNumber_any (G : Gr) (p : Option Addr) (c : Nat) (n : Int) (w : World) (hin : Sg 3 w edE p G.es) (hv : Vg G) (hq : G.q ≤ 16) (hn0 : 0 ≤ n) (hn1 : n ≤ 4096) :
    Calls Tryz.prog 54 #[(.agg #[.int .i64 G.q, .int .i64 G.n, .slice p G.es.length c]), .int .i64 n] w fun e w' => e = .returned (.int .i64 0) ∧ RowKit.Below w.heap.size w w' := by
  have HIN := hidI hin; have HV := hidI hv
  have hl := hv.len
  clear hin hv
  obtain ⟨w0, hw0⟩ : ∃ w0, w0 = w.alloc (.cells #[.int .i64 G.q, .int .i64 G.n, .slice p G.es.length c] 24) := ⟨_, rfl⟩
  have b0 : VRow w0 w.heap.size 24 [.int .i64 G.q, .int .i64 G.n, .slice p G.es.length c] := by subst hw0; exact VRow.new w _ _
  have hB0 : RowKit.Below w.heap.size w w0 := by subst hw0; exact (RowKit.Below.refl _ _).alloc (Nat.le_refl _) _
  have d0 : ¬ n < 0 := by omega
  have d1 : ¬ 4096 < n := by omega
  go_enter Tryz.func54, Tryz.ntmps54
  go_wp2_with fail
  rw [← hw0]
  clear hw0
  refine (r11check_ok G p c w0 (HIN.out.below hB0) (by omega) HV.out hq).mono ?_
  rintro e w1 ⟨rfl, hB1⟩
  go_wp2
  go_ret
  exact ⟨rfl, hB0.trans (hB1.mono hB0.size)⟩
end Go.Proofs.YtdhkdampdlhdoaaGreat
namespace Go.Proofs.YtdhkdampdlhdoaaGreat
open Go.RowKit

theorem wk_succ (G : Gr) (k : Nat) : (wk G k).flatMap (nxW G) = wk G (k + 1) := rfl
set_option maxRecDepth 100000 in
set_option maxHeartbeats 4000000 in
theorem r11words_any (G : Gr) (p : Option Addr) (c : Nat) (q : Option Addr) (d n : Nat) (w : World) (hin : Sg 3 w edE p G.es) (hst : SlT w q (upto G.n.toNat)) (hv : Vg G) (hq : G.q ≤ 3) (hn : n ≤ 6) :
    Calls Tryz.prog 55 #[(.agg #[.int .i64 G.q, .int .i64 G.n, .slice p G.es.length c]), .slice q (upto G.n.toNat).length d, .int .i64 n] w fun e w' => ∃ v, e = .returned (.tuple #[v, .int .i64 0]) ∧ SpR G w' w.heap.size v (wk G n) ∧ RowKit.Below w.heap.size w w' := by
  obtain ⟨i0, hi0, hz0, hz1, hz3⟩ := info_parts infoSp
  obtain ⟨N, hN⟩ : ∃ N, N = (upto G.n.toNat).length := ⟨_, rfl⟩
  have HNn : Hid (N = G.n.toNat) := by rw [Hid, hN, upto_len]
  rw [← hN]
  have HIN := hidI hin; have HV := hidI hv; have HST := hidI hst; have HN := hidI hN
  clear hin hv hst hN
  obtain ⟨w1, hw1⟩ : ∃ w1, w1 = (w.alloc (.cells #[.int .i64 G.q, .int .i64 G.n, .slice p G.es.length c] 24)).alloc (.cells #[] 109) := ⟨_, rfl⟩
  have c0 : VRow w1 w.heap.size 24 [.int .i64 G.q, .int .i64 G.n, .slice p G.es.length c] := by subst hw1; exact (VRow.new w _ _).alloc _
  have x1 : RowKit.Below w.heap.size w w1 := by subst hw1; exact ((RowKit.Below.refl _ _).alloc (Nat.le_refl _) _).alloc (by simp) _
  have o1 : w1.ownsRow (w.heap.size + 1) 109 1 (.slice (some ⟨w.heap.size + 1, 0, none⟩) 0 0) 0 [] := by
    subst hw1
    have := own_new (w.alloc (.cells #[.int .i64 G.q, .int .i64 G.n, .slice p G.es.length c] 24)) (w.heap.size + 1) [] 109 (by simp) (by simp [maxLen])
    rw [World.size_alloc] at this; exact this
  have o2 : w1.ownsRow (w.heap.size + 1) 109 2 (.slice (some ⟨w.heap.size + 1, 0, none⟩) 0 0) 0 [] := by
    refine ⟨by simp, o1.2.imp id (fun ⟨g, cap, cur, a, b, hh, hc, hm, hs, ht⟩ => ?_)⟩
    simp only [Value.slice.injEq, Option.some.injEq, Addr.mk.injEq] at a
    obtain ⟨⟨rfl, _, _⟩, _, rfl⟩ := a
    exact ⟨w.heap.size + 1, 0, cur, rfl, b, hh, Nat.le_refl _, by simp [maxLen], by simpa using hs, by simp⟩
  have hz1' : w.heap.size + 1 ≤ w1.heap.size := c0.lt
  clear o1
  go_enter Tryz.func55, Tryz.ntmps55
  go_upto_if 13 with fail
  rw [← hw1]
  clear hw1
  go_cut [8] (fun s8 wx => SpR G wx (w.heap.size + 1) s8 (wk G 0) ∧ VRow wx w.heap.size 24 [.int .i64 G.q, .int .i64 G.n, .slice p G.es.length c] ∧ RowKit.Below w.heap.size w wx)
  case first =>
    by_cases h0 : 0 < N
    · have hI : (0 : Int) < (N : Int) := by omega
      have hW0 : Hid (wk G 0 = [⟨#[]⟩]) := by unfold Hid wk; rw [if_pos (by have := HNn.out; omega)]
      have HR := hidI (VRow.new w1 109 [.string ⟨#[]⟩, .slice q N d])
      have hownA := o2.alloc (.cells #[.string ⟨#[]⟩, .slice q N d] 109)
      have hO2 := hidI o2
      clear o2
      go_wp2_with (at_builtin; refine wpList_append_lies _ rfl _ _ 89 rfl (w.heap.size + 1) 109 i0 _ 2 40 Tryz.underlying89 hi0 hz0 hz1 hz3 rfl (by decide) _ _ _ rfl hownA ⟨w1.heap.size, 0, none⟩ 1 1 [.string ⟨#[]⟩, .slice q N d] rfl rfl (news_rowS HR.out) (by simp [Value.oneCell']) (by decide) (by unfold maxLen; omega) (by omega) (by rw [World.size_alloc]; omega) (w1.heap.size + 1) (World.size_alloc _ _) ?_; intro g cap w6 hown' hgrow _ _)
      have hk := (KX0.below ((RowKit.Below.refl _ w1).alloc (Nat.le_refl _) (.cells #[.string ⟨#[]⟩, .slice q N d] 109))).trans (KX0.grown (t := 3) hgrow (own_typed hownA) (by decide))
      have hs := (HST.out.below x1).keep hk
      have hsp : SpR G w6 (w.heap.size + 1) (.slice (some ⟨g, 0, none⟩) (0 + 1) cap) ([] ++ [⟨#[]⟩]) := SpR.push (x := ⟨#[]⟩) (p := q) (d := d) (es := []) (w := w1) rfl (fun _ h => by cases h) hk hs (by rw [HN.out] at hown'; exact hown')
      go_meet
      exact ⟨by rw [hW0.out]; exact hsp, (c0.alloc _).grown hgrow (fun e => by have := (hownA.lt _ e.symm).1; omega), (x1.alloc x1.size _).grown hgrow (by rw [World.size_alloc]; omega) (fun j e => by have := (hownA.lt j e).1; omega)⟩
    · have hI : ¬ (0 : Int) < (N : Int) := by omega
      have hW0 : Hid (wk G 0 = []) := by unfold Hid wk; rw [if_neg (by have := HNn.out; omega)]
      have hsp : SpR G w1 (w.heap.size + 1) (.slice (some ⟨w.heap.size + 1, 0, none⟩) 0 0) (wk G 0) := by rw [hW0.out]; exact SpR.nil o2
      go_wp2_with fail
      go_meet
      exact ⟨hsp, c0, x1⟩
  case rest =>
    obtain ⟨hP, c1, hB1⟩ := hcut
    clear c0 x1 o2 hz1'
    go_wp2_with fail
    go_loopw [8, 9] (fun lv iv wr => ∃ k : Nat, k ≤ n ∧ iv = .int .i64 k ∧ SpR G wr (w.heap.size + 1) lv (wk G k) ∧ VRow wr w.heap.size 24 [.int .i64 G.q, .int .i64 G.n, .slice p G.es.length c] ∧ RowKit.Below w.heap.size w wr) (fun _ iv _ => n - (intOf iv).toNat)
    case atStart => exact ⟨0, by omega, rfl, hP, c1, hB1⟩
    case round =>
      clear hP c1 hB1
      obtain ⟨k, hk, rfl, hP, c1, hB⟩ := hrel
      have f0 := c1.at 0 rfl; have f1 := c1.at 1 rfl; have f2 := c1.at 2 rfl
      have hfw := wk_few hq (k := k) (by omega)
      have HZ : Hid (∀ u ∈ wk G k, u.size ≤ 100) := fun u hu => by have := wk_size (G := G) (by omega) hu; omega
      obtain ⟨L, hL⟩ : ∃ L, L = wk G k := ⟨_, rfl⟩
      rw [← hL] at hP hfw HZ
      have HL := hidI hL
      clear hL
      obtain ⟨pv, cv, rfl⟩ := hP.val
      have HB := hidI hB; have HP := hidI hP
      by_cases hlt : k < n
      · have hltI : (k : Int) < (n : Int) := by omega
        by_cases hz : L.length = 0
        · have hzI : ¬ (0 : Int) < (L.length : Int) := by omega
          have HE : Hid (L = wk G n) := by
            have hL0 := List.length_eq_zero_iff.1 hz
            rw [Hid, hL0, wk_none (by rw [← HL.out, hL0]) n (by omega)]
          generalize L.length = M at *
          clear hz
          go_wp2_with fail
          go_ret2
          exact ⟨_, rfl, by rw [← HE.out]; exact HP.out.mono (by omega), hB⟩
        · have hzI : (0 : Int) < (L.length : Int) := by omega
          have HG := hidI (r11grow_any G p c L _ _ wr (HIN.out.below hB) hP HV.out (by omega) (by omega) HZ.out)
          have hwk1 := wk_few hq (k := k + 1) (by omega)
          have HS : Hid (L.flatMap (nxW G) = wk G (k + 1)) := by rw [Hid, HL.out]; rfl
          rw [HS.out] at HG
          clear hP hB
          go_wp2_with (go_at_call 87; refine HG.out.mono ?_; rintro e w3 ⟨v3, rfl, hP3, hB3⟩; obtain ⟨p3, c3, rfl⟩ := hP3.val; have hb3 : ¬ (4096 : Int) < ((wk G (k + 1)).length : Int) := by omega)
          go_roundw
          case rel => exact ⟨k + 1, by omega, by go_num, hP3.mono (Nat.lt_of_lt_of_le c1.lt (Nat.le_refl _)), c1.below hB3 c1.lt, HB.out.trans (hB3.mono HB.out.size)⟩
          case measure => simp [intOf]; omega
      · obtain rfl : k = n := by omega
        have hltI : ¬ (k : Int) < (k : Int) := by omega
        go_wp2_with fail
        go_ret2
        exact ⟨_, rfl, by rw [← HL.out]; exact HP.out.mono (by omega), hB⟩
end Go.Proofs.YtdhkdampdlhdoaaGreat
namespace Go.Proofs.YtdhkdampdlhdoaaGreat
open Go.RowKit

theorem okw_wd {q : Int} {u : ByteArray} {a : Nat} (h : Chg.okw q u.data.toList = true) (ha : (a : Int) < q) (h16 : a < 16) : Chg.okw q (wdA u a).data.toList = true := by
  have e : (wdA u a).data.toList = u.data.toList ++ [ltC a] := by
    unfold wdA; rw [ltC_one a h16, ByteArray.data_append, Array.toList_append]
  have hd := ltC_dig a h16
  unfold Chg.okw at h ⊢
  rw [e, List.all_append, h]
  simp [Chg.okc, hd, ha]
theorem wk_okw {G : Gr} (hq : G.q ≤ 16) : ∀ {k : Nat} {u : ByteArray}, u ∈ wk G k → Chg.okw G.q u.data.toList = true
  | 0, u, h => by
    unfold wk at h
    split at h
    · rw [List.mem_singleton] at h
      subst h; rfl
    · cases h
  | k + 1, u, h => by
    obtain ⟨v, hv, a, ha, _, rfl⟩ := mem_wk.1 h
    exact okw_wd (wk_okw hq hv) (by omega) (by omega)
theorem wk_chk {G : Gr} (hv : Vg G) (hq : G.q ≤ 16) {k : Nat} (hk : k ≤ 6) {u : ByteArray} (h : u ∈ wk G k) : Chg.wchk G.q u.data.toList = 0 :=
  Chg.wchk_ok _ _ hv.q1 hq (by have := wk_size hq h; have : u.data.toList.length = u.size := by simp
                               omega) (wk_okw hq h)
/-- What Find answers, in memory. -/
def RetFd (x : List ByteArray × Int) (w : World) (e : Ending) (w' : World) : Prop := ∃ q c, e = .returned (.tuple #[.slice q x.1.length c, .int .i64 x.2]) ∧ Sl w' Value.string q x.1 ∧ RowKit.Below w.heap.size w w'
theorem RetFd.nil {k : Int} {w w' : World} (hB : RowKit.Below w.heap.size w w') : RetFd ([], k) w (.returned (.tuple #[.slice none 0 0, .int .i64 k])) w' := ⟨none, 0, rfl, Sl.nil _ _ _, hB⟩
theorem find_e1 {G : Gr} {n : Int} (h : chkG G ≠ 0) : findA G n = ([], 1) := by unfold findA; rw [if_pos h]
theorem find_e2 {G : Gr} {n : Int} (h : chkG G = 0) (h2 : 16 < G.q) : findA G n = ([], 12) := by unfold findA; rw [if_neg (by simpa using h), if_pos h2]
theorem find_e3 {G : Gr} {n : Int} (h : chkG G = 0) (h2 : ¬ 16 < G.q) (h3 : n < 0 ∨ 32 < n) : findA G n = ([], 2) := by unfold findA; rw [if_neg (by simpa using h), if_neg h2, if_pos h3]
theorem find_ok {G : Gr} {n : Nat} (h : chkG G = 0) (h2 : ¬ 16 < G.q) (h3 : n ≤ 32) : findA G n = (fdN G n, 0) := by
  unfold findA; rw [if_neg (by simpa using h), if_neg h2, if_neg (by omega)]; rfl

set_option maxRecDepth 100000 in
set_option maxHeartbeats 8000000 in
theorem fFind_ok (G : Gr) (p : Option Addr) (c n : Nat) (w : World) (hin : Sg 3 w edE p G.es) (hv : Vg G) (hq : G.q ≤ 3) (hn : n ≤ 6) :
    Calls Tryz.prog 7 #[(.agg #[.int .i64 G.q, .int .i64 G.n, .slice p G.es.length c]), .int .i64 n] w (RetFd (fdN G n, 0) w) := by
  obtain ⟨i0, hi0, hz0, hz1, hz3⟩ := info_parts infoStrF
  have HIN := hidI hin; have HV := hidI hv
  have hl := hv.len
  have hq1 := hv.q1
  clear hin hv
  obtain ⟨w0, hw0⟩ : ∃ w0, w0 = w.alloc (.cells #[.int .i64 G.q, .int .i64 G.n, .slice p G.es.length c] 24) := ⟨_, rfl⟩
  have b0 : VRow w0 w.heap.size 24 [.int .i64 G.q, .int .i64 G.n, .slice p G.es.length c] := by subst hw0; exact VRow.new w _ _
  have hB0 : RowKit.Below w.heap.size w w0 := by subst hw0; exact (RowKit.Below.refl _ _).alloc (Nat.le_refl _) _
  have hmm := @run_makeMap Tryz.prog
  go_enter Tryz.func7, Tryz.ntmps7
  go_wp2_with fail
  rw [← hw0]
  clear hw0
  refine (gCheck_r G p c w0 0 (chkG_ok.2 HV.out) (HIN.out.below hB0) (by omega)).mono ?_
  rintro e w1 ⟨rfl, hB1⟩
  have x1 := hB0.trans (hB1.mono hB0.size)
  have c1 := b0.below hB1 b0.lt
  have f0 := c1.at 0 rfl
  have hq2 : ¬ 16 < G.q := by omega
  have hn0 : ¬ (n : Int) < 0 := by omega
  have hn1 : ¬ (32 : Int) < (n : Int) := by omega
  have hz1' : w.heap.size + 1 ≤ w1.heap.size := c1.lt
  clear b0 hB0 hB1
  go_wp2_with fail
  clear f0
  go_loopw [6, 36] (fun ov iv wr => ∃ k : Nat, k ≤ n ∧ iv = .int .i64 k ∧ wr.ownsRow (w.heap.size + 1) 9 1 ov (fdN G k).length ((fdN G k).map Value.string) ∧ VRow wr w.heap.size 24 [.int .i64 G.q, .int .i64 G.n, .slice p G.es.length c] ∧ RowKit.Below w.heap.size w wr) (fun _ iv _ => n - (intOf iv).toNat)
  case atStart => exact ⟨0, by omega, rfl, World.ownsRow_nil _ _ _ _, c1, x1⟩
  case round =>
    clear c1 x1 hz1'
    obtain ⟨k, hk, rfl, hown, c1, hB⟩ := hrel
    obtain ⟨wo, rfl⟩ : ∃ wo : World, wo = wr := ⟨_, rfl⟩
    by_cases hlt : k < n
    · have hltI : (k : Int) < (n : Int) := by omega
      have HW := hidI (lWords_any G p c k wo (HIN.out.below hB) HV.out hq (by omega))
      have f0 := c1.at 0 rfl; have f1 := c1.at 1 rfl; have f2 := c1.at 2 rfl
      have hfw := wk_few hq (k := k) (by omega)
      have h1092 := fdN_1092 hq (n := k + 1) (by omega)
      have HSZ : Hid (∀ u ∈ wk G k, u.size ≤ 6 ∧ Chg.wchk G.q u.data.toList = 0) := fun u hu => ⟨by have := wk_size (by omega) hu; omega, wk_chk HV.out (by omega) (by omega) hu⟩
      obtain ⟨L, hL⟩ : ∃ L, L = wk G k := ⟨_, rfl⟩
      rw [← hL] at HW hfw HSZ
      have HLL := hidI hL
      clear hL
      go_wp2_with (go_at_call 20; refine HW.out.mono ?_; rintro e w2 ⟨pl, dl, rfl, hrow, hB2⟩)
      have hown2 := own_below hown hB2
      have hne0 : NE u6 (.slice pl L.length dl) := fun j h1 h2 => by
        have := (hown.lt j h1).2; have := (hrow.lt j h2).1; omega
      have hgt : w.heap.size < w2.heap.size := Nat.lt_of_lt_of_le c1.lt hB2.size
      have hF0 : FdS G p c w L (inF (L.take 0)) w2.heap.size wo.heap.size pl dl (w2.alloc (.map #[] 0)) :=
        ⟨(c1.below hB2 c1.lt).alloc _, (hB.trans (hB2.mono hB.size)).alloc (Nat.le_trans hB.size hB2.size) _, hrow.alloc _, (MpT.made w2).congr (fun a => by simp [inF])⟩
      have hownA := hown2.alloc (.map #[] 0)
      have HFD : Hid (fdN G k = fdJ G k 0) := (fdJ_zero G k).symm
      clear hB2 hrow hown2 hown c1 f0 f1 f2 hB HW
      go_loopw [51] (fun iv wr => ∃ j : Nat, j ≤ L.length ∧ iv = .int .i64 j ∧ FdS G p c w L (inF (L.take j)) w2.heap.size wo.heap.size pl dl wr ∧ wr.ownsRow (w.heap.size + 1) 9 1 u6 (fdN G k).length ((fdN G k).map Value.string)) (fun iv _ => L.length - (intOf iv).toNat)
      case atStart => exact ⟨0, by omega, rfl, hF0, hownA⟩
      case round =>
        clear hF0 hownA
        obtain ⟨j, hj, rfl, hF, hown⟩ := hrel
        by_cases hlt2 : j < L.length
        · have hltI2 : (j : Int) < (L.length : Int) := by omega
          obtain ⟨b3, o3, rfl, hb3, e0⟩ := hF.sl.get j hlt2
          have e1 := e0 j hlt2
          have hx := (HSZ.out L[j] (List.getElem_mem hlt2)).1
          have HN := hidI (inF_succ L j hlt2)
          obtain ⟨w3, hrun, hM3, hT⟩ := hF.m.store L[j] (by unfold maxLen; omega)
          have ho5 : ∃ es clock, wr.heap[w2.heap.size]? = some (.map es clock) := by
            obtain ⟨⟨es, clock, hm, _⟩, _⟩ := hF.m
            exact ⟨es, clock, hm⟩
          obtain ⟨es5, cl5, ho5⟩ := ho5
          have hn1 := own_blk hown ho5 rfl
          have hn2 := own_blk hF.l ho5 rfl
          have hF3 : FdS G p c w L (inF (L.take (j + 1))) w2.heap.size wo.heap.size (some ⟨b3, o3, none⟩) dl w3 :=
            ⟨hF.g.grown hT.grown (fun e => by have := Option.some.inj e; omega), hF.b.grown hT.grown hF.b.size (fun i e => by have := Option.some.inj e; omega), hF.l.kept hT.grown (.inr hn2), hM3.congr HN.out⟩
          have hown3 := hown.kept hT.grown (.inr hn1)
          generalize L[j] = x at *
          clear hF hown e0 ho5 hn1 hn2 hM3 hT HN
          go_wp2_with fail
          go_roundw
          case rel => exact ⟨j + 1, by omega, by go_num, hF3, hown3⟩
          case measure => simp [intOf]; omega
        · obtain rfl : j = L.length := by omega
          have hltI2 : ¬ (L.length : Int) < (L.length : Int) := by omega
          rw [List.take_length] at hF
          rw [HFD.out] at hown
          go_wp2_with fail
          go_loopw [6, 60] (fun ov iv wr => ∃ j : Nat, j ≤ L.length ∧ iv = .int .i64 j ∧ FdS G p c w L (inF L) w2.heap.size wo.heap.size pl dl wr ∧ wr.ownsRow (w.heap.size + 1) 9 1 ov (fdJ G k j).length ((fdJ G k j).map Value.string) ∧ NE ov (.slice pl L.length dl)) (fun _ iv _ => L.length - (intOf iv).toNat)
          case atStart => exact ⟨0, by omega, rfl, hF, hown, hne0⟩
          case round =>
            clear hF hown hne0
            obtain ⟨j, hj, rfl, hF, hown, hne⟩ := hrel
            by_cases hlt3 : j < L.length
            · have hltI3 : (j : Int) < (L.length : Int) := by omega
              obtain ⟨b3, o3, rfl, hb3, e0⟩ := hF.sl.get j hlt3
              have e1 := e0 j hlt3
              have hx := HSZ.out L[j] (List.getElem_mem hlt3)
              have hxs := hx.1
              have HS := hidI (fdJ_succ G k j (by rw [← HLL.out]; exact hlt3))
              have hjl := fdJ_len G k (j + 1)
              have hGJ : (wk G k)[j]'(by rw [← HLL.out]; exact hlt3) = L[j] := by simp only [HLL.out]
              rw [hGJ] at HS
              have HLT := hidI (lLetters_any G p c L[j] wr (HIN.out.below hF.b) HV.out (by omega) (by unfold maxLen; omega) hx.2 (by omega))
              have f0 := hF.g.at 0 rfl; have f1 := hF.g.at 1 rfl; have f2 := hF.g.at 2 rfl
              rw [← fdR_all] at HS
              have hjl2 : (fdJ G k j).length + (fdR G k L[j] G.q.toNat).length ≤ 1092 := by
                have := congrArg List.length HS.out
                rw [List.length_append] at this
                omega
              generalize L[j] = x at *
              have HF := hidI hF; have HO := hidI hown
              clear e0 hx hGJ hF hown
              go_wp2_with (go_at_call 21; refine HLT.out.mono ?_; rintro e w3 ⟨rfl, hB3⟩; have f0 := (HF.out.below hB3).g.at 0 rfl)
              have hF3 := HF.out.below hB3
              have hown3 := own_below HO.out hB3
              have HR0 : Hid (fdJ G k j = fdJ G k j ++ fdR G k x 0) := by unfold Hid fdR; simp
              rw [HR0.out] at hown3
              go_loopw [6, 75] (fun ov iv wr => ∃ a : Nat, a ≤ G.q.toNat ∧ iv = .int .i64 a ∧ FdS G p c w L (inF L) w2.heap.size wo.heap.size (some ⟨b3, o3, none⟩) dl wr ∧ wr.ownsRow (w.heap.size + 1) 9 1 ov (fdJ G k j ++ fdR G k x a).length ((fdJ G k j ++ fdR G k x a).map Value.string) ∧ NE ov (.slice (some ⟨b3, o3, none⟩) L.length dl)) (fun _ iv _ => G.q.toNat - (intOf iv).toNat)
              case atStart => exact ⟨0, by omega, rfl, hF3, hown3, hne⟩
              case round =>
                clear hF3 hown3 hne
                obtain ⟨a, ha, rfl, hF, hown, hne⟩ := hrel
                by_cases hlt4 : a < G.q.toNat
                · have haI : (a : Int) < G.q := by omega
                  have ha16 : a < 16 := by omega
                  have hI1 : (a : Int) ≤ (a : Int) + 1 := by omega
                  have hI2 : (a : Int) + 1 ≤ 16 := by omega
                  have hI3 : ((a : Int) + 1).toNat = a + 1 := by omega
                  have HC : Hid (Calls Tryz.prog 15 #[.string ⟨(leK G x G.q.toNat).toArray⟩, .string (({ data := #[48, 49, 50, 51, 52, 53, 54, 55, 56, 57, 97, 98, 99, 100, 101, 102] } : ByteArray).extract a (a + 1))] wr fun e w' => e = .returned (.bool (accA G (wdA x a))) ∧ w' = wr) := by
                    unfold Hid
                    rw [show ({ data := #[48, 49, 50, 51, 52, 53, 54, 55, 56, 57, 97, 98, 99, 100, 101, 102] } : ByteArray).extract a (a + 1) = ⟨#[ltC a]⟩ from ltC_one a ha16]
                    have h := Tryz.strings_Contains_one ⟨(leK G x G.q.toNat).toArray⟩ (ltC a) wr
                    rw [show (⟨(leK G x G.q.toNat).toArray⟩ : ByteArray).data.toList = leK G x G.q.toNat from rfl, le_has (by omega) x hlt4] at h
                    exact h
                  have HWS := hidI (wd_sz x ha16)
                  have HPY := hidI (fun h => fdR_yes (G := G) (k := k) (u := x) (a := a) h)
                  have HPN := hidI (fun h => fdR_no (G := G) (k := k) (u := x) (a := a) h)
                  have hrl := fdR_len G k x a
                  have hfl : (fdJ G k j).length + (fdR G k x a).length ≤ 2000 := by omega
                  have HFP : Hid (fdP G k (wdA x a) = (!accA G (wdA x a) && isF L ((wdA x a).extract 1 (wdA x a).size))) := by unfold Hid fdP; rw [HLL.out]
                  have HWD : Hid (wdA x a = x ++ ({ data := #[48, 49, 50, 51, 52, 53, 54, 55, 56, 57, 97, 98, 99, 100, 101, 102] } : ByteArray).extract a (a + 1)) := rfl
                  have HEL : Hid ((fdJ G k j ++ fdR G k x a).length ≤ 2000) := by unfold Hid; rw [List.length_append]; exact hfl
                  have HF := hidI hF; have HO := hidI hown
                  clear hown hrl hfl HS HR0
                  go_wp2_with fail
                  rw [← HWD.out]
                  generalize wdA x a = wd at *
                  generalize accA G wd = ac at *
                  refine HC.out.mono ?_
                  rintro e w5 ⟨rfl, rfl⟩
                  cases ac
                  · have hw1 : (1 : Int) ≤ (wd.size : Int) := by have := HWS.out; omega
                    have hlk := look_bool hF.m.1 (wd.extract 1 wd.size) (by rw [show (wd.extract 1 wd.size).size = wd.size - 1 by simp]; unfold maxLen; have := HWS.out; omega)
                    rw [show (inF L (wd.extract 1 wd.size)).isSome = isF L (wd.extract 1 wd.size) from rfl] at hlk
                    generalize isF L (wd.extract 1 wd.size) = r at *
                    cases r
                    · have HN' := hidI (HPN.out (by rw [HFP.out]; rfl))
                      clear hF HPY HPN
                      go_wp2_with fail
                      go_roundw
                      case rel => exact ⟨a + 1, by omega, by go_num, HF.out, by rw [HN'.out]; exact HO.out, hne⟩
                      case measure => simp [intOf]; omega
                    · have HY := hidI (HPY.out (by rw [HFP.out]; rfl))
                      have HQ : Hid (fdJ G k j ++ fdR G k x (a + 1) = (fdJ G k j ++ fdR G k x a) ++ [wd]) := by rw [Hid, HY.out, List.append_assoc]
                      have hel := HEL.out
                      generalize fdJ G k j ++ fdR G k x a = E at *
                      have hnew := cell_one_at w5 (.string wd) 9 w5.heap.size rfl
                      have hownA := HO.out.alloc (.cells #[.string wd] 9)
                      have hFb := HF.out.b.size
                      clear hF HPY HPN HY
                      go_wp2_with (at_builtin; refine wpList_append_lies _ rfl _ _ 27 rfl (w.heap.size + 1) 9 i0 (.string ⟨#[]⟩) 1 16 Tryz.underlying27 hi0 hz0 hz1 hz3 rfl (by decide) _ _ _ rfl hownA ⟨w5.heap.size, 0, none⟩ 1 1 [.string wd] rfl rfl hnew (by simp [Value.oneCell']) (by decide) (by unfold maxLen; omega) (by omega) (by rw [World.size_alloc]; omega) (w5.heap.size + 1) (World.size_alloc _ _) ?_; intro g cap w6 hown' hgrow hgH hgl)
                      go_roundw
                      case rel =>
                        refine ⟨a + 1, by omega, by go_num, (HF.out.below ((RowKit.Below.refl _ w5).alloc (Nat.le_refl _) _)).grown hgrow hownA hne, by rw [HQ.out, List.length_append, List.map_append]; exact hown', fun i h1 h2 => ?_⟩
                        obtain rfl : g = i := by simpa [Value.ownBlock] using h1
                        rcases hgH with h | h
                        · exact hne g h h2
                        · have := (HF.out.l.lt g h2).2; omega
                      case measure => simp [intOf]; omega
                  · have HN' := hidI (HPN.out (by rw [HFP.out]; rfl))
                    clear hF HPY HPN
                    go_wp2_with fail
                    go_roundw
                    case rel => exact ⟨a + 1, by omega, by go_num, HF.out, by rw [HN'.out]; exact HO.out, hne⟩
                    case measure => simp [intOf]; omega
                · obtain rfl : a = G.q.toNat := by omega
                  have haI : ¬ ((G.q.toNat : Int) < G.q) := by omega
                  rw [← HS.out] at hown
                  go_wp2_with fail
                  go_roundw
                  case rel => exact ⟨j + 1, by omega, by go_num, hF, hown, hne⟩
                  case measure => simp [intOf]; omega
            · obtain rfl : j = L.length := by omega
              have hltI3 : ¬ (L.length : Int) < (L.length : Int) := by omega
              have HFA : Hid (fdJ G k L.length = fdN G (k + 1)) := by rw [Hid, HLL.out, fdJ_all]
              rw [HFA.out] at hown
              obtain ⟨po, co, rfl, _⟩ := own_sl hown
              have hbI : ¬ (4096 : Int) < ((fdN G (k + 1)).length : Int) := by omega
              go_wp2_with fail
              go_roundw
              case rel => exact ⟨k + 1, by omega, by go_num, hown, hF.g, hF.b⟩
              case measure => simp [intOf]; omega
    · obtain rfl : k = n := by omega
      have hltI : ¬ (k : Int) < (k : Int) := by omega
      go_wp2_with fail
      go_ret2
      obtain ⟨q, c, rfl, hs⟩ := own_sl hown
      exact ⟨q, c, rfl, hs, hB⟩
end Go.Proofs.YtdhkdampdlhdoaaGreat
namespace Go.Proofs.YtdhkdampdlhdoaaGreat
open Go.RowKit

set_option maxRecDepth 100000 in
set_option maxHeartbeats 1000000 in
theorem r11Words_any (G : Gr) (p : Option Addr) (c n : Nat) (w : World) (hin : Sg 3 w edE p G.es) (hv : Vg G) (hq : G.q ≤ 3) (hn : n ≤ 6) :
    Calls Tryz.prog 22 #[(.agg #[.int .i64 G.q, .int .i64 G.n, .slice p G.es.length c]), .int .i64 n] w fun e w' => ∃ q d, e = .returned (.tuple #[.slice q (wk G n).length d, .int .i64 0]) ∧ w'.ownsRow w.heap.size 9 1 (.slice q (wk G n).length d) (wk G n).length ((wk G n).map Value.string) ∧ RowKit.Below w.heap.size w w' := by
  have HIN := hidI hin; have HV := hidI hv
  clear hin hv
  obtain ⟨w0, hw0⟩ : ∃ w0, w0 = w.alloc (.cells #[.int .i64 G.q, .int .i64 G.n, .slice p G.es.length c] 24) := ⟨_, rfl⟩
  have b0 : VRow w0 w.heap.size 24 [.int .i64 G.q, .int .i64 G.n, .slice p G.es.length c] := by subst hw0; exact VRow.new w _ _
  have hB0 : RowKit.Below w.heap.size w w0 := by subst hw0; exact (RowKit.Below.refl _ _).alloc (Nat.le_refl _) _
  go_enter Tryz.func22, Tryz.ntmps22
  go_wp2_with fail
  rw [← hw0]
  clear hw0
  refine (r11checkNumber_any G p c n w0 (HIN.out.below hB0) HV.out (by omega) (by omega) (by omega)).mono ?_
  rintro e w1 ⟨rfl, hB1⟩
  have x1 := hB0.trans (hB1.mono hB0.size)
  have b1 := b0.below hB1 b0.lt
  go_upto_region 4 with fail
  have g0 := b1.at 0 rfl; have g1 := b1.at 1 rfl; have g2 := b1.at 2 rfl
  have zb : w.heap.size < w1.heap.size := b1.lt
  have HIX : Hid (∀ W, RowKit.Below w1.heap.size w1 W → Sg 3 W edE p G.es) := fun W h => HIN.out.below (x1.trans (h.mono x1.size))
  have hn0 := HV.out.n1
  have hn1 : G.n ≤ 100000 := by have := HV.out.n2; omega
  clear b0 hB0 hB1 b1
  go_cut [7, 8] (fun s7 s8 wx => s8 = .int .i64 0 ∧ SpR G wx w1.heap.size s7 (wk G n) ∧ RowKit.Below w1.heap.size w1 wx)
  case first =>
    go_region_held3 (fun w' => w'.cell? ⟨w.heap.size, 0, none⟩ = some (.int .i64 G.q) ∧ w'.cell? ⟨w.heap.size, 1, none⟩ = some (.int .i64 G.n) ∧ w'.cell? ⟨w.heap.size, 2, none⟩ = some (.slice p G.es.length c) ∧ RowKit.Below w1.heap.size w1 w')
      (first | (go_split_ands; refine ⟨?_, ?_, ?_, ?_⟩ <;> first | assumption | (go_keep; done) | exact below_drewN (RowKit.Below.refl _ _) 1 | exact (hBa.cell (Nat.lt_of_lt_of_le zb (RowKit.Below.size (by assumption)))).trans (by assumption) | exact (hBb.cell (Nat.lt_of_lt_of_le zb (RowKit.Below.size (by assumption)))).trans (by assumption) | exact RowKit.Below.trans (by assumption) (hBa.mono (RowKit.Below.size (by assumption))) | exact RowKit.Below.trans (by assumption) (hBb.mono (RowKit.Below.size (by assumption)))))
      (first
        | (go_at_call 56; go_split_ands; refine (r11All_any G p c _ hn0 hn1).mono ?_; rintro e wA ⟨q, d, rfl, hsl, hBa⟩)
        | (go_at_call 55; go_split_ands; refine (r11words_any G p c q d n _ (HIX.out _ (by assumption)) hsl HV.out hq hn).mono ?_; rintro e wB ⟨v, rfl, hSP, hBb⟩; have hmz := RowKit.Below.size (show RowKit.Below w1.heap.size w1 _ by assumption); have hSP1 := hSP.mono hmz))
    all_goals
      go_wp2_with fail
      go_meet
      exact ⟨rfl, hSP1, RowKit.Below.trans (by assumption) (hBb.mono hmz)⟩
  case rest =>
    obtain ⟨rfl, hSP, hB2⟩ := hcut
    have hfw := wk_few hq (k := n) hn
    have HT := hidI (r11texts_any G (wk G n) _ _ _ hSP (by omega))
    have hB3 := x1.trans (hB2.mono x1.size)
    clear hSP g0 g1 g2
    go_wp2_with (go_at_call 57; refine HT.out.mono ?_; rintro e w' ⟨q, d, rfl, hown, hBs⟩)
    go_ret2
    exact ⟨q, d, rfl, own_baseI hown hB3.size, hB3.trans (hBs.mono hB3.size)⟩
end Go.Proofs.YtdhkdampdlhdoaaGreat
