/-
  Walks: where edges with a label lead from a set, of the reference (door seat).
-/
import Derived.Test.YtkknkbdkokdbfaaDoorGu
import Derived.Test.YtkknkbdkokdbfaaDoorGl
import Derived.Test.YtkknkbdkokdbfaaDoorGq
namespace Go.Proofs.YtkknkbdkokdbfaaDoor
open Go.RowKit Go.Sort Go.Shelf Go.Lib

def nxE (st : List Int) (b t : Int) (x : Ed) : Bool := decide (x.t = t) && (decide (x.l = b) && decide (x.f ∈ st))
/-- A state that an edge with a label leads to, from a set. -/
def nxP (es : List Ed) (st : List Int) (b t : Int) : Bool := es.any (nxE st b t)
def nextA (G : Gr) (st : List Int) (b : Int) : List Int := (upto G.n.toNat).filter (nxP G.es st b)
theorem uptof_succ (f : Int → Bool) (k : Nat) : (upto (k + 1)).filter f = (upto k).filter f ++ (if f (k : Int) = true then [(k : Int)] else []) := by
  rw [upto_succ, List.filter_append]; congr 1; cases h : f (k : Int) <;> simp [h]
theorem uptof_len (f : Int → Bool) (k : Nat) : ((upto k).filter f).length ≤ k := Nat.le_trans (List.length_filter_le _ _) (by rw [upto_len]; omega)

set_option maxRecDepth 100000 in
set_option maxHeartbeats 4000000 in
theorem rNext_any (G : Gr) (p : Option Addr) (c : Nat) (st : List Int) (q : Option Addr) (d : Nat) (b : Int) (w : World) (hin : Sg 3 w edE p G.es) (hst : Sl w (Value.int .i64) q st) (hl : G.es.length ≤ 10000) (hs : st.length ≤ 100000) (hn0 : 0 ≤ G.n) (hn1 : G.n ≤ 100000) :
    Calls Tryd.prog 53 #[(.agg #[.int .i64 G.q, .int .i64 G.n, .slice p G.es.length c]), .slice q st.length d, .int .i64 b] w fun e w' => ∃ p m c, e = .returned (.slice p m c) ∧ w'.ownsRow w.heap.size 3 1 (.slice p m c) (nextA G st b).length ((nextA G st b).map (Value.int .i64)) ∧ RowKit.Below w.heap.size w w' := by
  have HIN := hidI hin; have HST := hidI hst
  clear hin hst
  obtain ⟨i0, hi0, hz0, hz1, hz3⟩ := info_parts infoIn
  obtain ⟨w1, hw1⟩ : ∃ w1, w1 = w.alloc (.cells #[.int .i64 G.q, .int .i64 G.n, .slice p G.es.length c] 24) := ⟨_, rfl⟩
  have c0 : VRow w1 w.heap.size 24 [.int .i64 G.q, .int .i64 G.n, .slice p G.es.length c] := by subst hw1; exact VRow.new w _ _
  have x1 : RowKit.Below w.heap.size w w1 := by subst hw1; exact (RowKit.Below.refl _ _).alloc (Nat.le_refl _) _
  have hsz := x1.size
  have hsz1 : w.heap.size < w1.heap.size := c0.lt
  go_enter Tryd.func53, Tryd.ntmps53
  go_wp2
  rw [← hw1]
  clear hw1
  go_loopw [7, 8] (fun ov iv wr => ∃ k : Nat, k ≤ G.n.toNat ∧ iv = .int .i64 k ∧ wr.ownsRow w1.heap.size 3 1 ov ((upto k).filter (nxP G.es st b)).length (((upto k).filter (nxP G.es st b)).map (Value.int .i64)) ∧ RowKit.Below w1.heap.size w1 wr) (fun _ iv _ => G.n.toNat - (intOf iv).toNat)
  case atStart => exact ⟨0, by omega, rfl, World.ownsRow_nil _ _ _ _, RowKit.Below.refl _ _⟩
  case round =>
    obtain ⟨k, hk, rfl, hown, hB⟩ := hrel
    have xr := x1.trans (hB.mono x1.size)
    have cr := c0.below hB hsz1
    have f1 := cr.at 1 rfl; have f2 := cr.at 2 rfl
    by_cases hlt : k < G.n.toNat
    · have hlt' : (k : Int) < G.n := by omega
      have HN := hidI (uptof_succ (nxP G.es st b) k)
      have hML := uptof_len (nxP G.es st b) k
      generalize (upto k).filter (nxP G.es st b) = M at *
      have hszr := hB.size
      obtain ⟨wo, rfl⟩ : ∃ wo : World, wo = wr := ⟨_, rfl⟩
      go_wp2
      go_loopw [9, 10] (fun fv jv wr => ∃ j : Nat, j ≤ G.es.length ∧ jv = .int .i64 j ∧ fv = .bool ((G.es.take j).any (nxE st b k)) ∧ RowKit.Below wo.heap.size wo wr) (fun _ jv _ => G.es.length - (intOf jv).toNat)
      case atStart => exact ⟨0, by omega, rfl, by simp, RowKit.Below.refl _ _⟩
      case round =>
        obtain ⟨j, hj, rfl, rfl, hBt⟩ := hrel
        have xt := xr.trans (hBt.mono xr.size)
        have ct := cr.below hBt cr.lt
        clear f1 f2
        have f1 := ct.at 1 rfl; have f2 := ct.at 2 rfl
        by_cases hjl : j < G.es.length
        · obtain ⟨b3, o3, rfl, hb3, e0, e1, e2⟩ := (HIN.out.below xt).get3 j hjl rfl
          have HA := hidI (any_snoc (nxE st b k) G.es j hjl)
          generalize (G.es.take j).any (nxE st b k) = fd at *
          generalize hx : G.es[j] = x at *
          have HS1 : Sl (wr.alloc (.cells #[.int .i64 x.f, .int .i64 x.l, .int .i64 x.t] 34)) (Value.int .i64) q st := HST.out.below (xt.alloc xt.size _)
          have hBn : RowKit.Below wo.heap.size wo (wr.alloc (.cells #[.int .i64 x.f, .int .i64 x.l, .int .i64 x.t] 34)) := hBt.alloc hBt.size _
          cases fd
          · by_cases h1 : x.t = (k : Int)
            · have d1 : (x.t == (k : Int)) = true := by simpa using h1
              by_cases h2 : x.l = b
              · have d2 : (x.l == b) = true := by simpa using h2
                have HV : Hid ((G.es.take (j + 1)).any (nxE st b k) = decide (x.f ∈ st)) := by rw [Hid, HA.out]; simp [nxE, h1, h2]
                clear h1 h2
                go_wp2_with (go_at_call 72; refine (rHas_q st q d x.f _ HS1 (by omega)).mono ?_; rintro e w' ⟨rfl, rfl⟩)
                go_roundw
                case rel => exact ⟨j + 1, by omega, by go_num, by rw [HV.out], hBn⟩
                case measure => simp [intOf]; omega
              · have d2 : (x.l == b) = false := by simpa using h2
                have HV : Hid ((G.es.take (j + 1)).any (nxE st b k) = false) := by rw [Hid, HA.out]; simp [nxE, h2]
                clear h1 h2
                go_wp2_with fail
                go_roundw
                case rel => exact ⟨j + 1, by omega, by go_num, by rw [HV.out], hBn⟩
                case measure => simp [intOf]; omega
            · have d1 : (x.t == (k : Int)) = false := by simpa using h1
              have HV : Hid ((G.es.take (j + 1)).any (nxE st b k) = false) := by rw [Hid, HA.out]; simp [nxE, h1]
              clear h1
              go_wp2_with fail
              go_roundw
              case rel => exact ⟨j + 1, by omega, by go_num, by rw [HV.out], hBn⟩
              case measure => simp [intOf]; omega
          · have HV : Hid ((G.es.take (j + 1)).any (nxE st b k) = true) := by rw [Hid, HA.out]; rfl
            go_wp2_with fail
            go_roundw
            case rel => exact ⟨j + 1, by omega, by go_num, by rw [HV.out], hBn⟩
            case measure => simp [intOf]; omega
        · obtain rfl : j = G.es.length := by omega
          rw [List.take_length]
          have HV : Hid (G.es.any (nxE st b k) = nxP G.es st b k) := rfl
          have hownt := hown.below hBt
          have hBt2 := hB.trans (hBt.mono hB.size)
          generalize G.es.any (nxE st b k) = fd at *
          cases fd
          · have HN : Hid (List.filter (nxP G.es st b) (upto (k + 1)) = M) := by rw [Hid, HN.out, ← HV.out]; simp
            go_wp2_with fail
            go_roundw
            case rel => exact ⟨k + 1, by omega, by go_num, by rw [HN.out]; exact hownt, hBt2⟩
            case measure => simp [intOf]; omega
          · have HN : Hid (List.filter (nxP G.es st b) (upto (k + 1)) = M ++ [(k : Int)]) := by rw [Hid, HN.out, ← HV.out]; simp
            have hnew := cell_one_at wr (.int .i64 (k : Int)) 3 wr.heap.size rfl
            have hszt := hBt.size
            go_wp2_with (at_builtin; refine wpList_append_own _ rfl _ _ 37 rfl w1.heap.size 3 i0 (.int .i64 0) 1 8 Tryd.underlying37 hi0 hz0 hz1 hz3 rfl (by decide) _ _ _ rfl (hownt.alloc _) ⟨wr.heap.size, 0, none⟩ 1 1 [.int .i64 (k : Int)] rfl rfl hnew (by simp [Value.oneCell']) (by simp [maxLen]; omega) (by omega) (by rw [World.size_alloc]; omega) ?_; intro v' w2 hown' hgrow _)
            go_roundw
            case rel => exact ⟨k + 1, by omega, by go_num, by rw [HN.out, List.length_append, List.map_append]; exact hown', (hBt2.alloc hBt2.size _).grown hgrow (Nat.le_trans hBt2.size (by simp)) (fun j e => (hownt.lt j e).1)⟩
            case measure => simp [intOf]; omega
    · obtain rfl : k = G.n.toNat := by omega
      have hlt' : ¬ ((G.n.toNat : Int) < G.n) := by omega
      go_wp2
      go_ret
      obtain ⟨p', c', rfl, _⟩ := own_sl hown
      exact ⟨_, _, _, rfl, ⟨hown.1, hown.2.imp id (fun ⟨g, cap, cur, a, b, z⟩ => ⟨g, cap, cur, a, Nat.le_trans hsz b, z⟩)⟩, xr⟩
end Go.Proofs.YtkknkbdkokdbfaaDoor
