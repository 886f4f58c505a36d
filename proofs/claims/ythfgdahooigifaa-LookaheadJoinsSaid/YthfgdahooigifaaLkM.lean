/-
  Walks: two lists joined to one in memory of the call's own.
-/
import Derived.Test.YthfgdahooigifaaLkL
import Derived.Test.YthfgdahooigifaaLkH
import Derived.Maps.AppendAt
import Derived.Lib.AppendZerosOnto
namespace Go.Proofs.Ythfgdahooigifaa
open Go.RowKit

theorem own_grow (w : World) (B cap : Nat) (e : TypeId) (cur : Array Value) (hB : B ≤ w.heap.size) (hm : cap ≤ maxLen) (hc : cur.size = cap) :
    (w.alloc (.cells cur e)).ownsRow B e 1 (.slice (some ⟨w.heap.size, 0, none⟩) 0 cap) 0 [] :=
  ⟨by simp, .inr ⟨w.heap.size, _, _, rfl, hB, heap_alloc_new w _, Nat.zero_le _, hm, by simp [hc], by simp⟩⟩
def RetOwn0 (w : World) (e : Ending) (w' : World) : Prop := ∃ v, e = .returned v ∧ w'.ownsRow w.heap.size 3 1 v 0 [] ∧ Below w.heap.size w w'
set_option maxHeartbeats 400000 in
theorem growI_nil (n : Nat) (w : World) (hn : n ≤ 1000) : Calls Try.prog 29 #[.slice none 0 0, .int .i64 n] w (RetOwn0 w) := by
  obtain ⟨i0, hi0, hz0, hz1, hz3⟩ := info_parts infoInt
  by_cases h0 : n = 0
  · subst h0
    go_enter Try.func29, Try.ntmps29
    go_wp2
    go_ret
    exact ⟨_, rfl, World.ownsRow_nil _ _ _ _, Below.refl _ _⟩
  · have hrun : ∀ ty, (Builtin.append_ #[26, 3] ty #[.slice none 0 0, .int .i64 (n : Int)]).run Try.prog w = _ := fun ty =>
      Lib.run_append_grow_zeros w 26 3 ty 3 i0 (.int .i64 0) .i64 .i64 Try.underlying26 Try.underlying3 hi0 hz0 none 0 0 [] (run_firstCells_none w.drew i0.size 0 0 0) n (by omega) (by rw [hz1]; decide) (by omega) (by omega) (by rw [hz3]; omega) (by rw [hz3]; exact growslice_fits (by omega) (by omega))
    rw [Nat.zero_add] at hrun
    have hGn : n ≤ grownCap w n 0 3 := grownCap_ge w _ _ _
    have hG63 : grownCap w n 0 3 ≤ maxLen := grownCap_le_maxLen w n 0 3 (by unfold maxLen; omega)
    obtain ⟨G, hG⟩ : ∃ G, grownCap w n 0 3 = G := ⟨_, rfl⟩
    rw [hG] at hrun hGn hG63
    have hG4 := hG63
    unfold maxLen at hG4
    clear hG
    have hp : (0 : Int) < (n : Int) := by omega
    have hp2 : 0 < n := by omega
    clear h0
    go_enter Try.func29, Try.ntmps29
    go_wp2_with (at_builtin; refine Lib.wpList_append_run _ rfl _ _ _ _ rfl _ _ rfl rfl _ _ (hrun _) ?_)
    all_goals go_ret
    all_goals exact ⟨_, rfl, own_grow w.drew _ G 3 _ (Nat.le_refl _) hG63 (by simp [Builtin.zeroCells]; omega), (below_drewN (Below.refl _ _) 1).alloc (Nat.le_refl _) _⟩

/-- Two lists, one after the other. -/
def cat2 (a b : List Int) (k : Nat) : List Int := if k = 0 then [] else if k = 1 then a else a ++ b
theorem one_ints (l : List Int) : ∀ u ∈ l.map (Value.int .i64), u.oneCell' = true := by
  intro u hu; obtain ⟨x, _, rfl⟩ := List.mem_map.1 hu; rfl
/-- Appending a list that lies in memory, nil or not. -/
theorem run_append_sl {P : Program} (w : World) (base : Nat) (t ty e : TypeId) (i : TypeInfo) (bytes : Nat) (ht : P.underlying t = some (.slice e)) (hi : P.info? e = some i) (hz : i.zero = some (.int .i64 0)) (hs : i.size = 1) (hby : i.bytes = bytes)
    (v : Value) (xs : List Int) (hown : w.ownsRow base e 1 v xs.length (xs.map (Value.int .i64))) (p : Option Addr) (c : Nat) (l : List Int) (hl : Sl w (Value.int .i64) p l) (h63 : xs.length + l.length ≤ maxLen) (hb : (xs.length + l.length) * bytes ≤ 140737488355328) (hbase : base ≤ w.heap.size) :
    ∃ v' w', (Builtin.append_ #[t, t] ty #[v, .slice p l.length c]).run P w = .ok v' w' ∧ w'.ownsRow base e 1 v' (xs ++ l).length ((xs ++ l).map (Value.int .i64)) ∧ w.grownBy w' v.ownBlock := by
  cases p with
  | none =>
    rcases hl with h0 | ⟨_, _, hp, _⟩
    · subst h0
      refine ⟨v, w, ?_, by simpa using hown, World.grownBy.refl w _⟩
      rcases hown.2 with ⟨rfl, h0⟩ | ⟨g, cap, cur, rfl, _, _, hnc, _⟩
      · simp [Builtin.append_, run_underlying ht, sizeOf, typeInfo, hi, Builtin.lenOf, Builtin.firstCells]
      · simp [Builtin.append_, run_underlying ht, sizeOf, typeInfo, hi, Builtin.lenOf, Builtin.firstCells, hnc, storeCells]
    · cases hp
  | some ad =>
    have hn : ∀ j u, (l.map (Value.int .i64))[j]? = some u → w.cell? (ad.add j) = some u := by
      rcases hl with h0 | ⟨b, off, hp, _, hc⟩
      · subst h0; simp
      · cases hp; exact news_sl hc
    obtain ⟨v', w', h1, h2, h3, _, _⟩ := run_append_own_at w base t ty e i (.int .i64 0) 1 bytes ht hi hz hs hby rfl (by decide) v xs.length _ hown ad l.length c (l.map (Value.int .i64)) (by simp) hn (one_ints l) h63 hb hbase
    exact ⟨v', w', h1, by rw [List.length_append, List.map_append]; exact h2, h3⟩

set_option maxRecDepth 100000 in
set_option maxHeartbeats 1000000 in
theorem concat2_any (a b : List Int) (pa pb : Option Addr) (ca cb : Nat) (B : Nat) (w : World) (hb : VRow w B 26 [.slice pa a.length ca, .slice pb b.length cb]) (ha : Sl w (Value.int .i64) pa a) (hbb : Sl w (Value.int .i64) pb b)
    (la : a.length ≤ 100) (lb : b.length ≤ 100) :
    Calls Try.prog 13 #[.slice (some ⟨B, 0, none⟩) 2 2] w (RetSl (a ++ b) w) := by
  have HA := hidI ha
  have HB := hidI hbb
  have f0 := hb.at 0 rfl
  have f1 := hb.at 1 rfl
  have ng0 : ¬ ((a.length : Int) < 0) := by omega
  have ng1 : ¬ ((a.length : Int) + (b.length : Int) < 0) := by omega
  obtain ⟨i0, hi0, hz0, hz1, hz3⟩ := info_parts infoInt
  clear ha hbb
  go_enter Try.func13, Try.ntmps13
  go_wp2
  go_loop [3, 11] (fun sv iv => (sv = .int .i64 0 ∧ iv = .int .i64 0) ∨ (sv = .int .i64 a.length ∧ iv = .int .i64 1) ∨ (sv = .int .i64 ((a.length : Int) + b.length) ∧ iv = .int .i64 2)) (fun _ iv => 2 - (intOf iv).toNat)
  case atStart => exact .inl ⟨rfl, rfl⟩
  case round =>
    rcases hrel with ⟨rfl, rfl⟩ | ⟨rfl, rfl⟩ | ⟨rfl, rfl⟩
    · go_wp2
      go_round
      case rel => exact .inr (.inl ⟨rfl, rfl⟩)
      case measure => simp [intOf]
    · go_wp2
      go_round
      case rel => exact .inr (.inr ⟨rfl, rfl⟩)
      case measure => simp [intOf]
    · go_wp2_with fail
      have hsum : ((a.length : Int) + (b.length : Int)) = ((a.length + b.length : Nat) : Int) := by omega
      rw [hsum]
      refine (growI_nil (a.length + b.length) _ (by omega)).mono ?_
      rintro e w1 ⟨v, rfl, hown, hB1⟩
      have b1 := hb.below hB1 hb.lt
      have HB1 := hidI hB1
      clear f0 f1 hsum
      go_wp2
      go_loopw [6, 27] (fun ov iv wr => ∃ k : Nat, k ≤ 2 ∧ iv = .int .i64 k ∧ wr.ownsRow w.heap.size 3 1 ov (cat2 a b k).length ((cat2 a b k).map (Value.int .i64)) ∧ Below w.heap.size w wr) (fun _ iv _ => 2 - (intOf iv).toNat)
      case atStart => exact ⟨0, by omega, rfl, hown, HB1.out⟩
      case round =>
        obtain ⟨k, hk, rfl, ho, hBr⟩ := hrel
        have br := hb.below hBr hb.lt
        have f0 := br.at 0 rfl
        have f1 := br.at 1 rfl
        have hx := hBr.size
        rcases (by omega : k = 0 ∨ k = 1 ∨ k = 2) with rfl | rfl | rfl
        · obtain ⟨v1, w2, hr2, ho2, hg2⟩ := run_append_sl wr w.heap.size 26 26 3 i0 8 Try.underlying26 hi0 hz0 hz1 hz3 u6 [] ho pa ca a (HA.out.below hBr) (by simp [maxLen]; omega) (by simp; omega) hx
          go_wp2_with (at_builtin; refine Lib.wpList_append_run _ rfl _ _ _ _ rfl _ _ rfl rfl _ _ hr2 ?_)
          go_roundw
          case rel => exact ⟨1, by omega, rfl, ho2, hBr.grown hg2 hx (fun j e => (ho.lt j e).1)⟩
          case measure => simp [intOf]
        · obtain ⟨v1, w2, hr2, ho2, hg2⟩ := run_append_sl wr w.heap.size 26 26 3 i0 8 Try.underlying26 hi0 hz0 hz1 hz3 u6 a ho pb cb b (HB.out.below hBr) (by simp [maxLen]; omega) (by omega) hx
          go_wp2_with (at_builtin; refine Lib.wpList_append_run _ rfl _ _ _ _ rfl _ _ rfl rfl _ _ hr2 ?_)
          go_roundw
          case rel => exact ⟨2, by omega, rfl, ho2, hBr.grown hg2 hx (fun j e => (ho.lt j e).1)⟩
          case measure => simp [intOf]
        · go_wp2
          go_ret
          exact RetSl.mk ho rfl hBr
end Go.Proofs.Ythfgdahooigifaa
