/-
  Walks: three lists of edges joined to one, in memory of the call's own (door seat).
-/
import Derived.Test.YtkknkbdkokdbfaaDoorGj
import Derived.Maps.AppendAt
import Derived.Lib.AppendZerosOnto
namespace Go.Proofs.YtkknkbdkokdbfaaDoor
open Go.RowKit Go.Sort Go.Shelf Go.Lib

theorem own_growE (w : World) (B cap : Nat) (e : TypeId) (cur : Array Value) (hB : B ≤ w.heap.size) (hm : cap ≤ maxLen) (hc : cur.size = cap * 3) :
    (w.alloc (.cells cur e)).ownsRow B e 3 (.slice (some ⟨w.heap.size, 0, none⟩) 0 cap) 0 [] :=
  ⟨by simp, .inr ⟨w.heap.size, _, _, rfl, hB, heap_alloc_new w _, Nat.zero_le _, hm, hc, by simp⟩⟩
def RetOwn0E (w : World) (e : Ending) (w' : World) : Prop := ∃ v, e = .returned v ∧ w'.ownsRow w.heap.size 34 3 v 0 (cat []) ∧ RowKit.Below w.heap.size w w'
set_option maxRecDepth 100000 in
set_option maxHeartbeats 1000000 in
theorem growE_nil (n : Nat) (w : World) (hn : n ≤ 1000) : Calls Tryd.prog 46 #[.slice none 0 0, .int .i64 n] w (RetOwn0E w) := by
  obtain ⟨i0, hi0, hz0, hz1, hz3⟩ := info_parts infoE
  by_cases h0 : n = 0
  · subst h0
    go_enter Tryd.func46, Tryd.ntmps46
    go_wp2
    go_ret
    exact ⟨_, rfl, World.ownsRow_nil _ _ _ _, RowKit.Below.refl _ _⟩
  · have hrun : ∀ ty, (Builtin.append_ #[22, 3] ty #[.slice none 0 0, .int .i64 (n : Int)]).run Tryd.prog w = _ := fun ty =>
      Lib.run_append_grow_zeros w 22 3 ty 34 i0 (.agg #[.int .i64 0, .int .i64 0, .int .i64 0]) .i64 .i64 Tryd.underlying22 Tryd.underlying3 hi0 hz0 none 0 0 [] (run_firstCells_none w.drew i0.size 0 0 0) n (by omega) (by rw [hz1]; decide) (by omega) (by omega) (by rw [hz3]; omega) (by rw [hz3]; exact growslice_fits (by omega) (by omega))
    rw [Nat.zero_add] at hrun
    have hGn : n ≤ grownCap w n 0 34 := grownCap_ge w _ _ _
    have hG63 : grownCap w n 0 34 ≤ maxLen := grownCap_le_maxLen w n 0 34 (by unfold maxLen; omega)
    obtain ⟨G, hG⟩ : ∃ G, grownCap w n 0 34 = G := ⟨_, rfl⟩
    rw [hG] at hrun hGn hG63
    have hG4 := hG63
    unfold maxLen at hG4
    clear hG
    have hp : (0 : Int) < (n : Int) := by omega
    have hp2 : 0 < n := by omega
    clear h0
    go_enter Tryd.func46, Tryd.ntmps46
    go_wp2_with (at_builtin; refine Lib.wpList_append_run _ rfl _ _ _ _ rfl _ _ rfl rfl _ _ (hrun _) ?_)
    all_goals go_ret
    all_goals exact ⟨_, rfl, own_growE w.drew _ G 34 _ (Nat.le_refl _) hG63 (by simp [Builtin.zeroCells]; omega), (drB _ w).alloc (Nat.le_refl _) _⟩

/-- Three lists, one after the other: the first k of them. -/
def cat3 (a b c : List Ed) (k : Nat) : List Ed := if k = 0 then [] else if k = 1 then a else if k = 2 then a ++ b else a ++ b ++ c

set_option maxRecDepth 100000 in
set_option maxHeartbeats 2000000 in
theorem concatE_any (a b d : List Ed) (pa pb pd : Option Addr) (ca cb cd : Nat) (B : Nat) (w : World) (hb : VRow w B 22 [.slice pa a.length ca, .slice pb b.length cb, .slice pd d.length cd]) (ha : Sg 3 w edE pa a) (hbb : Sg 3 w edE pb b) (hd : Sg 3 w edE pd d)
    (la : a.length ≤ 100) (lb : b.length ≤ 100) (ld : d.length ≤ 100) :
    Calls Tryd.prog 17 #[.slice (some ⟨B, 0, none⟩) 3 3] w (RetOwnE (a ++ b ++ d) w) := by
  have HA := hidI ha
  have HB := hidI hbb
  have HD := hidI hd
  have f0 := hb.at 0 rfl
  have f1 := hb.at 1 rfl
  have f2 := hb.at 2 rfl
  have ng0 : ¬ ((a.length : Int) < 0) := by omega
  have ng1 : ¬ ((a.length : Int) + (b.length : Int) < 0) := by omega
  have ng2 : ¬ ((a.length : Int) + (b.length : Int) + (d.length : Int) < 0) := by omega
  obtain ⟨i0, hi0, hz0, hz1, hz3⟩ := info_parts infoE
  clear ha hbb hd
  go_enter Tryd.func17, Tryd.ntmps17
  go_wp2
  go_loop [3, 11] (fun sv iv => (sv = .int .i64 0 ∧ iv = .int .i64 0) ∨ (sv = .int .i64 a.length ∧ iv = .int .i64 1) ∨ (sv = .int .i64 ((a.length : Int) + b.length) ∧ iv = .int .i64 2) ∨ (sv = .int .i64 ((a.length : Int) + b.length + d.length) ∧ iv = .int .i64 3)) (fun _ iv => 3 - (intOf iv).toNat)
  case atStart => exact .inl ⟨rfl, rfl⟩
  case round =>
    rcases hrel with ⟨rfl, rfl⟩ | ⟨rfl, rfl⟩ | ⟨rfl, rfl⟩ | ⟨rfl, rfl⟩
    · go_wp2
      go_round
      case rel => exact .inr (.inl ⟨rfl, rfl⟩)
      case measure => simp [intOf]
    · go_wp2
      go_round
      case rel => exact .inr (.inr (.inl ⟨rfl, rfl⟩))
      case measure => simp [intOf]
    · go_wp2
      go_round
      case rel => exact .inr (.inr (.inr ⟨rfl, rfl⟩))
      case measure => simp [intOf]
    · go_wp2_with fail
      have hsum : ((a.length : Int) + (b.length : Int) + (d.length : Int)) = ((a.length + b.length + d.length : Nat) : Int) := by omega
      rw [hsum]
      refine (growE_nil (a.length + b.length + d.length) _ (by omega)).mono ?_
      rintro e w1 ⟨v, rfl, hown, hB1⟩
      have b1 := hb.below hB1 hb.lt
      have HB1 := hidI hB1
      clear f0 f1 f2 hsum hB1
      go_wp2
      go_loopw [6, 27] (fun ov iv wr => ∃ k : Nat, k ≤ 3 ∧ iv = .int .i64 k ∧ wr.ownsRow w.heap.size 34 3 ov (cat3 a b d k).length (cat (cat3 a b d k)) ∧ RowKit.Below w.heap.size w wr) (fun _ iv _ => 3 - (intOf iv).toNat)
      case atStart => exact ⟨0, by omega, rfl, hown, HB1.out⟩
      case round =>
        obtain ⟨k, hk, rfl, ho, hBr⟩ := hrel
        have br := hb.below hBr hb.lt
        have f0 := br.at 0 rfl
        have f1 := br.at 1 rfl
        have f2 := br.at 2 rfl
        have hx := hBr.size
        rcases (by omega : k = 0 ∨ k = 1 ∨ k = 2 ∨ k = 3) with rfl | rfl | rfl | rfl
        · obtain ⟨v1, w2, hr2, ho2, hg2⟩ := run_append_sg (P := Tryd.prog) (w := wr) w.heap.size 22 22 34 i0 _ Tryd.underlying22 hi0 hz0 hz1 hz3 rfl u6 [] _ ho pa ca a _ rfl (HA.out.below hBr) (by simp [cat3]; omega) hx
          go_wp2_with (at_builtin; refine Lib.wpList_append_run _ rfl _ _ _ _ rfl _ _ rfl rfl _ _ hr2 ?_)
          go_roundw
          case rel => exact ⟨1, by omega, rfl, own_conv ho2 rfl (Nat.le_refl _), hBr.grown hg2 hx (fun j e => (ho.lt j e).1)⟩
          case measure => simp [intOf]
        · obtain ⟨v1, w2, hr2, ho2, hg2⟩ := run_append_sg (P := Tryd.prog) (w := wr) w.heap.size 22 22 34 i0 _ Tryd.underlying22 hi0 hz0 hz1 hz3 rfl u6 a _ ho pb cb b _ rfl (HB.out.below hBr) (by simp [cat3]; omega) hx
          go_wp2_with (at_builtin; refine Lib.wpList_append_run _ rfl _ _ _ _ rfl _ _ rfl rfl _ _ hr2 ?_)
          go_roundw
          case rel => exact ⟨2, by omega, rfl, own_conv ho2 rfl (Nat.le_refl _), hBr.grown hg2 hx (fun j e => (ho.lt j e).1)⟩
          case measure => simp [intOf]
        · obtain ⟨v1, w2, hr2, ho2, hg2⟩ := run_append_sg (P := Tryd.prog) (w := wr) w.heap.size 22 22 34 i0 _ Tryd.underlying22 hi0 hz0 hz1 hz3 rfl u6 (a ++ b) _ ho pd cd d _ rfl (HD.out.below hBr) (by simp [cat3]; omega) hx
          go_wp2_with (at_builtin; refine Lib.wpList_append_run _ rfl _ _ _ _ rfl _ _ rfl rfl _ _ hr2 ?_)
          go_roundw
          case rel => exact ⟨3, by omega, rfl, own_conv ho2 rfl (Nat.le_refl _), hBr.grown hg2 hx (fun j e => (ho.lt j e).1)⟩
          case measure => simp [intOf]
        · go_wp2
          go_ret
          exact ⟨_, rfl, own_conv ho rfl (Nat.le_refl _), hBr⟩
theorem concatE_n (a b d : List Ed) (na nb nd : Nat) (ea : a.length = na) (eb : b.length = nb) (ed : d.length = nd) (pa pb pd : Option Addr) (ca cb cd : Nat) (B : Nat) (w : World) (hb : VRow w B 22 [.slice pa na ca, .slice pb nb cb, .slice pd nd cd]) (ha : Sg 3 w edE pa a) (hbb : Sg 3 w edE pb b) (hd : Sg 3 w edE pd d)
    (la : na ≤ 100) (lb : nb ≤ 100) (ld : nd ≤ 100) :
    Calls Tryd.prog 17 #[.slice (some ⟨B, 0, none⟩) 3 3] w (RetOwnE (a ++ b ++ d) w) := by
  subst ea eb ed; exact concatE_any a b d pa pb pd ca cb cd B w hb ha hbb hd la lb ld
end Go.Proofs.YtkknkbdkokdbfaaDoor
