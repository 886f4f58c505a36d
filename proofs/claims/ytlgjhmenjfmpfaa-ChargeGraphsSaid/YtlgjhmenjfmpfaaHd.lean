/-
  Walks: the states that Essential leaves out are struck from the list (door seat).
-/
import Derived.Test.YtlgjhmenjfmpfaaHe
import Derived.Test.YtlgjhmenjfmpfaaHi
import Derived.Test.YtlgjhmenjfmpfaaShelf
namespace Go.Proofs.Ytlgjhmenjfmpfaa
open Go.RowKit Go.Sort Go.Shelf Go.Lib

theorem MapB.kept {w w' : World} {b : Nat} {f : Int → Bool} {row : Option Nat} (h : MapB w b f) (hg : w.grownBy w' row) (hne : some b ≠ row) : MapB w' b f := Mp.kept h hg hne
theorem MapB.lt {w : World} {b : Nat} {f : Int → Bool} (h : MapB w b f) : b < w.heap.size := Mp.lt h
theorem MapB.ne {w : World} {b g e : Nat} {f : Int → Bool} {cur : Array Value} {z : Nat × Nat} (h : MapB w b f) (hg : w.heap[g]? = some (.cells cur e z)) : b ≠ g := by
  obtain ⟨es, cl, hb, _⟩ := h
  rintro rfl
  rw [hb] at hg; cases hg
theorem cell_kept {w w' : World} {b : Nat} {u : Value} {row : Option Nat} (hg : w.grownBy w' row) (hc : w.cell? ⟨b, 0, none⟩ = some u) (hne : some b ≠ row) : w'.cell? ⟨b, 0, none⟩ = some u :=
  (World.cell?_of_block (w := w) (a := ⟨b, 0, none⟩) (hg.block b (World.block_lt_of_cell? w _ hc) hne)).trans hc

set_option maxRecDepth 100000 in
set_option maxHeartbeats 1000000 in
theorem gDel_nil (fv : Value) (w : World) : Calls Try.prog 63 #[.slice none 0 0, fv] w fun e w' => e = .returned (.slice none 0 0) ∧ w' = w := by
  go_enter Try.func63, Try.ntmps63
  go_wp2_with (go_at_call 75; refine (Try.slices_IndexFunc_empty (α := Int) none 0 fv w).mono ?_; rintro e w' ⟨rfl, rfl⟩)
  go_ret
  exact ⟨rfl, rfl⟩
theorem gDel_any (f g : Int → Bool) (st : List Int) (B n b1 b2 m1 m2 : Nat) (v : Value) (w : World) (h : w.ownsRow B 3 1 v n (st.map (Value.int .i64))) (hn : n ≤ 100000) (hi : ∀ x ∈ st, 0 ≤ x ∧ x ≤ 1000000)
    (h1 : w.cell? ⟨b1, 0, none⟩ = some (.map (some m1))) (h2 : w.cell? ⟨b2, 0, none⟩ = some (.map (some m2))) (hf : MapB w m1 f) (hg : MapB w m2 g) (n1 : v.ownBlock ≠ some b1) (n2 : v.ownBlock ≠ some b2) :
    Calls Try.prog 63 #[v, .func (.func 64) #[] #[.pointer (some ⟨b1, 0, none⟩), .pointer (some ⟨b2, 0, none⟩)]] w fun e w' =>
      ∃ v', e = .returned v' ∧ w'.ownsRow B 3 1 v' (st.filter fun x => f x && g x).length ((st.filter fun x => f x && g x).map (Value.int .i64)) ∧ w.grownBy w' v.ownBlock ∧ v'.ownBlock = v.ownBlock := by
  rcases h.2 with ⟨rfl, rfl⟩ | ⟨gb, cap, cur, rfl, hgb, hh, hc, hm, hs, ht⟩
  · have : st = [] := List.length_eq_zero_iff.1 (by have := h.1; simpa using this)
    subst this
    refine (gDel_nil _ w).mono ?_
    rintro e w' ⟨rfl, rfl⟩
    exact ⟨_, rfl, World.ownsRow_nil _ _ _ _, ⟨rfl, rfl, rfl, Nat.le_refl _, fun _ _ _ => rfl⟩, rfl⟩
  · obtain ⟨hH, hlt, _, hl, _⟩ := own_holdsN h hi
    have k1 := hf.ne hh; have k2 := hg.ne hh
    have n1' : (some b1 : Option Nat) ≠ some gb := fun e => n1 (by rw [Value.ownBlock]; exact e.symm)
    have n2' : (some b2 : Option Nat) ≠ some gb := fun e => n2 (by rw [Value.ownBlock]; exact e.symm)
    have eg : ∀ args w, (callFunc 64 args).run Try.prog w = .ok (.enter 64 args) w := enters_of Try.func64 (by kernel_rfl) rfl
    have hgive : ∀ (W : World) (x : Int), w.grownBy W (some gb) → FnGives Try.prog 64 #[.pointer (some ⟨b1, 0, none⟩), .pointer (some ⟨b2, 0, none⟩)] #[encN x] (.bool (!(f (nmI x) && g (nmI x)))) W := fun W x hgr =>
      gEss1_gives f g b1 b2 m1 m2 W (nmI x) (okI_of (nmI_bd x).1 (nmI_bd x).2) (cell_kept hgr h1 n1') (cell_kept hgr h2 n2') (hf.kept hgr (fun e => k1 (Option.some.inj e))) (hg.kept hgr (fun e => k2 (Option.some.inj e)))
    have hz : ∀ w, (zeroValue 3).run Try.prog w = .ok (encN 0) w := fun w => by kernel_rfl
    have hcon := Try.slices_DeleteFunc encN (fun _ => rfl) (fun x => !(f (nmI x) && g (nmI x))) 64 #[.pointer (some ⟨b1, 0, none⟩), .pointer (some ⟨b2, 0, none⟩)] eg 0 hz gb 0 cap st.toArray w
      (fun W x hb => hgive W x ⟨hb.os, hb.tape, hb.output, hb.size, fun i hi _ => hb.block i hi⟩) (fun q os dk x _ => hgive _ x (grown_over dk os)) hH (by simp; omega) (by simp; omega)
    have hfl : (st.toArray.toList.filter fun x => !!(f (nmI x) && g (nmI x))) = st.filter fun x => f x && g x := by
      simp only [Bool.not_not]
      exact List.filter_congr (fun x hx => by rw [nmI_in (hi x hx)])
    rw [hfl, show st.toArray.size = n by simpa using hl] at hcon
    refine hcon.mono ?_
    rintro e w' ⟨rfl, q, rfl⟩
    exact ⟨_, rfl, own_struck h (by rw [← hl]; exact List.length_filter_le _ _) (fun x hx => hi x (List.mem_filter.1 hx).1), grown_struck _, rfl⟩
end Go.Proofs.Ytlgjhmenjfmpfaa
