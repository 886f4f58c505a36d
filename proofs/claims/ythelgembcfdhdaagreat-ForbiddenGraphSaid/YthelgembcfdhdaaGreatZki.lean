/-
  Words, plain lemmas and walks, merged: Hi, Hd, Gw, Gv, Gy, Gs, Gz, Gt, Hp, Pa, Hu, Fp.
-/
import Derived.Test.YthelgembcfdhdaaGreatZkd
import Derived.Shelf.SlicesE.DeleteFunc
import Derived.Test.YthelgembcfdhdaaGreatZkh
import Derived.Test.YthelgembcfdhdaaGreatZkb
import Derived.Test.YthelgembcfdhdaaGreatZkf
set_option linter.unusedVariables false
set_option linter.unusedSimpArgs false
namespace Go.Proofs.YthelgembcfdhdaaGreat
open Go.RowKit Go.Sort Go.Shelf Go.Lib

/-- A number as it lies in memory; numbers that are no states read as 0. -/
def nmI (x : Int) : Int := if 0 ≤ x ∧ x ≤ 1000000 then x else 0
def encN (x : Int) : Value := .int .i64 (nmI x)
theorem nmI_in {x : Int} (h : 0 ≤ x ∧ x ≤ 1000000) : nmI x = x := if_pos h
theorem nmI_bd (x : Int) : 0 ≤ nmI x ∧ nmI x ≤ 1000000 := by unfold nmI; split <;> omega
theorem encN_in {l : List Int} (h : ∀ x ∈ l, 0 ≤ x ∧ x ≤ 1000000) : l.map encN = l.map (Value.int .i64) :=
  List.map_congr_left (fun x hx => by unfold encN; rw [nmI_in (h x hx)])
theorem own_holdsN {w : World} {B e g n cap : Nat} {l : List Int} (h : w.ownsRow B e 1 (.slice (some ⟨g, 0, none⟩) n cap) n (l.map (Value.int .i64))) (hi : ∀ x ∈ l, 0 ≤ x ∧ x ≤ 1000000) :
    Holds encN w g 0 l.toArray ∧ g < w.heap.size ∧ B ≤ g ∧ l.length = n ∧ n ≤ cap := by
  have hn : l.length = n := by have := h.1; simpa using this
  rcases h.2 with ⟨e0, _⟩ | ⟨g', cap', cur, e0, hg, hh, hc, hm, hs, ht⟩
  · cases e0
  · cases e0
    refine ⟨fun j hj => ?_, (Array.getElem?_eq_some_iff.1 hh).1, hg, hn, hc⟩
    have hj' : j < l.length := by simpa using hj
    refine ⟨?_, by simp [World.frozen?, hh]⟩
    have e1 : (l.map encN)[j]? = cur.toList[j]? := by
      rw [encN_in hi, ← ht, List.getElem?_take, if_pos (by omega)]
    rw [List.getElem?_map, List.getElem?_eq_getElem hj', Array.getElem?_toList] at e1
    rw [getElem!_pos l.toArray j hj, Nat.zero_add]
    simp [World.cell?, hh]
    exact e1.symm
theorem own_struck {w : World} {B e g n cap q : Nat} {l m : List Int} (h : w.ownsRow B e 1 (.slice (some ⟨g, 0, none⟩) n cap) n (l.map (Value.int .i64))) (hm : m.length ≤ n) (hi : ∀ x ∈ m, 0 ≤ x ∧ x ≤ 1000000) :
    (putRow encN (Sort.ahead w q) g 0 (m ++ List.replicate (n - m.length) 0).toArray).ownsRow B e 1 (.slice (some ⟨g, 0, none⟩) m.length cap) m.length (m.map (Value.int .i64)) := by
  rcases h.2 with ⟨e0, _⟩ | ⟨g', cap', cur, e0, hg, hh, hc, hcm, hs, ht⟩
  · cases e0
  · cases e0
    have hlt : g < w.heap.size := (Array.getElem?_eq_some_iff.1 hh).1
    refine ⟨by simp, .inr ⟨g, cap, putCells encN 0 (m ++ List.replicate (n - m.length) 0).toArray cur, rfl, hg, ?_, by omega, hcm, by simpa [putCells] using hs, ?_⟩⟩
    · have hg' : w.heap[g] = .cells cur e (0, 0) := by have := Array.getElem?_eq_some_iff.1 hh; exact this.2
      simp [putRow, mapBlock, Sort.ahead, hlt, Array.getElem_modify, hg', onCells]
    · apply List.ext_getElem?
      intro j
      rw [List.getElem?_take, Array.getElem?_toList]
      by_cases hj : j < m.length
      · have hjc : j < cur.size := by omega
        rw [if_pos (by omega), List.getElem?_map, List.getElem?_eq_getElem hj]
        simp only [putCells, Array.getElem?_mapIdx, Array.getElem?_eq_getElem hjc, Option.map_some]
        rw [if_pos (by simp; omega)]
        simp only [Nat.sub_zero]
        rw [getElem!_pos _ j (by simp; omega)]
        simp [hj, encN, nmI_in (hi _ (List.getElem_mem hj))]
      · rw [if_neg (by omega), List.getElem?_eq_none (by simp; omega)]
theorem grown_struck {w : World} {g q : Nat} (d : Array Int) : w.grownBy (putRow encN (Sort.ahead w q) g 0 d) (some g) := by
  refine ⟨rfl, rfl, rfl, by simp [putRow, mapBlock, Sort.ahead], fun i hi hne => ?_⟩
  have hne' : g ≠ i := fun e => hne (by rw [e])
  simp [putRow, mapBlock, Sort.ahead, hi, Array.getElem_modify, hne']
theorem grown_over {w : World} {g q : Nat} (d : Array Int) (os : Array Obj) : w.grownBy (sortWorld encN w g 0 q d os) (some g) := by
  refine ⟨rfl, rfl, rfl, by simp [sortWorld, grow, putRow, mapBlock, Sort.ahead], fun i hi hne => ?_⟩
  have hne' : g ≠ i := fun e => hne (by rw [e])
  simp [sortWorld, grow, putRow, mapBlock, Sort.ahead, Array.getElem?_append, hi, Array.getElem_modify, hne']
end Go.Proofs.YthelgembcfdhdaaGreat
namespace Go.Proofs.YthelgembcfdhdaaGreat
open Go.RowKit Go.Sort Go.Shelf Go.Lib

theorem MapB.kept {w w' : World} {b : Nat} {f : Int → Bool} {row : Option Nat} (h : MapB w b f) (hg : w.grownBy w' row) (hne : some b ≠ row) : MapB w' b f := Mp.kept h hg hne
theorem MapB.lt {w : World} {b : Nat} {f : Int → Bool} (h : MapB w b f) : b < w.heap.size := Mp.lt h
theorem MapB.ne {w : World} {b g e : Nat} {f : Int → Bool} {cur : Array Value} {z : Nat × Nat} (h : MapB w b f) (hg : w.heap[g]? = some (.cells cur e z)) : b ≠ g := by
  obtain ⟨es, cl, hb, _⟩ := h
  rintro rfl
  rw [hb] at hg; cases hg
theorem cell_kept {w w' : World} {b : Nat} {u : Value} {row : Option Nat} (hg : w.grownBy w' row) (hc : w.cell? ⟨b, 0, none⟩ = some u) (hne : some b ≠ row) : w'.cell? ⟨b, 0, none⟩ = some u :=
  (World.cell?_of_block (w := w) (a := ⟨b, 0, none⟩) (hg.block b (World.block_lt_of_cell? w _ hc) hne)).trans hc

set_option maxRecDepth 100000 in
set_option maxHeartbeats 1000000 in
theorem gDel_nil (fv : Value) (w : World) : Calls Tryz.prog 62 #[.slice none 0 0, fv] w fun e w' => e = .returned (.slice none 0 0) ∧ w' = w := by
  go_enter Tryz.func62, Tryz.ntmps62
  go_wp2_with (first | (go_at_call 95; refine (Tryz.slices_IndexFunc_empty (α := Int) none 0 fv w).mono ?_; rintro e w' ⟨rfl, rfl⟩) | (go_at_call 95; refine (Tryz.slices_IndexFunc_empty_f95 (α := Int) none 0 fv w).mono ?_; rintro e w' ⟨rfl, rfl⟩))
  go_ret
  exact ⟨rfl, rfl⟩
theorem gDel_any (f g : Int → Bool) (st : List Int) (B n b1 b2 m1 m2 : Nat) (v : Value) (w : World) (h : w.ownsRow B 3 1 v n (st.map (Value.int .i64))) (hn : n ≤ 100000) (hi : ∀ x ∈ st, 0 ≤ x ∧ x ≤ 1000000)
    (h1 : w.cell? ⟨b1, 0, none⟩ = some (.map (some m1))) (h2 : w.cell? ⟨b2, 0, none⟩ = some (.map (some m2))) (hf : MapB w m1 f) (hg : MapB w m2 g) (n1 : v.ownBlock ≠ some b1) (n2 : v.ownBlock ≠ some b2) :
    Calls Tryz.prog 62 #[v, .func (.func 63) #[] #[.pointer (some ⟨b1, 0, none⟩), .pointer (some ⟨b2, 0, none⟩)]] w fun e w' =>
      ∃ v', e = .returned v' ∧ w'.ownsRow B 3 1 v' (st.filter fun x => f x && g x).length ((st.filter fun x => f x && g x).map (Value.int .i64)) ∧ w.grownBy w' v.ownBlock ∧ v'.ownBlock = v.ownBlock := by
  rcases h.2 with ⟨rfl, rfl⟩ | ⟨gb, cap, cur, rfl, hgb, hh, hc, hm, hs, ht⟩
  · have : st = [] := List.length_eq_zero_iff.1 (by have := h.1; simpa using this)
    subst this
    refine (gDel_nil _ w).mono ?_
    rintro e w' ⟨rfl, rfl⟩
    exact ⟨_, rfl, World.ownsRow_nil _ _ _ _, ⟨rfl, rfl, rfl, Nat.le_refl _, fun _ _ _ => rfl⟩, rfl⟩
  · obtain ⟨hH, hlt, _, hl, _⟩ := own_holdsN h hi
    have k1 := hf.ne hh; have k2 := hg.ne hh
    have n1' : (some b1 : Option Nat) ≠ some gb := fun e => n1 (by rw [Value.ownBlock]; exact e.symm)
    have n2' : (some b2 : Option Nat) ≠ some gb := fun e => n2 (by rw [Value.ownBlock]; exact e.symm)
    have eg : ∀ args w, (callFunc 63 args).run Tryz.prog w = .ok (.enter 63 args) w := enters_of Tryz.func63 (by kernel_rfl) rfl
    have hgive : ∀ (W : World) (x : Int), w.grownBy W (some gb) → FnGives Tryz.prog 63 #[.pointer (some ⟨b1, 0, none⟩), .pointer (some ⟨b2, 0, none⟩)] #[encN x] (.bool (!(f (nmI x) && g (nmI x)))) W := fun W x hgr =>
      gEss1_gives f g b1 b2 m1 m2 W (nmI x) (okI_of (nmI_bd x).1 (nmI_bd x).2) (cell_kept hgr h1 n1') (cell_kept hgr h2 n2') (hf.kept hgr (fun e => k1 (Option.some.inj e))) (hg.kept hgr (fun e => k2 (Option.some.inj e)))
    have hz : ∀ w, (zeroValue 3).run Tryz.prog w = .ok (encN 0) w := fun w => by kernel_rfl
    have hcon := Tryz.slices_DeleteFunc encN (fun _ => rfl) (fun x => !(f (nmI x) && g (nmI x))) 63 #[.pointer (some ⟨b1, 0, none⟩), .pointer (some ⟨b2, 0, none⟩)] eg 0 hz gb 0 cap st.toArray w
      (fun W x hb => hgive W x ⟨hb.os, hb.tape, hb.output, hb.size, fun i hi _ => hb.block i hi⟩) (fun q os dk x _ => hgive _ x (grown_over dk os)) hH (by simp; omega) (by simp; omega)
    have hfl : (st.toArray.toList.filter fun x => !!(f (nmI x) && g (nmI x))) = st.filter fun x => f x && g x := by
      simp only [Bool.not_not]
      exact List.filter_congr (fun x hx => by rw [nmI_in (hi x hx)])
    rw [hfl, show st.toArray.size = n by simpa using hl] at hcon
    refine hcon.mono ?_
    rintro e w' ⟨rfl, q, rfl⟩
    exact ⟨_, rfl, own_struck h (by rw [← hl]; exact List.length_filter_le _ _) (fun x hx => hi x (List.mem_filter.1 hx).1), grown_struck _, rfl⟩
end Go.Proofs.YthelgembcfdhdaaGreat
namespace Go.Proofs.YthelgembcfdhdaaGreat
open Go.RowKit Go.Sort Go.Shelf Go.Lib

/-- A graph and an error; its edges lie in memory that the call made. -/
def RetGo (G : Gr) (k : Int) (w : World) (e : Ending) (w' : World) : Prop := ∃ p m c, e = .returned (.tuple #[.agg #[.int .i64 G.q, .int .i64 G.n, .slice p m c], .int .i64 k]) ∧ w'.ownsRow w.heap.size 47 3 (.slice p m c) G.es.length (cat G.es) ∧ RowKit.Below w.heap.size w w'
theorem RetGo.of {G' : Gr} {k' : Int} {x : Gr × Int} {w w' : World} {p : Option Addr} {m c : Nat} (hr : x = (G', k')) (hs : w'.ownsRow w.heap.size 47 3 (.slice p m c) G'.es.length (cat G'.es)) (hB : RowKit.Below w.heap.size w w') :
    RetGo x.1 x.2 w (.returned (.tuple #[.agg #[.int .i64 G'.q, .int .i64 G'.n, .slice p m c], .int .i64 k'])) w' := by subst hr; exact ⟨p, m, c, rfl, hs, hB⟩

set_option maxRecDepth 100000 in
set_option maxHeartbeats 1000000 in
theorem gMake_own (q n : Int) (l : List Ed) (p : Option Addr) (c : Nat) (w : World) (hin : Sg 3 w edE p l) (hl : l.length ≤ 100000) :
    Calls Tryz.prog 28 #[.int .i64 q, .int .i64 n, .slice p l.length c] w (RetGo (makeA q n l).1 (makeA q n l).2 w) := by
  have hB0 : Below w.heap.size w (w.alloc (.cells #[.int .i64 0, .int .i64 0, .slice none 0 0] 27)) := (Below.refl _ _).alloc (Nat.le_refl _) _
  have b0 : VRow (w.alloc (.cells #[.int .i64 0, .int .i64 0, .slice none 0 0] 27)) w.heap.size 27 [.int .i64 0, .int .i64 0, .slice none 0 0] := VRow.new w _ _
  go_enter Tryz.func28, Tryz.ntmps28
  go_wp2_with fail
  refine (cloneE_any l p c _ (hin.below hB0) hl).mono ?_
  rintro e w1 ⟨v1, rfl, hown1, hB1⟩
  have x1 := hB0.trans (hB1.mono hB0.size)
  have b1 := b0.below hB1 (by simp)
  go_wp2_with fail
  refine (gBy_any _).mono ?_
  rintro e w2 ⟨rfl, rfl⟩
  have hown2 := hown1.alloc (.cells #[.func (.func 58) #[] #[]] 81)
  have bf2 : VRow (w1.alloc (.cells #[.func (.func 58) #[] #[]] 81)) w1.heap.size 81 [.func (.func 58) #[] #[]] := VRow.new w1 _ _
  have b2 := b1.alloc (.cells #[.func (.func 58) #[] #[]] 81)
  have x2 := x1.alloc x1.size (.cells #[.func (.func 58) #[] #[]] 81)
  have hne : v1.ownBlock ≠ some w1.heap.size := fun e => by have := (hown1.lt _ e).2; omega
  have hz0 : w.heap.size < (w.alloc (.cells #[.int .i64 0, .int .i64 0, .slice none 0 0] 27)).heap.size := b0.lt
  have HS : Hid (compact (srtE l) = norm l) := norm_sort l
  have hBz := hB1.size
  clear hB1 hB0 b0
  generalize (w.alloc (.cells #[.int .i64 0, .int .i64 0, .slice none 0 0] 27)).heap.size = B at *
  go_wp2_with fail
  refine (sortE_any l B l.length w1.heap.size v1 _ hown2 (bf2.at 0 rfl) hne hl (Nat.le_trans hBz (by simp))).mono ?_
  rintro e w3 ⟨rfl, hown3, hB3⟩
  have x3 := x2.trans (hB3.mono (Nat.le_of_lt hz0))
  have b3 := b2.below hB3 hz0
  have hBz3 : B ≤ w3.heap.size := Nat.le_trans hBz (Nat.le_trans (by simp) hB3.size)
  clear hown2 bf2 b2 hne hown1
  go_wp2_with fail
  refine (compactE_any (srtE l) B l.length v1 _ hown3 hl hBz3).mono ?_
  rw [HS.out]
  rintro e w4 ⟨v4, rfl, hown4, hB4⟩
  have x4 := x3.trans (hB4.mono (Nat.le_of_lt hz0))
  have b4 := b3.below hB4 hz0
  obtain ⟨p4, c4, rfl, hs4, hc4, _⟩ := own_sg hown4
  have f0 := b4.at 0 rfl; have f1 := b4.at 1 rfl; have f2 := b4.at 2 rfl
  have hfz := fun j => b4.frozen j
  have hz4 := b4.lt
  have hw5 : Sg 3 (w4.alloc (.cells #[.int .i64 (⟨q, n, norm l⟩ : Gr).q, .int .i64 (⟨q, n, norm l⟩ : Gr).n, .slice p4 (⟨q, n, norm l⟩ : Gr).es.length c4] 27)) edE p4 (norm l) := hs4.below ((Below.refl _ _).alloc (Nat.le_refl _) _)
  have hln : (norm l).length ≤ 100000 := by
    have := compact_len (srtE l); rw [HS.out, srtE_len] at this; omega
  obtain ⟨r, hr⟩ : ∃ r, chkG ⟨q, n, norm l⟩ = r := ⟨_, rfl⟩
  have b4' : VRow (w4.alloc (.cells #[.int .i64 (⟨q, n, norm l⟩ : Gr).q, .int .i64 (⟨q, n, norm l⟩ : Gr).n, .slice p4 (⟨q, n, norm l⟩ : Gr).es.length c4] 27)) w.heap.size 27 [.int .i64 0, .int .i64 0, .slice none 0 0] := b4.alloc _
  have c4' : VRow (w4.alloc (.cells #[.int .i64 (⟨q, n, norm l⟩ : Gr).q, .int .i64 (⟨q, n, norm l⟩ : Gr).n, .slice p4 (⟨q, n, norm l⟩ : Gr).es.length c4] 27)) w4.heap.size 27 [.int .i64 (⟨q, n, norm l⟩ : Gr).q, .int .i64 (⟨q, n, norm l⟩ : Gr).n, .slice p4 (⟨q, n, norm l⟩ : Gr).es.length c4] := VRow.new w4 _ _
  have x4' := x4.alloc x4.size (.cells #[.int .i64 (⟨q, n, norm l⟩ : Gr).q, .int .i64 (⟨q, n, norm l⟩ : Gr).n, .slice p4 (⟨q, n, norm l⟩ : Gr).es.length c4] 27)
  have hL : Hid ((norm l).length ≤ c4) := hc4
  by_cases hr0 : r = 0
  · subst hr0
    have HR := hidI (makeA_ok hr)
    go_wp2_with fail
    refine (gCheck_r ⟨q, n, norm l⟩ p4 c4 _ 0 hr hw5 (by show (norm l).length ≤ _; omega)).mono ?_
    rintro e w5 ⟨rfl, hB5⟩
    have x5 := x4'.trans (hB5.mono x4'.size)
    have b5 := b4'.below hB5 b4'.lt
    have c5 := c4'.below hB5 c4'.lt
    have o5 := (hown4.alloc (.cells #[.int .i64 (⟨q, n, norm l⟩ : Gr).q, .int .i64 (⟨q, n, norm l⟩ : Gr).n, .slice p4 (⟨q, n, norm l⟩ : Gr).es.length c4] 27)).below hB5
    have g0 := c5.at 0 rfl; have g1 := c5.at 1 rfl; have g2 := c5.at 2 rfl
    have k0 := b5.at 0 rfl; have k1 := b5.at 1 rfl; have k2 := b5.at 2 rfl
    have z0 := b5.frozen 0; have z1 := b5.frozen 1; have z2 := b5.frozen 2
    clear f0 f1 f2 hfz hr
    go_wp2
    have r6 := VRow.set (i := 2) (.slice p4 (norm l).length c4) (VRow.set (i := 1) (.int .i64 n) (VRow.set (i := 0) (.int .i64 q) b5))
    have y0 := r6.at 0 rfl; have y1 := r6.at 1 rfl; have y2 := r6.at 2 rfl
    have o6 := ownsRow_setCell_below (a := ⟨w.heap.size, 2, none⟩) (ownsRow_setCell_below (a := ⟨w.heap.size, 1, none⟩) (ownsRow_setCell_below (a := ⟨w.heap.size, 0, none⟩) o5 hz0 (.int .i64 q)) hz0 (.int .i64 n)) hz0 (.slice p4 (norm l).length c4)
    have x6 : Below w.heap.size w (((w5.setCell ⟨w.heap.size, 0, none⟩ (.int .i64 q)).setCell ⟨w.heap.size, 1, none⟩ (.int .i64 n)).setCell ⟨w.heap.size, 2, none⟩ (.slice p4 (norm l).length c4)) := ((x5.setCell (Nat.le_refl _) _).setCell (Nat.le_refl _) _).setCell (Nat.le_refl _) _
    refine bodyPost_ret (v := .tuple #[.agg #[.int .i64 q, .int .i64 n, .slice p4 (norm l).length c4], .int .i64 0]) (by simp [results, Tryz.results28, go_sem, y0, y1, y2]) rfl ?_
    exact RetGo.of HR.out (own_conv o6 rfl (Nat.le_of_lt hz0)) x6
  · have hrb : (r == 0) = false := by simpa using hr0
    have HR := hidI (makeA_bad (by rw [hr]; exact hr0))
    rw [hr] at HR
    go_wp2_with fail
    refine (gCheck_r ⟨q, n, norm l⟩ p4 c4 _ r hr hw5 (by show (norm l).length ≤ _; omega)).mono ?_
    rintro e w5 ⟨rfl, hB5⟩
    have x5 := x4'.trans (hB5.mono x4'.size)
    have b5 := b4'.below hB5 b4'.lt
    have o5 := (hown4.alloc (.cells #[.int .i64 (⟨q, n, norm l⟩ : Gr).q, .int .i64 (⟨q, n, norm l⟩ : Gr).n, .slice p4 (⟨q, n, norm l⟩ : Gr).es.length c4] 27)).below hB5
    have k0 := b5.at 0 rfl; have k1 := b5.at 1 rfl; have k2 := b5.at 2 rfl
    have z0 := b5.frozen 0; have z1 := b5.frozen 1; have z2 := b5.frozen 2
    clear f0 f1 f2 hfz hr
    go_wp2
    have r6 := VRow.set (i := 2) (.slice none 0 0) (VRow.set (i := 1) (.int .i64 0) (VRow.set (i := 0) (.int .i64 0) b5))
    have y0 := r6.at 0 rfl; have y1 := r6.at 1 rfl; have y2 := r6.at 2 rfl
    have o6 := ownsRow_setCell_below (a := ⟨w.heap.size, 2, none⟩) (ownsRow_setCell_below (a := ⟨w.heap.size, 1, none⟩) (ownsRow_setCell_below (a := ⟨w.heap.size, 0, none⟩) o5 hz0 (.int .i64 0)) hz0 (.int .i64 0)) hz0 (.slice none 0 0)
    have x6 : Below w.heap.size w (((w5.setCell ⟨w.heap.size, 0, none⟩ (.int .i64 0)).setCell ⟨w.heap.size, 1, none⟩ (.int .i64 0)).setCell ⟨w.heap.size, 2, none⟩ (.slice none 0 0)) := ((x5.setCell (Nat.le_refl _) _).setCell (Nat.le_refl _) _).setCell (Nat.le_refl _) _
    refine bodyPost_ret (v := .tuple #[.agg #[.int .i64 0, .int .i64 0, .slice none 0 0], .int .i64 r]) (by simp [results, Tryz.results28, go_sem, y0, y1, y2]) rfl ?_
    exact RetGo.of (G' := ⟨0, 0, []⟩) HR.out (World.ownsRow_nil _ _ _ _) x6
end Go.Proofs.YthelgembcfdhdaaGreat
namespace Go.Proofs.YthelgembcfdhdaaGreat
open Go.RowKit Go.Sort Go.Shelf Go.Lib

def rvE (x : Ed) : Ed := ⟨x.t, x.l, x.f⟩
/-- The graph with all edges turned around, and the error. -/
def revA (G : Gr) : Gr × Int := if chkG G = 0 then makeA G.q G.n (G.es.map rvE) else (⟨0, 0, []⟩, 1)
theorem rv_snoc (l : List Ed) (k : Nat) (h : k < l.length) : (l.take (k + 1)).map rvE = (l.take k).map rvE ++ [⟨l[k].t, l[k].l, l[k].f⟩] := by
  rw [List.take_succ_eq_append_getElem h, List.map_append]; rfl
theorem sg_len {w : World} {p : Option Addr} {l : List Ed} {B e n : Nat} {p' : Option Addr} {m c : Nat} (h : w.ownsRow B e 3 (.slice p m c) n (cat l)) : m = l.length ∧ Sg 3 w edE p l := by
  obtain ⟨q, d, hv, hs, _, _⟩ := own_sg h
  cases hv
  exact ⟨rfl, hs⟩

end Go.Proofs.YthelgembcfdhdaaGreat
namespace Go.Proofs.YthelgembcfdhdaaGreat
open Go.RowKit Go.Sort Go.Shelf Go.Lib

def nxE (st : List Int) (b t : Int) (x : Ed) : Bool := decide (x.t = t) && (decide (x.l = b) && decide (x.f ∈ st))
/-- A state that an edge with a label leads to, from a set. -/
def nxP (es : List Ed) (st : List Int) (b t : Int) : Bool := es.any (nxE st b t)
def nextA (G : Gr) (st : List Int) (b : Int) : List Int := (upto G.n.toNat).filter (nxP G.es st b)
theorem uptof_succ (f : Int → Bool) (k : Nat) : (upto (k + 1)).filter f = (upto k).filter f ++ (if f (k : Int) = true then [(k : Int)] else []) := by
  rw [upto_succ, List.filter_append]; congr 1; cases h : f (k : Int) <;> simp [h]
theorem uptof_len (f : Int → Bool) (k : Nat) : ((upto k).filter f).length ≤ k := Nat.le_trans (List.length_filter_le _ _) (by rw [upto_len]; omega)

end Go.Proofs.YthelgembcfdhdaaGreat
namespace Go.Proofs.YthelgembcfdhdaaGreat
open Go.RowKit Go.Sort Go.Lib

end Go.Proofs.YthelgembcfdhdaaGreat
namespace Go.Proofs.YthelgembcfdhdaaGreat
open Go.RowKit Go.Sort Go.Shelf Go.Lib

/-- The states that are reached from a set by a label, and the error. -/
def stepA (G : Gr) (st : List Int) (b : Int) : List Int × Int := if chkG G = 0 then (if chkS G.n none st = 0 then (if b < 0 ∨ G.q ≤ b then ([], 2) else (nextA G st b, 0)) else ([], chkS G.n none st)) else ([], 1)

end Go.Proofs.YthelgembcfdhdaaGreat
namespace Go.Proofs.YthelgembcfdhdaaGreat
open Go.RowKit Go.Sort Go.Shelf Go.Lib

/-- The part on a set, and the error. -/
def keepA (G : Gr) (st : List Int) : Gr × Int := if chkG G = 0 then (if chkS G.n none st = 0 then (partA G st, 0) else (⟨0, 0, []⟩, chkS G.n none st)) else (⟨0, 0, []⟩, 1)

end Go.Proofs.YthelgembcfdhdaaGreat
namespace Go.Proofs.YthelgembcfdhdaaGreat
open Go.RowKit

theorem srt_unique : ∀ {a b : List Int}, a.Pairwise (· < ·) → b.Pairwise (· < ·) → (∀ x, x ∈ a ↔ x ∈ b) → a = b
  | [], [], _, _, _ => rfl
  | [], y :: b, _, _, h => absurd ((h y).2 List.mem_cons_self) (by simp)
  | x :: a, [], _, _, h => absurd ((h x).1 List.mem_cons_self) (by simp)
  | x :: a, y :: b, ha, hb, h => by
    obtain ⟨ha1, ha2⟩ := List.pairwise_cons.1 ha
    obtain ⟨hb1, hb2⟩ := List.pairwise_cons.1 hb
    have e : x = y := by
      rcases List.mem_cons.1 ((h x).1 List.mem_cons_self) with e | hx
      · exact e
      · rcases List.mem_cons.1 ((h y).2 List.mem_cons_self) with e | hy
        · exact e.symm
        · have := ha1 y hy; have := hb1 x hx; omega
    subst e
    rw [srt_unique ha2 hb2 (fun z => ?_)]
    constructor
    · intro hz
      rcases List.mem_cons.1 ((h z).1 (List.mem_cons_of_mem _ hz)) with e | hz'
      · subst e; have := ha1 z hz; omega
      · exact hz'
    · intro hz
      rcases List.mem_cons.1 ((h z).2 (List.mem_cons_of_mem _ hz)) with e | hz'
      · subst e; have := hb1 z hz; omega
      · exact hz'
theorem mem_upto {n : Nat} {x : Int} : x ∈ upto n ↔ 0 ≤ x ∧ x < n := by
  unfold upto
  rw [List.mem_map]
  constructor
  · rintro ⟨i, hi, rfl⟩
    rw [List.mem_range] at hi
    omega
  · intro h
    exact ⟨x.toNat, by rw [List.mem_range]; omega, by omega⟩
theorem nextA_srt (G : Gr) (st : List Int) (b : Int) : (nextA G st b).Pairwise (· < ·) := (upto_srt _).filter _
theorem mem_nextA {G : Gr} {st : List Int} {b t : Int} (hv : Vg G) : t ∈ nextA G st b ↔ ∃ x ∈ G.es, x.t = t ∧ x.l = b ∧ x.f ∈ st := by
  unfold nextA nxP
  rw [List.mem_filter, mem_upto, List.any_eq_true]
  constructor
  · rintro ⟨_, x, hx, h⟩
    simp only [nxE, Bool.and_eq_true, decide_eq_true_eq] at h
    exact ⟨x, hx, h⟩
  · rintro ⟨x, hx, rfl, h1, h2⟩
    have := hv.ins x hx
    have := hv.n1
    exact ⟨⟨by omega, by omega⟩, x, hx, by simp [nxE, h1, h2]⟩
/-- What a step collects: for each state of the set, the ends of its edges with the label. -/
def stepL (es : List Ed) (st : List Int) (b : Int) : List Int := st.flatMap (fun s => (es.filter (fun x => decide (x.f = s) && decide (x.l = b))).map Ed.t)
theorem mem_stepL {es : List Ed} {st : List Int} {b t : Int} : t ∈ stepL es st b ↔ ∃ x ∈ es, x.t = t ∧ x.l = b ∧ x.f ∈ st := by
  unfold stepL
  rw [List.mem_flatMap]
  constructor
  · rintro ⟨s, hs, h⟩
    obtain ⟨x, hx, rfl⟩ := List.mem_map.1 h
    obtain ⟨hx, h⟩ := List.mem_filter.1 hx
    simp only [Bool.and_eq_true, decide_eq_true_eq] at h
    exact ⟨x, hx, rfl, h.2, h.1 ▸ hs⟩
  · rintro ⟨x, hx, rfl, h1, h2⟩
    exact ⟨x.f, h2, List.mem_map.2 ⟨x, List.mem_filter.2 ⟨hx, by simp [h1]⟩, rfl⟩⟩
/-- A list in order, each once, with the members that a step collects, is what the reference finds. -/
theorem step_law {G : Gr} {st l : List Int} {b : Int} (hv : Vg G) (hs : l.Pairwise (· < ·)) (hm : ∀ x, x ∈ l ↔ x ∈ stepL G.es st b) : l = nextA G st b :=
  srt_unique hs (nextA_srt G st b) (fun x => by rw [hm, mem_stepL, mem_nextA hv])
end Go.Proofs.YthelgembcfdhdaaGreat
namespace Go.Proofs.YthelgembcfdhdaaGreat
open Go.RowKit

/-! ### Graphs turned around -/
theorem norm_le (l : List Ed) : (norm l).length ≤ l.length := by
  rw [← norm_sort]; exact Nat.le_trans (compact_len _) (by simp)
theorem mem_rv {es : List Ed} {x : Ed} : x ∈ es.map rvE ↔ rvE x ∈ es := by
  rw [List.mem_map]
  constructor
  · rintro ⟨y, hy, rfl⟩; exact hy
  · intro h; exact ⟨rvE x, h, rfl⟩
theorem vg_make {q n : Int} {l : List Ed} (h1 : 1 ≤ q) (h2 : q ≤ 256) (h3 : 0 ≤ n) (h4 : n ≤ 64) (hl : l.length ≤ 1024) (hi : ∀ x ∈ l, 0 ≤ x.f ∧ 0 ≤ x.l ∧ 0 ≤ x.t ∧ x.f < n ∧ x.t < n ∧ x.l < q) : Vg ⟨q, n, norm l⟩ :=
  ⟨h1, h2, h3, h4, Nat.le_trans (norm_le l) hl, fun x hx => hi x (mem_norm.1 hx), norm_srt l⟩
theorem vg_rev {G : Gr} (h : Vg G) : Vg ⟨G.q, G.n, norm (G.es.map rvE)⟩ :=
  vg_make h.q1 h.q2 h.n1 h.n2 (by rw [List.length_map]; exact h.len) (fun x hx => by have := h.ins _ (mem_rv.1 hx); simp only [rvE] at this; omega)
theorem revA_ok {G : Gr} (h : Vg G) : revA G = (⟨G.q, G.n, norm (G.es.map rvE)⟩, 0) := by
  unfold revA; rw [if_pos (chkG_ok.2 h)]; exact makeA_ok (chkG_ok.2 (vg_rev h))
theorem rev_rev {G : Gr} (h : Vg G) : revA ⟨G.q, G.n, norm (G.es.map rvE)⟩ = (G, 0) := by
  rw [revA_ok (vg_rev h)]
  have : norm ((norm (G.es.map rvE)).map rvE) = G.es := (norm_eq h.srt (fun x => by rw [mem_rv, mem_norm, mem_rv]; exact Iff.rfl)).symm
  show ((⟨G.q, G.n, norm ((norm (G.es.map rvE)).map rvE)⟩ : Gr), (0:Int)) = _
  rw [this]
theorem rev_step {G : Gr} (h : Vg G) (s t b : Int) : (t ∈ nextA G [s] b ↔ s ∈ nextA ⟨G.q, G.n, norm (G.es.map rvE)⟩ [t] b) := by
  rw [mem_nextA h, mem_nextA (vg_rev h)]
  constructor
  · rintro ⟨x, hx, h1, h2, h3⟩
    rw [List.mem_singleton] at h3
    exact ⟨rvE x, mem_norm.2 (mem_rv.2 hx), h3, h2, by simp [rvE, h1]⟩
  · rintro ⟨x, hx, h1, h2, h3⟩
    rw [List.mem_singleton] at h3
    exact ⟨rvE x, mem_rv.1 (mem_norm.1 hx), h3, h2, by simp [rvE, h1]⟩

/-! ### Sets of states -/
theorem chkS_of {n : Int} : ∀ {l : List Int} {p : Option Int}, l.Pairwise (· < ·) → (∀ x ∈ l, 0 ≤ x ∧ x < n) → (∀ q, p = some q → ∀ x ∈ l, q < x) → chkS n p l = 0
  | [], _, _, _, _ => rfl
  | s :: l, p, h1, h2, h3 => by
    obtain ⟨a, b⟩ := List.pairwise_cons.1 h1
    have hp : ¬ leP p s = true := by
      cases p with
      | none => simp [leP]
      | some q => have := h3 q rfl s List.mem_cons_self; simp [leP]; omega
    rw [chkS_cons, if_neg (by have := h2 s List.mem_cons_self; omega), if_neg hp]
    exact chkS_of b (fun x hx => h2 x (List.mem_cons_of_mem _ hx)) (fun q hq x hx => by cases hq; exact a x hx)
theorem stepA_one {G : Gr} (h : Vg G) {s b : Int} (h1 : 0 ≤ s) (h2 : s < G.n) (h3 : 0 ≤ b) (h4 : b < G.q) : stepA G [s] b = (nextA G [s] b, 0) := by
  unfold stepA
  rw [if_pos (chkG_ok.2 h), if_pos (chkS_of (by simp) (by simp [h1, h2]) (by simp)), if_neg (by omega)]
/-- A set of states. -/
structure St (n : Int) (l : List Int) : Prop where
  srt : l.Pairwise (· < ·)
  ins : ∀ x ∈ l, 0 ≤ x ∧ x < n
theorem St.chk {n : Int} {l : List Int} (h : St n l) : chkS n none l = 0 := chkS_of h.srt h.ins (by simp)
theorem St.eq {n : Int} {l : List Int} (h : St n l) : l = (upto n.toNat).filter (fun x => decide (x ∈ l)) :=
  srt_unique h.srt ((upto_srt _).filter _) (fun x => by
    rw [List.mem_filter, mem_upto, decide_eq_true_eq]
    exact ⟨fun hx => ⟨by have := h.ins x hx; omega, hx⟩, fun hx => hx.2⟩)
theorem St.len {n : Int} {l : List Int} (h : St n l) (hn : 0 ≤ n) : (l.length : Int) ≤ n := by
  have := List.length_filter_le (fun x => decide (x ∈ l)) (upto n.toNat)
  rw [← h.eq, upto_len] at this
  omega
theorem St.upto {n : Int} (hn : 0 ≤ n) : St n (upto n.toNat) := ⟨upto_srt _, fun x hx => by rw [mem_upto] at hx; omega⟩
theorem St.filter {n : Int} {l : List Int} (h : St n l) (p : Int → Bool) : St n (l.filter p) := ⟨h.srt.filter _, fun x hx => h.ins x (List.mem_filter.1 hx).1⟩
theorem iof_lt {x : Int} {l : List Int} (h : x ∈ l) : l.idxOf x < l.length := List.idxOf_lt_length_iff.2 h
theorem iof_get {x : Int} {l : List Int} (h : x ∈ l) : l[l.idxOf x]'(iof_lt h) = x := List.getElem_idxOf (iof_lt h)
theorem iof_mono {x y : Int} {l : List Int} (hs : l.Pairwise (· < ·)) (hx : x ∈ l) (hy : y ∈ l) (h : x < y) : l.idxOf x < l.idxOf y := by
  rcases Nat.lt_or_ge (l.idxOf x) (l.idxOf y) with h' | h'
  · exact h'
  · have ex := iof_get hx; have ey := iof_get hy
    by_cases e : l.idxOf y = l.idxOf x
    · have : y = x := by rw [← ex, ← ey]; congr 1
      omega
    · have := List.pairwise_iff_getElem.1 hs _ _ (iof_lt hy) (iof_lt hx) (by omega)
      rw [ex, ey] at this; omega
theorem iof_inj {x y : Int} {l : List Int} (hx : x ∈ l) (hy : y ∈ l) (h : l.idxOf x = l.idxOf y) : x = y := by
  rw [← iof_get hx, ← iof_get hy]; congr 1
theorem upto_get {n i : Nat} (h : i < (upto n).length) : (upto n)[i] = (i : Int) := by simp [Go.Proofs.YthelgembcfdhdaaGreat.upto]
theorem iof_upto {n : Nat} {x : Int} (h0 : 0 ≤ x) (h1 : x < n) : (((upto n).idxOf x : Nat) : Int) = x := by
  have hm : x ∈ upto n := mem_upto.2 ⟨h0, h1⟩
  have e := iof_get hm
  have hl := iof_lt hm
  have e2 := upto_get hl
  omega

/-! ### Parts -/
theorem fm_congr {f g : Ed → Option Ed} : ∀ {l : List Ed}, (∀ x ∈ l, f x = g x) → l.filterMap f = l.filterMap g
  | [], _ => rfl
  | x :: l, h => by
    rw [List.filterMap_cons, List.filterMap_cons, h x List.mem_cons_self, fm_congr (fun y hy => h y (List.mem_cons_of_mem _ hy))]
theorem partE_some {st : List Int} {x y : Ed} (h : partE st x = some y) : x.f ∈ st ∧ x.t ∈ st ∧ y = ⟨((st.idxOf x.f : Nat) : Int), x.l, ((st.idxOf x.t : Nat) : Int)⟩ := by
  unfold partE at h
  split at h
  · rename_i hh; cases h; exact ⟨hh.1, hh.2, rfl⟩
  · cases h
theorem part_vg {G : Gr} (h : Vg G) {st : List Int} (hs : St G.n st) : Vg (partA G st) := by
  have hl := hs.len h.n1
  have h2 := h.n2
  refine ⟨h.q1, h.q2, by show (0:Int) ≤ (st.length : Int); omega, by show (st.length : Int) ≤ 64; omega, Nat.le_trans (partE_len _ _) h.len, fun y hy => ?_, ?_⟩
  · obtain ⟨x, hx, e⟩ := List.mem_filterMap.1 hy
    obtain ⟨a, b, rfl⟩ := partE_some e
    have := h.ins x hx
    have := iof_lt a; have := iof_lt b
    show (0:Int) ≤ ((st.idxOf x.f : Nat) : Int) ∧ 0 ≤ x.l ∧ (0:Int) ≤ ((st.idxOf x.t : Nat) : Int) ∧ ((st.idxOf x.f : Nat) : Int) < (st.length : Int) ∧ ((st.idxOf x.t : Nat) : Int) < (st.length : Int) ∧ x.l < G.q
    omega
  · refine h.srt.filterMap _ (fun x x' hlt y hy y' hy' => ?_)
    obtain ⟨a, b, rfl⟩ := partE_some hy
    obtain ⟨a', b', rfl⟩ := partE_some hy'
    rw [ltE_iff] at hlt ⊢
    show ((st.idxOf x.f : Nat) : Int) < ((st.idxOf x'.f : Nat) : Int) ∨ (((st.idxOf x.f : Nat) : Int) = ((st.idxOf x'.f : Nat) : Int) ∧ (x.l < x'.l ∨ (x.l = x'.l ∧ ((st.idxOf x.t : Nat) : Int) < ((st.idxOf x'.t : Nat) : Int))))
    rcases hlt with h1 | ⟨h1, h2 | ⟨h2, h3⟩⟩
    · have := iof_mono hs.srt a a' h1; omega
    · rw [h1]; exact .inr ⟨rfl, .inl h2⟩
    · have := iof_mono hs.srt b b' h3
      rw [h1]; exact .inr ⟨rfl, .inr ⟨h2, by omega⟩⟩
theorem part_all {G : Gr} (h : Vg G) : partA G (upto G.n.toNat) = G := by
  have h1 := h.n1
  have : G.es.filterMap (partE (upto G.n.toNat)) = G.es := by
    have hc : ∀ x ∈ G.es, partE (upto G.n.toNat) x = some x := fun x hx => by
      have := h.ins x hx
      unfold partE
      rw [if_pos ⟨mem_upto.2 (by omega), mem_upto.2 (by omega)⟩, iof_upto (by omega) (by omega), iof_upto (by omega) (by omega)]
    rw [fm_congr hc]; simp
  unfold partA
  rw [this, upto_len]
  cases G; simp at h1 ⊢; omega
theorem iof_map {f : Int → Int} {i : Int} : ∀ {l : List Int}, (∀ j ∈ l, f j = f i → j = i) → (l.map f).idxOf (f i) = l.idxOf i
  | [], _ => rfl
  | y :: l, h => by
    rw [List.map_cons, List.idxOf_cons, List.idxOf_cons, iof_map (fun j hj => h j (List.mem_cons_of_mem _ hj))]
    by_cases e : y = i
    · subst e; simp
    · have : f y ≠ f i := fun e' => e (h y List.mem_cons_self e')
      rw [show (f y == f i) = false by simpa using this, show (y == i) = false by simpa using e]
/-- The states that numbers of states of a part stand for. -/
def bothA (st inner : List Int) : List Int := inner.map (fun i => st.getD i.toNat 0)
theorem both_get {st : List Int} {i : Int} (h0 : 0 ≤ i) (h1 : i < st.length) : st.getD i.toNat 0 = st[i.toNat]'(by omega) := by
  rw [List.getD_eq_getElem?_getD, List.getElem?_eq_getElem (by omega)]; rfl
theorem both_iff {st inner : List Int} (hs : st.Pairwise (· < ·)) (hi : ∀ i ∈ inner, 0 ≤ i ∧ i < st.length) (x : Int) : x ∈ bothA st inner ↔ x ∈ st ∧ ((st.idxOf x : Nat) : Int) ∈ inner := by
  unfold bothA
  rw [List.mem_map]
  constructor
  · rintro ⟨i, hm, rfl⟩
    obtain ⟨h0, h1⟩ := hi i hm
    rw [both_get h0 h1]
    have hmem : st[i.toNat]'(by omega) ∈ st := List.getElem_mem _
    refine ⟨hmem, ?_⟩
    have e := iof_get hmem
    have hl := iof_lt hmem
    have : st.idxOf (st[i.toNat]'(by omega)) = i.toNat := by
      rcases Nat.lt_trichotomy (st.idxOf (st[i.toNat]'(by omega))) i.toNat with h | h | h
      · have := List.pairwise_iff_getElem.1 hs _ _ hl (by omega) h; omega
      · exact h
      · have := List.pairwise_iff_getElem.1 hs _ _ (by omega) hl h; omega
    rw [this, Int.toNat_of_nonneg h0]; exact hm
  · rintro ⟨hm, hx⟩
    refine ⟨_, hx, ?_⟩
    rw [both_get (by omega) (by have := iof_lt hm; omega)]
    simp
theorem both_idx {st inner : List Int} (hs : st.Pairwise (· < ·)) (hi : ∀ i ∈ inner, 0 ≤ i ∧ i < st.length) {x : Int} (hx : x ∈ st) : (bothA st inner).idxOf x = inner.idxOf ((st.idxOf x : Nat) : Int) := by
  have hl := iof_lt hx
  have e : st.getD ((st.idxOf x : Nat) : Int).toNat 0 = x := by
    rw [both_get (by omega) (by omega)]; simp
  have := @iof_map (fun i => st.getD i.toNat 0) ((st.idxOf x : Nat) : Int) inner (fun j hj h => by
    obtain ⟨h0, h1⟩ := hi j hj
    rw [e, both_get h0 h1] at h
    rcases Int.lt_trichotomy j ((st.idxOf x : Nat) : Int) with h' | h' | h'
    · have := List.pairwise_iff_getElem.1 hs j.toNat (st.idxOf x) (by omega) hl (by omega)
      rw [h, iof_get hx] at this; omega
    · exact h'
    · have := List.pairwise_iff_getElem.1 hs (st.idxOf x) j.toNat hl (by omega) (by omega)
      rw [h, iof_get hx] at this; omega)
  simp only [e] at this
  exact this
theorem both_st {n : Int} {st inner : List Int} (hs : St n st) (hi : St st.length inner) : St n (bothA st inner) := by
  refine ⟨?_, fun x hx => hs.ins x ((both_iff hs.srt hi.ins x).1 hx).1⟩
  unfold bothA
  rw [List.pairwise_map]
  refine List.Pairwise.imp_of_mem (fun {a b} ha hb h => ?_) hi.srt
  obtain ⟨a0, a1⟩ := hi.ins a ha
  obtain ⟨b0, b1⟩ := hi.ins b hb
  rw [both_get a0 a1, both_get b0 b1]
  exact List.pairwise_iff_getElem.1 hs.srt _ _ (by omega) (by omega) (by omega)
theorem part_part {G : Gr} {st inner : List Int} (hs : St G.n st) (hi : St st.length inner) : partA (partA G st) inner = partA G (bothA st inner) := by
  unfold partA
  have hb := hi.ins
  simp only [Gr.mk.injEq, true_and]
  refine ⟨by simp [bothA], ?_⟩
  rw [List.filterMap_filterMap]
  refine fm_congr (fun x _ => ?_)
  by_cases h : x.f ∈ st ∧ x.t ∈ st
  · rw [part_go h]
    show partE inner _ = _
    unfold partE
    simp only [both_iff hs.srt hb, both_idx hs.srt hb h.1, both_idx hs.srt hb h.2, h.1, h.2, true_and]
  · rw [part_stop h, part_stop (fun h' => h ⟨((both_iff hs.srt hb _).1 h'.1).1, ((both_iff hs.srt hb _).1 h'.2).1⟩)]
    rfl
theorem keepA_ok {G : Gr} (h : Vg G) {st : List Int} (hs : St G.n st) : keepA G st = (partA G st, 0) := by
  unfold keepA; rw [if_pos (chkG_ok.2 h), if_pos hs.chk]

/-! ### Deterministic graphs -/
def Uq (l : List Ed) : Prop := l.Pairwise (fun a b => ¬ (a.f = b.f ∧ a.l = b.l))
theorem uq_of_det : ∀ {l : List Ed}, l.Pairwise (fun a b => ltE a b = true) → detB l = true → Uq l
  | [], _, _ => List.Pairwise.nil
  | [_], _, _ => by simp [Uq]
  | x :: y :: l, h, hd => by
    obtain ⟨h1, h2⟩ := List.pairwise_cons.1 h
    have hd1 : ¬ (x.f = y.f ∧ x.l = y.l) := fun e => by
      have := detB_f (l := x :: y :: l) 0 (by simp) (by simpa using e.1) (by simpa using e.2)
      rw [hd] at this; cases this
    have hd2 : detB (y :: l) = true := by
      cases hc : detB (y :: l)
      · exfalso
        have : detB (x :: y :: l) = true → detB (y :: l) = true := fun h => by
          unfold detB at h
          first
          | exact (Bool.and_eq_true_iff.1 h).2
          | (split at h <;> simp_all)
        rw [this hd] at hc; cases hc
      · rfl
    have ih := uq_of_det h2 hd2
    refine List.pairwise_cons.2 ⟨fun z hz => ?_, ih⟩
    rcases List.mem_cons.1 hz with e | hz
    · subst e; exact hd1
    · have a := ltE_iff.1 (h1 y List.mem_cons_self)
      have b := ltE_iff.1 ((List.pairwise_cons.1 h2).1 z hz)
      omega
theorem det_of_uq {l : List Ed} (h : Uq l) : detB l = true :=
  detB_t (fun k hk => List.pairwise_iff_getElem.1 h k (k + 1) (by omega) hk (by omega))
theorem det_part {G : Gr} (h : Vg G) {st : List Int} (hd : detB G.es = true) : detB (partA G st).es = true := by
  refine det_of_uq ((uq_of_det h.srt hd).filterMap _ (fun x x' hne y hy y' hy' e => ?_))
  obtain ⟨a, b, rfl⟩ := partE_some hy
  obtain ⟨a', b', rfl⟩ := partE_some hy'
  exact hne ⟨iof_inj a a' (by have := e.1; simp only at this; omega), e.2⟩
theorem two_of_mem {l : List Int} {x y : Int} (hx : x ∈ l) (hy : y ∈ l) (h : x ≠ y) : 2 ≤ l.length := by
  match l, hx, hy with
  | [z], hx, hy => simp at hx hy; omega
  | _ :: _ :: _, _, _ => simp
theorem step_one {G : Gr} (h : Vg G) (hd : detB G.es = true) (s b : Int) : (nextA G [s] b).length < 2 := by
  have hu := uq_of_det h.srt hd
  rcases Nat.lt_or_ge (nextA G [s] b).length 2 with h' | h'
  · exact h'
  · exfalso
    have hm0 := List.getElem_mem (l := nextA G [s] b) (n := 0) (by omega)
    have hm1 := List.getElem_mem (l := nextA G [s] b) (n := 1) (by omega)
    have hlt := List.pairwise_iff_getElem.1 (nextA_srt G [s] b) 0 1 (by omega) (by omega) (by omega)
    obtain ⟨x, hx, e1, e2, e3⟩ := (mem_nextA h).1 hm0
    obtain ⟨y, hy, f1, f2, f3⟩ := (mem_nextA h).1 hm1
    rw [List.mem_singleton] at e3 f3
    obtain ⟨i, hi, rfl⟩ := List.mem_iff_getElem.1 hx
    obtain ⟨j, hj, rfl⟩ := List.mem_iff_getElem.1 hy
    rcases Nat.lt_trichotomy i j with hij | hij | hij
    · exact List.pairwise_iff_getElem.1 hu i j hi hj hij ⟨by omega, by omega⟩
    · subst hij; omega
    · exact List.pairwise_iff_getElem.1 hu j i hj hi hij ⟨by omega, by omega⟩
theorem det_of_steps {G : Gr} (h : Vg G) (hs : ∀ s b : Int, 0 ≤ s → s < G.n → 0 ≤ b → b < G.q → (nextA G [s] b).length < 2) : detB G.es = true := by
  refine detB_t (fun k hk e => ?_)
  have hx := List.getElem_mem (l := G.es) (n := k) (by omega)
  have hy := List.getElem_mem (l := G.es) (n := k + 1) hk
  have ix := h.ins _ hx
  have lt := ltE_iff.1 (List.pairwise_iff_getElem.1 h.srt k (k + 1) (by omega) hk (by omega))
  have := hs G.es[k].f G.es[k].l (by omega) (by omega) (by omega) (by omega)
  have h1 : G.es[k].t ∈ nextA G [G.es[k].f] G.es[k].l := (mem_nextA h).2 ⟨_, hx, rfl, rfl, by simp⟩
  have h2 : G.es[k + 1].t ∈ nextA G [G.es[k].f] G.es[k].l := (mem_nextA h).2 ⟨_, hy, rfl, e.2.symm, by simp [e.1]⟩
  have := two_of_mem h1 h2 (by omega)
  omega
end Go.Proofs.YthelgembcfdhdaaGreat
namespace Go.Proofs.YthelgembcfdhdaaGreat
open Go.RowKit Go.Sort Go.Shelf Go.Lib

/-- The states that edges of the part enter, and those that they leave, among the first k edges. -/
def enE (es : List Ed) (st : List Int) (k : Nat) (a : Int) : Bool := (es.take k).any (fun x => (decide (x.f ∈ st) && decide (x.t ∈ st)) && decide (a = x.t))
def lfE (es : List Ed) (st : List Int) (k : Nat) (a : Int) : Bool := (es.take k).any (fun x => (decide (x.f ∈ st) && decide (x.t ∈ st)) && decide (a = x.f))
theorem enE_hit {es : List Ed} {st : List Int} {k : Nat} (h : k < es.length) (h1 : es[k].f ∈ st ∧ es[k].t ∈ st) (a : Int) : enE es st (k + 1) a = (decide (a = es[k].t) || enE es st k a) := by
  unfold enE; rw [any_snoc _ _ _ h]; simp [h1.1, h1.2, Bool.or_comm]
theorem lfE_hit {es : List Ed} {st : List Int} {k : Nat} (h : k < es.length) (h1 : es[k].f ∈ st ∧ es[k].t ∈ st) (a : Int) : lfE es st (k + 1) a = (decide (a = es[k].f) || lfE es st k a) := by
  unfold lfE; rw [any_snoc _ _ _ h]; simp [h1.1, h1.2, Bool.or_comm]
theorem enE_miss {es : List Ed} {st : List Int} {k : Nat} (h : k < es.length) (h1 : ¬ (es[k].f ∈ st ∧ es[k].t ∈ st)) (a : Int) : enE es st (k + 1) a = enE es st k a := by
  unfold enE; rw [any_snoc _ _ _ h]
  have : (decide (es[k].f ∈ st) && decide (es[k].t ∈ st)) = false := by simpa using h1
  rw [this]; simp
theorem lfE_miss {es : List Ed} {st : List Int} {k : Nat} (h : k < es.length) (h1 : ¬ (es[k].f ∈ st ∧ es[k].t ∈ st)) (a : Int) : lfE es st (k + 1) a = lfE es st k a := by
  unfold lfE; rw [any_snoc _ _ _ h]
  have : (decide (es[k].f ∈ st) && decide (es[k].t ∈ st)) = false := by simpa using h1
  rw [this]; simp
theorem essS_maps (es : List Ed) (st : List Int) : (st.filter fun x => enE es st es.length x && lfE es st es.length x) = essS es st := by
  refine List.filter_congr (fun a ha => ?_)
  unfold enE lfE essP cmsE goesE
  rw [List.take_length]
  congr 1
  · refine congrArg (fun f => es.any f) (funext fun x => ?_)
    by_cases e : a = x.t
    · subst e; simp [ha]
    · have e' : ¬ x.t = a := fun h => e h.symm
      simp [e, e']
  · refine congrArg (fun f => es.any f) (funext fun x => ?_)
    by_cases e : a = x.f
    · subst e; simp [ha]
    · have e' : ¬ x.f = a := fun h => e h.symm
      simp [e, e']
theorem MapB.made (w : World) : MapB (w.alloc (.map #[] 0)) w.heap.size (fun _ => false) := Mp.congr (Mp.made w) (fun _ => rfl)
theorem MapB.alloc {w : World} {b : Nat} {f : Int → Bool} (h : MapB w b f) (o : Obj) : MapB (w.alloc o) b f := Mp.alloc h o
theorem MapB.dr {w w' : World} {b : Nat} {f : Int → Bool} (h : MapB w b f) (hD : Dr w w') : MapB w' b f := by obtain ⟨k, rfl⟩ := hD; exact h
theorem MapB.store {w : World} {b : Nat} {f : Int → Bool} (h : MapB w b f) (a : Int) (ha : okI a) :
    ∃ w', (Instr.mapUpdate 83 (.map (some b)) (.int .i64 a) (.bool true)).run Tryz.prog w = .ok () w' ∧ MapB w' b (fun y => decide (y = a) || f y) ∧ w.grownBy w' (some b) := by
  obtain ⟨w', h1, h2, h3⟩ := Mp.store h keyI Tryz.underlying83 a ha true
  refine ⟨w', h1, Mp.congr h2 (fun y => ?_), h3.grown⟩
  unfold mset
  by_cases e : y = a <;> simp [e]
def slLen : Value → Nat | .slice _ n _ => n | _ => 0
theorem cell_at_kept {w w' : World} {p : Addr} {u : Value} {row : Option Nat} (hg : w.grownBy w' row) (hc : w.cell? p = some u) (hne : some p.block ≠ row) : w'.cell? p = some u :=
  (World.cell?_of_block (w := w) (a := p) (hg.block p.block (World.block_lt_of_cell? w _ hc) hne)).trans hc
/-- The essential part, its states and an error, in memory of the call's own. -/
def RetEs (G : Gr) (l : List Int) (k : Int) (w : World) (e : Ending) (w' : World) : Prop :=
  ∃ p m c q d, e = .returned (.tuple #[.agg #[.int .i64 G.q, .int .i64 G.n, .slice p m c], .slice q l.length d, .int .i64 k]) ∧ w'.ownsRow w.heap.size 47 3 (.slice p m c) G.es.length (cat G.es) ∧
    w'.ownsRow w.heap.size 3 1 (.slice q l.length d) l.length (l.map (Value.int .i64)) ∧ RowKit.Below w.heap.size w w'
theorem RetEs.of {x : Gr × List Int × Int} {G : Gr} {l : List Int} {k : Int} {w w' : World} {p : Option Addr} {m c : Nat} {v : Value} (hx : x = (G, l, k)) (h1 : w'.ownsRow w.heap.size 47 3 (.slice p m c) G.es.length (cat G.es))
    (h2 : w'.ownsRow w.heap.size 3 1 v l.length (l.map (Value.int .i64))) (hB : RowKit.Below w.heap.size w w') :
    RetEs x.1 x.2.1 x.2.2 w (.returned (.tuple #[.agg #[.int .i64 G.q, .int .i64 G.n, .slice p m c], v, .int .i64 k])) w' := by
  subst hx
  obtain ⟨q, d, rfl, _⟩ := own_sl h2
  exact ⟨p, m, c, q, d, rfl, h1, h2, hB⟩

set_option maxRecDepth 100000 in
set_option maxHeartbeats 4000000 in
theorem gEss_any (G : Gr) (p : Option Addr) (c : Nat) (w : World) (hin : Sg 3 w edE p G.es) (hl : G.es.length ≤ 10000) :
    Calls Tryz.prog 29 #[(.agg #[.int .i64 G.q, .int .i64 G.n, .slice p G.es.length c])] w (RetEs (essA G).1 (essA G).2.1 (essA G).2.2 w) := by
  have HIN := hidI hin
  clear hin
  obtain ⟨i0, hi0, hz0, hz1, hz3⟩ := info_parts infoIn
  obtain ⟨w0, hw0⟩ : ∃ w0, w0 = (w.alloc (.cells #[.int .i64 G.q, .int .i64 G.n, .slice p G.es.length c] 27)).alloc (.cells #[.int .i64 0, .int .i64 0, .slice none 0 0] 27) := ⟨_, rfl⟩
  have b0 : VRow w0 w.heap.size 27 [.int .i64 G.q, .int .i64 G.n, .slice p G.es.length c] := by subst hw0; exact (VRow.new w _ _).alloc _
  have b1 : VRow w0 (w.heap.size + 1) 27 [.int .i64 0, .int .i64 0, .slice none 0 0] := by subst hw0; exact VRow.new1 w _ _ _
  have hB0 : RowKit.Below w.heap.size w w0 := by subst hw0; exact ((RowKit.Below.refl _ _).alloc (Nat.le_refl _) _).alloc (by simp) _
  obtain ⟨r, hr⟩ : ∃ r, chkG G = r := ⟨_, rfl⟩
  by_cases hr0 : r = 0
  · subst hr0
    have HR := hidI hr
    have HV := hidI (chkG_ok.1 hr)
    obtain ⟨N, hNt⟩ : ∃ N : Nat, N = G.n.toNat := ⟨_, rfl⟩
    have HK : Hid (essA G = (partA G (ess G.es (upto N)), ess G.es (upto N), 0)) := by rw [hNt]; exact essA_ok hr
    clear hr
    go_enter Tryz.func29, Tryz.ntmps29
    go_wp2_with fail
    rw [← hw0]
    clear hw0
    refine (gCheck_r G p c _ 0 HR.out (HIN.out.below hB0) (by omega)).mono ?_
    rintro e w1 ⟨rfl, hB1⟩
    have x1 := hB0.trans (hB1.mono hB0.size)
    have c0 := b0.below hB1 b0.lt
    have c1 := b1.below hB1 b1.lt
    have f1 := c0.at 1 rfl
    clear hB1 b0 b1 hB0
    have hz : w.heap.size + 1 < w1.heap.size := c1.lt
    have hn0 := HV.out.n1; have hn1 := HV.out.n2
    have HN : Hid ((N : Int) = G.n) := by unfold Hid; omega
    have HU : Hid (St G.n (upto N)) := by rw [hNt]; exact St.upto hn0
    clear hNt
    go_wp2
    go_loopw [5, 22] (fun ov iv wr => ∃ k : Nat, k ≤ N ∧ iv = .int .i64 k ∧ wr.ownsRow w1.heap.size 3 1 ov k ((upto k).map (Value.int .i64)) ∧ RowKit.Below w1.heap.size w1 wr) (fun _ iv _ => N - (intOf iv).toNat)
    case atStart => exact ⟨0, by omega, rfl, World.ownsRow_nil _ _ _ _, RowKit.Below.refl _ _⟩
    case round =>
      obtain ⟨k, hk, rfl, hown, hB⟩ := hrel
      have hNN := HN.out
      by_cases hlt : (k : Int) < G.n
      · have hkN : k + 1 ≤ N := by omega
        clear hNN
        have hnew := cell_one_at wr (.int .i64 (k : Int)) 3 wr.heap.size rfl
        have HUS := hidI (upto_succ k)
        generalize upto k = M at *
        go_wp2_with (at_builtin; refine wpList_append_own _ rfl _ _ 57 rfl w1.heap.size 3 i0 (.int .i64 0) 1 8 Tryz.underlying57 hi0 hz0 hz1 hz3 rfl (by decide) _ _ _ rfl (hown.alloc _) ⟨wr.heap.size, 0, none⟩ 1 1 [.int .i64 (k : Int)] rfl rfl hnew (by simp [Value.oneCell']) (by simp [maxLen]; omega) (by omega) (by rw [World.size_alloc]; have := hB.size; omega) ?_; intro v' w2 hown' hgrow _)
        go_roundw
        case rel => exact ⟨k + 1, hkN, by go_num, by rw [HUS.out, List.map_append]; exact hown', (hB.alloc hB.size _).grown hgrow (Nat.le_trans hB.size (by simp)) (fun j e => (hown.lt j e).1)⟩
        case measure => simp [intOf]; omega
      · obtain rfl : N = k := by omega
        clear hNN
        obtain ⟨w2, rfl⟩ : ∃ w2 : World, w2 = wr := ⟨_, rfl⟩
        have x2 := x1.trans (hB.mono x1.size)
        have d0 := c0.below hB c0.lt
        have d1 := c1.below hB c1.lt
        have hge := hB.size
        have hmm := @run_makeMap Tryz.prog
        clear hB x1 c0 c1 f1
        go_wp2
        clear hlt
        go_loopw [5] (fun sv wr => ∃ st : List Int, Hid (St G.n st) ∧ Hid (ess G.es st = ess G.es (upto N)) ∧ wr.ownsRow w1.heap.size 3 1 sv st.length (st.map (Value.int .i64)) ∧ VRow wr w.heap.size 27 [.int .i64 G.q, .int .i64 G.n, .slice p G.es.length c] ∧ VRow wr (w.heap.size + 1) 27 [.int .i64 0, .int .i64 0, .slice none 0 0] ∧ RowKit.Below w.heap.size w wr ∧ w1.heap.size ≤ wr.heap.size) (fun sv _ => slLen sv)
        case atStart => exact ⟨upto N, HU, rfl, by rw [upto_len]; exact hown, d0, d1, x2, hge⟩
        case round =>
          obtain ⟨st, HST, HE, hown, e0, e1, hB, hge⟩ := hrel
          obtain ⟨ps, cs, rfl, _⟩ := own_sl hown
          obtain ⟨wo, rfl⟩ : ∃ wo : World, wo = wr := ⟨_, rfl⟩
          have hsl : st.length ≤ 64 := by have := HST.out.len hn0; omega
          obtain ⟨W0, hW0⟩ : ∃ W0, W0 = (((wo.alloc (.map #[] 0)).alloc (.map #[] 0)).alloc (.cells #[.map (some wo.heap.size)] 83)).alloc (.cells #[.map (some (wo.heap.size + 1))] 83) := ⟨_, rfl⟩
          have m1 : MapB W0 wo.heap.size (enE G.es st 0) := by subst hW0; exact (((MapB.made wo).alloc _).alloc _).alloc _
          have m2 : MapB W0 (wo.heap.size + 1) (lfE G.es st 0) := by
            subst hW0
            have := (((MapB.made (wo.alloc (.map #[] 0))).alloc (.cells #[.map (some wo.heap.size)] 83)).alloc (.cells #[.map (some (wo.heap.size + 1))] 83))
            rwa [World.size_alloc] at this
          have q1 : VRow W0 (wo.heap.size + 1 + 1) 83 [.map (some wo.heap.size)] := by
            subst hW0; exact (VRow.new2 wo _ _ _ _).alloc _
          have q2 : VRow W0 (wo.heap.size + 1 + 1 + 1) 83 [.map (some (wo.heap.size + 1))] := by
            subst hW0
            have h := VRow.new (((wo.alloc (.map #[] 0)).alloc (.map #[] 0)).alloc (.cells #[.map (some wo.heap.size)] 83)) 83 [.map (some (wo.heap.size + 1))]
            rwa [World.size_alloc, World.size_alloc, World.size_alloc] at h
          have hown0 : W0.ownsRow w1.heap.size 3 1 (.slice ps st.length cs) st.length (st.map (Value.int .i64)) := by subst hW0; exact (((hown.alloc _).alloc _).alloc _).alloc _
          have e00 : VRow W0 w.heap.size 27 [.int .i64 G.q, .int .i64 G.n, .slice p G.es.length c] := by subst hW0; exact (((e0.alloc _).alloc _).alloc _).alloc _
          have e10 : VRow W0 (w.heap.size + 1) 27 [.int .i64 0, .int .i64 0, .slice none 0 0] := by subst hW0; exact (((e1.alloc _).alloc _).alloc _).alloc _
          have hbs := hB.size
          have hB0 : RowKit.Below w.heap.size w W0 := by subst hW0; exact (((hB.alloc hbs _).alloc (by simp; omega) _).alloc (by simp; omega) _).alloc (by simp; omega) _
          have hz0 : wo.heap.size + 1 + 1 + 1 < W0.heap.size := q2.lt
          have nb : ∀ j, (Value.slice ps st.length cs).ownBlock = some j → j < wo.heap.size := fun j e => (hown.lt j e).2
          have f2 := e00.at 2 rfl
          rw [hW0] at f2
          go_wp2
          rw [← hW0]
          clear hW0 f2 e0 e1
          go_loopw [35] (fun jv wx => ∃ k : Nat, k ≤ G.es.length ∧ jv = .int .i64 k ∧ MapB wx wo.heap.size (enE G.es st k) ∧ MapB wx (wo.heap.size + 1) (lfE G.es st k) ∧ VRow wx (wo.heap.size + 1 + 1) 83 [.map (some wo.heap.size)] ∧ VRow wx (wo.heap.size + 1 + 1 + 1) 83 [.map (some (wo.heap.size + 1))] ∧
              wx.ownsRow w1.heap.size 3 1 (.slice ps st.length cs) st.length (st.map (Value.int .i64)) ∧ VRow wx w.heap.size 27 [.int .i64 G.q, .int .i64 G.n, .slice p G.es.length c] ∧ VRow wx (w.heap.size + 1) 27 [.int .i64 0, .int .i64 0, .slice none 0 0] ∧ RowKit.Below w.heap.size w wx ∧ w1.heap.size ≤ wx.heap.size) (fun jv _ => G.es.length - (intOf jv).toNat)
          case atStart => exact ⟨0, by omega, rfl, m1, m2, q1, q2, hown0, e00, e10, hB0, by omega⟩
          case round =>
            clear m1 m2 q1 q2 hown0 e00 e10 hB0 hz0
            obtain ⟨k, hk, rfl, m1, m2, q1, q2, hownx, e0, e1, hBx, hgx⟩ := hrel
            by_cases hlt : k < G.es.length
            · obtain ⟨b3, o3, rfl, hb3, z0, z1, z2⟩ := (HIN.out.below hBx).get3 k hlt rfl
              have HX := hidI (HV.out.ins G.es[k] (List.getElem_mem hlt))
              obtain ⟨ps', cs', hpe, hsl1⟩ := own_sl hownx
              cases hpe
              have hbz := hBx.size
              have HEN := hidI (enE_hit (st := st) hlt); have HLF := hidI (lfE_hit (st := st) hlt)
              have HEM := hidI (enE_miss (st := st) hlt); have HLM := hidI (lfE_miss (st := st) hlt)
              generalize G.es[k] = x at *
              obtain ⟨W1, hW1⟩ : ∃ W1, W1 = wr.alloc (.cells #[.int .i64 x.f, .int .i64 x.l, .int .i64 x.t] 47) := ⟨_, rfl⟩
              have y0 : VRow W1 wr.heap.size 47 [.int .i64 x.f, .int .i64 x.l, .int .i64 x.t] := by subst hW1; exact VRow.new wr _ _
              have hS1 : Sl W1 (Value.int .i64) ps st := by subst hW1; exact hsl1.below ((RowKit.Below.refl _ _).alloc (Nat.le_refl _) _)
              have n1 : MapB W1 wo.heap.size (enE G.es st k) := by subst hW1; exact m1.alloc _
              have n2 : MapB W1 (wo.heap.size + 1) (lfE G.es st k) := by subst hW1; exact m2.alloc _
              have r1 : VRow W1 (wo.heap.size + 1 + 1) 83 [.map (some wo.heap.size)] := by subst hW1; exact q1.alloc _
              have r2 : VRow W1 (wo.heap.size + 1 + 1 + 1) 83 [.map (some (wo.heap.size + 1))] := by subst hW1; exact q2.alloc _
              have hown1 : W1.ownsRow w1.heap.size 3 1 (.slice ps st.length cs) st.length (st.map (Value.int .i64)) := by subst hW1; exact hownx.alloc _
              have g0 : VRow W1 w.heap.size 27 [.int .i64 G.q, .int .i64 G.n, .slice (some ⟨b3, o3, none⟩) G.es.length c] := by subst hW1; exact e0.alloc _
              have g1 : VRow W1 (w.heap.size + 1) 27 [.int .i64 0, .int .i64 0, .slice none 0 0] := by subst hW1; exact e1.alloc _
              have hB1 : RowKit.Below w.heap.size w W1 := by subst hW1; exact hBx.alloc hbz _
              have hg1 : w1.heap.size ≤ W1.heap.size := by subst hW1; simp; omega
              have hwz : wo.heap.size + 1 + 1 + 1 < wr.heap.size := q2.lt
              go_wp2_with fail
              rw [← hW1]
              clear hW1 m1 m2 q1 q2 hownx e0 e1 hBx hgx hsl1 hbz
              have u0 := y0.at 0 rfl; have u2 := y0.at 2 rfl
              refine (binI_any st ps cs x.f W1 hS1 HST.out.srt (by omega)).mono ?_
              rintro e wa ⟨⟨i, rfl, _⟩, hDa⟩
              have hS2 := hS1.dr hDa
              have v2 := (y0.dr hDa).at 2 rfl
              clear u0 u2
              go_wp2_with fail
              refine (binI_any st ps cs x.t wa hS2 HST.out.srt (by omega)).mono ?_
              rintro e W2 ⟨⟨j, rfl, _⟩, hDb⟩
              have hD := hDa.trans hDb
              have y2 := y0.dr hD
              have n1' := n1.dr hD; have n2' := n2.dr hD
              have r1' := r1.dr hD; have r2' := r2.dr hD
              have hown2 := hown1.dr hD
              have g0' := g0.dr hD; have g1' := g1.dr hD
              have hB2 := hB1.trans (hD.below _)
              have hg2 : w1.heap.size ≤ W2.heap.size := by rw [hD.size]; exact hg1
              clear y0 hS1 hS2 n1 n2 r1 r2 hown1 g0 g1 hB1 hg1 v2 hDa hDb hD
              by_cases hm : x.f ∈ st ∧ x.t ∈ st
              · have m1 : decide (x.f ∈ st) = true := decide_eq_true hm.1
                have m2 : decide (x.t ∈ st) = true := decide_eq_true hm.2
                rw [m1, m2]
                have HEN := hidI (HEN.out hm); have HLF := hidI (HLF.out hm)
                clear HEM HLM m1 m2 hm
                have okt : okI x.t := okI_of (by have := HX.out; omega) (by have := HX.out; omega)
                have okf : okI x.f := okI_of (by have := HX.out; omega) (by have := HX.out; omega)
                have n1d : MapB W2.drew wo.heap.size (enE G.es st k) := n1'
                have n2d : MapB W2.drew (wo.heap.size + 1) (lfE G.es st k) := n2'
                have y2d : VRow W2.drew wr.heap.size 47 [.int .i64 x.f, .int .i64 x.l, .int .i64 x.t] := y2
                have r1d : VRow W2.drew (wo.heap.size + 1 + 1) 83 [.map (some wo.heap.size)] := r1'
                have r2d : VRow W2.drew (wo.heap.size + 1 + 1 + 1) 83 [.map (some (wo.heap.size + 1))] := r2'
                have hownd : W2.drew.ownsRow w1.heap.size 3 1 (.slice ps st.length cs) st.length (st.map (Value.int .i64)) := hown2
                have g0d : VRow W2.drew w.heap.size 27 [.int .i64 G.q, .int .i64 G.n, .slice (some ⟨b3, o3, none⟩) G.es.length c] := g0'
                have g1d : VRow W2.drew (w.heap.size + 1) 27 [.int .i64 0, .int .i64 0, .slice none 0 0] := g1'
                have hBd : RowKit.Below w.heap.size w W2.drew := hB2.drew
                have hgd : w1.heap.size ≤ W2.drew.heap.size := hg2
                have hwb := hB.size
                clear n1' n2' y2 r1' r2' hown2 g0' g1' hB2 hg2
                go_wp2_with fail
                obtain ⟨U1, hr1, M1, G1⟩ := n1d.store x.t okt
                have n2u := n2d.kept G1 (fun e => by have := Option.some.inj e; omega)
                obtain ⟨U2, hr2, M2, G2⟩ := n2u.store x.f okf
                have M1' := M1.kept G2 (fun e => by have := Option.some.inj e; omega)
                have a0 := y2d.at 0 rfl; have a2 := y2d.at 2 rfl
                have a7 := r1d.at 0 rfl; have a8 := r2d.at 0 rfl
                have yu := y2d.grown G1 (fun e => by have := Option.some.inj e; omega)
                have ru1 := r1d.grown G1 (fun e => by have := Option.some.inj e; omega)
                have ru2 := r2d.grown G1 (fun e => by have := Option.some.inj e; omega)
                have d0 := yu.at 0 rfl; have d8 := ru2.at 0 rfl
                have rr1 := ru1.grown G2 (fun e => by have := Option.some.inj e; omega)
                have rr2 := ru2.grown G2 (fun e => by have := Option.some.inj e; omega)
                have hownu := (hownd.kept G1 (.inr (fun e => by have := nb _ e; omega))).kept G2 (.inr (fun e => by have := nb _ e; omega))
                have g0u := (g0d.grown G1 (fun e => by have := Option.some.inj e; omega)).grown G2 (fun e => by have := Option.some.inj e; omega)
                have g1u := (g1d.grown G1 (fun e => by have := Option.some.inj e; omega)).grown G2 (fun e => by have := Option.some.inj e; omega)
                have hBu := (hBd.grown G1 hBd.size (fun j e => by have := Option.some.inj e; omega)).grown G2 (Nat.le_trans hBd.size G1.size) (fun j e => by have := Option.some.inj e; omega)
                have hgu := Nat.le_trans (Nat.le_trans hgd G1.size) G2.size
                clear n1d n2d y2d r1d r2d hownd g0d g1d hBd hgd n2u yu ru1 ru2 M1 G1 G2
                go_region
                all_goals
                  go_wp2
                  go_roundw
                  case rel => exact ⟨k + 1, by omega, by go_num, M1'.congr (fun a => (HEN.out a).symm), M2.congr (fun a => (HLF.out a).symm), rr1, rr2, hownu, g0u, g1u, hBu, hgu⟩
                  case measure => simp [intOf]; omega
              · have HEM := hidI (HEM.out hm); have HLM := hidI (HLM.out hm)
                have hor : decide (x.f ∈ st) = false ∨ (decide (x.f ∈ st) = true ∧ decide (x.t ∈ st) = false) := by
                  by_cases h1 : x.f ∈ st
                  · exact .inr ⟨decide_eq_true h1, decide_eq_false (fun h2 => hm ⟨h1, h2⟩)⟩
                  · exact .inl (decide_eq_false h1)
                clear HEN HLF hm
                generalize decide (x.f ∈ st) = b1 at *
                generalize decide (x.t ∈ st) = b2 at *
                rcases hor with rfl | ⟨rfl, rfl⟩
                all_goals
                  go_wp2_with fail
                  go_roundw
                  case rel => exact ⟨k + 1, by omega, by go_num, n1'.congr (fun a => (HEM.out a).symm), n2'.congr (fun a => (HLM.out a).symm), r1', r2', hown2, g0', g1', hB2, hg2⟩
                  case measure => simp [intOf]; omega
            · obtain rfl : k = G.es.length := by omega
              obtain ⟨ps', cs', hpe, hsl1⟩ := own_sl hownx
              cases hpe
              have HSS := hidI (essS_maps G.es st)
              have k1 := q1.at 0 rfl; have k2 := q2.at 0 rfl
              have hwz : wo.heap.size + 1 + 1 + 1 < wr.heap.size := q2.lt
              have c1 : (Value.slice ps st.length cs).ownBlock ≠ some (wo.heap.size + 1 + 1) := fun e => by have := nb _ e; omega
              have c2 : (Value.slice ps st.length cs).ownBlock ≠ some (wo.heap.size + 1 + 1 + 1) := fun e => by have := nb _ e; omega
              have hdel := gDel_any (enE G.es st G.es.length) (lfE G.es st G.es.length) st w1.heap.size st.length (wo.heap.size + 1 + 1) (wo.heap.size + 1 + 1 + 1) wo.heap.size (wo.heap.size + 1) (.slice ps st.length cs) wr hownx (by omega) (fun x hx => by have := HST.out.ins x hx; omega) k1 k2 m1 m2 c1 c2
              rw [HSS.out] at hdel
              have HDEL := hidI hdel
              clear hdel k1 k2
              go_wp2_with (go_at_call 62; refine HDEL.out.mono ?_)
              rintro e w3 ⟨v3, rfl, hown3, G3, _⟩
              have hne : ∀ j, (Value.slice ps st.length cs).ownBlock = some j → w1.heap.size ≤ j := fun j e => (hownx.lt j e).1
              have e03 := e0.grown G3 (fun e => by have := hne _ e.symm; omega)
              have e13 := e1.grown G3 (fun e => by have := hne _ e.symm; omega)
              have hB3 := hBx.grown G3 hBx.size (fun j e => by have := hne _ e; omega)
              have hg3 := Nat.le_trans hgx G3.size
              clear m1 m2 q1 q2 hownx e0 e1 hBx hgx hsl1 hne nb c1 c2 G3 HDEL HSS
              by_cases he : (essS G.es st).length = st.length
              · have hE := essS_eq he
                have HKK : Hid (essA G = (partA G st, st, 0)) := by
                  have := HE.out
                  rw [ess_stop he] at this
                  rw [Hid, HK.out, ← this]
                rw [hE] at hown3
                clear hE he
                obtain ⟨p3, c3, rfl, hs3⟩ := own_sl hown3
                have f0 := e03.at 0 rfl; have f1 := e03.at 1 rfl; have f2 := e03.at 2 rfl
                have hst3 := HST.out.srt
                clear HE
                go_wp2_with fail
                refine (gkeep_any G p c st p3 c3 w3 (HIN.out.below hB3) hs3 hl (by omega) hst3).mono ?_
                generalize partA G st = R at *
                rintro e w4 ⟨p4, m4, c4, rfl, hown4, hB4⟩
                have x4 := hB3.trans (hB4.mono hB3.size)
                have e14 := e13.below hB4 e13.lt
                have hz3 : w.heap.size + 1 < w3.heap.size := e13.lt
                have hown5 := hown3.below hB4
                clear f0 f1 f2
                have j0 := e14.at 0 rfl; have j1 := e14.at 1 rfl; have j2 := e14.at 2 rfl
                have z0 := e14.frozen 0; have z1 := e14.frozen 1; have z2 := e14.frozen 2
                go_wp2
                have r6 := VRow.set (i := 2) (.slice p4 m4 c4) (VRow.set (i := 1) (.int .i64 R.n) (VRow.set (i := 0) (.int .i64 R.q) e14))
                have y0 := r6.at 0 rfl; have y1 := r6.at 1 rfl; have y2 := r6.at 2 rfl
                have o6 := ownsRow_setCell_below (a := (⟨w.heap.size + 1, 2, none⟩ : Addr)) (ownsRow_setCell_below (a := (⟨w.heap.size + 1, 1, none⟩ : Addr)) (ownsRow_setCell_below (a := (⟨w.heap.size + 1, 0, none⟩ : Addr)) hown4 hz3 (.int .i64 R.q)) hz3 (.int .i64 R.n)) hz3 (.slice p4 m4 c4)
                have o7 := ownsRow_setCell_below (a := (⟨w.heap.size + 1, 2, none⟩ : Addr)) (ownsRow_setCell_below (a := (⟨w.heap.size + 1, 1, none⟩ : Addr)) (ownsRow_setCell_below (a := (⟨w.heap.size + 1, 0, none⟩ : Addr)) hown5 hz (.int .i64 R.q)) hz (.int .i64 R.n)) hz (.slice p4 m4 c4)
                have x6 : RowKit.Below w.heap.size w (((w4.setCell (⟨w.heap.size + 1, 0, none⟩ : Addr) (.int .i64 R.q)).setCell (⟨w.heap.size + 1, 1, none⟩ : Addr) (.int .i64 R.n)).setCell (⟨w.heap.size + 1, 2, none⟩ : Addr) (.slice p4 m4 c4)) :=
                  ((x4.setCell (show w.heap.size ≤ w.heap.size + 1 by omega) _).setCell (show w.heap.size ≤ w.heap.size + 1 by omega) _).setCell (show w.heap.size ≤ w.heap.size + 1 by omega) _
                refine bodyPost_ret (v := .tuple #[.agg #[.int .i64 R.q, .int .i64 R.n, .slice p4 m4 c4], .slice p3 st.length c3, .int .i64 0]) (by simp [results, Tryz.results29, go_sem, y0, y1, y2]) rfl ?_
                exact RetEs.of HKK.out (own_conv o6 rfl (by omega)) ⟨o7.1, o7.2.imp id (fun ⟨g, cap, cur, a, b, z⟩ => ⟨g, cap, cur, a, Nat.le_trans (show w.heap.size ≤ w1.heap.size by omega) b, z⟩)⟩ x6
              · have HEG : Hid (ess G.es (essS G.es st) = ess G.es (upto N)) := by rw [Hid, ← ess_go he]; exact HE.out
                have HSF : Hid (St G.n (essS G.es st)) := HST.out.filter _
                have hle := essS_le G.es st
                clear HE
                generalize essS G.es st = S at *
                obtain ⟨p3, c3, rfl, hs3⟩ := own_sl hown3
                have hb : ((S.length : Int) == (st.length : Int)) = false := by rw [beq_eq_false_iff_ne]; omega
                go_wp2
                go_roundw
                case rel => exact ⟨S, HSF, HEG, hown3, e03, e13, hB3, hg3⟩
                case measure => simp [slLen]; omega
  · have HK : Hid (essA G = (⟨0, 0, []⟩, [], 1)) := essA_bad (by rw [hr]; exact hr0)
    have hrb : (r == 0) = false := by simpa using hr0
    have HR := hidI hr
    clear hr
    go_enter Tryz.func29, Tryz.ntmps29
    go_wp2_with fail
    rw [← hw0]
    clear hw0
    refine (gCheck_r G p c _ r HR.out (HIN.out.below hB0) (by omega)).mono ?_
    rintro e w1 ⟨rfl, hB1⟩
    have x1 := hB0.trans (hB1.mono hB0.size)
    have c1 := b1.below hB1 b1.lt
    have j0 := c1.at 0 rfl; have j1 := c1.at 1 rfl; have j2 := c1.at 2 rfl
    have z0 := c1.frozen 0; have z1 := c1.frozen 1; have z2 := c1.frozen 2
    go_wp2
    have r6 := VRow.set (i := 2) (.slice none 0 0) (VRow.set (i := 1) (.int .i64 0) (VRow.set (i := 0) (.int .i64 0) c1))
    have y0 := r6.at 0 rfl; have y1 := r6.at 1 rfl; have y2 := r6.at 2 rfl
    have x6 : RowKit.Below w.heap.size w (((w1.setCell (⟨w.heap.size + 1, 0, none⟩ : Addr) (.int .i64 0)).setCell (⟨w.heap.size + 1, 1, none⟩ : Addr) (.int .i64 0)).setCell (⟨w.heap.size + 1, 2, none⟩ : Addr) (.slice none 0 0)) :=
      ((x1.setCell (show w.heap.size ≤ w.heap.size + 1 by omega) _).setCell (show w.heap.size ≤ w.heap.size + 1 by omega) _).setCell (show w.heap.size ≤ w.heap.size + 1 by omega) _
    refine bodyPost_ret (v := .tuple #[.agg #[.int .i64 0, .int .i64 0, .slice none 0 0], .slice none 0 0, .int .i64 1]) (by simp [results, Tryz.results29, go_sem, y0, y1, y2]) rfl ?_
    exact RetEs.of (G := ⟨0, 0, []⟩) (l := []) HK.out (World.ownsRow_nil _ _ _ _) (World.ownsRow_nil _ _ _ _) x6
end Go.Proofs.YthelgembcfdhdaaGreat
namespace Go.Proofs.YthelgembcfdhdaaGreat
open Go.RowKit Go.Sort Go.Shelf Go.Lib

/-- The letters. -/
def ltB : ByteArray := ⟨#[48, 49, 50, 51, 52, 53, 54, 55, 56, 57, 97, 98, 99, 100, 101, 102]⟩
def wdA (p : ByteArray) (a : Nat) : ByteArray := p ++ ltB.extract a (a + 1)
/-- A word of the list is an end. -/
def badA (l : List ByteArray) (w : ByteArray) : Bool := l.any (fun u => Lib.hasSuffix w.data.toList u.data.toList)
/-- Where a state stands. -/
def plF (st : List ByteArray) : Nat → ByteArray → Option Int
  | 0, _ => none
  | k + 1, u => if u = st.getD k (⟨#[]⟩ : ByteArray) then some (k : Int) else plF st k u
theorem plF_some {st : List ByteArray} {u : ByteArray} : ∀ k, k ≤ st.length → u ∈ st.take k → (plF st k u).isSome = true
  | 0, _, h => by simp at h
  | k + 1, hk, h => by
    rw [plF]
    split
    · rfl
    · rename_i hne
      rw [List.take_succ_eq_append_getElem (by omega : k < st.length), List.mem_append, List.mem_singleton] at h
      rcases h with h | h
      · exact plF_some k (by omega) h
      · exact absurd (by rw [h]; simp [List.getD, List.getElem?_eq_getElem (by omega : k < st.length)]) hne
theorem plF_bd {st : List ByteArray} {u : ByteArray} {t : Int} : ∀ k, plF st k u = some t → 0 ≤ t ∧ t < k
  | 0, h => by simp [plF] at h
  | k + 1, h => by
    rw [plF] at h
    split at h
    · cases h; omega
    · have := plF_bd k h; omega
/-- The first end of a word that is a state. -/
def tgR (f : ByteArray → Option Int) : Nat → ByteArray → Int
  | 0, _ => 0
  | n + 1, r => match f r with
    | some t => t
    | none => tgR f n (r.extract 1 r.size)
def tgA (st : List ByteArray) (w : ByteArray) : Int := tgR (plF st st.length) (w.size + 1) w
theorem tgR_some {f : ByteArray → Option Int} {n : Nat} {r : ByteArray} {t : Int} (h : f r = some t) : tgR f (n + 1) r = t := by simp [tgR, h]
theorem tgR_none {f : ByteArray → Option Int} {n : Nat} {r : ByteArray} (h : f r = none) : tgR f (n + 1) r = tgR f n (r.extract 1 r.size) := by simp [tgR, h]
/-- The edges of a state, for the first letters. -/
def edRow (l st : List ByteArray) (s : Nat) : Nat → List Ed
  | 0 => []
  | a + 1 => edRow l st s a ++ (if badA l (wdA (st.getD s (⟨#[]⟩ : ByteArray)) a) = true then [] else [⟨(s : Int), (a : Int), tgA st (wdA (st.getD s (⟨#[]⟩ : ByteArray)) a)⟩])
def edAll (l st : List ByteArray) (q : Nat) : Nat → List Ed
  | 0 => []
  | s + 1 => edAll l st q s ++ edRow l st s q
theorem edRow_len (l st : List ByteArray) (s : Nat) : ∀ a, (edRow l st s a).length ≤ a
  | 0 => by simp [edRow]
  | a + 1 => by
    have := edRow_len l st s a
    rw [edRow, List.length_append]
    split <;> simp <;> omega
theorem edAll_len (l st : List ByteArray) (q : Nat) : ∀ s, (edAll l st q s).length ≤ s * q
  | 0 => by simp [edAll]
  | s + 1 => by
    have h1 := edAll_len l st q s; have h2 := edRow_len l st s q
    rw [edAll, List.length_append, Nat.add_mul]; omega
/-- What Graph returns. -/
def graphB (q : Int) (l : List ByteArray) : Gr × Int :=
  if chkF q l ≠ 0 then (⟨0, 0, []⟩, 1) else if 64 < (stA l).length then (⟨0, 0, []⟩, 4) else
  if (makeA q (stA l).length (edAll l (stA l) q.toNat (stA l).length)).2 ≠ 0 then (⟨0, 0, []⟩, (makeA q (stA l).length (edAll l (stA l) q.toNat (stA l).length)).2) else
  ((essA (makeA q (stA l).length (edAll l (stA l) q.toNat (stA l).length)).1).1, (essA (makeA q (stA l).length (edAll l (stA l) q.toNat (stA l).length)).1).2.2)

theorem fGraph1_any (s u : ByteArray) (b : Nat) (w : World) (hs : s.size ≤ 1000000) (hb : w.cell? ⟨b, 0, none⟩ = some (.string s)) :
    Calls Tryz.prog 26 #[.string u, .pointer (some ⟨b, 0, none⟩)] w fun e w' => e = .returned (.bool (Lib.hasSuffix s.data.toList u.data.toList)) ∧ w' = w := by
  have HS := hidI (Tryz.strings_HasSuffix s u w (by omega))
  generalize Lib.hasSuffix s.data.toList u.data.toList = r at *
  go_enter Tryz.func26, Tryz.ntmps26
  go_wp2_with fail
  refine HS.out.mono ?_
  rintro e w' ⟨rfl, hw⟩
  go_wp2
  go_ret
  first | exact ⟨rfl, hw⟩ | exact ⟨rfl, rfl⟩
theorem fbad_any (l : List ByteArray) (p : Option Addr) (c : Nat) (s : ByteArray) (b : Nat) (w : World) (hin : Sl w Value.string p l) (hl : l.length ≤ 9223372036854775807) (hs : s.size ≤ 1000000) (hb : VRow w b 9 [.string s]) :
    Calls Tryz.prog 25 #[.slice p l.length c, .func (.func 26) #[] #[.pointer (some ⟨b, 0, none⟩)]] w fun e w' => e = .returned (.bool (badA l s)) ∧ Dr w w' := by
  rcases Nat.eq_zero_or_pos l.length with h0 | h0
  · have : l = [] := List.length_eq_zero_iff.1 h0
    subst this
    refine (Tryz.slices_ContainsFunc_empty (α := ByteArray) p c _ w).mono ?_
    rintro e w' ⟨rfl, rfl⟩
    exact ⟨rfl, Dr.refl _⟩
  · obtain ⟨b1, off, rfl, hb1, hc⟩ := hin.get 0 h0
    refine (Tryz.slices_ContainsFunc Value.string (fun u => Lib.hasSuffix s.data.toList u.data.toList) 26 #[.pointer (some ⟨b, 0, none⟩)] (enters_of Tryz.func26 (by kernel_rfl) rfl) b1 off l.length c l w ?_ (Nat.le_refl _) hl ?_).mono ?_
    · intro W x hW
      exact (fGraph1_any s x b W hs ((hb.below hW hb.lt).at 0 rfl)).mono (fun e w' h => ⟨h.1, 0, h.2⟩)
    · intro j hj
      rw [hc j hj, getElem!_pos _ j hj]
    · rintro e w' ⟨rfl, q, rfl⟩
      rw [List.take_length]
      exact ⟨rfl, ⟨q, rfl⟩⟩
/-! ### The examples -/
def b11 : ByteArray := ⟨#[49, 49]⟩
def b0 : ByteArray := ⟨#[48]⟩
def b1 : ByteArray := ⟨#[49]⟩
theorem graph_11 : graphB 2 [b11] = (⟨2, 2, [⟨0, 0, 0⟩, ⟨0, 1, 1⟩, ⟨1, 0, 0⟩]⟩, 0) := by kernel_rfl
theorem graph_01 : graphB 2 [b0, b1] = (⟨2, 0, []⟩, 0) := by kernel_rfl
end Go.Proofs.YthelgembcfdhdaaGreat
