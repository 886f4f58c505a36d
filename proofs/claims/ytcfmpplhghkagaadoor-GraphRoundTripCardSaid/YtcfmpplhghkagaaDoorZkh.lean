/-
  GraphRoundTrip: for every graph and every string the law returns true, and its arguments read as they did; the variables of the library that its row lists are tied to the program's text.
-/
import Derived.Test.YtcfmpplhghkagaaDoorZkg
import Derived.Deep.AppendLies
import Derived.Deep.CutBlock
import Derived.Test.YtcfmpplhghkagaaDoorZke
import Derived.Test.YtcfmpplhghkagaaDoorZkf
import Derived.Lay
import Derived.Stop.Joined
import Derived.Carry
set_option linter.unusedVariables false
set_option linter.unusedSimpArgs false
namespace Go.Proofs.YtcfmpplhghkagaaDoor
open Go.RowKit Go.Sort Go.Shelf Go.Lib

theorem suf_one {s : List UInt8} (h : Lib.hasSuffix s [10] = true) : s = Lib.trimSuffix s [10] ++ [10] := by
  unfold Lib.trimSuffix
  rw [if_pos h]
  unfold Lib.hasSuffix at h
  obtain ⟨b, rfl⟩ := List.isSuffixOf_iff_suffix.1 h
  simp
theorem suf_no {s : List UInt8} (h : Lib.hasSuffix s [10] = false) : ∀ b, s ≠ b ++ [10] := by
  rintro b rfl
  unfold Lib.hasSuffix at h
  rw [List.isSuffixOf_iff_suffix.2 ⟨b, rfl⟩] at h
  cases h
theorem pre_yes {s : List UInt8} (h : Lib.hasPrefix s graphT = true) : s = graphT ++ Lib.trimPrefix s graphT := by
  unfold Lib.trimPrefix
  rw [if_pos h]
  unfold Lib.hasPrefix at h
  obtain ⟨b, rfl⟩ := List.isPrefixOf_iff_prefix.1 h
  simp
theorem pre_no {s : List UInt8} (h : Lib.hasPrefix s graphT = false) : ∀ r, s ≠ graphT ++ r := by
  rintro r rfl
  unfold Lib.hasPrefix at h
  rw [List.isPrefixOf_iff_prefix.2 ⟨r, rfl⟩] at h
  cases h
theorem two_of {l : List Nat} (h : l.length = 2) : ∃ a b, l = [a, b] := by
  match l, h with
  | [a, b], _ => exact ⟨a, b, rfl⟩
theorem three_of {l : List Nat} (h : l.length = 3) : ∃ a b c, l = [a, b, c] := by
  match l, h with
  | [a, b, c], _ => exact ⟨a, b, c, rfl⟩
theorem sizeOfStr (w : World) : (sizeOf 9).run Tryd.prog w = .ok 1 w := by simp [go_sem]
theorem run_tail1 (b n : Nat) (h1 : 1 ≤ n) (W : World) : (Instr.slice 49 (.slice (some ⟨b, 0, none⟩) n n) (some (.int .i64 1)) none none).run Tryd.prog W = .ok (.slice (some ⟨b, (if n = 1 then 0 else 1), none⟩) (n - 1) (n - 1)) W := by
  have he : Tryd.prog.elem 49 = 9 := by kernel_rfl
  rw [run_slice_l (t := 49) (len := n) (cap := n) (ht := by rw [he]; exact Tryd.underlying49) (kl := .i64) (l := 1) (h0 := by omega) (h1 := by omega), he, sizeOfStr]
  by_cases h : n = 1
  · subst h; rfl
  · simp [Result.andThen, sliced, h, Addr.add]
/-- What stands in memory while a graph is read. -/
structure PaN (w w1 : World) (bg : Nat) (q n : Int) (l : List Ed) (vg v : Value) (wr : World) : Prop where
  z : VRow wr w.heap.size 24 [.int .i64 0, .int .i64 0, .slice none 0 0]
  g : VRow wr bg 24 [.int .i64 q, .int .i64 n, vg]
  o : wr.ownsRow (bg + 1) 40 3 v l.length (cat l)
  b : RowKit.Below w.heap.size w wr
  b1 : RowKit.Below w1.heap.size w1 wr
  h : w1.heap.size ≤ bg
  h0 : w.heap.size < w1.heap.size
  s : bg + 1 ≤ wr.heap.size
theorem PaN.below {w w1 : World} {bg : Nat} {q n : Int} {l : List Ed} {vg v : Value} {wr w' : World} (h : PaN w w1 bg q n l vg v wr) (hB : RowKit.Below wr.heap.size wr w') : PaN w w1 bg q n l vg v w' :=
  ⟨h.z.below hB h.z.lt, h.g.below hB h.g.lt, h.o.below hB, h.b.trans (hB.mono h.b.size), h.b1.trans (hB.mono h.b1.size), h.h, h.h0, Nat.le_trans h.s hB.size⟩
theorem PaN.grown {w w1 : World} {bg : Nat} {q n : Int} {l l' : List Ed} {vg v v' : Value} {wr w' : World} (h : PaN w w1 bg q n l vg v wr) (hg : wr.grownBy w' v.ownBlock) (ho : w'.ownsRow (bg + 1) 40 3 v' l'.length (cat l')) : PaN w w1 bg q n l' vg v' w' := by
  have hh := h.h; have hh0 := h.h0
  have hne : ∀ j, v.ownBlock = some j → bg + 1 ≤ j := fun j e => (h.o.lt j e).1
  exact ⟨h.z.grown hg (fun e => by have := hne _ e.symm; omega), h.g.grown hg (fun e => by have := hne _ e.symm; omega), ho,
    h.b.grown hg h.b.size (fun j e => by have := hne _ e; omega), h.b1.grown hg h.b1.size (fun j e => by have := hne _ e; omega), h.h, h.h0, Nat.le_trans h.s hg.size⟩
theorem PaN.store {w w1 : World} {bg : Nat} {q n : Int} {l : List Ed} {vg v : Value} {wr : World} (h : PaN w w1 bg q n l vg v wr) : PaN w w1 bg q n l v v (wr.setCell ⟨bg, 2, none⟩ v) := by
  have hh := h.h; have hh0 := h.h0
  exact ⟨VRow.other (i := 2) v h.z (C := bg) (by omega), VRow.set (i := 2) v h.g, ownsRow_setCell_below (a := (⟨bg, 2, none⟩ : Addr)) h.o (show bg < bg + 1 by omega) _,
    h.b.setCell (p := ⟨bg, 2, none⟩) (show w.heap.size ≤ bg by omega) _, h.b1.setCell (p := ⟨bg, 2, none⟩) (show w1.heap.size ≤ bg by omega) _, h.h, h.h0, by rw [World.size_setCell]; exact h.s⟩
/-- What the region that appends an edge has done. -/
structure SE (w w1 wx : World) (bg : Nat) (q n : Int) (l : List Ed) (x : Ed) (v : Value) (d12 d13 d15 : Bool) (f86 : Option Value) (W : World) : Prop where
  p : d13 = false → RowKit.Below wx.heap.size wx W ∧ (d12 = false → W.heap.size = wx.heap.size) ∧ (d12 = true → VRow W wx.heap.size 40 (edE x) ∧ W.heap.size = wx.heap.size + 1)
  m : d13 = true → ∃ p m c, f86 = some (.slice p m c) ∧ PaN w w1 bg q n (l ++ [x]) (if d15 then .slice p m c else v) (.slice p m c) W
theorem SE.alloc {w w1 wx : World} {bg : Nat} {q n : Int} {l : List Ed} {x : Ed} {v : Value} {d12 d13 d15 : Bool} {f86 : Option Value} {W : World} (h : SE w w1 wx bg q n l x v d12 d13 d15 f86 W) (h12 : d12 = false) (h13 : d13 = false) :
    SE w w1 wx bg q n l x v true d13 d15 f86 (W.alloc (.cells (edE x).toArray 40)) := by
  obtain ⟨hB, hs, _⟩ := h.p h13
  have hs := hs h12
  refine ⟨fun _ => ⟨hB.alloc (by rw [hs]; exact Nat.le_refl _) _, (fun e => by cases e), fun _ => ⟨?_, by rw [World.size_alloc, hs]⟩⟩, fun e => by rw [h13] at e; cases e⟩
  have := VRow.new W 40 (edE x)
  rw [hs] at this
  exact this
/-- What the region that makes the graph has done. -/
structure SJ (w2 : World) (q n : Int) (d7 d8 : Bool) (W : World) : Prop where
  b : RowKit.Below w2.heap.size w2 W
  a : d7 = false → W.heap.size = w2.heap.size
  m : d7 = true → d8 = false → VRow W w2.heap.size 24 [.int .i64 0, .int .i64 0, .slice none 0 0] ∧ W.heap.size = w2.heap.size + 1
  e : d7 = true → d8 = true → VRow W w2.heap.size 24 [.int .i64 q, .int .i64 n, .slice none 0 0] ∧ W.heap.size = w2.heap.size + 1

theorem SJ.alloc {w2 W : World} {q n : Int} {d8 : Bool} (h : SJ w2 q n false d8 W) (h8 : d8 = false) : SJ w2 q n true d8 (W.alloc (.cells #[.int .i64 0, .int .i64 0, .slice none 0 0] 24)) := by
  have hs := h.a rfl
  subst h8
  refine ⟨h.b.alloc (by rw [hs]; exact Nat.le_refl _) _, (fun e => by cases e), fun _ _ => ⟨?_, by rw [World.size_alloc, hs]⟩, (fun _ e => by cases e)⟩
  have := VRow.new W 24 [.int .i64 0, .int .i64 0, .slice none 0 0]
  rw [hs] at this
  exact this
theorem news_row {W : World} {b tt : Nat} {x : Ed} (h : VRow W b tt (edE x)) : ∀ (j : Nat) (u : Value), (cat [x])[j]? = some u → W.cell? ((⟨b, 0, none⟩ : Addr).add j) = some u := by
  intro j u hu
  have := h.at j (v := u) (by simpa [cat] using hu)
  cases j <;> simpa [Addr.add] using this
theorem SE.app {w w1 wx : World} {bg : Nat} {q n : Int} {l : List Ed} {x : Ed} {v : Value} {d12 d15 : Bool} {p : Option Addr} {m c : Nat} {W : World} (hP : PaN w w1 bg q n (l ++ [x]) v (.slice p m c) W) (h15 : d15 = false) : SE w w1 wx bg q n l x v d12 true d15 (some (.slice p m c)) W :=
  ⟨(fun e => by cases e), fun _ => ⟨p, m, c, rfl, by subst h15; exact hP⟩⟩
theorem SE.fin {w w1 wx : World} {bg : Nat} {q n : Int} {l : List Ed} {x : Ed} {v : Value} {d12 d13 : Bool} {f : Option Value} {p : Option Addr} {m c : Nat} {W : World} (hP : PaN w w1 bg q n (l ++ [x]) v (.slice p m c) W) (h13 : d13 = true) (hf : f = some (.slice p m c)) : SE w w1 wx bg q n l x v d12 d13 true f (W.setCell ⟨bg, 2, none⟩ (.slice p m c)) := by
  subst h13; subst hf
  exact ⟨(fun e => by cases e), fun _ => ⟨p, m, c, rfl, hP.store⟩⟩
theorem SJ.store {w2 W : World} {q n : Int} {d8 : Bool} (h : SJ w2 q n true d8 W) (h8 : d8 = false) : SJ w2 q n true true (((W.setCell ⟨w2.heap.size, 0, none⟩ (.int .i64 q)).setCell ⟨w2.heap.size, 1, none⟩ (.int .i64 n)).setCell ⟨w2.heap.size, 2, none⟩ (.slice none 0 0)) := by
  obtain ⟨hv, hs⟩ := h.m rfl h8
  refine ⟨((h.b.setCell (Nat.le_refl _) _).setCell (Nat.le_refl _) _).setCell (Nat.le_refl _) _, (fun e => by cases e), (fun _ e => by cases e), fun _ _ => ⟨?_, by rw [World.size_setCell, World.size_setCell, World.size_setCell, hs]⟩⟩
  exact VRow.set (i := 2) (.slice none 0 0) (VRow.set (i := 1) (.int .i64 n) (VRow.set (i := 0) (.int .i64 q) hv))
set_option maxRecDepth 100000 in
set_option maxHeartbeats 2000000 in
theorem gParse_any (s : ByteArray) (w : World) (hs : s.size ≤ 9223372036854775807) (hm : LM w) :
    Calls Tryd.prog 7 #[.string s] w (RetGr (parA s.data.toList).1 (parA s.data.toList).2 w) := by
  obtain ⟨i0, hi0, hz0, hz1, hz2⟩ := info_parts infoE
  have hsl : s.data.toList.length = s.size := by simp
  have HSL := hidI hsl
  clear hsl
  obtain ⟨R, hR⟩ : ∃ R, parA s.data.toList = R := ⟨_, rfl⟩
  have HR := hidI hR
  rw [hR]
  clear hR
  have HM := hidI hm
  clear hm
  by_cases hlong : 65536 < s.size
  · have HK : Hid (R = (gr0, 4)) := HR.out.symm.trans (parA_long (by rw [HSL.out]; exact hlong))
    have hb : decide ((65536 : Int) < (s.size : Int)) = true := decide_eq_true (by omega)
    have b0 : VRow (w.alloc (.cells #[.int .i64 0, .int .i64 0, .slice none 0 0] 24)) w.heap.size 24 [.int .i64 0, .int .i64 0, .slice none 0 0] := VRow.new w _ _
    have y0 := b0.at 0 rfl; have y1 := b0.at 1 rfl; have y2 := b0.at 2 rfl
    have z0 := b0.frozen 0; have z1 := b0.frozen 1; have z2 := b0.frozen 2
    go_enter Tryd.func7, Tryd.ntmps7
    go_wp2
    refine bodyPost_ret (v := .tuple #[.agg #[.int .i64 0, .int .i64 0, .slice none 0 0], .int .i64 4]) (by simp [results, Tryd.results7, go_sem, y0, y1, y2]) rfl ?_
    exact RetGr.of0 HK.out ((RowKit.Below.refl _ _).alloc (Nat.le_refl _) _)
  · have hb : decide ((65536 : Int) < (s.size : Int)) = false := decide_eq_false (by omega)
    have HS6 : Hid (s.data.toList.length ≤ 65536) := by unfold Hid; rw [HSL.out]; omega
    obtain ⟨wA, hwA⟩ : ∃ wA, wA = w.alloc (.cells #[.int .i64 0, .int .i64 0, .slice none 0 0] 24) := ⟨_, rfl⟩
    have bA : VRow wA w.heap.size 24 [.int .i64 0, .int .i64 0, .slice none 0 0] := by subst hwA; exact VRow.new w _ _
    have hBA : RowKit.Below w.heap.size w wA := by subst hwA; exact (RowKit.Below.refl _ _).alloc (Nat.le_refl _) _
    have HMA := hidI (HM.out.below hBA)
    have HCS := hidI (Tryd.strings_CutSuffix s ⟨#[10]⟩ wA (by omega))
    obtain ⟨T, hT⟩ : ∃ T : ByteArray, (⟨(Lib.trimSuffix s.data.toList [10]).toArray⟩ : ByteArray) = T := ⟨_, rfl⟩
    obtain ⟨e1, he1⟩ : ∃ e1, Lib.hasSuffix s.data.toList [10] = e1 := ⟨_, rfl⟩
    have HT : Hid (T.data.toList = Lib.trimSuffix s.data.toList [10]) := by rw [← hT]; rfl
    have hTz : T.size ≤ 65536 := by
      have e : T.data.toList.length = T.size := by simp
      have := Lib.trimSuffix_le s.data.toList [10]
      rw [← HT.out] at this
      have := HS6.out
      omega
    have HCS2 : Hid (Calls Tryd.prog 20 #[.string s, .string ⟨#[10]⟩] wA fun e w' => e = .returned (.tuple #[.string T, .bool e1]) ∧ w' = wA) := by
      have := HCS.out
      rw [show (⟨#[10]⟩ : ByteArray).data.toList = [10] from rfl, hT, he1] at this
      exact this
    have HE1 := hidI he1
    clear he1 hT HCS
    go_enter Tryd.func7, Tryd.ntmps7
    go_wp2_with fail
    rw [← hwA]
    clear hwA
    refine HCS2.out.mono ?_
    rintro e wB ⟨rfl, hwB⟩
    have hwB := hwB.symm
    subst hwB
    go_wp2_with fail
    refine (split_any 10 T wA (by omega) HMA.out).mono ?_
    rintro e w1 ⟨ls, hls, rfl, hsl, hB1⟩
    have HLS := hidI hls
    have HSLs := hidI hsl
    have b1 := bA.below hB1 bA.lt
    have x1 := hBA.trans (hB1.mono hBA.size)
    have hz1' : w.heap.size < w1.heap.size := b1.lt
    have HLN : Hid (0 < ls.length) := by
      unfold Hid
      have h1 := congrArg List.length hls
      rw [List.length_map] at h1
      rw [h1, spl_len]; omega
    have hlen : ls.length ≤ 65537 := by
      have h1 := congrArg List.length hls
      rw [List.length_map] at h1
      have h2 := spl_len_le 10 T.data.toList
      have h3 : T.data.toList.length = T.size := by simp
      omega
    have HZ : Hid (∀ i (hi : i < ls.length), ls[i].size ≤ 65536) := fun i hi => by
      have hm : ls[i].data.toList ∈ spl 10 T.data.toList := by rw [← HLS.out]; exact List.mem_map_of_mem (List.getElem_mem hi)
      have h1 := pieces_sum 10 _ _ hm
      have h3 : T.data.toList.length = T.size := by simp
      have h4 : ls[i].data.toList.length = ls[i].size := by simp
      omega
    have HM1 := hidI (HMA.out.below hB1)
    obtain ⟨bL, oL, hpL, hbL, hcL⟩ := hsl.get 0 HLN.out
    cases hpL
    have e0 : w1.cell? ⟨wA.heap.size, 0, none⟩ = some (.string (ls[0]'HLN.out)) := hcL 0 HLN.out
    obtain ⟨l0, hl0⟩ : ∃ l0, ls[0]'HLN.out = l0 := ⟨_, rfl⟩
    rw [hl0] at e0
    have hl0z : l0.size ≤ 65536 := by rw [← hl0]; exact HZ.out 0 HLN.out
    have HL0 := hidI hl0
    have hpos := HLN.out
    obtain ⟨H, hH⟩ : ∃ H : ByteArray, (⟨(Lib.trimPrefix l0.data.toList graphT).toArray⟩ : ByteArray) = H := ⟨_, rfl⟩
    obtain ⟨e2, he2⟩ : ∃ e2, Lib.hasPrefix l0.data.toList graphT = e2 := ⟨_, rfl⟩
    have HH : Hid (H.data.toList = Lib.trimPrefix l0.data.toList graphT) := by rw [← hH]; rfl
    have hHz : H.size ≤ 65536 := by
      have e : H.data.toList.length = H.size := by simp
      have := Lib.trimPrefix_le l0.data.toList graphT
      rw [← HH.out] at this
      have e' : l0.data.toList.length = l0.size := by simp
      omega
    have HCP : Hid (Calls Tryd.prog 22 #[.string l0, .string ⟨#[103, 114, 97, 112, 104, 32]⟩] w1 fun e w' => e = .returned (.tuple #[.string H, .bool e2]) ∧ w' = w1) := by
      have := Tryd.strings_CutPrefix l0 ⟨#[103, 114, 97, 112, 104, 32]⟩ w1
      rw [show (⟨#[103, 114, 97, 112, 104, 32]⟩ : ByteArray).data.toList = graphT from rfl, hH, he2] at this
      exact this
    have HE2 := hidI he2
    obtain ⟨R2, hR2⟩ : ∃ R2, numsP H.data.toList 2 = R2 := ⟨_, rfl⟩
    have HR2 := hidI hR2
    have HTL : Hid (spl 10 T.data.toList = l0.data.toList :: (ls.drop 1).map (·.data.toList)) := by
      unfold Hid
      rw [← HLS.out]
      have e : ls = l0 :: ls.drop 1 := by
        rw [← hl0]
        conv => lhs; rw [← List.drop_zero (l := ls), List.drop_eq_getElem_cons HLN.out]
      conv => lhs; rw [e, List.map_cons]
    have HF : Hid (e1 = false ∨ e2 = false ∨ R2 = none → R = (gr0, 3)) := fun h => by
      refine HR.out.symm.trans (parA_no HS6.out ?_)
      by_cases h1 : e1 = false
      · exact no_end (suf_no (HE1.out.trans h1))
      · have h1t : e1 = true := by simpa using h1
        have hst := suf_one (HE1.out.trans h1t)
        rw [← HT.out] at hst
        rw [hst]
        by_cases h2 : e2 = false
        · exact no_pre HTL.out (pre_no (HE2.out.trans h2))
        · have h2t : e2 = true := by simpa using h2
          have h3 : R2 = none := by
            rcases h with h | h | h
            · exact absurd h h1
            · exact absurd h h2
            · exact h
          have hl := pre_yes (HE2.out.trans h2t)
          rw [← HH.out] at hl
          have hsp := HTL.out
          rw [hl] at hsp
          exact no_nums hsp (HR2.out.trans h3)
    have HOK : Hid (e1 = true → e2 = true → ∀ l2, R2 = some l2 → ∃ q n, l2 = [q, n] ∧ Ln s.data.toList q n [] ((ls.drop 1).map (·.data.toList))) := fun h1t h2t l2 h3 => by
      have hst := suf_one (HE1.out.trans h1t)
      rw [← HT.out] at hst
      have hl := pre_yes (HE2.out.trans h2t)
      rw [← HH.out] at hl
      have hsp := HTL.out
      rw [hl] at hsp
      have hn := HR2.out.trans h3
      obtain ⟨q, n, rfl⟩ := two_of (nums_len hn)
      rw [hst]
      exact ⟨q, n, rfl, ln_start hsp hn⟩
    have HN2 : Hid (Calls Tryd.prog 23 #[.string H, .int .i64 2] w1 (RetNs R2 w1)) := by
      have := gNums_any H 2 w1 (by omega) (by omega) HM1.out
      rw [hR2] at this
      exact this
    clear hls hsl hcL hl0 hB1 bA hBA hH he2 hR2
    go_wp2_with fail
    refine HCP.out.mono ?_
    rintro e wC ⟨rfl, hwC⟩
    have hwC := hwC.symm
    subst hwC
    go_wp2_with fail
    refine HN2.out.mono ?_
    cases R2 with
    | none =>
      rintro e w2 ⟨rfl, hB2⟩
      have HK := hidI (HF.out (.inr (.inr rfl)))
      cases e1 <;> cases e2
      all_goals
        have b2 := b1.below hB2 b1.lt
        have x2 := x1.trans (hB2.mono x1.size)
        have j0 := b2.at 0 rfl; have j1 := b2.at 1 rfl; have j2 := b2.at 2 rfl
        have z0 := b2.frozen 0; have z1 := b2.frozen 1; have z2 := b2.frozen 2
        have HB2 := hidI b2
        have HX6 : Hid (RowKit.Below w.heap.size w (((w2.setCell ⟨w.heap.size, 0, none⟩ (.int .i64 0)).setCell ⟨w.heap.size, 1, none⟩ (.int .i64 0)).setCell ⟨w.heap.size, 2, none⟩ (.slice none 0 0))) := ((x2.setCell (Nat.le_refl _) _).setCell (Nat.le_refl _) _).setCell (Nat.le_refl _) _
        clear e0 b2
        go_wp2
        have r6 := VRow.set (i := 2) (.slice none 0 0) (VRow.set (i := 1) (.int .i64 0) (VRow.set (i := 0) (.int .i64 0) HB2.out))
        have y0 := r6.at 0 rfl; have y1 := r6.at 1 rfl; have y2 := r6.at 2 rfl
        refine bodyPost_ret (v := .tuple #[.agg #[.int .i64 0, .int .i64 0, .slice none 0 0], .int .i64 3]) (by simp [results, Tryd.results7, go_sem, y0, y1, y2]) rfl ?_
        exact RetGr.of0 HK.out HX6.out
    | some l2 =>
      rintro e w2 ⟨p9, c9, rfl, hs9, hc9, hB2⟩
      have HOK2 := hidI (fun h1 h2 => HOK.out h1 h2 l2 rfl)
      clear HOK
      cases e1
      · have HK := hidI (HF.out (.inl rfl))
        cases e2
        all_goals
          have b2 := b1.below hB2 b1.lt
          have x2 := x1.trans (hB2.mono x1.size)
          have j0 := b2.at 0 rfl; have j1 := b2.at 1 rfl; have j2 := b2.at 2 rfl
          have z0 := b2.frozen 0; have z1 := b2.frozen 1; have z2 := b2.frozen 2
          have HB2 := hidI b2
          have HX6 : Hid (RowKit.Below w.heap.size w (((w2.setCell ⟨w.heap.size, 0, none⟩ (.int .i64 0)).setCell ⟨w.heap.size, 1, none⟩ (.int .i64 0)).setCell ⟨w.heap.size, 2, none⟩ (.slice none 0 0))) := ((x2.setCell (Nat.le_refl _) _).setCell (Nat.le_refl _) _).setCell (Nat.le_refl _) _
          clear e0 b2
          go_wp2
          have r6 := VRow.set (i := 2) (.slice none 0 0) (VRow.set (i := 1) (.int .i64 0) (VRow.set (i := 0) (.int .i64 0) HB2.out))
          have y0 := r6.at 0 rfl; have y1 := r6.at 1 rfl; have y2 := r6.at 2 rfl
          refine bodyPost_ret (v := .tuple #[.agg #[.int .i64 0, .int .i64 0, .slice none 0 0], .int .i64 3]) (by simp [results, Tryd.results7, go_sem, y0, y1, y2]) rfl ?_
          exact RetGr.of0 HK.out HX6.out
      cases e2
      · have HK := hidI (HF.out (.inr (.inl rfl)))
        have b2 := b1.below hB2 b1.lt
        have x2 := x1.trans (hB2.mono x1.size)
        have j0 := b2.at 0 rfl; have j1 := b2.at 1 rfl; have j2 := b2.at 2 rfl
        have z0 := b2.frozen 0; have z1 := b2.frozen 1; have z2 := b2.frozen 2
        have HB2 := hidI b2
        have HX6 : Hid (RowKit.Below w.heap.size w (((w2.setCell ⟨w.heap.size, 0, none⟩ (.int .i64 0)).setCell ⟨w.heap.size, 1, none⟩ (.int .i64 0)).setCell ⟨w.heap.size, 2, none⟩ (.slice none 0 0))) := ((x2.setCell (Nat.le_refl _) _).setCell (Nat.le_refl _) _).setCell (Nat.le_refl _) _
        clear e0 b2
        go_wp2
        have r6 := VRow.set (i := 2) (.slice none 0 0) (VRow.set (i := 1) (.int .i64 0) (VRow.set (i := 0) (.int .i64 0) HB2.out))
        have y0 := r6.at 0 rfl; have y1 := r6.at 1 rfl; have y2 := r6.at 2 rfl
        refine bodyPost_ret (v := .tuple #[.agg #[.int .i64 0, .int .i64 0, .slice none 0 0], .int .i64 3]) (by simp [results, Tryd.results7, go_sem, y0, y1, y2]) rfl ?_
        exact RetGr.of0 HK.out HX6.out
      obtain ⟨q, n, rfl, hln⟩ := HOK2.out rfl rfl
      have HLN0 := hidI hln
      clear hln HOK2 HF
      obtain ⟨b9, o9, rfl, hb9, hc9'⟩ := hs9.get 0 (by simp)
      have q0 : w2.cell? ⟨b9, o9, none⟩ = some (.int .i64 q) := hc9' 0 (by simp)
      have q1 : w2.cell? ⟨b9, o9 + 1, none⟩ = some (.int .i64 n) := hc9' 1 (by simp)
      have hc92 : 2 ≤ c9 := hc9
      have HB2 := hidI hB2
      clear hc9' hs9 hc9 hB2 e0
      go_upto_region 9 with fail
      refine region_detW (by kernel_rfl) 9 [(some 51, some (.slice (some ⟨b9, o9, none⟩) 2 c9)), (some 52, some (.pointer (some ⟨b9, o9, none⟩))), (some 53, some (.int .i64 q)), (some 54, some (.slice (some ⟨b9, o9, none⟩) 2 c9)), (some 55, some (.pointer (some ⟨b9, o9 + 1, none⟩))), (some 56, some (.int .i64 n)), (some 57, some (.agg #[.int .i64 q, .int .i64 n, .slice none 0 0])), (some 11, some (.pointer (some ⟨w2.heap.size, 0, none⟩))), (none, none)] (fun d _ W => SJ w2 q n (d 7) (d 8) W) (by kernel_rfl) (by kernel_rfl) (by kernel_rfl) (by kernel_rfl) ⟨below_dN (RowKit.Below.refl _ _) 1, fun _ => rfl, (fun e => by cases e), (fun e => by cases e)⟩ ?_ ?_
      focus
        intro i o ho a d f W hS hdi hdn hnd hdep hout hold K hK
        have hc0 := (hS.b.cell hb9).trans q0
        have hc1 := (hS.b.cell (p := ⟨b9, o9 + 1, none⟩) hb9).trans q1
        have hil : i < 9 := (Array.getElem?_eq_some_iff.1 ho).1
        have hcases : i = 0 ∨ i = 1 ∨ i = 2 ∨ i = 3 ∨ i = 4 ∨ i = 5 ∨ i = 6 ∨ i = 7 ∨ i = 8 := by omega
        clear hil
        have u9 := hout 9 (by kernel_rfl)
        simp at u9
        clear hout q0 q1
        rcases hcases with rfl | rfl | rfl | rfl | rfl | rfl | rfl | rfl | rfl
        all_goals (simp only [List.getElem?_toArray, List.getElem?_cons_succ, List.getElem?_cons_zero, Option.some.injEq] at ho; subst ho; simp [Region.binds] at hdep; (try go_split_ands))
        all_goals first
          | (go_simp; exact hK _ _ (fun u hu => Option.some.inj hu) hS)
          | (go_simp
             have e7 : d 7 = false := hdi
             have hS' := hS
             simp only [e7] at hS'
             exact hK _ _ (fun u hu => by rw [← Option.some.inj hu, hS.a e7]) (hS'.alloc (hnd 8 (by kernel_rfl))))
          | (have e7 : d 7 = true := hdn ⟨7, .data⟩ (by simp) rfl
             have e8 : d 8 = false := hdi
             have hS' := hS
             simp only [e7] at hS'
             obtain ⟨hv, hsz⟩ := hS'.m rfl e8
             have v0 := hv.at 0 rfl; have v1 := hv.at 1 rfl; have v2 := hv.at 2 rfl
             have f0 := hv.frozen 0; have f1 := hv.frozen 1; have f2 := hv.frozen 2
             have HS' := hidI hS'
             clear hv hsz hS'
             go_simp
             have hfin := HS'.out.store e8
             refine hK undef _ (fun u hu => by cases hu) ?_
             have e7' : (updB d 8 7) = true := e7
             show SJ w2 q n (updB d 8 7) true _
             rw [e7']; exact hfin)
      intro d f W hS hall hf
      have e7 : d 7 = true := hall 7 (by decide)
      have e8 : d 8 = true := hall 8 (by decide)
      simp only [e7, e8] at hS
      obtain ⟨hg0, hgz⟩ := hS.e rfl rfl
      have HSW := hidI hS
      have HG0 := hidI hg0
      have HGZ := hidI hgz
      clear hf hall hS hg0 hgz e7 e8 q0 q1
      simp only [putsD, List.filterMap_cons, List.filterMap_nil, Option.map_some, Option.map_none, Option.getD_some, Option.getD_none, List.foldl_cons, List.foldl_nil, Act.put, List.setIfInBounds_toArray, List.set_cons_zero, List.set_cons_succ]
      obtain ⟨o1, ho1⟩ : ∃ o1, (if ls.length = 1 then 0 else 1) = o1 := ⟨_, rfl⟩
      obtain ⟨N, hN⟩ : ∃ N, ls.length - 1 = N := ⟨_, rfl⟩
      have hrs := fun W => run_tail1 wA.heap.size ls.length hpos W
      rw [ho1, hN] at hrs
      have HO1 : Hid (1 < ls.length → o1 = 1) := fun h => by rw [← ho1, if_neg (by omega)]
      have HNN : Hid (ls.length = N + 1) := by unfold Hid; omega
      clear ho1 hN
      have HPS : Hid (PaN w w1 w2.heap.size q n [] (.slice none 0 0) (.slice none 0 0) W) :=
        ⟨(b1.below HB2.out b1.lt).below HSW.out.b (Nat.lt_of_lt_of_le b1.lt HB2.out.size), HG0.out, World.ownsRow_nil _ _ _ _, (x1.trans (HB2.out.mono x1.size)).trans (HSW.out.b.mono (Nat.le_trans x1.size HB2.out.size)), HB2.out.trans (HSW.out.b.mono HB2.out.size), HB2.out.size, hz1', by rw [HGZ.out]; exact Nat.le_refl _⟩
      have HX1 := hidI x1
      have HB1 := hidI b1
      clear b1 x1
      go_wp2_with fail
      clear hrs
      go_loopw [61] (fun iv wr => ∃ (k : Nat) (es : List (Nat × Nat × Nat)) (L : List Ed) (p : Option Addr) (m c : Nat), k ≤ N ∧ iv = .int .i64 k ∧ Hid (Ln s.data.toList q n es ((ls.drop (k + 1)).map (·.data.toList))) ∧ Hid (L = es.map edI) ∧ Hid (es.length = k) ∧ Hid (PaN w w1 w2.heap.size q n L (.slice p m c) (.slice p m c) wr)) (fun iv _ => N - (intOf iv).toNat)
      case atStart => exact ⟨0, [], [], none, 0, 0, by omega, rfl, HLN0, rfl, rfl, HPS⟩
      case round =>
        clear HPS HLN0
        obtain ⟨k, es, L, p, m, c, hk, rfl, HL, HLE, HEK, HPA⟩ := hrel
        have hNN : N ≤ 65536 := by have := HNN.out; omega
        by_cases hlt : k < N
        · have hlt1 : k + 1 < ls.length := by have := HNN.out; omega
          have ho1 := HO1.out (by omega)
          subst ho1
          obtain ⟨bx, ox, hpx, hbx, hcx⟩ := (HSLs.out.below HPA.out.b1).get (k + 1) hlt1
          cases hpx
          have e0 : wr.cell? ⟨wA.heap.size, 1 + k, none⟩ = some (.string ls[k + 1]) := by
            have := hcx (k + 1) hlt1
            rw [Nat.zero_add] at this
            rw [Nat.add_comm 1 k]; exact this
          have hxz := HZ.out (k + 1) hlt1
          have HDR : Hid ((ls.drop (k + 1)).map (·.data.toList) = ls[k + 1].data.toList :: (ls.drop (k + 1 + 1)).map (·.data.toList)) := by
            unfold Hid; rw [List.drop_eq_getElem_cons hlt1, List.map_cons]
          obtain ⟨x, hx⟩ : ∃ x, ls[k + 1] = x := ⟨_, rfl⟩
          rw [hx] at e0 hxz HDR
          obtain ⟨R3, hR3⟩ : ∃ R3, numsP x.data.toList 3 = R3 := ⟨_, rfl⟩
          have HR3 := hidI hR3
          have HN3 : Hid (Calls Tryd.prog 23 #[.string x, .int .i64 3] wr (RetNs R3 wr)) := by
            have := gNums_any x 3 wr (by omega) (by omega) (HM1.out.below HPA.out.b1)
            rw [hR3] at this
            exact this
          clear hx hR3 hcx hbx
          go_wp2_with fail
          refine HN3.out.mono ?_
          cases R3 with
          | none =>
            rintro e wx ⟨rfl, hBx⟩
            have HK : Hid (R = (gr0, 3)) := HR.out.symm.trans (parA_no HS6.out (by
              have h := HL.out
              rw [HDR.out] at h
              exact ln_no h HR3.out))
            have HPX := hidI (HPA.out.below hBx)
            have b2 := HPX.out.z
            have j0 := b2.at 0 rfl; have j1 := b2.at 1 rfl; have j2 := b2.at 2 rfl
            have z0 := b2.frozen 0; have z1 := b2.frozen 1; have z2 := b2.frozen 2
            have HB2 := hidI b2
            clear e0 b2 hBx
            go_wp2
            have r6 := VRow.set (i := 2) (.slice none 0 0) (VRow.set (i := 1) (.int .i64 0) (VRow.set (i := 0) (.int .i64 0) HB2.out))
            have y0 := r6.at 0 rfl; have y1 := r6.at 1 rfl; have y2 := r6.at 2 rfl
            refine bodyPost_ret (v := .tuple #[.agg #[.int .i64 0, .int .i64 0, .slice none 0 0], .int .i64 3]) (by simp [results, Tryd.results7, go_sem, y0, y1, y2]) rfl ?_
            exact RetGr.of0 HK.out (((HPX.out.b.setCell (Nat.le_refl _) _).setCell (Nat.le_refl _) _).setCell (Nat.le_refl _) _)
          | some l3 =>
            rintro e wx ⟨p3, c3, rfl, hs3, hc3, hBx⟩
            obtain ⟨a1, a2, a3, rfl⟩ := three_of (nums_len HR3.out)
            have HL3 : Hid (Ln s.data.toList q n (es ++ [(a1, a2, a3)]) ((ls.drop (k + 1 + 1)).map (·.data.toList))) := by
              have h := HL.out
              rw [HDR.out] at h
              exact ln_step h HR3.out
            have HLE2 : Hid (L ++ [⟨a1, a2, a3⟩] = (es ++ [(a1, a2, a3)]).map edI) := by
              unfold Hid; rw [List.map_append, HLE.out]; rfl
            have HEK2 : Hid ((es ++ [(a1, a2, a3)]).length = k + 1) := by unfold Hid; rw [List.length_append, HEK.out]; rfl
            have hLL : L.length ≤ 65536 := by rw [HLE.out, List.length_map, HEK.out]; omega
            obtain ⟨b9, o9, rfl, hb9, hc9'⟩ := hs3.get 0 (by simp)
            have q0 : wx.cell? ⟨b9, o9, none⟩ = some (.int .i64 a1) := hc9' 0 (by simp)
            have q1 : wx.cell? ⟨b9, o9 + 1, none⟩ = some (.int .i64 a2) := hc9' 1 (by simp)
            have q2 : wx.cell? ⟨b9, o9 + 2, none⟩ = some (.int .i64 a3) := hc9' 2 (by simp)
            have hc33 : 3 ≤ c3 := hc3
            have HPX := hidI (HPA.out.below hBx)
            have hgr := HPX.out.g
            have hzg := hgr.lt
            have q3 := hgr.at 2 rfl
            have HGR := hidI hgr
            clear hc9' hs3 hc3 hBx e0 HDR HL HPA HN3 HEK HLE hgr
            go_upto_region 16 with fail
            refine region_detW (by kernel_rfl) 16 [(some 73, some (.pointer (some ⟨w2.heap.size, 2, none⟩))), (some 74, some (.slice p m c)), (some 75, some (.slice (some ⟨b9, o9, none⟩) 3 c3)), (some 76, some (.pointer (some ⟨b9, o9, none⟩))), (some 77, some (.int .i64 a1)), (some 78, some (.slice (some ⟨b9, o9, none⟩) 3 c3)), (some 79, some (.pointer (some ⟨b9, o9 + 1, none⟩))), (some 80, some (.int .i64 a2)), (some 81, some (.slice (some ⟨b9, o9, none⟩) 3 c3)), (some 82, some (.pointer (some ⟨b9, o9 + 2, none⟩))), (some 83, some (.int .i64 a3)), (some 84, some (.agg #[.int .i64 a1, .int .i64 a2, .int .i64 a3])), (some 85, some (.slice (some ⟨wx.heap.size, 0, none⟩) 1 1)), (some 86, none), (some 87, some (.pointer (some ⟨w2.heap.size, 2, none⟩))), (none, none)] (fun d f W => SE w w1 wx w2.heap.size q n L ⟨a1, a2, a3⟩ (.slice p m c) (d 12) (d 13) (d 15) (f 86) W) (by kernel_rfl) (by kernel_rfl) (by kernel_rfl) (by kernel_rfl) ⟨fun _ => ⟨below_dN (RowKit.Below.refl _ _) 1, fun _ => rfl, (fun e => by cases e)⟩, (fun e => by cases e)⟩ ?_ ?_
            focus
              intro i o ho a d f W hS hdi hdn hnd hdep hout hold K hK
              have hil : i < 16 := (Array.getElem?_eq_some_iff.1 ho).1
              have hcases : i = 0 ∨ i = 1 ∨ i = 2 ∨ i = 3 ∨ i = 4 ∨ i = 5 ∨ i = 6 ∨ i = 7 ∨ i = 8 ∨ i = 9 ∨ i = 10 ∨ i = 11 ∨ i = 12 ∨ i = 13 ∨ i = 14 ∨ i = 15 := by omega
              clear hil
              have u9 := hout 11 (by kernel_rfl)
              have u14 := hout 14 (by kernel_rfl)
              simp at u9 u14
              clear hout
              rcases hcases with rfl | rfl | rfl | rfl | rfl | rfl | rfl | rfl | rfl | rfl | rfl | rfl | rfl | rfl | rfl | rfl
              all_goals (simp only [List.getElem?_toArray, List.getElem?_cons_succ, List.getElem?_cons_zero, Option.some.injEq] at ho; subst ho; simp [Region.binds] at hdep; (try go_split_ands))
              all_goals first
                | (go_simp; exact hK _ _ (fun u hu => Option.some.inj hu) hS)
                | (have hb := (hS.p (hnd 13 (by kernel_rfl))).1
                   have hc0 := (hb.cell hb9).trans q0
                   have hc1 := (hb.cell (p := ⟨b9, o9 + 1, none⟩) hb9).trans q1
                   have hc2 := (hb.cell (p := ⟨b9, o9 + 2, none⟩) hb9).trans q2
                   have hc3' := (hb.cell (p := ⟨w2.heap.size, 2, none⟩) hzg).trans q3
                   clear q0 q1 q2 q3
                   go_simp
                   exact hK _ _ (fun u hu => Option.some.inj hu) hS)
                | (go_simp
                   have e12 : d 12 = false := hdi
                   have e13 := hnd 13 (by kernel_rfl)
                   have hsz := (hS.p e13).2.1 e12
                   exact hK _ _ (fun u hu => by rw [← Option.some.inj hu, hsz]) (hS.alloc e12 e13))
                | (have e13 : d 13 = false := hdi
                   have e15 := hnd 15 (by kernel_rfl)
                   have e12 : d 12 = true := hdn ⟨12, .data⟩ (by simp) rfl
                   obtain ⟨hb, _, hr⟩ := hS.p e13
                   obtain ⟨hrow, hsz⟩ := hr e12
                   have hP := HPX.out.below hb
                   refine step_append_lies W rfl (.tmp 74) (.tmp 85) 22 rfl (w2.heap.size + 1) 40 i0 _ 3 24 Tryd.underlying22 hi0 hz0 hz1 hz2 rfl (by decide) (.slice p m c) L.length (cat L) (by simp [Act.eval, *]) hP.o ⟨wx.heap.size, 0, none⟩ 1 1 (cat [⟨a1, a2, a3⟩]) (by simp [Act.eval, *]) rfl (news_row hrow) (cat_one _) (by omega) (by simp [maxLen]; omega) (by omega) hP.s _ rfl ?_
                   intro g cap w' hown' hgrow _ _
                   rw [← cat_app] at hown'
                   exact hK _ _ (fun u hu => by cases hu) (SE.app (hP.grown hgrow (own_conv hown' (by simp) (Nat.le_refl _))) e15))
                | (have e13 : d 13 = true := hdn ⟨13, .data⟩ (by simp) rfl
                   have e15 : d 15 = false := hdi
                   obtain ⟨p', m', c', hf86, hP⟩ := hS.m e13
                   rw [e15] at hP
                   have HP := hidI (show PaN w w1 w2.heap.size q n (L ++ [⟨a1, a2, a3⟩]) (.slice p m c) (.slice p' m' c') W from hP)
                   obtain ⟨v86, hv86, hat⟩ : ∃ v, f 86 = some v ∧ a.tmps[86]? = some v := by assumption
                   rw [hf86] at hv86
                   cases hv86
                   have hgr := HP.out.g
                   have k2 := hgr.at 2 rfl
                   have z2 := hgr.frozen 2
                   have HF := hidI hf86
                   clear hgr hP hf86 q0 q1 q2 q3
                   go_simp
                   exact hK undef _ (fun u hu => by cases hu) (SE.fin HP.out e13 HF.out))
                | fail
            intro d f W9 hS hall hf
            have e13 : d 13 = true := hall 13 (by decide)
            have e15 : d 15 = true := hall 15 (by decide)
            obtain ⟨p', m', c', _, hP⟩ := hS.m e13
            rw [e15] at hP
            have HP := hidI (show PaN w w1 w2.heap.size q n (L ++ [⟨a1, a2, a3⟩]) (.slice p' m' c') (.slice p' m' c') W9 from hP)
            simp only [putsD, List.filterMap_cons, List.filterMap_nil, Option.map_some, Option.map_none, Option.getD_some, Option.getD_none, List.foldl_cons, List.foldl_nil, Act.put, List.setIfInBounds_toArray, List.set_cons_zero, List.set_cons_succ]
            generalize (f 86).getD undef = v86
            clear hf hall hS hP e13 e15 q0 q1 q2 q3
            go_wp2_with fail
            go_roundw
            case rel => exact ⟨k + 1, _, _, p', m', c', by omega, by go_num, HL3, HLE2, HEK2, HP⟩
            case measure => simp [intOf]; omega
        · obtain rfl : k = N := by omega
          have hIT : IsT s.data.toList q n es := by
            have h := HL.out
            rw [List.drop_eq_nil_of_le (by rw [HNN.out]; exact Nat.le_refl _)] at h
            exact ln_end h
          have HC : Hid (R = chkd ⟨q, n, L⟩) := by unfold Hid; rw [HLE.out]; exact HR.out.symm.trans (parA_is HS6.out hIT)
          have HL2 : Hid (L.length ≤ 65536) := by unfold Hid; rw [HLE.out, List.length_map, HEK.out]; exact hNN
          clear hIT
          obtain ⟨rfl, hsg⟩ := sg_len (p' := none) HPA.out.o
          have hg := HPA.out.g
          have k0 := hg.at 0 rfl; have k1 := hg.at 1 rfl; have k2 := hg.at 2 rfl
          obtain ⟨rc, hrc⟩ : ∃ rc, chkG ⟨q, n, L⟩ = rc := ⟨_, rfl⟩
          have HRC := hidI hrc
          have HCK : Hid (Calls Tryd.prog 9 #[.agg #[.int .i64 q, .int .i64 n, .slice p L.length c]] wr fun e w' => e = .returned (.int .i64 rc) ∧ RowKit.Below wr.heap.size wr w') :=
            gCheck_r ⟨q, n, L⟩ p c wr rc hrc hsg (by have := HL2.out; show L.length ≤ _; omega)
          clear hsg hg hrc
          go_wp2_with fail
          refine HCK.out.mono ?_
          rintro e w5 ⟨rfl, hB5⟩
          have HP5 := hidI (HPA.out.below hB5)
          clear k0 k1 k2 hB5
          have hg := HP5.out.g
          have k0 := hg.at 0 rfl; have k1 := hg.at 1 rfl; have k2 := hg.at 2 rfl
          have hz := HP5.out.z
          have j0 := hz.at 0 rfl; have j1 := hz.at 1 rfl; have j2 := hz.at 2 rfl
          have z0 := hz.frozen 0; have z1 := hz.frozen 1; have z2 := hz.frozen 2
          have HZZ := hidI hz
          have hzl : w.heap.size < w2.heap.size + 1 := by have := HP5.out.h; have := HP5.out.h0; omega
          have HZL := hidI hzl
          clear hg hz hzl
          by_cases hrc0 : rc = 0
          · have HC2 : Hid (R = (⟨q, n, L⟩, 0)) := HC.out.trans (chkd_ok (HRC.out.trans hrc0))
            have hrb : (rc == 0) = true := by simpa using hrc0
            have hrb2 : (rc != 0) = false := by simp [hrc0]
            clear hrc0
            go_wp2
            have r6 := VRow.set (i := 2) (.slice p L.length c) (VRow.set (i := 1) (.int .i64 n) (VRow.set (i := 0) (.int .i64 q) HZZ.out))
            have y0 := r6.at 0 rfl; have y1 := r6.at 1 rfl; have y2 := r6.at 2 rfl
            have o6 := ownsRow_setCell_below (a := ⟨w.heap.size, 2, none⟩) (ownsRow_setCell_below (a := ⟨w.heap.size, 1, none⟩) (ownsRow_setCell_below (a := ⟨w.heap.size, 0, none⟩) HP5.out.o HZL.out (.int .i64 q)) HZL.out (.int .i64 n)) HZL.out (.slice p L.length c)
            have x6 := ((HP5.out.b.setCell (p := ⟨w.heap.size, 0, none⟩) (Nat.le_refl _) (.int .i64 q)).setCell (p := ⟨w.heap.size, 1, none⟩) (Nat.le_refl _) (.int .i64 n)).setCell (p := ⟨w.heap.size, 2, none⟩) (Nat.le_refl _) (.slice p L.length c)
            refine bodyPost_ret (v := .tuple #[.agg #[.int .i64 q, .int .i64 n, .slice p L.length c], .int .i64 0]) (by simp [results, Tryd.results7, go_sem, y0, y1, y2]) rfl ?_
            obtain ⟨p6, c6, hv, hs6, hc6, _⟩ := own_sg o6
            cases hv
            exact RetGr.of (G' := ⟨q, n, L⟩) (k' := 0) HC2.out hs6 hc6 x6
          · have HC2 : Hid (R = (gr0, rc)) := by unfold Hid; rw [HC.out, chkd_bad (by rw [HRC.out]; exact hrc0), HRC.out]
            have hrb : (rc == 0) = false := by simpa using hrc0
            have hrb2 : (rc != 0) = true := by simpa using hrc0
            clear hrc0
            go_wp2
            have r6 := VRow.set (i := 2) (.slice none 0 0) (VRow.set (i := 1) (.int .i64 0) (VRow.set (i := 0) (.int .i64 0) HZZ.out))
            have y0 := r6.at 0 rfl; have y1 := r6.at 1 rfl; have y2 := r6.at 2 rfl
            have x6 := ((HP5.out.b.setCell (p := ⟨w.heap.size, 0, none⟩) (Nat.le_refl _) (.int .i64 0)).setCell (p := ⟨w.heap.size, 1, none⟩) (Nat.le_refl _) (.int .i64 0)).setCell (p := ⟨w.heap.size, 2, none⟩) (Nat.le_refl _) (.slice none 0 0)
            refine bodyPost_ret (v := .tuple #[.agg #[.int .i64 0, .int .i64 0, .slice none 0 0], .int .i64 rc]) (by simp [results, Tryd.results7, go_sem, y0, y1, y2]) rfl ?_
            exact RetGr.of0 HC2.out x6
end Go.Proofs.YtcfmpplhghkagaaDoor
namespace Go.Proofs.YtcfmpplhghkagaaDoor
open Go.RowKit Go.Sort Go.Shelf Go.Lib

theorem prA_ok {G : Gr} (h : chkG G = 0) : prA G = (⟨(txtN G).toArray⟩, 0) := if_pos h
theorem prA_bad {G : Gr} (h : ¬ chkG G = 0) : prA G = (⟨#[]⟩, 1) := if_neg h
theorem parA_ln (s : List UInt8) : (parA s).1.es.length ≤ 1024 := by
  by_cases h : (parA s).2 = 0
  · exact (chkG_ok.1 (par_back h).2).len
  · rw [par_empty h]; exact Nat.zero_le _
/-- The end of the statement: what is parsed is the text of the result. -/
structure RtB (w : World) (G : Gr) (p : Option Addr) (c : Nat) (W : World) : Prop where
  b : VRow W w.heap.size 24 [.int .i64 G.q, .int .i64 G.n, .slice p G.es.length c]
  x : RowKit.Below w.heap.size w W

set_option maxRecDepth 100000 in
set_option maxHeartbeats 4000000 in
theorem lawGRound_any (G : Gr) (p : Option Addr) (c : Nat) (s : ByteArray) (w : World) (hin : Sg 3 w edE p G.es) (hl : G.es.length ≤ 9223372036854775807) (hs : s.size ≤ 9223372036854775807) (hm : LM w) :
    Calls Tryd.prog 3 #[(.agg #[.int .i64 G.q, .int .i64 G.n, .slice p G.es.length c]), .string s] w fun e w' => e = .returned (.bool true) ∧ RowKit.Below w.heap.size w w' := by
  have HIN := hidI hin; have HM := hidI hm
  clear hin hm
  have b0 : VRow (w.alloc (.cells #[.int .i64 G.q, .int .i64 G.n, .slice p G.es.length c] 24)) w.heap.size 24 [.int .i64 G.q, .int .i64 G.n, .slice p G.es.length c] := VRow.new w _ _
  have x0 : RowKit.Below w.heap.size w (w.alloc (.cells #[.int .i64 G.q, .int .i64 G.n, .slice p G.es.length c] 24)) := (RowKit.Below.refl _ _).alloc (Nat.le_refl _) _
  cases hg : greatG G
  · have HG := hidI hg
    have hsm := (great_small hg).1
    clear hg
    by_cases hbig : 300 < s.size
    · have k1 : decide ((300 : Int) < (s.size : Int)) = true := decide_eq_true (by omega)
      clear hbig
      go_enter Tryd.func3, Tryd.ntmps3
      go_wp2_with fail
      refine (rGreat_any G p c _ hl).mono ?_
      rw [HG.out]
      rintro e w1 ⟨rfl, hB1⟩
      have x1 := x0.trans (hB1.mono x0.size)
      go_wp2_with fail
      refine (awake_any w1).mono ?_
      rintro e w2 ⟨rfl, hB2⟩
      go_wp2
      go_ret
      exact ⟨rfl, x1.trans (hB2.mono x1.size)⟩
    · have k1 : decide ((300 : Int) < (s.size : Int)) = false := decide_eq_false (by omega)
      have CP := hidI (fun w h hm => gPrint_any G p c w h (by omega) hm)
      have CS := hidI (fun w hm => gParse_any s w hs hm)
      have LP := hidI (parA_ln s.data.toList)
      have HBK : Hid ((parA s.data.toList).2 = 0 → prA (parA s.data.toList).1 = (s, 0) ∧ chkG (parA s.data.toList).1 = 0) := fun h => by
        obtain ⟨h1, h2⟩ := par_back h
        refine ⟨?_, h2⟩
        rw [prA_ok h2, h1]
      have HEM : Hid ((parA s.data.toList).2 ≠ 0 → (parA s.data.toList).1 = gr0) := fun h => par_empty h
      obtain ⟨R1, R2, hR12⟩ : ∃ R1 R2, parA s.data.toList = (R1, R2) := ⟨_, _, rfl⟩
      rw [hR12] at CS LP HBK HEM
      clear hR12
      have CS : Hid (∀ w, LM w → Calls Tryd.prog 7 #[.string s] w (RetGr R1 R2 w)) := CS
      have LP : Hid (R1.es.length ≤ 1024) := LP
      have HBK : Hid (R2 = 0 → prA R1 = (s, 0) ∧ chkG R1 = 0) := HBK
      have HEM : Hid (R2 ≠ 0 → R1 = gr0) := HEM
      have CT : Hid (chkG G = 0 → ∀ w, LM w → Calls Tryd.prog 7 #[.string ⟨(txtN G).toArray⟩] w (RetGr G 0 w)) := fun hc w hm => by
        have hv := chkG_ok.1 hc
        have hlen := txtN_len hv
        have e : (⟨(txtN G).toArray⟩ : ByteArray).size = (txtN G).length := by show (List.toArray _).size = _; simp
        have := gParse_any ⟨(txtN G).toArray⟩ w (by rw [e]; omega) hm
        rw [show (⟨(txtN G).toArray⟩ : ByteArray).data.toList = txtN G from by simp, par_txt hv (by omega)] at this
        exact this
      go_enter Tryd.func3, Tryd.ntmps3
      go_wp2_with fail
      refine (rGreat_any G p c _ hl).mono ?_
      rw [HG.out]
      rintro e w1 ⟨rfl, hB1⟩
      have b1 := b0.below hB1 b0.lt
      have x1 := x0.trans (hB1.mono x0.size)
      clear hB1 b0 x0
      have f0 := b1.at 0 rfl; have f1 := b1.at 1 rfl; have f2 := b1.at 2 rfl
      go_wp2_with fail
      refine (CP.out w1 (HIN.out.below x1) (HM.out.below x1)).mono ?_
      by_cases hc : chkG G = 0
      · have HC := hidI (CT.out hc)
        rw [prA_ok hc]
        have HCC := hidI hc
        clear hc
        rintro e w2 ⟨rfl, hB2⟩
        have b2 := b1.below hB2 b1.lt
        have x2 := x1.trans (hB2.mono x1.size)
        clear hB2 b1 x1 f0 f1 f2
        go_wp2_with fail
        refine (HC.out w2 (HM.out.below x2)).mono ?_
        rintro e v3 ⟨p3, c3, rfl, s3, _, hB3⟩
        have hA3 : RowKit.Below w2.heap.size w2 (v3.alloc (.cells #[.int .i64 G.q, .int .i64 G.n, .slice p3 G.es.length c3] 24)) := hB3.alloc hB3.size _
        have b3 := b2.below hA3 b2.lt
        have x3 := x2.trans (hA3.mono x2.size)
        have r3 : VRow (v3.alloc (.cells #[.int .i64 G.q, .int .i64 G.n, .slice p3 G.es.length c3] 24)) v3.heap.size 24 [.int .i64 G.q, .int .i64 G.n, .slice p3 G.es.length c3] := VRow.new v3 _ _
        have s3' := s3.below ((RowKit.Below.refl _ v3).alloc (Nat.le_refl _) (.cells #[.int .i64 G.q, .int .i64 G.n, .slice p3 G.es.length c3] 24))
        clear s3 hA3 hB3 b2 x2
        go_upto_region 6 with fail
        generalize v3.alloc (.cells #[.int .i64 G.q, .int .i64 G.n, .slice p3 G.es.length c3] 24) = w3 at *
        generalize v3.heap.size = B3 at *
        have f0 := b3.at 0 rfl; have f1 := b3.at 1 rfl; have f2 := b3.at 2 rfl
        have g0 := r3.at 0 rfl; have g1 := r3.at 1 rfl; have g2 := r3.at 2 rfl
        go_wp2_with fail
        refine (gSame_s G G p3 p c3 c true w3 (sameG_refl _) s3' (HIN.out.below x3) (by omega) (by omega)).mono ?_
        rintro e w5 ⟨rfl, hB5⟩
        have x5 := x3.trans (hB5.mono x3.size)
        clear f0 f1 f2 g0 g1 g2 b3 r3 s3' x3 hB5
        go_wp2_with fail
        refine (CS.out w5 (HM.out.below x5)).mono ?_
        rintro e v6 ⟨p6, c6, rfl, s6, _, hB6⟩
        have hA6 : RowKit.Below w5.heap.size w5 (v6.alloc (.cells #[.int .i64 R1.q, .int .i64 R1.n, .slice p6 R1.es.length c6] 24)) := hB6.alloc hB6.size _
        have x6 := x5.trans (hA6.mono x5.size)
        have r6 : VRow (v6.alloc (.cells #[.int .i64 R1.q, .int .i64 R1.n, .slice p6 R1.es.length c6] 24)) v6.heap.size 24 [.int .i64 R1.q, .int .i64 R1.n, .slice p6 R1.es.length c6] := VRow.new v6 _ _
        have s6' := s6.below ((RowKit.Below.refl _ v6).alloc (Nat.le_refl _) (.cells #[.int .i64 R1.q, .int .i64 R1.n, .slice p6 R1.es.length c6] 24))
        clear s6 hA6 hB6
        go_upto_region 9 with fail
        generalize v6.alloc (.cells #[.int .i64 R1.q, .int .i64 R1.n, .slice p6 R1.es.length c6] 24) = w6 at *
        generalize v6.heap.size = B6 at *
        have f0 := r6.at 0 rfl; have f1 := r6.at 1 rfl; have f2 := r6.at 2 rfl
        have hlp := LP.out
        by_cases hR : R2 = 0
        · have HB := hidI (HBK.out hR)
          have hb1 : (R2 == 0) = true := by simpa using hR
          have hb2 : (R2 != 0) = false := by simp [hR]
          clear hR
          go_wp2_with fail
          refine (gPrint_any R1 p6 c6 w6 s6' (by omega) (HM.out.below x6)).mono ?_
          rw [HB.out.1]
          rintro e w7 ⟨rfl, hB7⟩
          have x7 := x6.trans (hB7.mono x6.size)
          have r7 := r6.below hB7 r6.lt
          have s7 := s6'.below hB7
          clear f0 f1 f2 r6 s6' hB7 x6
          have f0 := r7.at 0 rfl; have f1 := r7.at 1 rfl; have f2 := r7.at 2 rfl
          go_wp2_with fail
          refine (gCheck_r R1 p6 c6 w7 0 HB.out.2 s7 (by omega)).mono ?_
          rintro e w8 ⟨rfl, hB8⟩
          have x8 := x7.trans (hB8.mono x7.size)
          clear f0 f1 f2
          go_wp2_with fail
          refine (awake_any w8).mono ?_
          rintro e w9 ⟨rfl, hB9⟩
          go_wp2
          go_ret
          exact ⟨rfl, x8.trans (hB9.mono x8.size)⟩
        · have hE := HEM.out hR
          subst hE
          have hb1 : (R2 == 0) = false := by simpa using hR
          have hb2 : (R2 != 0) = true := by simpa using hR
          clear hR
          have e0 : w6.cell? ⟨B6, 0, none⟩ = some (.int .i64 0) := f0
          have e1 : w6.cell? ⟨B6, 1, none⟩ = some (.int .i64 0) := f1
          have e2 : w6.cell? ⟨B6, 2, none⟩ = some (.slice p6 0 c6) := f2
          have HS := hidI (gSame_s gr0 gr0 p6 none c6 0 true w6 (sameG_refl _) s6' (Sg.nil _ _ _ _) (Nat.zero_le _) (Nat.zero_le _))
          have HS2 : Hid (Calls Tryd.prog 8 #[.agg #[.int .i64 0, .int .i64 0, .slice p6 0 c6], .agg #[.int .i64 0, .int .i64 0, .slice none 0 0]] w6 fun e w' => e = .returned (.bool true) ∧ RowKit.Below w6.heap.size w6 w') := HS.out
          clear f0 f1 f2 HS
          go_wp2_with fail
          refine HS2.out.mono ?_
          rintro e w7 ⟨rfl, hB7⟩
          have x7 := x6.trans (hB7.mono x6.size)
          clear e0 e1 e2
          go_wp2_with fail
          refine (awake_any w7).mono ?_
          rintro e w9 ⟨rfl, hB9⟩
          go_wp2
          go_ret
          exact ⟨rfl, x7.trans (hB9.mono x7.size)⟩
      · rw [prA_bad hc]
        clear hc
        rintro e w2 ⟨rfl, hB2⟩
        have x2 := x1.trans (hB2.mono x1.size)
        clear hB2 b1 x1 f0 f1 f2
        go_wp2_with fail
        refine (CS.out w2 (HM.out.below x2)).mono ?_
        rintro e v6 ⟨p6, c6, rfl, s6, _, hB6⟩
        have hA6 : RowKit.Below w2.heap.size w2 (v6.alloc (.cells #[.int .i64 R1.q, .int .i64 R1.n, .slice p6 R1.es.length c6] 24)) := hB6.alloc hB6.size _
        have x6 := x2.trans (hA6.mono x2.size)
        have r6 : VRow (v6.alloc (.cells #[.int .i64 R1.q, .int .i64 R1.n, .slice p6 R1.es.length c6] 24)) v6.heap.size 24 [.int .i64 R1.q, .int .i64 R1.n, .slice p6 R1.es.length c6] := VRow.new v6 _ _
        have s6' := s6.below ((RowKit.Below.refl _ v6).alloc (Nat.le_refl _) (.cells #[.int .i64 R1.q, .int .i64 R1.n, .slice p6 R1.es.length c6] 24))
        clear s6 hA6 hB6
        go_upto_region 9 with fail
        generalize v6.alloc (.cells #[.int .i64 R1.q, .int .i64 R1.n, .slice p6 R1.es.length c6] 24) = w6 at *
        generalize v6.heap.size = B6 at *
        have f0 := r6.at 0 rfl; have f1 := r6.at 1 rfl; have f2 := r6.at 2 rfl
        have hlp := LP.out
        by_cases hR : R2 = 0
        · have HB := hidI (HBK.out hR)
          have hb1 : (R2 == 0) = true := by simpa using hR
          have hb2 : (R2 != 0) = false := by simp [hR]
          clear hR
          go_wp2_with fail
          refine (gPrint_any R1 p6 c6 w6 s6' (by omega) (HM.out.below x6)).mono ?_
          rw [HB.out.1]
          rintro e w7 ⟨rfl, hB7⟩
          have x7 := x6.trans (hB7.mono x6.size)
          have r7 := r6.below hB7 r6.lt
          have s7 := s6'.below hB7
          clear f0 f1 f2 r6 s6' hB7 x6
          have f0 := r7.at 0 rfl; have f1 := r7.at 1 rfl; have f2 := r7.at 2 rfl
          go_wp2_with fail
          refine (gCheck_r R1 p6 c6 w7 0 HB.out.2 s7 (by omega)).mono ?_
          rintro e w8 ⟨rfl, hB8⟩
          have x8 := x7.trans (hB8.mono x7.size)
          clear f0 f1 f2
          go_wp2_with fail
          refine (awake_any w8).mono ?_
          rintro e w9 ⟨rfl, hB9⟩
          go_wp2
          go_ret
          exact ⟨rfl, x8.trans (hB9.mono x8.size)⟩
        · have hE := HEM.out hR
          subst hE
          have hb1 : (R2 == 0) = false := by simpa using hR
          have hb2 : (R2 != 0) = true := by simpa using hR
          clear hR
          have e0 : w6.cell? ⟨B6, 0, none⟩ = some (.int .i64 0) := f0
          have e1 : w6.cell? ⟨B6, 1, none⟩ = some (.int .i64 0) := f1
          have e2 : w6.cell? ⟨B6, 2, none⟩ = some (.slice p6 0 c6) := f2
          have HS := hidI (gSame_s gr0 gr0 p6 none c6 0 true w6 (sameG_refl _) s6' (Sg.nil _ _ _ _) (Nat.zero_le _) (Nat.zero_le _))
          have HS2 : Hid (Calls Tryd.prog 8 #[.agg #[.int .i64 0, .int .i64 0, .slice p6 0 c6], .agg #[.int .i64 0, .int .i64 0, .slice none 0 0]] w6 fun e w' => e = .returned (.bool true) ∧ RowKit.Below w6.heap.size w6 w') := HS.out
          clear f0 f1 f2 HS
          go_wp2_with fail
          refine HS2.out.mono ?_
          rintro e w7 ⟨rfl, hB7⟩
          have x7 := x6.trans (hB7.mono x6.size)
          clear e0 e1 e2
          go_wp2_with fail
          refine (awake_any w7).mono ?_
          rintro e w9 ⟨rfl, hB9⟩
          go_wp2
          go_ret
          exact ⟨rfl, x7.trans (hB9.mono x7.size)⟩
  · have HG := hidI hg
    clear hg
    go_enter Tryd.func3, Tryd.ntmps3
    go_wp2_with fail
    refine (rGreat_any G p c _ hl).mono ?_
    rw [HG.out]
    rintro e w1 ⟨rfl, hB1⟩
    have x1 := x0.trans (hB1.mono x0.size)
    go_wp2_with fail
    refine (awake_any w1).mono ?_
    rintro e w2 ⟨rfl, hB2⟩
    go_wp2
    go_ret
    exact ⟨rfl, x1.trans (hB2.mono x1.size)⟩
end Go.Proofs.YtcfmpplhghkagaaDoor
namespace Go.Proofs.YtcfmpplhghkagaaDoor
open Go.Joins Go.ChangeShapes Go.WideShapes Go.ChangeAt Go.RowKit Go.Deep
open Go.ChangeMaps (open_string shut_string)

theorem readStringG : Tryd.prog.readableRec 9 = true ∧ 9 < Tryd.prog.types.size := ⟨by kernel_rfl, of_decide_eq_true (by kernel_rfl)⟩
set_option maxRecDepth 100000 in
theorem lm_in {W : World} (h : laidMetH Tryd.prog Rows.graphRoundTripRow.laid W) (hsh : W.ShapedOpen Tryd.prog) : LM W := by
  rw [MakeChecks.laidMetH_plain _ _ _ (by kernel_rfl)] at h
  exact lm_of h hsh (.tail _ (.tail _ (.head _))) (.tail _ (.tail _ (.tail _ (.tail _ (.tail _ (.head _)))))) (.tail _ (.tail _ (.tail _ (.tail _ (.head _)))))
set_option maxRecDepth 100000 in
theorem graphRoundTrip_lifted (os : Os) (started : os.Started) (H : Type) (enc : TypeId × Value → H) :
    ReturnsInHanded {} Tryd.checked os 3 .any (fun w args => (Rows.graphRoundTripSpec.pre enc Tryd.prog Tryd.f3 [] false w args ∧ laidMetH Tryd.prog Rows.graphRoundTripRow.laid w) ∧ sizedMet enc Tryd.prog Tryd.f3 (OpenSpec.ofChange Rows.graphRoundTripSpec) false w args)
      (Rows.graphRoundTripSpec.post enc Tryd.prog Tryd.f3 false true false false) := by
  refine handed_and_shaped (C := Tryd.checked) (X := fun w _ => laidMetH Tryd.prog Rows.graphRoundTripRow.laid w) (fun _ _ _ hh h => h.of_heap hh) own started (by kernel_rfl) Tryd.func3
    (ChangeSpec.witness_shaped (enc := enc) (C := Tryd.checked) (os := os) (X := fun w _ => laidMetH Tryd.prog Rows.graphRoundTripRow.laid w) false (World.laidAll Tryd.prog os Rows.graphRoundTripRow.laid) #[.agg #[.int .i64 0, .int .i64 0, .slice none 0 0], .string ⟨#[]⟩] 8 (World.laidAll_os _ _ _)
      (World.shaped_of_ZipB (by kernel_rfl) (by kernel_rfl)) (by kernel_rfl) (by kernel_rfl) (by kernel_rfl)
      (by rw [MakeChecks.laidMetH_plain _ _ _ (by kernel_rfl)]; exact laidMet_laidAll _ (by kernel_rfl) (by kernel_rfl))) ?_
  intro W base args ds gs before hval0 hW hL hsh
  have hval : ∀ (j : Nat) t v, Tryd.f3.params[j]? = some t → args[j]? = some v → Value.okWide Tryd.prog W .any base t v := hval0
  have hW' := hW
  obtain ⟨p, q, hA0, hV, rfl, hfz, hnd⟩ := hW
  have hA : DataW.TrodAll enc Tryd.prog W 0 (fun _ => true) true Tryd.f3.params.toList args.toList ds p := hA0
  rw [Tryd.params3] at hA hval
  obtain ⟨v0, v1, d0, d1, p0, p1, rfl, rfl, rfl, h0, h1⟩ := trodAll_two hA
  obtain ⟨rfl, rfl⟩ := trodVars_none hV
  have hlt : ∀ x ∈ p0 ++ p1, x.block < W.heap.size := fun x hx => hW'.lt x (List.mem_append_left _ (by simpa using hx))
  obtain ⟨A, q1, c1, rfl, sA, lA⟩ := graph_in (hval 0 24 v0 rfl rfl) h0 (fun x hx => hlt x (List.mem_append_left _ hx))
  obtain ⟨s, rfl, rfl, rfl, ws⟩ := open_string Tryd.underlying9 (hval 1 9 v1 rfl rfl) h1
  refine (lawGRound_any A q1 c1 s W sA lA ws (lm_in hL hsh)).mono fun e W' ⟨he, hB⟩ => ?_
  subst he
  refine ⟨_, rfl, law_post hW' rfl (by kernel_rfl) ?_ rfl rfl rfl hB⟩
  rw [Tryd.params3]
  intro t ht
  simp only [List.mem_cons, List.not_mem_nil, or_false] at ht
  rcases ht with rfl | rfl
  · exact readGraph
  · exact readStringG

theorem graphRoundTrip_holds : Rows.GraphRoundTripSaid :=
  OpenClaim.holds_of_wide 3 Tryd.f3 rfl rfl rfl rfl rfl rfl rfl ⟨rfl, rfl, rfl, rfl, rfl⟩ rfl rfl rfl rfl rfl (by kernel_rfl) Tryd.func3 (by kernel_rfl)
    (of_decide_eq_true (by kernel_rfl)) (by unfold Func.isWrapper; rw [if_neg (of_decide_eq_false (by kernel_rfl))]; exact ⟨rfl, rfl⟩)
    (fun os started H enc _ => graphRoundTrip_lifted os started H enc)

theorem graphRoundTrip_card : Rows.GraphRoundTripCardSaid :=
  Claim7.holds_tied_plain_at .later [] [.data, .data, .data, .data, .sentinel, .sentinel, .pinned] true _ true
    graphRoundTrip_holds (fun _ h => by cases h) (by kernel_rfl) (fun _ h => by cases h) graphRoundTrip_row_tie rfl ⟨rfl, rfl⟩ (by kernel_rfl) rfl
    (fun f fn hf hfn => by
      obtain rfl : f = 3 := Option.some.inj ((show Tryd.prog.funcNamed "groove/groovelaw09.GraphRoundTrip" = some 3 by kernel_rfl).symm.trans hf) |>.symm
      obtain rfl : fn = Tryd.f3 := (Option.some.inj (Tryd.func3.symm.trans hfn)).symm
      exact ⟨by kernel_rfl, fun j t ht => by
        rw [Tryd.params3] at ht
        rcases j with _ | _ | j
        · obtain rfl : t = 24 := by simpa using ht.symm
          exact (show Tryd.prog.wantsStandIn 24 = false by kernel_rfl)
        · obtain rfl : t = 9 := by simpa using ht.symm
          exact (show Tryd.prog.wantsStandIn 9 = false by kernel_rfl)
        · simp at ht⟩)
    (by kernel_rfl)
#print axioms graphRoundTrip_card
end Go.Proofs.YtcfmpplhghkagaaDoor
