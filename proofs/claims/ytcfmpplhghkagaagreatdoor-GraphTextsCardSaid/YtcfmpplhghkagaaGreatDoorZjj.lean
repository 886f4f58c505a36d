/-
  GraphTexts: for every graph and every string the law returns true, and its arguments read as they did; the variables of the library that its row lists are tied to the program's text.
-/
import Derived.Test.YtcfmpplhghkagaaGreatDoorZji
import Derived.Test.YtcfmpplhghkagaaGreatDoorZjh
import Derived.Deep.AppendLies
import Derived.Deep.CutBlock
import Derived.Test.YtcfmpplhghkagaaGreatDoorZjf
import Derived.Test.YtcfmpplhghkagaaGreatDoorZjg
import Derived.Lay
import Derived.Stop.Joined
import Derived.Carry
set_option linter.unusedVariables false
set_option linter.unusedSimpArgs false
namespace Go.Proofs.YtcfmpplhghkagaaGreatDoor
open Go.RowKit Go.Sort Go.Shelf Go.Lib

theorem suf_one {s : List UInt8} (h : Lib.hasSuffix s [10] = true) : s = Lib.trimSuffix s [10] ++ [10] := by
  unfold Lib.trimSuffix
  rw [if_pos h]
  unfold Lib.hasSuffix at h
  obtain ⟨b, rfl⟩ := List.isSuffixOf_iff_suffix.1 h
  simp
theorem suf_no {s : List UInt8} (h : Lib.hasSuffix s [10] = false) : ∀ b, s ≠ b ++ [10] := by
  rintro b rfl
  unfold Lib.hasSuffix at h
  rw [List.isSuffixOf_iff_suffix.2 ⟨b, rfl⟩] at h
  cases h
theorem pre_yes {s : List UInt8} (h : Lib.hasPrefix s graphT = true) : s = graphT ++ Lib.trimPrefix s graphT := by
  unfold Lib.trimPrefix
  rw [if_pos h]
  unfold Lib.hasPrefix at h
  obtain ⟨b, rfl⟩ := List.isPrefixOf_iff_prefix.1 h
  simp
theorem pre_no {s : List UInt8} (h : Lib.hasPrefix s graphT = false) : ∀ r, s ≠ graphT ++ r := by
  rintro r rfl
  unfold Lib.hasPrefix at h
  rw [List.isPrefixOf_iff_prefix.2 ⟨r, rfl⟩] at h
  cases h
theorem two_of {l : List Nat} (h : l.length = 2) : ∃ a b, l = [a, b] := by
  match l, h with
  | [a, b], _ => exact ⟨a, b, rfl⟩
theorem three_of {l : List Nat} (h : l.length = 3) : ∃ a b c, l = [a, b, c] := by
  match l, h with
  | [a, b, c], _ => exact ⟨a, b, c, rfl⟩
theorem sizeOfStr (w : World) : (sizeOf 9).run Tryz.prog w = .ok 1 w := by simp [go_sem]
theorem run_tail1 (b n : Nat) (h1 : 1 ≤ n) (W : World) : (Instr.slice 58 (.slice (some ⟨b, 0, none⟩) n n) (some (.int .i64 1)) none none).run Tryz.prog W = .ok (.slice (some ⟨b, (if n = 1 then 0 else 1), none⟩) (n - 1) (n - 1)) W := by
  have he : Tryz.prog.elem 58 = 9 := by kernel_rfl
  rw [run_slice_l (t := 58) (len := n) (cap := n) (ht := by rw [he]; exact Tryz.underlying58) (kl := .i64) (l := 1) (h0 := by omega) (h1 := by omega), he, sizeOfStr]
  by_cases h : n = 1
  · subst h; rfl
  · simp [Result.andThen, sliced, h, Addr.add]
/-- What stands in memory while a graph is read. -/
structure PaN (w w1 : World) (bg : Nat) (q n : Int) (l : List Ed) (vg v : Value) (wr : World) : Prop where
  z : VRow wr w.heap.size 24 [.int .i64 0, .int .i64 0, .slice none 0 0]
  g : VRow wr bg 24 [.int .i64 q, .int .i64 n, vg]
  o : wr.ownsRow (bg + 1) 44 3 v l.length (cat l)
  b : RowKit.Below w.heap.size w wr
  b1 : RowKit.Below w1.heap.size w1 wr
  h : w1.heap.size ≤ bg
  h0 : w.heap.size < w1.heap.size
  s : bg + 1 ≤ wr.heap.size
theorem PaN.below {w w1 : World} {bg : Nat} {q n : Int} {l : List Ed} {vg v : Value} {wr w' : World} (h : PaN w w1 bg q n l vg v wr) (hB : RowKit.Below wr.heap.size wr w') : PaN w w1 bg q n l vg v w' :=
  ⟨h.z.below hB h.z.lt, h.g.below hB h.g.lt, h.o.below hB, h.b.trans (hB.mono h.b.size), h.b1.trans (hB.mono h.b1.size), h.h, h.h0, Nat.le_trans h.s hB.size⟩
theorem PaN.grown {w w1 : World} {bg : Nat} {q n : Int} {l l' : List Ed} {vg v v' : Value} {wr w' : World} (h : PaN w w1 bg q n l vg v wr) (hg : wr.grownBy w' v.ownBlock) (ho : w'.ownsRow (bg + 1) 44 3 v' l'.length (cat l')) : PaN w w1 bg q n l' vg v' w' := by
  have hh := h.h; have hh0 := h.h0
  have hne : ∀ j, v.ownBlock = some j → bg + 1 ≤ j := fun j e => (h.o.lt j e).1
  exact ⟨h.z.grown hg (fun e => by have := hne _ e.symm; omega), h.g.grown hg (fun e => by have := hne _ e.symm; omega), ho,
    h.b.grown hg h.b.size (fun j e => by have := hne _ e; omega), h.b1.grown hg h.b1.size (fun j e => by have := hne _ e; omega), h.h, h.h0, Nat.le_trans h.s hg.size⟩
theorem PaN.store {w w1 : World} {bg : Nat} {q n : Int} {l : List Ed} {vg v : Value} {wr : World} (h : PaN w w1 bg q n l vg v wr) : PaN w w1 bg q n l v v (wr.setCell ⟨bg, 2, none⟩ v) := by
  have hh := h.h; have hh0 := h.h0
  exact ⟨VRow.other (i := 2) v h.z (C := bg) (by omega), VRow.set (i := 2) v h.g, ownsRow_setCell_below (a := (⟨bg, 2, none⟩ : Addr)) h.o (show bg < bg + 1 by omega) _,
    h.b.setCell (p := ⟨bg, 2, none⟩) (show w.heap.size ≤ bg by omega) _, h.b1.setCell (p := ⟨bg, 2, none⟩) (show w1.heap.size ≤ bg by omega) _, h.h, h.h0, by rw [World.size_setCell]; exact h.s⟩
/-- What the region that appends an edge has done. -/
structure SE (w w1 wx : World) (bg : Nat) (q n : Int) (l : List Ed) (x : Ed) (v : Value) (d12 d13 d15 : Bool) (f86 : Option Value) (W : World) : Prop where
  p : d13 = false → RowKit.Below wx.heap.size wx W ∧ (d12 = false → W.heap.size = wx.heap.size) ∧ (d12 = true → VRow W wx.heap.size 44 (edE x) ∧ W.heap.size = wx.heap.size + 1)
  m : d13 = true → ∃ p m c, f86 = some (.slice p m c) ∧ PaN w w1 bg q n (l ++ [x]) (if d15 then .slice p m c else v) (.slice p m c) W
theorem SE.alloc {w w1 wx : World} {bg : Nat} {q n : Int} {l : List Ed} {x : Ed} {v : Value} {d12 d13 d15 : Bool} {f86 : Option Value} {W : World} (h : SE w w1 wx bg q n l x v d12 d13 d15 f86 W) (h12 : d12 = false) (h13 : d13 = false) :
    SE w w1 wx bg q n l x v true d13 d15 f86 (W.alloc (.cells (edE x).toArray 44)) := by
  obtain ⟨hB, hs, _⟩ := h.p h13
  have hs := hs h12
  refine ⟨fun _ => ⟨hB.alloc (by rw [hs]; exact Nat.le_refl _) _, (fun e => by cases e), fun _ => ⟨?_, by rw [World.size_alloc, hs]⟩⟩, fun e => by rw [h13] at e; cases e⟩
  have := VRow.new W 44 (edE x)
  rw [hs] at this
  exact this
/-- What the region that makes the graph has done. -/
structure SJ (w2 : World) (q n : Int) (d7 d8 : Bool) (W : World) : Prop where
  b : RowKit.Below w2.heap.size w2 W
  a : d7 = false → W.heap.size = w2.heap.size
  m : d7 = true → d8 = false → VRow W w2.heap.size 24 [.int .i64 0, .int .i64 0, .slice none 0 0] ∧ W.heap.size = w2.heap.size + 1
  e : d7 = true → d8 = true → VRow W w2.heap.size 24 [.int .i64 q, .int .i64 n, .slice none 0 0] ∧ W.heap.size = w2.heap.size + 1

theorem SJ.alloc {w2 W : World} {q n : Int} {d8 : Bool} (h : SJ w2 q n false d8 W) (h8 : d8 = false) : SJ w2 q n true d8 (W.alloc (.cells #[.int .i64 0, .int .i64 0, .slice none 0 0] 24)) := by
  have hs := h.a rfl
  subst h8
  refine ⟨h.b.alloc (by rw [hs]; exact Nat.le_refl _) _, (fun e => by cases e), fun _ _ => ⟨?_, by rw [World.size_alloc, hs]⟩, (fun _ e => by cases e)⟩
  have := VRow.new W 24 [.int .i64 0, .int .i64 0, .slice none 0 0]
  rw [hs] at this
  exact this
theorem news_row {W : World} {b tt : Nat} {x : Ed} (h : VRow W b tt (edE x)) : ∀ (j : Nat) (u : Value), (cat [x])[j]? = some u → W.cell? ((⟨b, 0, none⟩ : Addr).add j) = some u := by
  intro j u hu
  have := h.at j (v := u) (by simpa [cat] using hu)
  cases j <;> simpa [Addr.add] using this
theorem SE.app {w w1 wx : World} {bg : Nat} {q n : Int} {l : List Ed} {x : Ed} {v : Value} {d12 d15 : Bool} {p : Option Addr} {m c : Nat} {W : World} (hP : PaN w w1 bg q n (l ++ [x]) v (.slice p m c) W) (h15 : d15 = false) : SE w w1 wx bg q n l x v d12 true d15 (some (.slice p m c)) W :=
  ⟨(fun e => by cases e), fun _ => ⟨p, m, c, rfl, by subst h15; exact hP⟩⟩
theorem SE.fin {w w1 wx : World} {bg : Nat} {q n : Int} {l : List Ed} {x : Ed} {v : Value} {d12 d13 : Bool} {f : Option Value} {p : Option Addr} {m c : Nat} {W : World} (hP : PaN w w1 bg q n (l ++ [x]) v (.slice p m c) W) (h13 : d13 = true) (hf : f = some (.slice p m c)) : SE w w1 wx bg q n l x v d12 d13 true f (W.setCell ⟨bg, 2, none⟩ (.slice p m c)) := by
  subst h13; subst hf
  exact ⟨(fun e => by cases e), fun _ => ⟨p, m, c, rfl, hP.store⟩⟩
theorem SJ.store {w2 W : World} {q n : Int} {d8 : Bool} (h : SJ w2 q n true d8 W) (h8 : d8 = false) : SJ w2 q n true true (((W.setCell ⟨w2.heap.size, 0, none⟩ (.int .i64 q)).setCell ⟨w2.heap.size, 1, none⟩ (.int .i64 n)).setCell ⟨w2.heap.size, 2, none⟩ (.slice none 0 0)) := by
  obtain ⟨hv, hs⟩ := h.m rfl h8
  refine ⟨((h.b.setCell (Nat.le_refl _) _).setCell (Nat.le_refl _) _).setCell (Nat.le_refl _) _, (fun e => by cases e), (fun _ e => by cases e), fun _ _ => ⟨?_, by rw [World.size_setCell, World.size_setCell, World.size_setCell, hs]⟩⟩
  exact VRow.set (i := 2) (.slice none 0 0) (VRow.set (i := 1) (.int .i64 n) (VRow.set (i := 0) (.int .i64 q) hv))
set_option maxRecDepth 100000 in
set_option maxHeartbeats 2000000 in
theorem gParse_any (s : ByteArray) (w : World) (hs : s.size ≤ 9223372036854775807) (hm : LM w) :
    Calls Tryz.prog 12 #[.string s] w (RetGr (parA s.data.toList).1 (parA s.data.toList).2 w) := by
  obtain ⟨i0, hi0, hz0, hz1, hz2⟩ := info_parts infoE
  have hsl : s.data.toList.length = s.size := by simp
  have HSL := hidI hsl
  clear hsl
  obtain ⟨R, hR⟩ : ∃ R, parA s.data.toList = R := ⟨_, rfl⟩
  have HR := hidI hR
  rw [hR]
  clear hR
  have HM := hidI hm
  clear hm
  by_cases hlong : 65536 < s.size
  · have HK : Hid (R = (gr0, 4)) := HR.out.symm.trans (parA_long (by rw [HSL.out]; exact hlong))
    have hb : decide ((65536 : Int) < (s.size : Int)) = true := decide_eq_true (by omega)
    have b0 : VRow (w.alloc (.cells #[.int .i64 0, .int .i64 0, .slice none 0 0] 24)) w.heap.size 24 [.int .i64 0, .int .i64 0, .slice none 0 0] := VRow.new w _ _
    have y0 := b0.at 0 rfl; have y1 := b0.at 1 rfl; have y2 := b0.at 2 rfl
    have z0 := b0.frozen 0; have z1 := b0.frozen 1; have z2 := b0.frozen 2
    go_enter Tryz.func12, Tryz.ntmps12
    go_wp2
    refine bodyPost_ret (v := .tuple #[.agg #[.int .i64 0, .int .i64 0, .slice none 0 0], .int .i64 4]) (by simp [results, Tryz.results12, go_sem, y0, y1, y2]) rfl ?_
    exact RetGr.of0 HK.out ((RowKit.Below.refl _ _).alloc (Nat.le_refl _) _)
  · have hb : decide ((65536 : Int) < (s.size : Int)) = false := decide_eq_false (by omega)
    have HS6 : Hid (s.data.toList.length ≤ 65536) := by unfold Hid; rw [HSL.out]; omega
    obtain ⟨wA, hwA⟩ : ∃ wA, wA = w.alloc (.cells #[.int .i64 0, .int .i64 0, .slice none 0 0] 24) := ⟨_, rfl⟩
    have bA : VRow wA w.heap.size 24 [.int .i64 0, .int .i64 0, .slice none 0 0] := by subst hwA; exact VRow.new w _ _
    have hBA : RowKit.Below w.heap.size w wA := by subst hwA; exact (RowKit.Below.refl _ _).alloc (Nat.le_refl _) _
    have HMA := hidI (HM.out.below hBA)
    have HCS := hidI (Tryz.strings_CutSuffix s ⟨#[10]⟩ wA (by omega))
    obtain ⟨T, hT⟩ : ∃ T : ByteArray, (⟨(Lib.trimSuffix s.data.toList [10]).toArray⟩ : ByteArray) = T := ⟨_, rfl⟩
    obtain ⟨e1, he1⟩ : ∃ e1, Lib.hasSuffix s.data.toList [10] = e1 := ⟨_, rfl⟩
    have HT : Hid (T.data.toList = Lib.trimSuffix s.data.toList [10]) := by rw [← hT]; rfl
    have hTz : T.size ≤ 65536 := by
      have e : T.data.toList.length = T.size := by simp
      have := Lib.trimSuffix_le s.data.toList [10]
      rw [← HT.out] at this
      have := HS6.out
      omega
    have HCS2 : Hid (Calls Tryz.prog 36 #[.string s, .string ⟨#[10]⟩] wA fun e w' => e = .returned (.tuple #[.string T, .bool e1]) ∧ w' = wA) := by
      have := HCS.out
      rw [show (⟨#[10]⟩ : ByteArray).data.toList = [10] from rfl, hT, he1] at this
      exact this
    have HE1 := hidI he1
    clear he1 hT HCS
    go_enter Tryz.func12, Tryz.ntmps12
    go_wp2_with fail
    rw [← hwA]
    clear hwA
    refine HCS2.out.mono ?_
    rintro e wB ⟨rfl, hwB⟩
    have hwB := hwB.symm
    subst hwB
    go_wp2_with fail
    refine (split_any 10 T wA (by omega) HMA.out).mono ?_
    rintro e w1 ⟨ls, hls, rfl, hsl, hB1⟩
    have HLS := hidI hls
    have HSLs := hidI hsl
    have b1 := bA.below hB1 bA.lt
    have x1 := hBA.trans (hB1.mono hBA.size)
    have hz1' : w.heap.size < w1.heap.size := b1.lt
    have HLN : Hid (0 < ls.length) := by
      unfold Hid
      have h1 := congrArg List.length hls
      rw [List.length_map] at h1
      rw [h1, spl_len]; omega
    have hlen : ls.length ≤ 65537 := by
      have h1 := congrArg List.length hls
      rw [List.length_map] at h1
      have h2 := spl_len_le 10 T.data.toList
      have h3 : T.data.toList.length = T.size := by simp
      omega
    have HZ : Hid (∀ i (hi : i < ls.length), ls[i].size ≤ 65536) := fun i hi => by
      have hm : ls[i].data.toList ∈ spl 10 T.data.toList := by rw [← HLS.out]; exact List.mem_map_of_mem (List.getElem_mem hi)
      have h1 := pieces_sum 10 _ _ hm
      have h3 : T.data.toList.length = T.size := by simp
      have h4 : ls[i].data.toList.length = ls[i].size := by simp
      omega
    have HM1 := hidI (HMA.out.below hB1)
    obtain ⟨bL, oL, hpL, hbL, hcL⟩ := hsl.get 0 HLN.out
    cases hpL
    have e0 : w1.cell? ⟨wA.heap.size, 0, none⟩ = some (.string (ls[0]'HLN.out)) := hcL 0 HLN.out
    obtain ⟨l0, hl0⟩ : ∃ l0, ls[0]'HLN.out = l0 := ⟨_, rfl⟩
    rw [hl0] at e0
    have hl0z : l0.size ≤ 65536 := by rw [← hl0]; exact HZ.out 0 HLN.out
    have HL0 := hidI hl0
    have hpos := HLN.out
    obtain ⟨H, hH⟩ : ∃ H : ByteArray, (⟨(Lib.trimPrefix l0.data.toList graphT).toArray⟩ : ByteArray) = H := ⟨_, rfl⟩
    obtain ⟨e2, he2⟩ : ∃ e2, Lib.hasPrefix l0.data.toList graphT = e2 := ⟨_, rfl⟩
    have HH : Hid (H.data.toList = Lib.trimPrefix l0.data.toList graphT) := by rw [← hH]; rfl
    have hHz : H.size ≤ 65536 := by
      have e : H.data.toList.length = H.size := by simp
      have := Lib.trimPrefix_le l0.data.toList graphT
      rw [← HH.out] at this
      have e' : l0.data.toList.length = l0.size := by simp
      omega
    have HCP : Hid (Calls Tryz.prog 38 #[.string l0, .string ⟨#[103, 114, 97, 112, 104, 32]⟩] w1 fun e w' => e = .returned (.tuple #[.string H, .bool e2]) ∧ w' = w1) := by
      have := Tryz.strings_CutPrefix l0 ⟨#[103, 114, 97, 112, 104, 32]⟩ w1
      rw [show (⟨#[103, 114, 97, 112, 104, 32]⟩ : ByteArray).data.toList = graphT from rfl, hH, he2] at this
      exact this
    have HE2 := hidI he2
    obtain ⟨R2, hR2⟩ : ∃ R2, numsP H.data.toList 2 = R2 := ⟨_, rfl⟩
    have HR2 := hidI hR2
    have HTL : Hid (spl 10 T.data.toList = l0.data.toList :: (ls.drop 1).map (·.data.toList)) := by
      unfold Hid
      rw [← HLS.out]
      have e : ls = l0 :: ls.drop 1 := by
        rw [← hl0]
        conv => lhs; rw [← List.drop_zero (l := ls), List.drop_eq_getElem_cons HLN.out]
      conv => lhs; rw [e, List.map_cons]
    have HF : Hid (e1 = false ∨ e2 = false ∨ R2 = none → R = (gr0, 3)) := fun h => by
      refine HR.out.symm.trans (parA_no HS6.out ?_)
      by_cases h1 : e1 = false
      · exact no_end (suf_no (HE1.out.trans h1))
      · have h1t : e1 = true := by simpa using h1
        have hst := suf_one (HE1.out.trans h1t)
        rw [← HT.out] at hst
        rw [hst]
        by_cases h2 : e2 = false
        · exact no_pre HTL.out (pre_no (HE2.out.trans h2))
        · have h2t : e2 = true := by simpa using h2
          have h3 : R2 = none := by
            rcases h with h | h | h
            · exact absurd h h1
            · exact absurd h h2
            · exact h
          have hl := pre_yes (HE2.out.trans h2t)
          rw [← HH.out] at hl
          have hsp := HTL.out
          rw [hl] at hsp
          exact no_nums hsp (HR2.out.trans h3)
    have HOK : Hid (e1 = true → e2 = true → ∀ l2, R2 = some l2 → ∃ q n, l2 = [q, n] ∧ Ln s.data.toList q n [] ((ls.drop 1).map (·.data.toList))) := fun h1t h2t l2 h3 => by
      have hst := suf_one (HE1.out.trans h1t)
      rw [← HT.out] at hst
      have hl := pre_yes (HE2.out.trans h2t)
      rw [← HH.out] at hl
      have hsp := HTL.out
      rw [hl] at hsp
      have hn := HR2.out.trans h3
      obtain ⟨q, n, rfl⟩ := two_of (nums_len hn)
      rw [hst]
      exact ⟨q, n, rfl, ln_start hsp hn⟩
    have HN2 : Hid (Calls Tryz.prog 39 #[.string H, .int .i64 2] w1 (RetNs R2 w1)) := by
      have := gNums_any H 2 w1 (by omega) (by omega) HM1.out
      rw [hR2] at this
      exact this
    clear hls hsl hcL hl0 hB1 bA hBA hH he2 hR2
    go_wp2_with fail
    refine HCP.out.mono ?_
    rintro e wC ⟨rfl, hwC⟩
    have hwC := hwC.symm
    subst hwC
    go_wp2_with fail
    refine HN2.out.mono ?_
    cases R2 with
    | none =>
      rintro e w2 ⟨rfl, hB2⟩
      have HK := hidI (HF.out (.inr (.inr rfl)))
      cases e1 <;> cases e2
      all_goals
        have b2 := b1.below hB2 b1.lt
        have x2 := x1.trans (hB2.mono x1.size)
        have j0 := b2.at 0 rfl; have j1 := b2.at 1 rfl; have j2 := b2.at 2 rfl
        have z0 := b2.frozen 0; have z1 := b2.frozen 1; have z2 := b2.frozen 2
        have HB2 := hidI b2
        have HX6 : Hid (RowKit.Below w.heap.size w (((w2.setCell ⟨w.heap.size, 0, none⟩ (.int .i64 0)).setCell ⟨w.heap.size, 1, none⟩ (.int .i64 0)).setCell ⟨w.heap.size, 2, none⟩ (.slice none 0 0))) := ((x2.setCell (Nat.le_refl _) _).setCell (Nat.le_refl _) _).setCell (Nat.le_refl _) _
        clear e0 b2
        go_wp2
        have r6 := VRow.set (i := 2) (.slice none 0 0) (VRow.set (i := 1) (.int .i64 0) (VRow.set (i := 0) (.int .i64 0) HB2.out))
        have y0 := r6.at 0 rfl; have y1 := r6.at 1 rfl; have y2 := r6.at 2 rfl
        refine bodyPost_ret (v := .tuple #[.agg #[.int .i64 0, .int .i64 0, .slice none 0 0], .int .i64 3]) (by simp [results, Tryz.results12, go_sem, y0, y1, y2]) rfl ?_
        exact RetGr.of0 HK.out HX6.out
    | some l2 =>
      rintro e w2 ⟨p9, c9, rfl, hs9, hc9, hB2⟩
      have HOK2 := hidI (fun h1 h2 => HOK.out h1 h2 l2 rfl)
      clear HOK
      cases e1
      · have HK := hidI (HF.out (.inl rfl))
        cases e2
        all_goals
          have b2 := b1.below hB2 b1.lt
          have x2 := x1.trans (hB2.mono x1.size)
          have j0 := b2.at 0 rfl; have j1 := b2.at 1 rfl; have j2 := b2.at 2 rfl
          have z0 := b2.frozen 0; have z1 := b2.frozen 1; have z2 := b2.frozen 2
          have HB2 := hidI b2
          have HX6 : Hid (RowKit.Below w.heap.size w (((w2.setCell ⟨w.heap.size, 0, none⟩ (.int .i64 0)).setCell ⟨w.heap.size, 1, none⟩ (.int .i64 0)).setCell ⟨w.heap.size, 2, none⟩ (.slice none 0 0))) := ((x2.setCell (Nat.le_refl _) _).setCell (Nat.le_refl _) _).setCell (Nat.le_refl _) _
          clear e0 b2
          go_wp2
          have r6 := VRow.set (i := 2) (.slice none 0 0) (VRow.set (i := 1) (.int .i64 0) (VRow.set (i := 0) (.int .i64 0) HB2.out))
          have y0 := r6.at 0 rfl; have y1 := r6.at 1 rfl; have y2 := r6.at 2 rfl
          refine bodyPost_ret (v := .tuple #[.agg #[.int .i64 0, .int .i64 0, .slice none 0 0], .int .i64 3]) (by simp [results, Tryz.results12, go_sem, y0, y1, y2]) rfl ?_
          exact RetGr.of0 HK.out HX6.out
      cases e2
      · have HK := hidI (HF.out (.inr (.inl rfl)))
        have b2 := b1.below hB2 b1.lt
        have x2 := x1.trans (hB2.mono x1.size)
        have j0 := b2.at 0 rfl; have j1 := b2.at 1 rfl; have j2 := b2.at 2 rfl
        have z0 := b2.frozen 0; have z1 := b2.frozen 1; have z2 := b2.frozen 2
        have HB2 := hidI b2
        have HX6 : Hid (RowKit.Below w.heap.size w (((w2.setCell ⟨w.heap.size, 0, none⟩ (.int .i64 0)).setCell ⟨w.heap.size, 1, none⟩ (.int .i64 0)).setCell ⟨w.heap.size, 2, none⟩ (.slice none 0 0))) := ((x2.setCell (Nat.le_refl _) _).setCell (Nat.le_refl _) _).setCell (Nat.le_refl _) _
        clear e0 b2
        go_wp2
        have r6 := VRow.set (i := 2) (.slice none 0 0) (VRow.set (i := 1) (.int .i64 0) (VRow.set (i := 0) (.int .i64 0) HB2.out))
        have y0 := r6.at 0 rfl; have y1 := r6.at 1 rfl; have y2 := r6.at 2 rfl
        refine bodyPost_ret (v := .tuple #[.agg #[.int .i64 0, .int .i64 0, .slice none 0 0], .int .i64 3]) (by simp [results, Tryz.results12, go_sem, y0, y1, y2]) rfl ?_
        exact RetGr.of0 HK.out HX6.out
      obtain ⟨q, n, rfl, hln⟩ := HOK2.out rfl rfl
      have HLN0 := hidI hln
      clear hln HOK2 HF
      obtain ⟨b9, o9, rfl, hb9, hc9'⟩ := hs9.get 0 (by simp)
      have q0 : w2.cell? ⟨b9, o9, none⟩ = some (.int .i64 q) := hc9' 0 (by simp)
      have q1 : w2.cell? ⟨b9, o9 + 1, none⟩ = some (.int .i64 n) := hc9' 1 (by simp)
      have hc92 : 2 ≤ c9 := hc9
      have HB2 := hidI hB2
      clear hc9' hs9 hc9 hB2 e0
      go_upto_region 9 with fail
      refine region_detW (by kernel_rfl) 9 [(some 51, some (.slice (some ⟨b9, o9, none⟩) 2 c9)), (some 52, some (.pointer (some ⟨b9, o9, none⟩))), (some 53, some (.int .i64 q)), (some 54, some (.slice (some ⟨b9, o9, none⟩) 2 c9)), (some 55, some (.pointer (some ⟨b9, o9 + 1, none⟩))), (some 56, some (.int .i64 n)), (some 57, some (.agg #[.int .i64 q, .int .i64 n, .slice none 0 0])), (some 11, some (.pointer (some ⟨w2.heap.size, 0, none⟩))), (none, none)] (fun d _ W => SJ w2 q n (d 7) (d 8) W) (by kernel_rfl) (by kernel_rfl) (by kernel_rfl) (by kernel_rfl) ⟨below_dN (RowKit.Below.refl _ _) 1, fun _ => rfl, (fun e => by cases e), (fun e => by cases e)⟩ ?_ ?_
      focus
        intro i o ho a d f W hS hdi hdn hnd hdep hout hold K hK
        have hc0 := (hS.b.cell hb9).trans q0
        have hc1 := (hS.b.cell (p := ⟨b9, o9 + 1, none⟩) hb9).trans q1
        have hil : i < 9 := (Array.getElem?_eq_some_iff.1 ho).1
        have hcases : i = 0 ∨ i = 1 ∨ i = 2 ∨ i = 3 ∨ i = 4 ∨ i = 5 ∨ i = 6 ∨ i = 7 ∨ i = 8 := by omega
        clear hil
        have u9 := hout 9 (by kernel_rfl)
        simp at u9
        clear hout q0 q1
        rcases hcases with rfl | rfl | rfl | rfl | rfl | rfl | rfl | rfl | rfl
        all_goals (simp only [List.getElem?_toArray, List.getElem?_cons_succ, List.getElem?_cons_zero, Option.some.injEq] at ho; subst ho; simp [Region.binds] at hdep; (try go_split_ands))
        all_goals first
          | (go_simp; exact hK _ _ (fun u hu => Option.some.inj hu) hS)
          | (go_simp
             have e7 : d 7 = false := hdi
             have hS' := hS
             simp only [e7] at hS'
             exact hK _ _ (fun u hu => by rw [← Option.some.inj hu, hS.a e7]) (hS'.alloc (hnd 8 (by kernel_rfl))))
          | (have e7 : d 7 = true := hdn ⟨7, .data⟩ (by simp) rfl
             have e8 : d 8 = false := hdi
             have hS' := hS
             simp only [e7] at hS'
             obtain ⟨hv, hsz⟩ := hS'.m rfl e8
             have v0 := hv.at 0 rfl; have v1 := hv.at 1 rfl; have v2 := hv.at 2 rfl
             have f0 := hv.frozen 0; have f1 := hv.frozen 1; have f2 := hv.frozen 2
             have HS' := hidI hS'
             clear hv hsz hS'
             go_simp
             have hfin := HS'.out.store e8
             refine hK undef _ (fun u hu => by cases hu) ?_
             have e7' : (updB d 8 7) = true := e7
             show SJ w2 q n (updB d 8 7) true _
             rw [e7']; exact hfin)
      intro d f W hS hall hf
      have e7 : d 7 = true := hall 7 (by decide)
      have e8 : d 8 = true := hall 8 (by decide)
      simp only [e7, e8] at hS
      obtain ⟨hg0, hgz⟩ := hS.e rfl rfl
      have HSW := hidI hS
      have HG0 := hidI hg0
      have HGZ := hidI hgz
      clear hf hall hS hg0 hgz e7 e8 q0 q1
      simp only [putsD, List.filterMap_cons, List.filterMap_nil, Option.map_some, Option.map_none, Option.getD_some, Option.getD_none, List.foldl_cons, List.foldl_nil, Act.put, List.setIfInBounds_toArray, List.set_cons_zero, List.set_cons_succ]
      obtain ⟨o1, ho1⟩ : ∃ o1, (if ls.length = 1 then 0 else 1) = o1 := ⟨_, rfl⟩
      obtain ⟨N, hN⟩ : ∃ N, ls.length - 1 = N := ⟨_, rfl⟩
      have hrs := fun W => run_tail1 wA.heap.size ls.length hpos W
      rw [ho1, hN] at hrs
      have HO1 : Hid (1 < ls.length → o1 = 1) := fun h => by rw [← ho1, if_neg (by omega)]
      have HNN : Hid (ls.length = N + 1) := by unfold Hid; omega
      clear ho1 hN
      have HPS : Hid (PaN w w1 w2.heap.size q n [] (.slice none 0 0) (.slice none 0 0) W) :=
        ⟨(b1.below HB2.out b1.lt).below HSW.out.b (Nat.lt_of_lt_of_le b1.lt HB2.out.size), HG0.out, World.ownsRow_nil _ _ _ _, (x1.trans (HB2.out.mono x1.size)).trans (HSW.out.b.mono (Nat.le_trans x1.size HB2.out.size)), HB2.out.trans (HSW.out.b.mono HB2.out.size), HB2.out.size, hz1', by rw [HGZ.out]; exact Nat.le_refl _⟩
      have HX1 := hidI x1
      have HB1 := hidI b1
      clear b1 x1
      go_wp2_with fail
      clear hrs
      go_loopw [61] (fun iv wr => ∃ (k : Nat) (es : List (Nat × Nat × Nat)) (L : List Ed) (p : Option Addr) (m c : Nat), k ≤ N ∧ iv = .int .i64 k ∧ Hid (Ln s.data.toList q n es ((ls.drop (k + 1)).map (·.data.toList))) ∧ Hid (L = es.map edI) ∧ Hid (es.length = k) ∧ Hid (PaN w w1 w2.heap.size q n L (.slice p m c) (.slice p m c) wr)) (fun iv _ => N - (intOf iv).toNat)
      case atStart => exact ⟨0, [], [], none, 0, 0, by omega, rfl, HLN0, rfl, rfl, HPS⟩
      case round =>
        clear HPS HLN0
        obtain ⟨k, es, L, p, m, c, hk, rfl, HL, HLE, HEK, HPA⟩ := hrel
        have hNN : N ≤ 65536 := by have := HNN.out; omega
        by_cases hlt : k < N
        · have hlt1 : k + 1 < ls.length := by have := HNN.out; omega
          have ho1 := HO1.out (by omega)
          subst ho1
          obtain ⟨bx, ox, hpx, hbx, hcx⟩ := (HSLs.out.below HPA.out.b1).get (k + 1) hlt1
          cases hpx
          have e0 : wr.cell? ⟨wA.heap.size, 1 + k, none⟩ = some (.string ls[k + 1]) := by
            have := hcx (k + 1) hlt1
            rw [Nat.zero_add] at this
            rw [Nat.add_comm 1 k]; exact this
          have hxz := HZ.out (k + 1) hlt1
          have HDR : Hid ((ls.drop (k + 1)).map (·.data.toList) = ls[k + 1].data.toList :: (ls.drop (k + 1 + 1)).map (·.data.toList)) := by
            unfold Hid; rw [List.drop_eq_getElem_cons hlt1, List.map_cons]
          obtain ⟨x, hx⟩ : ∃ x, ls[k + 1] = x := ⟨_, rfl⟩
          rw [hx] at e0 hxz HDR
          obtain ⟨R3, hR3⟩ : ∃ R3, numsP x.data.toList 3 = R3 := ⟨_, rfl⟩
          have HR3 := hidI hR3
          have HN3 : Hid (Calls Tryz.prog 39 #[.string x, .int .i64 3] wr (RetNs R3 wr)) := by
            have := gNums_any x 3 wr (by omega) (by omega) (HM1.out.below HPA.out.b1)
            rw [hR3] at this
            exact this
          clear hx hR3 hcx hbx
          go_wp2_with fail
          refine HN3.out.mono ?_
          cases R3 with
          | none =>
            rintro e wx ⟨rfl, hBx⟩
            have HK : Hid (R = (gr0, 3)) := HR.out.symm.trans (parA_no HS6.out (by
              have h := HL.out
              rw [HDR.out] at h
              exact ln_no h HR3.out))
            have HPX := hidI (HPA.out.below hBx)
            have b2 := HPX.out.z
            have j0 := b2.at 0 rfl; have j1 := b2.at 1 rfl; have j2 := b2.at 2 rfl
            have z0 := b2.frozen 0; have z1 := b2.frozen 1; have z2 := b2.frozen 2
            have HB2 := hidI b2
            clear e0 b2 hBx
            go_wp2
            have r6 := VRow.set (i := 2) (.slice none 0 0) (VRow.set (i := 1) (.int .i64 0) (VRow.set (i := 0) (.int .i64 0) HB2.out))
            have y0 := r6.at 0 rfl; have y1 := r6.at 1 rfl; have y2 := r6.at 2 rfl
            refine bodyPost_ret (v := .tuple #[.agg #[.int .i64 0, .int .i64 0, .slice none 0 0], .int .i64 3]) (by simp [results, Tryz.results12, go_sem, y0, y1, y2]) rfl ?_
            exact RetGr.of0 HK.out (((HPX.out.b.setCell (Nat.le_refl _) _).setCell (Nat.le_refl _) _).setCell (Nat.le_refl _) _)
          | some l3 =>
            rintro e wx ⟨p3, c3, rfl, hs3, hc3, hBx⟩
            obtain ⟨a1, a2, a3, rfl⟩ := three_of (nums_len HR3.out)
            have HL3 : Hid (Ln s.data.toList q n (es ++ [(a1, a2, a3)]) ((ls.drop (k + 1 + 1)).map (·.data.toList))) := by
              have h := HL.out
              rw [HDR.out] at h
              exact ln_step h HR3.out
            have HLE2 : Hid (L ++ [⟨a1, a2, a3⟩] = (es ++ [(a1, a2, a3)]).map edI) := by
              unfold Hid; rw [List.map_append, HLE.out]; rfl
            have HEK2 : Hid ((es ++ [(a1, a2, a3)]).length = k + 1) := by unfold Hid; rw [List.length_append, HEK.out]; rfl
            have hLL : L.length ≤ 65536 := by rw [HLE.out, List.length_map, HEK.out]; omega
            obtain ⟨b9, o9, rfl, hb9, hc9'⟩ := hs3.get 0 (by simp)
            have q0 : wx.cell? ⟨b9, o9, none⟩ = some (.int .i64 a1) := hc9' 0 (by simp)
            have q1 : wx.cell? ⟨b9, o9 + 1, none⟩ = some (.int .i64 a2) := hc9' 1 (by simp)
            have q2 : wx.cell? ⟨b9, o9 + 2, none⟩ = some (.int .i64 a3) := hc9' 2 (by simp)
            have hc33 : 3 ≤ c3 := hc3
            have HPX := hidI (HPA.out.below hBx)
            have hgr := HPX.out.g
            have hzg := hgr.lt
            have q3 := hgr.at 2 rfl
            have HGR := hidI hgr
            clear hc9' hs3 hc3 hBx e0 HDR HL HPA HN3 HEK HLE hgr
            go_upto_region 16 with fail
            refine region_detW (by kernel_rfl) 16 [(some 73, some (.pointer (some ⟨w2.heap.size, 2, none⟩))), (some 74, some (.slice p m c)), (some 75, some (.slice (some ⟨b9, o9, none⟩) 3 c3)), (some 76, some (.pointer (some ⟨b9, o9, none⟩))), (some 77, some (.int .i64 a1)), (some 78, some (.slice (some ⟨b9, o9, none⟩) 3 c3)), (some 79, some (.pointer (some ⟨b9, o9 + 1, none⟩))), (some 80, some (.int .i64 a2)), (some 81, some (.slice (some ⟨b9, o9, none⟩) 3 c3)), (some 82, some (.pointer (some ⟨b9, o9 + 2, none⟩))), (some 83, some (.int .i64 a3)), (some 84, some (.agg #[.int .i64 a1, .int .i64 a2, .int .i64 a3])), (some 85, some (.slice (some ⟨wx.heap.size, 0, none⟩) 1 1)), (some 86, none), (some 87, some (.pointer (some ⟨w2.heap.size, 2, none⟩))), (none, none)] (fun d f W => SE w w1 wx w2.heap.size q n L ⟨a1, a2, a3⟩ (.slice p m c) (d 12) (d 13) (d 15) (f 86) W) (by kernel_rfl) (by kernel_rfl) (by kernel_rfl) (by kernel_rfl) ⟨fun _ => ⟨below_dN (RowKit.Below.refl _ _) 1, fun _ => rfl, (fun e => by cases e)⟩, (fun e => by cases e)⟩ ?_ ?_
            focus
              intro i o ho a d f W hS hdi hdn hnd hdep hout hold K hK
              have hil : i < 16 := (Array.getElem?_eq_some_iff.1 ho).1
              have hcases : i = 0 ∨ i = 1 ∨ i = 2 ∨ i = 3 ∨ i = 4 ∨ i = 5 ∨ i = 6 ∨ i = 7 ∨ i = 8 ∨ i = 9 ∨ i = 10 ∨ i = 11 ∨ i = 12 ∨ i = 13 ∨ i = 14 ∨ i = 15 := by omega
              clear hil
              have u9 := hout 11 (by kernel_rfl)
              have u14 := hout 14 (by kernel_rfl)
              simp at u9 u14
              clear hout
              rcases hcases with rfl | rfl | rfl | rfl | rfl | rfl | rfl | rfl | rfl | rfl | rfl | rfl | rfl | rfl | rfl | rfl
              all_goals (simp only [List.getElem?_toArray, List.getElem?_cons_succ, List.getElem?_cons_zero, Option.some.injEq] at ho; subst ho; simp [Region.binds] at hdep; (try go_split_ands))
              all_goals first
                | (go_simp; exact hK _ _ (fun u hu => Option.some.inj hu) hS)
                | (have hb := (hS.p (hnd 13 (by kernel_rfl))).1
                   have hc0 := (hb.cell hb9).trans q0
                   have hc1 := (hb.cell (p := ⟨b9, o9 + 1, none⟩) hb9).trans q1
                   have hc2 := (hb.cell (p := ⟨b9, o9 + 2, none⟩) hb9).trans q2
                   have hc3' := (hb.cell (p := ⟨w2.heap.size, 2, none⟩) hzg).trans q3
                   clear q0 q1 q2 q3
                   go_simp
                   exact hK _ _ (fun u hu => Option.some.inj hu) hS)
                | (go_simp
                   have e12 : d 12 = false := hdi
                   have e13 := hnd 13 (by kernel_rfl)
                   have hsz := (hS.p e13).2.1 e12
                   exact hK _ _ (fun u hu => by rw [← Option.some.inj hu, hsz]) (hS.alloc e12 e13))
                | (have e13 : d 13 = false := hdi
                   have e15 := hnd 15 (by kernel_rfl)
                   have e12 : d 12 = true := hdn ⟨12, .data⟩ (by simp) rfl
                   obtain ⟨hb, _, hr⟩ := hS.p e13
                   obtain ⟨hrow, hsz⟩ := hr e12
                   have hP := HPX.out.below hb
                   refine step_append_lies W rfl (.tmp 74) (.tmp 85) 22 rfl (w2.heap.size + 1) 44 i0 _ 3 24 Tryz.underlying22 hi0 hz0 hz1 hz2 rfl (by decide) (.slice p m c) L.length (cat L) (by simp [Act.eval, *]) hP.o ⟨wx.heap.size, 0, none⟩ 1 1 (cat [⟨a1, a2, a3⟩]) (by simp [Act.eval, *]) rfl (news_row hrow) (cat_one _) (by omega) (by simp [maxLen]; omega) (by omega) hP.s _ rfl ?_
                   intro g cap w' hown' hgrow _ _
                   rw [← cat_app] at hown'
                   exact hK _ _ (fun u hu => by cases hu) (SE.app (hP.grown hgrow (own_conv hown' (by simp) (Nat.le_refl _))) e15))
                | (have e13 : d 13 = true := hdn ⟨13, .data⟩ (by simp) rfl
                   have e15 : d 15 = false := hdi
                   obtain ⟨p', m', c', hf86, hP⟩ := hS.m e13
                   rw [e15] at hP
                   have HP := hidI (show PaN w w1 w2.heap.size q n (L ++ [⟨a1, a2, a3⟩]) (.slice p m c) (.slice p' m' c') W from hP)
                   obtain ⟨v86, hv86, hat⟩ : ∃ v, f 86 = some v ∧ a.tmps[86]? = some v := by assumption
                   rw [hf86] at hv86
                   cases hv86
                   have hgr := HP.out.g
                   have k2 := hgr.at 2 rfl
                   have z2 := hgr.frozen 2
                   have HF := hidI hf86
                   clear hgr hP hf86 q0 q1 q2 q3
                   go_simp
                   exact hK undef _ (fun u hu => by cases hu) (SE.fin HP.out e13 HF.out))
                | fail
            intro d f W9 hS hall hf
            have e13 : d 13 = true := hall 13 (by decide)
            have e15 : d 15 = true := hall 15 (by decide)
            obtain ⟨p', m', c', _, hP⟩ := hS.m e13
            rw [e15] at hP
            have HP := hidI (show PaN w w1 w2.heap.size q n (L ++ [⟨a1, a2, a3⟩]) (.slice p' m' c') (.slice p' m' c') W9 from hP)
            simp only [putsD, List.filterMap_cons, List.filterMap_nil, Option.map_some, Option.map_none, Option.getD_some, Option.getD_none, List.foldl_cons, List.foldl_nil, Act.put, List.setIfInBounds_toArray, List.set_cons_zero, List.set_cons_succ]
            generalize (f 86).getD undef = v86
            clear hf hall hS hP e13 e15 q0 q1 q2 q3
            go_wp2_with fail
            go_roundw
            case rel => exact ⟨k + 1, _, _, p', m', c', by omega, by go_num, HL3, HLE2, HEK2, HP⟩
            case measure => simp [intOf]; omega
        · obtain rfl : k = N := by omega
          have hIT : IsT s.data.toList q n es := by
            have h := HL.out
            rw [List.drop_eq_nil_of_le (by rw [HNN.out]; exact Nat.le_refl _)] at h
            exact ln_end h
          have HC : Hid (R = chkd ⟨q, n, L⟩) := by unfold Hid; rw [HLE.out]; exact HR.out.symm.trans (parA_is HS6.out hIT)
          have HL2 : Hid (L.length ≤ 65536) := by unfold Hid; rw [HLE.out, List.length_map, HEK.out]; exact hNN
          clear hIT
          obtain ⟨rfl, hsg⟩ := sg_len (p' := none) HPA.out.o
          have hg := HPA.out.g
          have k0 := hg.at 0 rfl; have k1 := hg.at 1 rfl; have k2 := hg.at 2 rfl
          obtain ⟨rc, hrc⟩ : ∃ rc, chkG ⟨q, n, L⟩ = rc := ⟨_, rfl⟩
          have HRC := hidI hrc
          have HCK : Hid (Calls Tryz.prog 20 #[.agg #[.int .i64 q, .int .i64 n, .slice p L.length c]] wr fun e w' => e = .returned (.int .i64 rc) ∧ RowKit.Below wr.heap.size wr w') :=
            gCheck_r ⟨q, n, L⟩ p c wr rc hrc hsg (by have := HL2.out; show L.length ≤ _; omega)
          clear hsg hg hrc
          go_wp2_with fail
          refine HCK.out.mono ?_
          rintro e w5 ⟨rfl, hB5⟩
          have HP5 := hidI (HPA.out.below hB5)
          clear k0 k1 k2 hB5
          have hg := HP5.out.g
          have k0 := hg.at 0 rfl; have k1 := hg.at 1 rfl; have k2 := hg.at 2 rfl
          have hz := HP5.out.z
          have j0 := hz.at 0 rfl; have j1 := hz.at 1 rfl; have j2 := hz.at 2 rfl
          have z0 := hz.frozen 0; have z1 := hz.frozen 1; have z2 := hz.frozen 2
          have HZZ := hidI hz
          have hzl : w.heap.size < w2.heap.size + 1 := by have := HP5.out.h; have := HP5.out.h0; omega
          have HZL := hidI hzl
          clear hg hz hzl
          by_cases hrc0 : rc = 0
          · have HC2 : Hid (R = (⟨q, n, L⟩, 0)) := HC.out.trans (chkd_ok (HRC.out.trans hrc0))
            have hrb : (rc == 0) = true := by simpa using hrc0
            have hrb2 : (rc != 0) = false := by simp [hrc0]
            clear hrc0
            go_wp2
            have r6 := VRow.set (i := 2) (.slice p L.length c) (VRow.set (i := 1) (.int .i64 n) (VRow.set (i := 0) (.int .i64 q) HZZ.out))
            have y0 := r6.at 0 rfl; have y1 := r6.at 1 rfl; have y2 := r6.at 2 rfl
            have o6 := ownsRow_setCell_below (a := ⟨w.heap.size, 2, none⟩) (ownsRow_setCell_below (a := ⟨w.heap.size, 1, none⟩) (ownsRow_setCell_below (a := ⟨w.heap.size, 0, none⟩) HP5.out.o HZL.out (.int .i64 q)) HZL.out (.int .i64 n)) HZL.out (.slice p L.length c)
            have x6 := ((HP5.out.b.setCell (p := ⟨w.heap.size, 0, none⟩) (Nat.le_refl _) (.int .i64 q)).setCell (p := ⟨w.heap.size, 1, none⟩) (Nat.le_refl _) (.int .i64 n)).setCell (p := ⟨w.heap.size, 2, none⟩) (Nat.le_refl _) (.slice p L.length c)
            refine bodyPost_ret (v := .tuple #[.agg #[.int .i64 q, .int .i64 n, .slice p L.length c], .int .i64 0]) (by simp [results, Tryz.results12, go_sem, y0, y1, y2]) rfl ?_
            obtain ⟨p6, c6, hv, hs6, hc6, _⟩ := own_sg o6
            cases hv
            exact RetGr.of (G' := ⟨q, n, L⟩) (k' := 0) HC2.out hs6 hc6 x6
          · have HC2 : Hid (R = (gr0, rc)) := by unfold Hid; rw [HC.out, chkd_bad (by rw [HRC.out]; exact hrc0), HRC.out]
            have hrb : (rc == 0) = false := by simpa using hrc0
            have hrb2 : (rc != 0) = true := by simpa using hrc0
            clear hrc0
            go_wp2
            have r6 := VRow.set (i := 2) (.slice none 0 0) (VRow.set (i := 1) (.int .i64 0) (VRow.set (i := 0) (.int .i64 0) HZZ.out))
            have y0 := r6.at 0 rfl; have y1 := r6.at 1 rfl; have y2 := r6.at 2 rfl
            have x6 := ((HP5.out.b.setCell (p := ⟨w.heap.size, 0, none⟩) (Nat.le_refl _) (.int .i64 0)).setCell (p := ⟨w.heap.size, 1, none⟩) (Nat.le_refl _) (.int .i64 0)).setCell (p := ⟨w.heap.size, 2, none⟩) (Nat.le_refl _) (.slice none 0 0)
            refine bodyPost_ret (v := .tuple #[.agg #[.int .i64 0, .int .i64 0, .slice none 0 0], .int .i64 rc]) (by simp [results, Tryz.results12, go_sem, y0, y1, y2]) rfl ?_
            exact RetGr.of0 HC2.out x6
end Go.Proofs.YtcfmpplhghkagaaGreatDoor
namespace Go.Proofs.YtcfmpplhghkagaaGreatDoor
open Go.RowKit Go.Sort Go.Shelf Go.Lib

theorem equalI_eq (l : List Int) (p p' : Option Addr) (c c' : Nat) (w : World) (h1 : Sl w (Value.int .i64) p l) (h2 : Sl w (Value.int .i64) p' l) (hl : l.length ≤ 9223372036854775807) :
    Calls Tryz.prog 15 #[.slice p l.length c, .slice p' l.length c'] w fun e w' => e = .returned (.bool true) ∧ RowKit.Below w.heap.size w w' := by
  refine (equalI_any l l p p' c c' w h1 h2 hl hl).mono ?_
  rintro e w' ⟨rfl, hD⟩
  exact ⟨by simp, hD.below _⟩
theorem RetEs.open {G : Gr} {l : List Int} {k : Int} {w w' : World} {e : Ending} (h : RetEs G l k w e w') : ∃ p c q d, e = .returned (.tuple #[.agg #[.int .i64 G.q, .int .i64 G.n, .slice p G.es.length c], .slice q l.length d, .int .i64 k]) ∧ Sg 3 w' edE p G.es ∧ Sl w' (Value.int .i64) q l ∧ RowKit.Below w.heap.size w w' := by
  obtain ⟨p, m, c, q, d, rfl, h1, h2, hB⟩ := h
  obtain ⟨rfl, hs⟩ := sg_len (p' := none) h1
  obtain ⟨q', d', hv, hi⟩ := own_sl h2
  cases hv
  exact ⟨p, c, q, d, rfl, hs, hi, hB⟩
theorem revA_len (G : Gr) : (revA G).1.es.length ≤ G.es.length := by
  unfold revA
  split
  · have := makeA_len G.q G.n (G.es.map rvE)
    rwa [List.length_map] at this
  · simp
theorem essA_st (G : Gr) : (essA G).2.1.length ≤ 64 := by
  by_cases h : chkG G = 0
  · rw [essA_ok h]
    have hv := chkG_ok.1 h
    have h1 := hv.n1; have h2 := hv.n2
    have := (ess_fix (es := G.es) _ (upto G.n.toNat) (Nat.le_refl _)).2.length_le
    rw [upto_len] at this
    show (ess G.es (upto G.n.toNat)).length ≤ 64
    omega
  · rw [essA_bad h]; simp
theorem essA_ln (G : Gr) : (essA G).1.es.length ≤ G.es.length := by
  by_cases h : chkG G = 0
  · rw [essA_ok h]; exact partE_len _ _
  · rw [essA_bad h]; exact Nat.zero_le _
theorem parA_len (s : List UInt8) : (parA s).1.es.length ≤ 1024 := by
  by_cases h : (parA s).2 = 0
  · exact (chkG_ok.1 (par_back h).2).len
  · rw [par_empty h]; exact Nat.zero_le _

set_option maxRecDepth 100000 in
set_option maxHeartbeats 4000000 in
theorem lawGTexts_any (G : Gr) (p : Option Addr) (c : Nat) (s : ByteArray) (w : World) (hin : Sg 3 w edE p G.es) (hl : G.es.length ≤ 9223372036854775807) (hs : s.size ≤ 9223372036854775807) (hm : LM w) :
    Calls Tryz.prog 3 #[(.agg #[.int .i64 G.q, .int .i64 G.n, .slice p G.es.length c]), .string s] w fun e w' => e = .returned (.bool true) ∧ RowKit.Below w.heap.size w w' := by
  have HIN := hidI hin; have HM := hidI hm
  clear hin hm
  have b0 : VRow (w.alloc (.cells #[.int .i64 G.q, .int .i64 G.n, .slice p G.es.length c] 24)) w.heap.size 24 [.int .i64 G.q, .int .i64 G.n, .slice p G.es.length c] := VRow.new w _ _
  have x0 : RowKit.Below w.heap.size w (w.alloc (.cells #[.int .i64 G.q, .int .i64 G.n, .slice p G.es.length c] 24)) := (RowKit.Below.refl _ _).alloc (Nat.le_refl _) _
  cases hg : greatG G
  · have HG := hidI hg
    have hsm := (great_small hg).1
    clear hg
    by_cases hmid : 300 < s.size ∧ s.size ≤ 65536
    · have k1 : decide ((300 : Int) < (s.size : Int)) = true := decide_eq_true (by omega)
      have k2 : decide ((s.size : Int) ≤ 65536) = true := decide_eq_true (by omega)
      clear hmid
      go_enter Tryz.func3, Tryz.ntmps3
      go_wp2_with fail
      refine (rGreat_any G p c _ hl).mono ?_
      rw [HG.out]
      rintro e w1 ⟨rfl, hB1⟩
      have x1 := x0.trans (hB1.mono x0.size)
      go_wp2_with fail
      refine (awake_any w1).mono ?_
      rintro e w2 ⟨rfl, hB2⟩
      go_wp2
      go_ret
      exact ⟨rfl, x1.trans (hB2.mono x1.size)⟩
    · have hcond : decide ((300 : Int) < (s.size : Int)) = false ∨ (decide ((300 : Int) < (s.size : Int)) = true ∧ decide ((s.size : Int) ≤ 65536) = false) := by
        by_cases h : 300 < s.size
        · exact .inr ⟨decide_eq_true (by omega), decide_eq_false (by omega)⟩
        · exact .inl (decide_eq_false (by omega))
      clear hmid
      have LA := hidI (revA_len G); have LE := hidI (essA_ln G); have LT := hidI (essA_st G); have LP := hidI (parA_len s.data.toList)
      have CA := hidI (fun w h => gReverse_any G p c w h (by omega)); have CB := hidI (fun w h => rReverse_any G p c w h (by omega))
      have CC := hidI (fun w h => gEss_any G p c w h (by omega)); have CD := hidI (fun w h => rEss_any G p c w h (by omega))
      have CE := hidI (fun w h hm => gPrint_any G p c w h (by omega) hm); have CF := hidI (fun w h => rPrint_any G p c w h (by omega))
      have CG := hidI (fun w hm => gParse_any s w hs hm); have CH := hidI (fun w => rParse_any s w hs)
      generalize revA G = RA at *
      generalize essA G = RE at *
      generalize prA G = RP at *
      generalize parA s.data.toList = RS at *
      go_enter Tryz.func3, Tryz.ntmps3
      rcases hcond with k1 | ⟨k1, k2⟩
      all_goals
        go_wp2_with fail
        refine (rGreat_any G p c _ hl).mono ?_
        rw [HG.out]
        rintro e w1 ⟨rfl, hB1⟩
        have b1 := b0.below hB1 b0.lt
        have x1 := x0.trans (hB1.mono x0.size)
        clear hB1 b0 x0
        have f0 := b1.at 0 rfl; have f1 := b1.at 1 rfl; have f2 := b1.at 2 rfl
        go_wp2_with fail
        refine (CA.out w1 (HIN.out.below x1)).mono ?_
        rintro e v2 ⟨pga, cga, rfl, ga, _, hB2⟩
        have hA2 : RowKit.Below w1.heap.size w1 (v2.alloc (.cells #[.int .i64 RA.1.q, .int .i64 RA.1.n, .slice pga RA.1.es.length cga] 24)) := hB2.alloc hB2.size _
        have b2 := b1.below hA2 b1.lt
        have x2 := x1.trans (hA2.mono x1.size)
        have ga_2 := ga.below ((RowKit.Below.refl _ v2).alloc (Nat.le_refl _) (.cells #[.int .i64 RA.1.q, .int .i64 RA.1.n, .slice pga RA.1.es.length cga] 24))
        have rga_2 : VRow (v2.alloc (.cells #[.int .i64 RA.1.q, .int .i64 RA.1.n, .slice pga RA.1.es.length cga] 24)) v2.heap.size 24 [.int .i64 RA.1.q, .int .i64 RA.1.n, .slice pga RA.1.es.length cga] := VRow.new v2 _ _
        clear hA2 hB2 b1 x1 f0 f1 f2 ga
        go_upto_region 4 with fail
        generalize v2.alloc (.cells #[.int .i64 RA.1.q, .int .i64 RA.1.n, .slice pga RA.1.es.length cga] 24) = w2 at *
        generalize v2.heap.size = Bga at *
        have f0 := b2.at 0 rfl; have f1 := b2.at 1 rfl; have f2 := b2.at 2 rfl
        go_wp2_with fail
        refine (CB.out w2 (HIN.out.below x2)).mono ?_
        rintro e v3 ⟨pgb, cgb, rfl, gb, _, hB3⟩
        have hA3 : RowKit.Below w2.heap.size w2 (v3.alloc (.cells #[.int .i64 RA.1.q, .int .i64 RA.1.n, .slice pgb RA.1.es.length cgb] 24)) := hB3.alloc hB3.size _
        have b3 := b2.below hA3 b2.lt
        have x3 := x2.trans (hA3.mono x2.size)
        have ga_3 := ga_2.below hA3
        have rga_3 := rga_2.below hA3 rga_2.lt
        have gb_3 := gb.below ((RowKit.Below.refl _ v3).alloc (Nat.le_refl _) (.cells #[.int .i64 RA.1.q, .int .i64 RA.1.n, .slice pgb RA.1.es.length cgb] 24))
        have rgb_3 : VRow (v3.alloc (.cells #[.int .i64 RA.1.q, .int .i64 RA.1.n, .slice pgb RA.1.es.length cgb] 24)) v3.heap.size 24 [.int .i64 RA.1.q, .int .i64 RA.1.n, .slice pgb RA.1.es.length cgb] := VRow.new v3 _ _
        clear hA3 hB3 b2 x2 f0 f1 f2 gb ga_2 rga_2
        go_upto_region 5 with fail
        generalize v3.alloc (.cells #[.int .i64 RA.1.q, .int .i64 RA.1.n, .slice pgb RA.1.es.length cgb] 24) = w3 at *
        generalize v3.heap.size = Bgb at *
        have f0 := b3.at 0 rfl; have f1 := b3.at 1 rfl; have f2 := b3.at 2 rfl
        go_wp2_with fail
        refine (CC.out w3 (HIN.out.below x3)).mono ?_
        rintro e v4 hret
        obtain ⟨pgc, cgc, qgc, dgc, rfl, gc, igc, hB4⟩ := hret.open
        have hA4 : RowKit.Below w3.heap.size w3 (v4.alloc (.cells #[.int .i64 RE.1.q, .int .i64 RE.1.n, .slice pgc RE.1.es.length cgc] 24)) := hB4.alloc hB4.size _
        have b4 := b3.below hA4 b3.lt
        have x4 := x3.trans (hA4.mono x3.size)
        have ga_4 := ga_3.below hA4
        have gb_4 := gb_3.below hA4
        have rga_4 := rga_3.below hA4 rga_3.lt
        have rgb_4 := rgb_3.below hA4 rgb_3.lt
        have gc_4 := gc.below ((RowKit.Below.refl _ v4).alloc (Nat.le_refl _) (.cells #[.int .i64 RE.1.q, .int .i64 RE.1.n, .slice pgc RE.1.es.length cgc] 24))
        have igc_4 := igc.below ((RowKit.Below.refl _ v4).alloc (Nat.le_refl _) (.cells #[.int .i64 RE.1.q, .int .i64 RE.1.n, .slice pgc RE.1.es.length cgc] 24))
        have rgc_4 : VRow (v4.alloc (.cells #[.int .i64 RE.1.q, .int .i64 RE.1.n, .slice pgc RE.1.es.length cgc] 24)) v4.heap.size 24 [.int .i64 RE.1.q, .int .i64 RE.1.n, .slice pgc RE.1.es.length cgc] := VRow.new v4 _ _
        clear hA4 hB4 b3 x3 f0 f1 f2 gc igc ga_3 gb_3 rga_3 rgb_3
        go_upto_region 6 with fail
        generalize v4.alloc (.cells #[.int .i64 RE.1.q, .int .i64 RE.1.n, .slice pgc RE.1.es.length cgc] 24) = w4 at *
        generalize v4.heap.size = Bgc at *
        have f0 := b4.at 0 rfl; have f1 := b4.at 1 rfl; have f2 := b4.at 2 rfl
        go_wp2_with fail
        refine (CD.out w4 (HIN.out.below x4)).mono ?_
        rintro e v5 hret
        obtain ⟨pgd, cgd, qgd, dgd, rfl, gd, igd, hB5⟩ := hret.open
        have hA5 : RowKit.Below w4.heap.size w4 (v5.alloc (.cells #[.int .i64 RE.1.q, .int .i64 RE.1.n, .slice pgd RE.1.es.length cgd] 24)) := hB5.alloc hB5.size _
        have b5 := b4.below hA5 b4.lt
        have x5 := x4.trans (hA5.mono x4.size)
        have ga_5 := ga_4.below hA5
        have gb_5 := gb_4.below hA5
        have gc_5 := gc_4.below hA5
        have igc_5 := igc_4.below hA5
        have rga_5 := rga_4.below hA5 rga_4.lt
        have rgb_5 := rgb_4.below hA5 rgb_4.lt
        have rgc_5 := rgc_4.below hA5 rgc_4.lt
        have gd_5 := gd.below ((RowKit.Below.refl _ v5).alloc (Nat.le_refl _) (.cells #[.int .i64 RE.1.q, .int .i64 RE.1.n, .slice pgd RE.1.es.length cgd] 24))
        have igd_5 := igd.below ((RowKit.Below.refl _ v5).alloc (Nat.le_refl _) (.cells #[.int .i64 RE.1.q, .int .i64 RE.1.n, .slice pgd RE.1.es.length cgd] 24))
        have rgd_5 : VRow (v5.alloc (.cells #[.int .i64 RE.1.q, .int .i64 RE.1.n, .slice pgd RE.1.es.length cgd] 24)) v5.heap.size 24 [.int .i64 RE.1.q, .int .i64 RE.1.n, .slice pgd RE.1.es.length cgd] := VRow.new v5 _ _
        clear hA5 hB5 b4 x4 f0 f1 f2 gd igd ga_4 gb_4 gc_4 igc_4 rga_4 rgb_4 rgc_4
        go_upto_region 7 with fail
        generalize v5.alloc (.cells #[.int .i64 RE.1.q, .int .i64 RE.1.n, .slice pgd RE.1.es.length cgd] 24) = w5 at *
        generalize v5.heap.size = Bgd at *
        have f0 := b5.at 0 rfl; have f1 := b5.at 1 rfl; have f2 := b5.at 2 rfl
        go_wp2_with fail
        refine (CE.out w5 (HIN.out.below x5) (HM.out.below x5)).mono ?_
        rintro e w6 ⟨rfl, hB6⟩
        have b6 := b5.below hB6 b5.lt
        have x6 := x5.trans (hB6.mono x5.size)
        have ga_6 := ga_5.below hB6
        have gb_6 := gb_5.below hB6
        have gc_6 := gc_5.below hB6
        have igc_6 := igc_5.below hB6
        have gd_6 := gd_5.below hB6
        have igd_6 := igd_5.below hB6
        have rga_6 := rga_5.below hB6 rga_5.lt
        have rgb_6 := rgb_5.below hB6 rgb_5.lt
        have rgc_6 := rgc_5.below hB6 rgc_5.lt
        have rgd_6 := rgd_5.below hB6 rgd_5.lt
        clear hB6 b5 x5 f0 f1 f2 ga_5 gb_5 gc_5 igc_5 gd_5 igd_5 rga_5 rgb_5 rgc_5 rgd_5
        have f0 := b6.at 0 rfl; have f1 := b6.at 1 rfl; have f2 := b6.at 2 rfl
        go_wp2_with fail
        refine (CF.out w6 (HIN.out.below x6)).mono ?_
        rintro e w7 ⟨rfl, hB7⟩
        have b7 := b6.below hB7 b6.lt
        have x7 := x6.trans (hB7.mono x6.size)
        have ga_7 := ga_6.below hB7
        have gb_7 := gb_6.below hB7
        have gc_7 := gc_6.below hB7
        have igc_7 := igc_6.below hB7
        have gd_7 := gd_6.below hB7
        have igd_7 := igd_6.below hB7
        have rga_7 := rga_6.below hB7 rga_6.lt
        have rgb_7 := rgb_6.below hB7 rgb_6.lt
        have rgc_7 := rgc_6.below hB7 rgc_6.lt
        have rgd_7 := rgd_6.below hB7 rgd_6.lt
        clear hB7 b6 x6 f0 f1 f2 ga_6 gb_6 gc_6 igc_6 gd_6 igd_6 rga_6 rgb_6 rgc_6 rgd_6
        have f0 := b7.at 0 rfl; have f1 := b7.at 1 rfl; have f2 := b7.at 2 rfl
        go_wp2_with fail
        refine (CG.out w7 (HM.out.below x7)).mono ?_
        rintro e v8 ⟨pge, cge, rfl, ge, _, hB8⟩
        have hA8 : RowKit.Below w7.heap.size w7 (v8.alloc (.cells #[.int .i64 RS.1.q, .int .i64 RS.1.n, .slice pge RS.1.es.length cge] 24)) := hB8.alloc hB8.size _
        have b8 := b7.below hA8 b7.lt
        have x8 := x7.trans (hA8.mono x7.size)
        have ga_8 := ga_7.below hA8
        have gb_8 := gb_7.below hA8
        have gc_8 := gc_7.below hA8
        have igc_8 := igc_7.below hA8
        have gd_8 := gd_7.below hA8
        have igd_8 := igd_7.below hA8
        have rga_8 := rga_7.below hA8 rga_7.lt
        have rgb_8 := rgb_7.below hA8 rgb_7.lt
        have rgc_8 := rgc_7.below hA8 rgc_7.lt
        have rgd_8 := rgd_7.below hA8 rgd_7.lt
        have ge_8 := ge.below ((RowKit.Below.refl _ v8).alloc (Nat.le_refl _) (.cells #[.int .i64 RS.1.q, .int .i64 RS.1.n, .slice pge RS.1.es.length cge] 24))
        have rge_8 : VRow (v8.alloc (.cells #[.int .i64 RS.1.q, .int .i64 RS.1.n, .slice pge RS.1.es.length cge] 24)) v8.heap.size 24 [.int .i64 RS.1.q, .int .i64 RS.1.n, .slice pge RS.1.es.length cge] := VRow.new v8 _ _
        clear hA8 hB8 b7 x7 f0 f1 f2 ge ga_7 gb_7 gc_7 igc_7 gd_7 igd_7 rga_7 rgb_7 rgc_7 rgd_7
        go_upto_region 10 with fail
        generalize v8.alloc (.cells #[.int .i64 RS.1.q, .int .i64 RS.1.n, .slice pge RS.1.es.length cge] 24) = w8 at *
        generalize v8.heap.size = Bge at *
        have f0 := b8.at 0 rfl; have f1 := b8.at 1 rfl; have f2 := b8.at 2 rfl
        go_wp2_with fail
        refine (CH.out w8).mono ?_
        rintro e v9 ⟨pgf, cgf, rfl, gf, _, hB9⟩
        have hA9 : RowKit.Below w8.heap.size w8 (v9.alloc (.cells #[.int .i64 RS.1.q, .int .i64 RS.1.n, .slice pgf RS.1.es.length cgf] 24)) := hB9.alloc hB9.size _
        have b9 := b8.below hA9 b8.lt
        have x9 := x8.trans (hA9.mono x8.size)
        have ga_9 := ga_8.below hA9
        have gb_9 := gb_8.below hA9
        have gc_9 := gc_8.below hA9
        have igc_9 := igc_8.below hA9
        have gd_9 := gd_8.below hA9
        have igd_9 := igd_8.below hA9
        have ge_9 := ge_8.below hA9
        have rga_9 := rga_8.below hA9 rga_8.lt
        have rgb_9 := rgb_8.below hA9 rgb_8.lt
        have rgc_9 := rgc_8.below hA9 rgc_8.lt
        have rgd_9 := rgd_8.below hA9 rgd_8.lt
        have rge_9 := rge_8.below hA9 rge_8.lt
        have gf_9 := gf.below ((RowKit.Below.refl _ v9).alloc (Nat.le_refl _) (.cells #[.int .i64 RS.1.q, .int .i64 RS.1.n, .slice pgf RS.1.es.length cgf] 24))
        have rgf_9 : VRow (v9.alloc (.cells #[.int .i64 RS.1.q, .int .i64 RS.1.n, .slice pgf RS.1.es.length cgf] 24)) v9.heap.size 24 [.int .i64 RS.1.q, .int .i64 RS.1.n, .slice pgf RS.1.es.length cgf] := VRow.new v9 _ _
        clear hA9 hB9 b8 x8 f0 f1 f2 gf ga_8 gb_8 gc_8 igc_8 gd_8 igd_8 ge_8 rga_8 rgb_8 rgc_8 rgd_8 rge_8
        go_upto_region 11 with fail
        generalize v9.alloc (.cells #[.int .i64 RS.1.q, .int .i64 RS.1.n, .slice pgf RS.1.es.length cgf] 24) = w9 at *
        generalize v9.heap.size = Bgf at *
        have f0 := b9.at 0 rfl; have f1 := b9.at 1 rfl; have f2 := b9.at 2 rfl
        have la := LA.out; have le := LE.out; have lt := LT.out; have lp := LP.out
        clear f0 f1 f2 HIN HM CA CB CC CD CE CF CG CH
        have f0 := rga_9.at 0 rfl; have f1 := rga_9.at 1 rfl; have f2 := rga_9.at 2 rfl
        have g0 := rgb_9.at 0 rfl; have g1 := rgb_9.at 1 rfl; have g2 := rgb_9.at 2 rfl
        go_wp2_with fail
        refine (rSame_s RA.1 RA.1 pga pgb cga cgb true w9 (sameG_refl _) ga_9 gb_9 (by omega) (by omega)).mono ?_
        rintro e w10 ⟨rfl, hB10⟩
        have b10 := b9.below hB10 b9.lt
        have x10 := x9.trans (hB10.mono x9.size)
        have ga_10 := ga_9.below hB10
        have gb_10 := gb_9.below hB10
        have gc_10 := gc_9.below hB10
        have igc_10 := igc_9.below hB10
        have gd_10 := gd_9.below hB10
        have igd_10 := igd_9.below hB10
        have ge_10 := ge_9.below hB10
        have gf_10 := gf_9.below hB10
        have rga_10 := rga_9.below hB10 rga_9.lt
        have rgb_10 := rgb_9.below hB10 rgb_9.lt
        have rgc_10 := rgc_9.below hB10 rgc_9.lt
        have rgd_10 := rgd_9.below hB10 rgd_9.lt
        have rge_10 := rge_9.below hB10 rge_9.lt
        have rgf_10 := rgf_9.below hB10 rgf_9.lt
        clear hB10 b9 x9 f0 f1 f2 g0 g1 g2 ga_9 gb_9 gc_9 igc_9 gd_9 igd_9 ge_9 gf_9 rga_9 rgb_9 rgc_9 rgd_9 rge_9 rgf_9
        have f0 := rgc_10.at 0 rfl; have f1 := rgc_10.at 1 rfl; have f2 := rgc_10.at 2 rfl
        have g0 := rgd_10.at 0 rfl; have g1 := rgd_10.at 1 rfl; have g2 := rgd_10.at 2 rfl
        go_wp2_with fail
        refine (rSame_s RE.1 RE.1 pgc pgd cgc cgd true w10 (sameG_refl _) gc_10 gd_10 (by omega) (by omega)).mono ?_
        rintro e w11 ⟨rfl, hB11⟩
        have b11 := b10.below hB11 b10.lt
        have x11 := x10.trans (hB11.mono x10.size)
        have ga_11 := ga_10.below hB11
        have gb_11 := gb_10.below hB11
        have gc_11 := gc_10.below hB11
        have igc_11 := igc_10.below hB11
        have gd_11 := gd_10.below hB11
        have igd_11 := igd_10.below hB11
        have ge_11 := ge_10.below hB11
        have gf_11 := gf_10.below hB11
        have rga_11 := rga_10.below hB11 rga_10.lt
        have rgb_11 := rgb_10.below hB11 rgb_10.lt
        have rgc_11 := rgc_10.below hB11 rgc_10.lt
        have rgd_11 := rgd_10.below hB11 rgd_10.lt
        have rge_11 := rge_10.below hB11 rge_10.lt
        have rgf_11 := rgf_10.below hB11 rgf_10.lt
        clear hB11 b10 x10 f0 f1 f2 g0 g1 g2 ga_10 gb_10 gc_10 igc_10 gd_10 igd_10 ge_10 gf_10 rga_10 rgb_10 rgc_10 rgd_10 rge_10 rgf_10
        go_wp2_with fail
        refine (equalI_eq RE.2.1 qgc qgd dgc dgd w11 igc_11 igd_11 (by omega)).mono ?_
        rintro e w12 ⟨rfl, hB12⟩
        have b12 := b11.below hB12 b11.lt
        have x12 := x11.trans (hB12.mono x11.size)
        have ga_12 := ga_11.below hB12
        have gb_12 := gb_11.below hB12
        have gc_12 := gc_11.below hB12
        have igc_12 := igc_11.below hB12
        have gd_12 := gd_11.below hB12
        have igd_12 := igd_11.below hB12
        have ge_12 := ge_11.below hB12
        have gf_12 := gf_11.below hB12
        have rga_12 := rga_11.below hB12 rga_11.lt
        have rgb_12 := rgb_11.below hB12 rgb_11.lt
        have rgc_12 := rgc_11.below hB12 rgc_11.lt
        have rgd_12 := rgd_11.below hB12 rgd_11.lt
        have rge_12 := rge_11.below hB12 rge_11.lt
        have rgf_12 := rgf_11.below hB12 rgf_11.lt
        clear hB12 b11 x11 ga_11 gb_11 gc_11 igc_11 gd_11 igd_11 ge_11 gf_11 rga_11 rgb_11 rgc_11 rgd_11 rge_11 rgf_11
        have f0 := rge_12.at 0 rfl; have f1 := rge_12.at 1 rfl; have f2 := rge_12.at 2 rfl
        have g0 := rgf_12.at 0 rfl; have g1 := rgf_12.at 1 rfl; have g2 := rgf_12.at 2 rfl
        go_wp2_with fail
        refine (rSame_s RS.1 RS.1 pge pgf cge cgf true w12 (sameG_refl _) ge_12 gf_12 (by omega) (by omega)).mono ?_
        rintro e w13 ⟨rfl, hB13⟩
        have b13 := b12.below hB13 b12.lt
        have x13 := x12.trans (hB13.mono x12.size)
        have ga_13 := ga_12.below hB13
        have gb_13 := gb_12.below hB13
        have gc_13 := gc_12.below hB13
        have igc_13 := igc_12.below hB13
        have gd_13 := gd_12.below hB13
        have igd_13 := igd_12.below hB13
        have ge_13 := ge_12.below hB13
        have gf_13 := gf_12.below hB13
        have rga_13 := rga_12.below hB13 rga_12.lt
        have rgb_13 := rgb_12.below hB13 rgb_12.lt
        have rgc_13 := rgc_12.below hB13 rgc_12.lt
        have rgd_13 := rgd_12.below hB13 rgd_12.lt
        have rge_13 := rge_12.below hB13 rge_12.lt
        have rgf_13 := rgf_12.below hB13 rgf_12.lt
        clear hB13 b12 x12 f0 f1 f2 g0 g1 g2 ga_12 gb_12 gc_12 igc_12 gd_12 igd_12 ge_12 gf_12 rga_12 rgb_12 rgc_12 rgd_12 rge_12 rgf_12
        go_wp2_with fail
        refine (awake_any w13).mono ?_
        rintro e wz ⟨rfl, hBz⟩
        go_wp2
        go_ret
        exact ⟨rfl, x13.trans (hBz.mono x13.size)⟩
  · have HG := hidI hg
    clear hg
    go_enter Tryz.func3, Tryz.ntmps3
    go_wp2_with fail
    refine (rGreat_any G p c _ hl).mono ?_
    rw [HG.out]
    rintro e w1 ⟨rfl, hB1⟩
    have x1 := x0.trans (hB1.mono x0.size)
    go_wp2_with fail
    refine (awake_any w1).mono ?_
    rintro e w2 ⟨rfl, hB2⟩
    go_wp2
    go_ret
    exact ⟨rfl, x1.trans (hB2.mono x1.size)⟩
end Go.Proofs.YtcfmpplhghkagaaGreatDoor
namespace Go.Proofs.YtcfmpplhghkagaaGreatDoor
open Go.Joins Go.ChangeShapes Go.WideShapes Go.ChangeAt Go.RowKit Go.Deep
open Go.ChangeMaps (open_string shut_string)

theorem readStringG : Tryz.prog.readableRec 9 = true ∧ 9 < Tryz.prog.types.size := ⟨by kernel_rfl, of_decide_eq_true (by kernel_rfl)⟩
set_option maxRecDepth 100000 in
theorem lm_in {W : World} (h : laidMetH Tryz.prog Rows.graphTextsRow.laid W) (hsh : W.ShapedOpen Tryz.prog) : LM W := by
  rw [MakeChecks.laidMetH_plain _ _ _ (by kernel_rfl)] at h
  exact lm_of h hsh (.tail _ (.tail _ (.head _))) (.tail _ (.tail _ (.tail _ (.tail _ (.tail _ (.head _)))))) (.tail _ (.tail _ (.tail _ (.tail _ (.head _)))))
set_option maxRecDepth 100000 in
theorem graphTexts_lifted (os : Os) (started : os.Started) (H : Type) (enc : TypeId × Value → H) :
    ReturnsInHanded {} Tryz.checked os 3 .any (fun w args => (Rows.graphTextsSpec.pre enc Tryz.prog Tryz.f3 [] false w args ∧ laidMetH Tryz.prog Rows.graphTextsRow.laid w) ∧ sizedMet enc Tryz.prog Tryz.f3 (OpenSpec.ofChange Rows.graphTextsSpec) false w args)
      (Rows.graphTextsSpec.post enc Tryz.prog Tryz.f3 false true false false) := by
  refine handed_and_shaped (C := Tryz.checked) (X := fun w _ => laidMetH Tryz.prog Rows.graphTextsRow.laid w) (fun _ _ _ hh h => h.of_heap hh) own started (by kernel_rfl) Tryz.func3
    (ChangeSpec.witness_shaped (enc := enc) (C := Tryz.checked) (os := os) (X := fun w _ => laidMetH Tryz.prog Rows.graphTextsRow.laid w) false (World.laidAll Tryz.prog os Rows.graphTextsRow.laid) #[.agg #[.int .i64 0, .int .i64 0, .slice none 0 0], .string ⟨#[]⟩] 8 (World.laidAll_os _ _ _)
      (World.shaped_of_ZipB (by kernel_rfl) (by kernel_rfl)) (by kernel_rfl) (by kernel_rfl) (by kernel_rfl)
      (by rw [MakeChecks.laidMetH_plain _ _ _ (by kernel_rfl)]; exact laidMet_laidAll _ (by kernel_rfl) (by kernel_rfl))) ?_
  intro W base args ds gs before hval0 hW hL hsh
  have hval : ∀ (j : Nat) t v, Tryz.f3.params[j]? = some t → args[j]? = some v → Value.okWide Tryz.prog W .any base t v := hval0
  have hW' := hW
  obtain ⟨p, q, hA0, hV, rfl, hfz, hnd⟩ := hW
  have hA : DataW.TrodAll enc Tryz.prog W 0 (fun _ => true) true Tryz.f3.params.toList args.toList ds p := hA0
  rw [Tryz.params3] at hA hval
  obtain ⟨v0, v1, d0, d1, p0, p1, rfl, rfl, rfl, h0, h1⟩ := trodAll_two hA
  obtain ⟨rfl, rfl⟩ := trodVars_none hV
  have hlt : ∀ x ∈ p0 ++ p1, x.block < W.heap.size := fun x hx => hW'.lt x (List.mem_append_left _ (by simpa using hx))
  obtain ⟨A, q1, c1, rfl, sA, lA⟩ := graph_in (hval 0 24 v0 rfl rfl) h0 (fun x hx => hlt x (List.mem_append_left _ hx))
  obtain ⟨s, rfl, rfl, rfl, ws⟩ := open_string Tryz.underlying9 (hval 1 9 v1 rfl rfl) h1
  refine (lawGTexts_any A q1 c1 s W sA lA ws (lm_in hL hsh)).mono fun e W' ⟨he, hB⟩ => ?_
  subst he
  refine ⟨_, rfl, law_post hW' rfl (by kernel_rfl) ?_ rfl rfl rfl hB⟩
  rw [Tryz.params3]
  intro t ht
  simp only [List.mem_cons, List.not_mem_nil, or_false] at ht
  rcases ht with rfl | rfl
  · exact readGraph
  · exact readStringG

theorem graphTexts_holds : Rows.GraphTextsSaid :=
  OpenClaim.holds_of_wide 3 Tryz.f3 rfl rfl rfl rfl rfl rfl rfl ⟨rfl, rfl, rfl, rfl, rfl⟩ rfl rfl rfl rfl rfl (by kernel_rfl) Tryz.func3 (by kernel_rfl)
    (of_decide_eq_true (by kernel_rfl)) (by unfold Func.isWrapper; rw [if_neg (of_decide_eq_false (by kernel_rfl))]; exact ⟨rfl, rfl⟩)
    (fun os started H enc _ => graphTexts_lifted os started H enc)

theorem graphTexts_card : Rows.GraphTextsCardSaid :=
  Claim7.holds_tied_plain_at .later [] [.data, .data, .data, .data, .sentinel, .sentinel, .pinned] true _ true
    graphTexts_holds (fun _ h => by cases h) (by kernel_rfl) (fun _ h => by cases h) graphTexts_row_tie rfl ⟨rfl, rfl⟩ (by kernel_rfl) rfl
    (fun f fn hf hfn => by
      obtain rfl : f = 3 := Option.some.inj ((show Tryz.prog.funcNamed "groove/groovelaw09.GraphTexts" = some 3 by kernel_rfl).symm.trans hf) |>.symm
      obtain rfl : fn = Tryz.f3 := (Option.some.inj (Tryz.func3.symm.trans hfn)).symm
      exact ⟨by kernel_rfl, fun j t ht => by
        rw [Tryz.params3] at ht
        rcases j with _ | _ | j
        · obtain rfl : t = 24 := by simpa using ht.symm
          exact (show Tryz.prog.wantsStandIn 24 = false by kernel_rfl)
        · obtain rfl : t = 9 := by simpa using ht.symm
          exact (show Tryz.prog.wantsStandIn 9 = false by kernel_rfl)
        · simp at ht⟩)
    (by kernel_rfl)
#print axioms graphTexts_card
end Go.Proofs.YtcfmpplhghkagaaGreatDoor
