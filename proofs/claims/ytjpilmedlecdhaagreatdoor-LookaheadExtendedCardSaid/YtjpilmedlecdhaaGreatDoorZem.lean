/-
  Words, plain lemmas and walks, merged: Xa, Xh, Xi, Xj, Ri.
-/
import Derived.Test.YtjpilmedlecdhaaGreatDoorZei
import Derived.Test.YtjpilmedlecdhaaGreatDoorZeb
import Derived.OwnWalk
import Derived.Maps.AppendAt
import Derived.Test.YtjpilmedlecdhaaGreatDoorZel
import Derived.Laws.EntriesVeiled
import Derived.Test.YtjpilmedlecdhaaGreatDoorZek
import Derived.Orders
import Derived.RegionTactic
set_option linter.unusedVariables false
set_option linter.unusedSimpArgs false
namespace Go.Proofs.YtjpilmedlecdhaaGreatDoor
open Go.RowKit Go.Sort Go.Shelf Go.Lib

def extW (q : Nat) (l : List ByteArray) : List ByteArray := l.flatMap (fun w => (List.range q).map (fun c => w ++ letb1 c))
def rowW (w : ByteArray) (c : Nat) : List ByteArray := (List.range c).map (fun c => w ++ letb1 c)
theorem extW_succ {q : Nat} {l : List ByteArray} {i : Nat} (h : i < l.length) : extW q (l.take (i + 1)) = extW q (l.take i) ++ rowW l[i] q := by
  unfold extW rowW
  rw [List.take_succ_eq_append_getElem h, List.flatMap_append, List.flatMap_cons, List.flatMap_nil, List.append_nil]
theorem rowW_succ (w : ByteArray) (c : Nat) : rowW w (c + 1) = rowW w c ++ [w ++ letb1 c] := by
  unfold rowW; rw [List.range_succ, List.map_append]; rfl
theorem rowW_len (w : ByteArray) (c : Nat) : (rowW w c).length = c := by unfold rowW; rw [List.length_map, List.length_range]
theorem extW_len (q : Nat) : ∀ l : List ByteArray, (extW q l).length = l.length * q
  | [] => by simp [extW]
  | x :: l => by
    have := extW_len q l
    unfold extW at this ⊢
    rw [List.flatMap_cons, List.length_append, this, List.length_map, List.length_range, List.length_cons, Nat.succ_mul]; omega
theorem allF_over {q m : Nat} {l : List ByteArray} (h : allF q m = some l) (hl : 4096 < l.length * q) : ∀ k, m < k → allF q k = none
  | 0, hk => by omega
  | k + 1, hk => by
    rw [allF]
    by_cases e : k = m
    · subst e; rw [h]; show (if _ then _ else _) = _; rw [if_pos hl]
    · rw [allF_over h hl k (by omega)]; rfl
theorem allF_next {q m : Nat} {l : List ByteArray} (h : allF q m = some l) (hl : ¬ 4096 < l.length * q) : allF q (m + 1) = some (extW q l) := by
  rw [allF, h]; show (if _ then _ else _) = _; rw [if_neg hl]; rfl

/-- All words, or none where they are too many. -/
def RetAll (r : Option (List ByteArray)) (w : World) (e : Ending) (w' : World) : Prop :=
  RowKit.Below w.heap.size w w' ∧ match r with
  | none => e = .returned (.tuple #[.slice none 0 0, .int .i64 4])
  | some l => ∃ p c, e = .returned (.tuple #[.slice p l.length c, .int .i64 0]) ∧ Sl w' Value.string p l
theorem RetAll.over {r : Option (List ByteArray)} {w w' : World} (hr : r = none) (hB : RowKit.Below w.heap.size w w') : RetAll r w (.returned (.tuple #[.slice none 0 0, .int .i64 4])) w' := by subst hr; exact ⟨hB, rfl⟩
theorem RetAll.words {r : Option (List ByteArray)} {l : List ByteArray} {p : Option Addr} {c : Nat} {w w' : World} (hr : r = some l) (hs : Sl w' Value.string p l) (hB : RowKit.Below w.heap.size w w') : RetAll r w (.returned (.tuple #[.slice p l.length c, .int .i64 0])) w' := by subst hr; exact ⟨hB, p, c, rfl, hs⟩
theorem infoStrA : (Tryz.prog.info? 9).map (fun i => (i.zero, i.size, i.bytes)) = some (some (.string ⟨#[]⟩), 1, 16) := by kernel_rfl
theorem known_yes (q : Int) (h1 : 1 ≤ q) (h2 : q ≤ 16) (w : World) : Calls Tryz.prog 68 #[.int .i64 q] w fun e w' => e = .returned (.bool true) ∧ w = w' := by
  go_enter Tryz.func68, Tryz.ntmps68
  go_wp2
  go_ret
  exact ⟨rfl, rfl⟩

set_option maxRecDepth 100000 in
set_option maxHeartbeats 2000000 in
theorem wAll_any (q n : Nat) (w : World) (h2 : 2 ≤ q) (h16 : q ≤ 16) (hn : n ≤ 65536) :
    Calls Tryz.prog 42 #[.int .i64 q, .int .i64 n] w (RetAll (allF q n) w) := by
  obtain ⟨i0, hi0, hz0, hz1, hz3⟩ := info_parts infoStrA
  have HOV := hidI (fun (m : Nat) (l : List ByteArray) => @allF_over q m l)
  have HNX := hidI (fun (m : Nat) (l : List ByteArray) => @allF_next q m l)
  have HOK := hidI (allF_ok q h16)
  have h1 : ¬ ((q : Int) = 1) := by omega
  go_enter Tryz.func42, Tryz.ntmps42
  go_wp2_with fail
  refine (known_yes (q : Int) (by omega) (by omega) w).mono ?_
  rintro e w1 ⟨rfl, rfl⟩
  go_wp2_with fail
  go_loopw [6, 28] (fun v6 iv W => ∃ (k : Nat) (L : List ByteArray) (p : Option Addr) (c : Nat), k ≤ n ∧ iv = .int .i64 k ∧ v6 = .slice p L.length c ∧ Hid (allF q k = some L) ∧ Sl W Value.string p L ∧ RowKit.Below w.heap.size w W) (fun _ iv _ => n - (intOf iv).toNat)
  case atStart => 
    refine ⟨0, [⟨#[]⟩], _, _, by omega, rfl, rfl, rfl, ?_, (RowKit.Below.refl _ _).alloc (Nat.le_refl _) _⟩
    exact Sl.of_vrow (t := 9) (VRow.new w _ _)
  case round =>
    obtain ⟨k, L, p, c, hk, rfl, rfl, hL, hs, hB⟩ := hrel
    obtain ⟨W, rfl⟩ : ∃ W : World, W = wr := ⟨_, rfl⟩
    have hL16 := (HOK.out k L hL.out).1
    have HSZ := hidI (HOK.out k L hL.out).2
    by_cases hlt : k < n
    · have hltI : (k : Int) < (n : Int) := by omega
      obtain ⟨M, hM⟩ : ∃ M, M = L.length * q := ⟨_, rfl⟩
      have hwr : IntKind.i64.wrap ((L.length : Int) * (q : Int)) = (M : Int) := by
        rw [hM, Int.natCast_mul]
        refine IntWalk.i64_in _ ?_
        have : L.length * q ≤ 4096 * 16 := Nat.mul_le_mul hL16 h16
        have h2 : ((L.length * q : Nat) : Int) ≤ 4096 * 16 := by omega
        rw [Int.natCast_mul] at h2
        have h3 : (0 : Int) ≤ ((L.length * q : Nat) : Int) := by omega
        rw [Int.natCast_mul] at h3
        omega
      by_cases hov : 4096 < M
      · have hovI : (4096 : Int) < (M : Int) := by omega
        have HR := hidI (HOV.out k L hL.out (by omega) n hlt)
        clear hM
        go_wp2
        go_ret2
        exact RetAll.over HR.out hB
      · have hovI : ¬ (4096 : Int) < (M : Int) := by omega
        have HR := hidI (HNX.out k L hL.out (by omega))
        have HM := hidI hM
        clear hM
        go_wp2_with (first | (at_make; refine wpList_make_own _ rfl _ _ 23 rfl W.heap.size 9 i0 (.string ⟨#[]⟩) 1 Tryz.underlying23 hi0 hz0 hz1 .i64 .i64 _ M rfl rfl rfl (by rw [hz3]; omega) (by unfold maxLen; omega) (Nat.le_refl _) ?_; intro w3 hown3 hgrow3))
        have HS := hidI hs
        have HB := hidI hB
        have hM4 : M ≤ 4096 := by omega
        have hB3 : RowKit.Below W.heap.size W w3 := (RowKit.Below.refl _ _).grown hgrow3 (Nat.le_refl _) (fun j e => by cases e)
        clear hov hovI hwr hs hB hgrow3
        go_loopw [7, 42] (fun v7 iv X => ∃ (i m : Nat), i ≤ L.length ∧ iv = .int .i64 i ∧ X.ownsRow W.heap.size 9 1 v7 m ((extW q (L.take i)).map Value.string) ∧ RowKit.Below W.heap.size W X) (fun _ iv _ => L.length - (intOf iv).toNat)
        case atStart => exact ⟨0, 0, by omega, rfl, hown3, hB3⟩
        case round =>
          clear hown3 hB3
          obtain ⟨i, m, hi, rfl, hown, hB⟩ := hrel
          by_cases hlt2 : i < L.length
          · have hltJ : (i : Int) < (L.length : Int) := by omega
            have hsz := (HSZ.out _ (List.getElem_mem hlt2)).1
            have HES := hidI (extW_succ (q := q) hlt2)
            obtain ⟨b1, o1, rfl, hb1, hc1⟩ := (HS.out.below hB).get i hlt2
            have e1 := hc1 i hlt2
            clear hc1 hb1
            generalize L[i] = x at *
            have HM1 := hidI hown.1
            obtain ⟨X, rfl⟩ : ∃ X : World, X = wr := ⟨_, rfl⟩
            go_wp2_with fail
            clear e1
            go_loopw [7, 47] (fun v7 iv Z => ∃ (j m : Nat), j ≤ q ∧ iv = .int .i64 j ∧ Z.ownsRow W.heap.size 9 1 v7 m ((extW q (L.take i) ++ rowW x j).map Value.string) ∧ RowKit.Below W.heap.size W Z) (fun _ iv _ => q - (intOf iv).toNat)
            case atStart => exact ⟨0, m, by omega, rfl, by rw [show rowW x 0 = [] from rfl, List.append_nil]; exact hown, hB⟩
            case round =>
              clear hown hB
              obtain ⟨j, m2, hj, rfl, hown, hB⟩ := hrel
              by_cases hlt3 : j < q
              · have hltK : (j : Int) < (q : Int) := by omega
                have hls := letb1_size j (by omega)
                have HRS := hidI (rowW_succ x j)
                have hrl := rowW_len x j
                have hel := extW_len q (L.take i)
                have hlw := hown.lt
                have hz2 := hB.size
                have hM := HM.out
                have hile : (L.take i).length * q + q ≤ M := by
                  have h1 : (L.take i).length = i := by rw [List.length_take]; omega
                  have h2 : (i + 1) * q ≤ L.length * q := Nat.mul_le_mul (by omega) (Nat.le_refl _)
                  rw [h1, hM]; rw [Nat.succ_mul] at h2; omega
                have hm2 : m2 ≤ 4096 := by
                  have := hown.1
                  rw [List.length_map, List.length_append, hel, hrl] at this
                  omega
                have hownA := hown.alloc (.cells #[.string (x ++ letb1 j)] 9)
                have hnew := cell_one_at wr (.string (x ++ letb1 j)) 9 wr.heap.size rfl
                clear hM hrl hel hile
                go_wp2_with (at_builtin; refine wpList_append_own _ rfl _ _ 23 rfl W.heap.size 9 i0 (.string ⟨#[]⟩) 1 16 Tryz.underlying23 hi0 hz0 hz1 hz3 rfl (by decide) _ _ _ rfl hownA ⟨wr.heap.size, 0, none⟩ 1 1 [.string (x ++ letb1 j)] rfl rfl hnew (by simp [Value.oneCell']) (by simp [maxLen]; omega) (by omega) (by simp; omega) ?_; intro v' w4 hown' hgrow _)
                have hB4 : RowKit.Below W.heap.size W w4 := (hB.trans (((RowKit.Below.refl _ _).alloc (Nat.le_refl _) _).mono hz2)).grown hgrow (by simp; omega) (fun j e => (hlw j e).1)
                go_roundw
                case rel => exact ⟨j + 1, m2 + 1, by omega, by go_num, by rw [HRS.out, ← List.append_assoc, List.map_append]; exact hown', hB4⟩
                case measure => simp [intOf]; omega
              · obtain rfl : j = q := by omega
                have hltK : ¬ (j : Int) < (j : Int) := by omega
                go_wp2
                go_roundw
                case rel => exact ⟨i + 1, m2, by omega, by go_num, by rw [HES.out]; exact hown, hB⟩
                case measure => simp [intOf]; omega
          · obtain rfl : i = L.length := by omega
            have hltJ : ¬ (L.length : Int) < (L.length : Int) := by omega
            rw [List.take_length] at hown
            obtain ⟨p7, c7, rfl, hs7⟩ := own_sl hown
            have HO := hidI (HB.out.trans (hB.mono HB.out.size))
            have hs7 := hidI hs7
            clear hown hB
            generalize extW q L = L7 at *
            go_wp2
            go_roundw
            case rel => exact ⟨_, _, _, _, _, _, .int .i64 ((k : Int) + 1), ⟨k + 1, by omega, by go_num, L7, p7, ⟨c7, rfl⟩, HR.out, hs7.out, HO.out⟩, rfl, rfl, rfl, rfl, rfl, rfl, rfl⟩
            case measure => simp [intOf]; omega
    · obtain rfl : k = n := by omega
      have hltI : ¬ (k : Int) < (k : Int) := by omega
      have HR := hidI hL.out
      go_wp2
      go_ret2
      exact RetAll.words HR.out hs hB
end Go.Proofs.YtjpilmedlecdhaaGreatDoor
namespace Go.Proofs.YtjpilmedlecdhaaGreatDoor
open Go.RowKit Go.Sort Go.Shelf Go.Lib

def zT : Tb := ⟨0, 0, [], []⟩
/-- What Extend answers. -/
def extA (T : Tb) (G : Gr) : Tb × Int :=
  if fitA T G ≠ 0 then (zT, fitA T G) else
  match allF T.q.toNat (2 * T.n.toNat) with
  | none => (zT, 4)
  | some all => match extP all T G (bdN T G T.base.length) with
    | none => (zT, 6)
    | some x => (x, 0)
theorem extA_fit {T : Tb} {G : Gr} (h : fitA T G ≠ 0) : extA T G = (zT, fitA T G) := by unfold extA; rw [if_pos h]
theorem extA_all {T : Tb} {G : Gr} (h : fitA T G = 0) (h2 : allF T.q.toNat (2 * T.n.toNat) = none) : extA T G = (zT, 4) := by unfold extA; rw [if_neg (fun e => e h), h2]
theorem extA_none {T : Tb} {G : Gr} {all : List ByteArray} (h : fitA T G = 0) (h2 : allF T.q.toNat (2 * T.n.toNat) = some all) (h3 : extP all T G (bdN T G T.base.length) = none) : extA T G = (zT, 6) := by
  unfold extA; rw [if_neg (fun e => e h), h2]; show (match extP all T G _ with | none => _ | some x => _) = _; rw [h3]
theorem extA_some {T x : Tb} {G : Gr} {all : List ByteArray} (h : fitA T G = 0) (h2 : allF T.q.toNat (2 * T.n.toNat) = some all) (h3 : extP all T G (bdN T G T.base.length) = some x) : extA T G = (x, 0) := by
  unfold extA; rw [if_neg (fun e => e h), h2]; show (match extP all T G _ with | none => _ | some x => _) = _; rw [h3]
theorem extP_step {all : List ByteArray} {T out : Tb} {G : Gr} {l : List (Nat × Nat)} {k : Nat} (hk : k < l.length) (h : extP all T G (l.take k) = some out) :
    extP all T G (l.take (k + 1)) = if isSw T.swaps l[k].1 l[k].2 = true then some out else exS all T G T.swaps out l[k].1 l[k].2 := by
  unfold extP at h ⊢
  rw [List.take_succ_eq_append_getElem hk, List.foldl_append, h]; rfl
theorem extP_stop {all : List ByteArray} {T : Tb} {G : Gr} {l : List (Nat × Nat)} {k : Nat} (h : extP all T G (l.take k) = none) : extP all T G l = none := by
  unfold extP at h ⊢
  conv => lhs; rw [← List.take_append_drop k l]
  rw [List.foldl_append, h, fold_none]
theorem find_idxP {α : Type} (f : α → Bool) : ∀ (l : List α), (idxP f l = -1 ∧ l.find? f = none) ∨ ∃ k, ∃ h : k < l.length, idxP f l = k ∧ l.find? f = some l[k] ∧ f l[k] = true
  | [] => .inl ⟨rfl, rfl⟩
  | x :: l => by
    unfold idxP
    cases hx : f x
    · rcases find_idxP f l with ⟨h1, h2⟩ | ⟨k, hk, h1, h2, h3⟩
      · refine .inl ⟨?_, ?_⟩
        · rw [if_neg (by simp), if_pos (by omega)]
        · rw [List.find?_cons, hx]; exact h2
      · refine .inr ⟨k + 1, by simp; omega, ?_, ?_, ?_⟩
        · rw [if_neg (by simp), if_neg (by omega)]; omega
        · rw [List.find?_cons, hx]; simpa using h2
        · simpa using h3
    · refine .inr ⟨0, by simp, ?_, ?_, ?_⟩
      · rw [if_pos rfl]; rfl
      · rw [List.find?_cons, hx]; rfl
      · simpa using hx
theorem srt_of_fmd {T : Tb} (h : fmd T = true) : SrtW T.swaps := fun i j hi hj hij => sorted_lt (fmd_split h).2.1 j i hj hij
theorem exS_find {all : List ByteArray} {T out : Tb} {G : Gr} {S : List Sw} {i j : Nat} : exS all T G S out i j = (all.find? (okE T G S out i j)).map (fun v => wthT out ⟨i, j, v⟩) := rfl
theorem okE_fmd {T out : Tb} {G : Gr} {S : List Sw} {i j : Nat} {v : ByteArray} (h : okE T G S out i j v = true) : fmd (wthT out ⟨i, j, v⟩) = true := by
  unfold okE at h
  rw [Bool.and_eq_true, Bool.and_eq_true] at h
  exact h.2.1

/-- Words in memory of the call's own. -/
def RetOwnW (l : List ByteArray) (w : World) (e : Ending) (w' : World) : Prop := ∃ p n c, e = .returned (.slice p n c) ∧ Hid (n = l.length) ∧ Hid (w'.ownsRow w.heap.size 9 1 (.slice p n c) n (l.map Value.string)) ∧ Below w.heap.size w w'
theorem own_form {w : World} {B e s n : Nat} {v : Value} {xs : List Value} (h : w.ownsRow B e s v n xs) : ∃ p c, v = .slice p n c := by
  rcases h.2 with ⟨h0, h1⟩ | ⟨g, cap, cur, e1, _⟩
  · subst h1; exact ⟨none, 0, h0⟩
  · exact ⟨_, _, e1⟩
set_option maxRecDepth 100000 in
theorem cloneStr_any (l : List ByteArray) (p : Option Addr) (c : Nat) (w : World) (hin : Sl w Value.string p l) (hl : l.length ≤ 1000) :
    Calls Tryz.prog 48 #[.slice p l.length c] w (RetOwnW l w) := by
  obtain ⟨i0, hi0, hz0, hz1, hz2⟩ := info_parts infoStrA
  have q22 : ∀ (w : World) (a : Option Addr) (n c n' c' : Nat), (binOp .eql 23 (.slice a n c) (.slice none n' c')).run Tryz.prog w = .ok (.bool a.isNone) w := fun w a n c n' c' => Lib.run_eql_slice_nil w _ _ a n c n' c' Tryz.underlying23
  have hown0 : (w.alloc (.cells #[] 9)).ownsRow w.heap.size 9 1 (.slice (some ⟨w.heap.size, 0, none⟩) 0 0) 0 [] := ⟨rfl, .inr ⟨w.heap.size, _, _, rfl, Nat.le_refl _, heap_alloc_new w _, Nat.le_refl _, by simp, rfl, rfl⟩⟩
  cases p with
  | none =>
    have h0 : l = [] := by rcases hin with h | ⟨_, _, hp, _⟩; exact h; cases hp
    subst h0
    go_enter Tryz.func48, Tryz.ntmps48
    go_wp2_with fail
    go_ret
    exact ⟨_, _, _, rfl, rfl, World.ownsRow_nil _ _ _ _, Below.refl _ _⟩
  | some ad =>
    have hcl : ∀ (j : Nat) (u : Value), (l.map Value.string)[j]? = some u → (w.alloc (.cells #[] 9)).cell? (ad.add j) = some u := by
      intro j u hu
      rcases hin with h0 | ⟨b, off, hp, hb, hc⟩
      · subst h0; simp at hu
      · cases hp
        rw [List.getElem?_map] at hu
        obtain ⟨x, hx, rfl⟩ := Option.map_eq_some_iff.1 hu
        obtain ⟨hj, rfl⟩ := List.getElem?_eq_some_iff.1 hx
        rw [Addr.add_lit]
        exact (((Below.refl _ _).alloc (Nat.le_refl _) _).cell (p := ⟨b, off + j, none⟩) hb).trans (hc j hj)
    have hcl2 : (l.map Value.string).length = l.length * 1 := by simp
    have h1 : ∀ u ∈ l.map Value.string, u.oneCell' = true := by
      intro u hu; obtain ⟨x, _, rfl⟩ := List.mem_map.1 hu; rfl
    clear hin
    generalize hL : l.map Value.string = L at hcl hcl2 h1
    replace hL := hidI hL
    go_enter Tryz.func48, Tryz.ntmps48
    go_wp2_with (at_builtin; refine wpList_append_own _ rfl _ _ 23 rfl w.heap.size 9 i0 _ 1 16 Tryz.underlying23 hi0 hz0 hz1 hz2 rfl (by decide) _ _ _ rfl hown0 ad l.length c L rfl hcl2 hcl h1 (by simp [maxLen]; omega) (by omega) (by simp) ?_; intro v' w1 hown' hgrow _)
    obtain ⟨p', c', rfl⟩ := own_form hown'
    go_ret
    exact ⟨_, _, _, rfl, by simp [Hid], by rw [Hid, hL.out]; simpa using hown', ((Below.refl _ _).alloc (Nat.le_refl _) _).grown hgrow (by simp) (fun j e => by cases e; exact Nat.le_refl _)⟩
end Go.Proofs.YtjpilmedlecdhaaGreatDoor
namespace Go.Proofs.YtjpilmedlecdhaaGreatDoor
open Go.RowKit Go.Sort Go.Shelf Go.Lib

/-- A table and an error. -/
def RetExt (x : Tb × Int) (w : World) (e : Ending) (w' : World) : Prop := ∃ p1 p2 c1 c2, e = .returned (.tuple #[.agg #[.int .i64 x.1.q, .int .i64 x.1.n, .slice p1 x.1.base.length c1, .slice p2 x.1.swaps.length c2], .int .i64 x.2]) ∧ TbIn w' x.1 p1 p2 c1 c2 ∧ RowKit.Below w.heap.size w w'
theorem RetExt.zero {x : Tb × Int} {k : Int} {w w' : World} (h : x = (zT, k) ∧ RowKit.Below w.heap.size w w') : RetExt x w (.returned (.tuple #[.agg #[.int .i64 0, .int .i64 0, .slice none 0 0, .slice none 0 0], .int .i64 k])) w' := by
  obtain ⟨rfl, hB⟩ := h
  exact ⟨none, none, 0, 0, rfl, ⟨.inl rfl, .inl rfl, Nat.le_refl _, by show 0 ≤ _; omega, by show 0 ≤ _; omega, fun j h => absurd h (Nat.not_lt_zero _), fun j h => absurd h (Nat.not_lt_zero _)⟩, hB⟩
theorem set4 {w0 W : World} {b : Nat} {v0 v1 v2 v3 : Value} (h : RowKit.Below w0.heap.size w0 W) (hb : w0.heap.size ≤ b) : RowKit.Below w0.heap.size w0 ((((W.setCell ⟨b, 0, none⟩ v0).setCell ⟨b, 1, none⟩ v1).setCell ⟨b, 2, none⟩ v2).setCell ⟨b, 3, none⟩ v3) :=
  (((h.setCell hb _).setCell hb _).setCell hb _).setCell hb _

/-- The table under way: its box, its rows of the call's own. -/
structure OutE (w4 W : World) (bo : Nat) (out : Tb) (o1 o2 : Option Addr) (d1 d2 : Nat) : Prop where
  row : VRow W bo 26 [.int .i64 out.q, .int .i64 out.n, .slice o1 out.base.length d1, .slice o2 out.swaps.length d2]
  ob : W.ownsRow w4.heap.size 9 1 (.slice o1 out.base.length d1) out.base.length (out.base.map Value.string)
  os : W.ownsRow w4.heap.size 55 3 (.slice o2 out.swaps.length d2) out.swaps.length (catS out.swaps)
  bel : RowKit.Below bo w4 W
def OutY (w4 W : World) (bo : Nat) (out : Tb) : Prop := ∃ o1 o2 d1 d2, OutE w4 W bo out o1 o2 d1 d2
theorem OutE.base {w4 W : World} {bo : Nat} {out : Tb} {o1 o2 : Option Addr} {d1 d2 : Nat} (h : OutE w4 W bo out o1 o2 d1 d2) : Sl W Value.string o1 out.base := by
  obtain ⟨p, c, e, hs⟩ := own_sl h.ob
  cases e; exact hs
theorem OutE.tb {w4 W : World} {bo : Nat} {out : Tb} {o1 o2 : Option Addr} {d1 d2 : Nat} (h : OutE w4 W bo out o1 o2 d1 d2) (h1 : out.base.length ≤ 1000) (h2 : out.swaps.length ≤ 1000) (z1 : ∀ j (h : j < out.base.length), out.base[j].size ≤ maxLen) (z2 : ∀ j (h : j < out.swaps.length), out.swaps[j].wd.size ≤ maxLen) : TbIn W out o1 o2 d1 d2 :=
  ⟨h.base, RetWith.sg h.os, own_cap h.ob _ _ _ rfl, by omega, by omega, z1, z2⟩
theorem OutE.below {w4 W W' : World} {bo : Nat} {out : Tb} {o1 o2 : Option Addr} {d1 d2 : Nat} (h : OutE w4 W bo out o1 o2 d1 d2) (hB : RowKit.Below W.heap.size W W') (hbo : bo < w4.heap.size) : OutE w4 W' bo out o1 o2 d1 d2 :=
  ⟨h.row.below hB h.row.lt, h.ob.below hB, h.os.below hB, h.bel.trans (hB.mono (Nat.le_trans (Nat.le_of_lt hbo) h.bel.size))⟩
/-- The table under way, as numbers. -/
structure OutP (all : List ByteArray) (T : Tb) (G : Gr) (l : List (Nat × Nat)) (k : Nat) (out : Tb) : Prop where
  fold : extP all T G (l.take k) = some out
  q : out.q = T.q
  n : out.n = T.n
  base : out.base = T.base
  srt : SrtW out.swaps
  len : out.swaps.length ≤ 64 + k
  z2 : ∀ j (h : j < out.swaps.length), out.swaps[j].wd.size ≤ maxLen
theorem OutP.start {all : List ByteArray} {T : Tb} {G : Gr} {l : List (Nat × Nat)} (hf : fmd T = true) (z2 : ∀ j (h : j < T.swaps.length), T.swaps[j].wd.size ≤ maxLen) : OutP all T G l 0 T :=
  ⟨rfl, rfl, rfl, rfl, srt_of_fmd hf, by have := pre_all (fmd_split hf).1; omega, z2⟩
theorem OutP.same {all : List ByteArray} {T out : Tb} {G : Gr} {l : List (Nat × Nat)} {k : Nat} (h : OutP all T G l k out) (hk : k < l.length) (hs : isSw T.swaps l[k].1 l[k].2 = true) : OutP all T G l (k + 1) out :=
  ⟨by rw [extP_step hk h.fold, if_pos hs], h.q, h.n, h.base, h.srt, by have := h.len; omega, h.z2⟩
theorem OutP.fail {all : List ByteArray} {T out : Tb} {G : Gr} {l : List (Nat × Nat)} {k : Nat} (h : OutP all T G l k out) (hk : k < l.length) (hs : isSw T.swaps l[k].1 l[k].2 = false) (hf : all.find? (okE T G T.swaps out l[k].1 l[k].2) = none) : extP all T G l = none := by
  refine extP_stop (k := k + 1) ?_
  rw [extP_step hk h.fold, hs, exS_find, hf]; rfl
theorem OutP.next {all : List ByteArray} {T out : Tb} {G : Gr} {l : List (Nat × Nat)} {k : Nat} {v : ByteArray} (h : OutP all T G l k out) (hk : k < l.length) (hs : isSw T.swaps l[k].1 l[k].2 = false) (hf : all.find? (okE T G T.swaps out l[k].1 l[k].2) = some v) (hv : v.size ≤ maxLen) (ho : okE T G T.swaps out l[k].1 l[k].2 v = true) :
    OutP all T G l (k + 1) (wthT out ⟨l[k].1, l[k].2, v⟩) :=
  ⟨by rw [extP_step hk h.fold, hs, exS_find, hf]; rfl, h.q, h.n, h.base, srt_of_fmd (okE_fmd ho), by have := h.len; show (insW out.swaps _).length ≤ _; rw [insW_len]; omega, insW_wd h.z2 hv⟩
theorem OutP.all {all : List ByteArray} {T out : Tb} {G : Gr} {l : List (Nat × Nat)} (h : OutP all T G l l.length out) : extP all T G l = some out := by
  have := h.fold; rw [List.take_length] at this; exact this
def RetOwnS2 (l : List Sw) (w : World) (e : Ending) (w' : World) : Prop := ∃ p n c, e = .returned (.slice p n c) ∧ Hid (n = l.length) ∧ Hid (w'.ownsRow w.heap.size 55 3 (.slice p n c) n (catS l)) ∧ RowKit.Below w.heap.size w w'
theorem cloneSw_sl (l : List Sw) (p : Option Addr) (c : Nat) (w : World) (hin : Sg 3 w swE p l) (hl : l.length ≤ 1000) :
    Calls Tryz.prog 49 #[.slice p l.length c] w (RetOwnS2 l w) := by
  refine (cloneSw_any l p c w hin hl).mono ?_
  rintro e w' ⟨v, rfl, ho, hB⟩
  obtain ⟨p', c', rfl, _, _, hn⟩ := own_sgS ho
  exact ⟨p', l.length, c', rfl, rfl, ho, hB⟩

set_option maxRecDepth 100000 in
set_option maxHeartbeats 4000000 in
theorem lkExtend_any (T : Tb) (p1 p2 : Option Addr) (c1 c2 : Nat) (G : Gr) (pg : Option Addr) (cg : Nat) (w : World) (hin : TbIn w T p1 p2 c1 c2) (hG : Sg 3 w edE pg G.es) (hGl : G.es.length ≤ 9223372036854775807) :
    Calls Tryz.prog 16 #[(.agg #[.int .i64 T.q, .int .i64 T.n, .slice p1 T.base.length c1, .slice p2 T.swaps.length c2]), (.agg #[.int .i64 G.q, .int .i64 G.n, .slice pg G.es.length cg])] w (RetExt (extA T G) w) := by
  obtain ⟨w0, hw0⟩ : ∃ w0, w0 = ((w.alloc (.cells #[.int .i64 T.q, .int .i64 T.n, .slice p1 T.base.length c1, .slice p2 T.swaps.length c2] 26)).alloc (.cells #[.int .i64 G.q, .int .i64 G.n, .slice pg G.es.length cg] 30)).alloc (.cells #[.int .i64 0, .int .i64 0, .slice none 0 0, .slice none 0 0] 26) := ⟨_, rfl⟩
  have b0 : VRow w0 w.heap.size 26 [.int .i64 T.q, .int .i64 T.n, .slice p1 T.base.length c1, .slice p2 T.swaps.length c2] := by subst hw0; exact ((VRow.new w _ _).alloc _).alloc _
  have d0 : VRow w0 (w.heap.size + 1) 30 [.int .i64 G.q, .int .i64 G.n, .slice pg G.es.length cg] := by subst hw0; exact (VRow.new1 w _ _ _).alloc _
  have r0 : VRow w0 (w.heap.size + 1 + 1) 26 [.int .i64 0, .int .i64 0, .slice none 0 0, .slice none 0 0] := by subst hw0; exact VRow.new2 w _ _ _ _
  have hB0 : RowKit.Below w.heap.size w w0 := by subst hw0; exact (((RowKit.Below.refl _ _).alloc (Nat.le_refl _) _).alloc (by simp) _).alloc (by simp; omega) _
  have HC := hidI (lkCheck0_any T p1 p2 c1 c2 G pg cg w0 (hin.below hB0) (hG.below hB0) hGl)
  have HFZ := hidI (@fit_zero T G)
  have HIN := hidI (hin.below hB0); have HG := hidI (hG.below hB0)
  have HX0 := hidI (@extA_fit T G); have HX1 := hidI (@extA_all T G); have HX2 := hidI (fun all => @extA_none T G all); have HX3 := hidI (fun all x => @extA_some T x G all)
  have a0 := b0.at 0 rfl; have a1 := b0.at 1 rfl; have a2 := b0.at 2 rfl; have a3 := b0.at 3 rfl
  have e0 := d0.at 0 rfl; have e1 := d0.at 1 rfl; have e2 := d0.at 2 rfl
  have HB0 := hidI hB0
  clear hin hG
  generalize extA T G = XA at *
  generalize fitA T G = k at *
  go_enter Tryz.func16, Tryz.ntmps16
  go_upto_region 1 with fail
  rw [← hw0]
  clear hw0
  go_wp2_with fail
  refine HC.out.mono ?_
  rintro e w1 ⟨rfl, hB1⟩
  have x1 := HB0.out.trans (hB1.mono HB0.out.size)
  have t1 := b0.below hB1 b0.lt
  have g1 := d0.below hB1 d0.lt
  have r1 := r0.below hB1 r0.lt
  have HIN1 := hidI (HIN.out.below hB1); have HG1 := hidI (HG.out.below hB1)
  clear a0 a1 a2 a3 e0 e1 e2 b0 d0 r0 hB1 HC hB0 HIN HG HB0
  by_cases hk : k = 0
  · obtain ⟨h1, h2, h3⟩ := HFZ.out hk
    have HF := hidI h1; have HV := hidI h2; have HGQ := hidI h3
    have hN := pre_all (fmd_split h1).1
    have hq1 : 2 ≤ T.q := hN.1
    have hq2 : T.q ≤ 16 := hN.2.1
    have hn1 : 1 ≤ T.n := hN.2.2.1
    have hn2 : T.n ≤ 8 := hN.2.2.2.1
    have hN16 : T.base.length ≤ 16 := hN.2.2.2.2.2.1
    have hS64 : T.swaps.length ≤ 64 := hN.2.2.2.2.2.2
    have HY1 := hidI (HX1.out hk); have HY2 := hidI (fun all => HX2.out all hk); have HY3 := hidI (fun all x => HX3.out all x hk)
    have HALL : Hid (∀ W : World, Calls Tryz.prog 42 #[.int .i64 T.q, .int .i64 (2 * T.n)] W (RetAll (allF T.q.toNat (2 * T.n.toNat)) W)) := fun W => by
      have e1 : ((T.q.toNat : Nat) : Int) = T.q := Int.toNat_of_nonneg (by omega)
      have e2 : ((2 * T.n.toNat : Nat) : Int) = 2 * T.n := by omega
      have h := wAll_any T.q.toNat (2 * T.n.toNat) W (by omega) (by omega) (by omega)
      rw [e1, e2] at h; exact h
    have HOKA := hidI (fun l => allF_ok T.q.toNat (by omega) (2 * T.n.toNat) l)
    subst hk
    clear h1 h2 h3 hN HFZ HX0 HX1 HX2 HX3
    generalize allF T.q.toNat (2 * T.n.toNat) = AL at *
    have a0 := t1.at 0 rfl; have a1 := t1.at 1 rfl
    go_wp2_with fail
    refine (HALL.out w1).mono ?_
    cases AL with
    | none =>
      rintro e w2 ⟨hB2, rfl⟩
      have HR := hidI (HY1.out (by first | trivial | rfl))
      have x2 := x1.trans (hB2.mono x1.size)
      have r2 := r1.below hB2 r1.lt
      clear HALL HY1 HY2 HY3 a0 a1 t1 g1 r1 x1 hB2 HOKA
      have y0 := r2.at 0 rfl; have y1 := r2.at 1 rfl; have y2 := r2.at 2 rfl; have y3 := r2.at 3 rfl
      have f0 := r2.frozen 0; have f1 := r2.frozen 1; have f2 := r2.frozen 2; have f3 := r2.frozen 3
      go_wp2_with fail
      (have r6 := VRow.set (i := 3) (.slice none 0 0) (VRow.set (i := 2) (.slice none 0 0) (VRow.set (i := 1) (.int .i64 0) (VRow.set (i := 0) (.int .i64 0) r2))); have y0 := r6.at 0 rfl; have y1 := r6.at 1 rfl; have y2 := r6.at 2 rfl; have y3 := r6.at 3 rfl; exact bodyPost_ret (v := .tuple #[.agg #[.int .i64 0, .int .i64 0, .slice none 0 0, .slice none 0 0], .int .i64 4]) (by simp [results, Tryz.results16, go_sem, y0, y1, y2, y3]) rfl (RetExt.zero ⟨HR.out, set4 x2 (by omega)⟩))
    | some all =>
      rintro e w2 ⟨hB2, pa, ca, rfl, hAL⟩
      have x2 := x1.trans (hB2.mono x1.size)
      have r2 := r1.below hB2 r1.lt
      have t2 := t1.below hB2 t1.lt
      have g2 := g1.below hB2 g1.lt
      have HIN2 := hidI (HIN1.out.below hB2); have HG2 := hidI (HG1.out.below hB2)
      have HOK := hidI (HOKA.out all (by first | trivial | rfl))
      have HZ2 := hidI (HY2.out all (by first | trivial | rfl)); have HZ3 := hidI (fun x => HY3.out all x (by first | trivial | rfl))
      have HAL := hidI hAL
      clear HALL HY1 HY2 HY3 HOKA a0 a1 t1 g1 r1 x1 hB2 hAL HIN1 HG1
      have HBD := hidI (lkbad_any T p1 p2 c1 c2 G pg cg w2 HIN2.out HG2.out HF.out HV.out HGQ.out)
      have a0 := t2.at 0 rfl; have a1 := t2.at 1 rfl; have a2 := t2.at 2 rfl; have a3 := t2.at 3 rfl
      have e0 := g2.at 0 rfl; have e1 := g2.at 1 rfl; have e2 := g2.at 2 rfl
      go_wp2_with fail
      refine HBD.out.mono ?_
      rintro e w3 ⟨pL, cL, X, rfl, hLL, hB3⟩
      have x3 := x2.trans (hB3.mono x2.size)
      have r3 := r2.below hB3 r2.lt
      have t3 := t2.below hB3 t2.lt
      have g3 := g2.below hB3 g2.lt
      have HIN3 := hidI (HIN2.out.below hB3); have HG3 := hidI (HG2.out.below hB3); have HAL3 := hidI (HAL.out.below hB3)
      clear HBD a0 a1 a2 a3 e0 e1 e2 r2 t2 g2 HIN2 HG2 HAL hB3 x2
      have a0 := t3.at 0 rfl; have a1 := t3.at 1 rfl; have a2 := t3.at 2 rfl; have a3 := t3.at 3 rfl
      have zt := t3.lt
      go_upto_region 10 with fail
      have hbl := badN_len T G T.base.length
      have hbl2 : T.base.length * T.base.length ≤ 16 * 16 := Nat.mul_le_mul hN16 hN16
      have hLl : (badL T G).length ≤ 256 := by show (badN T G T.base.length).length ≤ 256; omega
      obtain ⟨w4, hw4⟩ : ∃ w4, w4 = ((w3.alloc (.cells #[.slice pL (badL T G).length cL] 50)).alloc (.cells #[.func (.func 44) #[] #[.pointer (some ⟨w3.heap.size, 0, none⟩), .pointer (some ⟨w.heap.size, 0, none⟩)]] 61)).alloc (.cells #[.int .i64 T.q, .int .i64 T.n, .slice p1 T.base.length c1, .slice p2 T.swaps.length c2] 26) := ⟨_, rfl⟩
      have s4 : VRow w4 w3.heap.size 50 [.slice pL (badL T G).length cL] := by subst hw4; exact ((VRow.new w3 _ _).alloc _).alloc _
      have i4 : VRow w4 (w3.heap.size + 1) 61 [.func (.func 44) #[] #[.pointer (some ⟨w3.heap.size, 0, none⟩), .pointer (some ⟨w.heap.size, 0, none⟩)]] := by subst hw4; exact (VRow.new1 w3 _ _ _).alloc _
      have o4 : VRow w4 (w3.heap.size + 1 + 1) 26 [.int .i64 T.q, .int .i64 T.n, .slice p1 T.base.length c1, .slice p2 T.swaps.length c2] := by subst hw4; exact VRow.new2 w3 _ _ _ _
      have hB4 : RowKit.Below w3.heap.size w3 w4 := by subst hw4; exact (((RowKit.Below.refl _ _).alloc (Nat.le_refl _) _).alloc (by simp) _).alloc (by simp; omega) _
      have hsz4 : w4.heap.size = w3.heap.size + 1 + 1 + 1 := by subst hw4; simp
      rw [← hw4]
      clear hw4
      have x4 := x3.trans (hB4.mono x3.size)
      have r4 := r3.below hB4 r3.lt
      have t4 := t3.below hB4 t3.lt
      have g4 := g3.below hB4 g3.lt
      have HIN4 := hidI (HIN3.out.below hB4); have HG4 := hidI (HG3.out.below hB4); have HAL4 := hidI (HAL3.out.below hB4)
      have HLL4 := hidI (hLL.below hB4)
      have zt4 : w.heap.size < w3.heap.size := zt
      have zr4 : w.heap.size + 1 + 1 < w3.heap.size := r3.lt
      have hsz4 := hidI hsz4
      have HLL3 := hidI hLL
      have HB34 := hidI hB4
      clear a0 a1 a2 a3 r3 t3 g3 hLL x3 hB4 zt hbl hbl2
      have a2 := t4.at 2 rfl; have a3 := t4.at 3 rfl
      have HCS := hidI (fun W (hW : RowKit.Below w4.heap.size w4 W) => cloneStr_any T.base p1 c1 W (HIN4.out.base.below hW) (by omega))
      have HCW := hidI (fun W (hW : RowKit.Below w4.heap.size w4 W) => cloneSw_sl T.swaps p2 c2 W (HIN4.out.swaps.below hW) (by omega))
      go_cut [40] (fun _ W => OutY w4 W (w3.heap.size + 1 + 1) T)
      case first =>
        go_region_with (first
          | (go_at_call 48; refine (HCS.out _ ?_).mono ?_; (first | exact below_dN (RowKit.Below.refl _ _) 1 | exact hXb); rintro e wa ⟨pa1, na1, ca1, rfl, hNa, hOa, hBa⟩; have ta : VRow wa w.heap.size 26 [.int .i64 T.q, .int .i64 T.n, .slice p1 T.base.length c1, .slice p2 T.swaps.length c2] := (by first | exact (t4.dr ⟨1, rfl⟩).below hBa t4.lt | exact tb.below hBa tb.lt); have oa : VRow wa (w3.heap.size + 1 + 1) 26 [.int .i64 T.q, .int .i64 T.n, .slice p1 T.base.length c1, .slice p2 T.swaps.length c2] := (by first | exact (o4.dr ⟨1, rfl⟩).below hBa o4.lt | exact ob.below hBa ob.lt); have hXa : RowKit.Below w4.heap.size w4 wa := (by first | exact (below_dN (RowKit.Below.refl w4.heap.size w4) 1).trans hBa | exact hXb.trans (hBa.mono hXb.size)); have ta2 := ta.at 2 rfl; have ta3 := ta.at 3 rfl; have oa0 := oa.at 0 rfl; have oa1 := oa.at 1 rfl; have oa2 := oa.at 2 rfl; have oa3 := oa.at 3 rfl; have of2 := oa.frozen 2; have of3 := oa.frozen 3)
          | (go_at_call 49; refine (HCW.out _ ?_).mono ?_; (first | exact below_dN (RowKit.Below.refl _ _) 1 | exact hXa); rintro e wb ⟨pb1, nb1, cb1, rfl, hNb, hOb, hBb⟩; have tb : VRow wb w.heap.size 26 [.int .i64 T.q, .int .i64 T.n, .slice p1 T.base.length c1, .slice p2 T.swaps.length c2] := (by first | exact (t4.dr ⟨1, rfl⟩).below hBb t4.lt | exact ta.below hBb ta.lt); have ob : VRow wb (w3.heap.size + 1 + 1) 26 [.int .i64 T.q, .int .i64 T.n, .slice p1 T.base.length c1, .slice p2 T.swaps.length c2] := (by first | exact (o4.dr ⟨1, rfl⟩).below hBb o4.lt | exact oa.below hBb oa.lt); have hXb : RowKit.Below w4.heap.size w4 wb := (by first | exact (below_dN (RowKit.Below.refl w4.heap.size w4) 1).trans hBb | exact hXa.trans (hBb.mono hXa.size)); have tb2 := tb.at 2 rfl; have tb3 := tb.at 3 rfl; have ob0 := ob.at 0 rfl; have ob1 := ob.at 1 rfl; have ob2 := ob.at 2 rfl; have ob3 := ob.at 3 rfl; have obf2 := ob.frozen 2; have obf3 := ob.frozen 3)
          | fail)
        all_goals
          have hna := hNa.out
          have hnb := hNb.out
          subst hna hnb
          have hbo : w3.heap.size + 1 + 1 < w4.heap.size := by have := hsz4.out; omega
          have k1 := ownsRow_setCell_below (a := ⟨w3.heap.size + 1 + 1, 3, none⟩) (ownsRow_setCell_below (a := ⟨w3.heap.size + 1 + 1, 2, none⟩) (hOa.out.below hBb) hbo (.slice pa1 T.base.length ca1)) hbo (.slice pb1 T.swaps.length cb1)
          have k2 := ownsRow_setCell_below (a := ⟨w3.heap.size + 1 + 1, 3, none⟩) (ownsRow_setCell_below (a := ⟨w3.heap.size + 1 + 1, 2, none⟩) (own_base hOb.out hXa.size) hbo (.slice pa1 T.base.length ca1)) hbo (.slice pb1 T.swaps.length cb1)
          have hrow := VRow.set (i := 3) (.slice pb1 T.swaps.length cb1) (VRow.set (i := 2) (.slice pa1 T.base.length ca1) ob)
          have hbl : RowKit.Below (w3.heap.size + 1 + 1) w4 ((wb.setCell ⟨w3.heap.size + 1 + 1, 2, none⟩ (.slice pa1 T.base.length ca1)).setCell ⟨w3.heap.size + 1 + 1, 3, none⟩ (.slice pb1 T.swaps.length cb1)) := ((hXb.mono (Nat.le_of_lt hbo)).setCell (Nat.le_refl _) _).setCell (Nat.le_refl _) _
          go_wp2_with fail
          go_meet
          exact ⟨pa1, pb1, ca1, cb1, hrow, k1, k2, hbl⟩
      case rest =>
        have hOX := hcut
        have hbo : w3.heap.size + 1 + 1 < w4.heap.size := by have := hsz4.out; omega
        have hbel : RowKit.Below (w3.heap.size + 1 + 1) w4 wc := by obtain ⟨_, _, _, _, h⟩ := hOX; exact h.bel
        have sc := (s4.below hbel (by omega)).at 0 rfl
        have HP0 := hidI (OutP.start (all := all) (G := G) (l := bdN T G T.base.length) HF.out HIN3.out.z2)
        have HLM := hidI (badN_map T G T.base.length)
        have HLL : Hid ((badL T G).length = (bdN T G T.base.length).length) := by show (badN T G T.base.length).length = _; rw [HLM.out, List.length_map]
        have S4 := hidI s4; have I4 := hidI i4; have T4 := hidI t4; have G4 := hidI g4; have R4 := hidI r4; have X4 := hidI x4
        have HOX := hidI hOX
        clear a2 a3 HCS HCW hbel hOX hcut s4 i4 t4 g4 r4 x4 o4 HIN4 HG4 HAL4 HLL4
        go_wp2_with fail
        clear sc
        go_loopw [49] (fun iv W => ∃ (k : Nat) (out : Tb), k ≤ (badL T G).length ∧ iv = .int .i64 k ∧ Hid (OutP all T G (bdN T G T.base.length) k out) ∧ Hid (OutY w4 W (w3.heap.size + 1 + 1) out)) (fun iv _ => (badL T G).length - (intOf iv).toNat)
        case atStart => exact ⟨0, T, by omega, rfl, HP0, HOX⟩
        case round =>
          clear HP0 HOX
          obtain ⟨k, out, hk, rfl, HP, HO⟩ := hrel
          by_cases hlt : k < (badL T G).length
          · have hltI : (k : Int) < ((badL T G).length : Int) := by omega
            obtain ⟨o1, o2, d1, d2, hE⟩ := HO.out
            have hkl : k < (bdN T G T.base.length).length := by rw [← HLL.out]; exact hlt
            obtain ⟨i, j, hij⟩ : ∃ i j, (bdN T G T.base.length)[k] = (i, j) := ⟨_, _, rfl⟩
            have hpr := bdN_mem.1 (List.getElem_mem hkl)
            rw [hij] at hpr
            have hiN : i < T.base.length := hpr.1
            have hLk : (badL T G)[k] = [(i : Int), (j : Int)] := by
              have e := List.getElem_of_eq (show badL T G = (bdN T G T.base.length).map prL from HLM.out) hlt
              rw [e, List.getElem_map, hij]; rfl
            have hB3r : RowKit.Below w3.heap.size w3 wr := HB34.out.trans (hE.bel.mono (by omega))
            obtain ⟨bL, oL, q, d, rfl, hbL, eL, sT⟩ := (HLL3.out.below hB3r).get k hlt
            rw [hLk] at eL sT
            simp only [List.length_cons, List.length_nil, Nat.zero_add] at eL
            have HLLr := hidI (HLL3.out.below hB3r)
            have hsame := hidI (fun h => HP.out.same hkl (by rw [hij]; exact h))
            have hfail := hidI (fun h1 h2 => HP.out.fail hkl (by rw [hij]; exact h1) (by rw [hij]; exact h2))
            have hnext := hidI (fun v h1 h2 h3 h4 => HP.out.next (v := v) hkl (by rw [hij]; exact h1) (by rw [hij]; exact h2) h3 (by rw [hij]; exact h4))
            rw [hij] at hnext
            have hPs := HP.out.srt; have hPl := HP.out.len; have hPz := hidI HP.out.z2; have hPb := hidI HP.out.base
            clear hij hLk hpr hkl
            go_upto_region 14 with fail
            obtain ⟨w5, hw5⟩ : ∃ w5, w5 = wr.alloc (.cells #[.slice q 2 d] 36) := ⟨_, rfl⟩
            have hB5 : RowKit.Below wr.heap.size wr w5 := by subst hw5; exact (RowKit.Below.refl _ _).alloc (Nat.le_refl _) _
            have p5 : VRow w5 wr.heap.size 36 [.slice q 2 d] := by subst hw5; exact VRow.new wr _ _
            rw [← hw5]
            clear hw5
            have hbe := hE.bel
            have hE5 := hE.below hB5 hbo
            have hbl5 := hE5.bel
            have hB35 := HB34.out.trans (hbl5.mono (by omega))
            have hPB := hPb.out
            have HEX := hidI (show ExtE w5 T out G i j X w.heap.size (w.heap.size + 1) (w3.heap.size + 1) w3.heap.size wr.heap.size (w3.heap.size + 1 + 1) p1 p2 o1 o2 pg (some ⟨bL, oL, none⟩) q c1 c2 d1 d2 cg cL d from
              ⟨T4.out.below hbl5 (by omega), G4.out.below hbl5 (by omega), I4.out.below hbl5 (by omega), S4.out.below hbl5 (by omega), p5, hE5.row, HIN3.out.below hB35,
                hE5.tb (by rw [hPB]; omega) (by omega) (by rw [hPB]; exact HIN3.out.z1) hPz.out, HG3.out.below hB35, HLL3.out.below hB35, sT.1.below hB5⟩)
            have HC2 := hidI (containsSw2 T.swaps wr.heap.size (swIs i j) p2 c2 w5 (HIN3.out.swaps.below hB35) (by omega) (fun k hk W hW => lkExt2_any T.swaps[k] i j q d wr.heap.size W (sT.1.below (hB5.trans (hW.mono hB5.size))) ((p5.below hW p5.lt).at 0 rfl) (p5.below hW p5.lt).lt _ rfl))
            have tc := HEX.out.tb
            have a3 := tc.at 3 rfl
            obtain ⟨r, hr⟩ : ∃ r, isSw T.swaps i j = r := ⟨_, rfl⟩
            have HC3 := hidI (HC2.out r hr)
            have HR := hidI hr
            have HE5 := hidI hE5
            clear hr HC2 hE hE5 hbl5 tc hPB hbe
            go_wp2_with fail
            refine HC3.out.mono ?_
            rintro e w6 ⟨rfl, hB6⟩
            have HEX6 := hidI (HEX.out.below hB6)
            have HE6 := hidI (HE5.out.below hB6 hbo)
            clear HC3 a3
            cases r
            · have HFL := hidI (hfail.out HR.out); have HNX := hidI (fun v => hnext.out v HR.out)
              have hq0 : ((T.q.toNat : Nat) : Int) = T.q := Int.toNat_of_nonneg (by omega)
              have HWZ := hidI (fun (v : ByteArray) (hv : v ∈ all) => show v.size ≤ 16 ∧ Chg.okw T.q v.data.toList = true from ⟨by rw [(HOK.out.2 v hv).1]; omega, by have := (HOK.out.2 v hv).2; rw [hq0] at this; exact this⟩)
              have hal := HOK.out.1
              have hB36 := HB34.out.trans (HE6.out.bel.mono (show w3.heap.size ≤ w3.heap.size + 1 + 1 by omega))
              have HI := hidI (indexStr3 all w.heap.size (w.heap.size + 1) (w3.heap.size + 1) wr.heap.size (w3.heap.size + 1 + 1) (okE T G T.swaps out i j) pa ca w6 (HAL3.out.below hB36) (by omega) (fun k hk W hW => lkExt3_any (HEX6.out.below hW) HF.out HV.out HGQ.out hiN all[k] (HWZ.out _ (List.getElem_mem hk)).1 (HWZ.out _ (List.getElem_mem hk)).2 hPs (by omega)))
              have HAL6 := hidI (HAL3.out.below hB36)
              clear hq0 hsame hfail hnext hB36
              rcases find_idxP (okE T G T.swaps out i j) all with ⟨h1, h2⟩ | ⟨kk, hkk, h1, h2, h3⟩
              · rw [h1] at HI
                have HX := hidI (HZ2.out (HFL.out h2))
                clear h1 h2 HFL HNX
                go_wp2_with fail
                refine HI.out.mono ?_
                rintro e w7 ⟨rfl, hB7⟩
                have hE7 := HE6.out.below hB7 hbo
                have hrr := R4.out.below hE7.bel (by omega)
                have hX9 : RowKit.Below w.heap.size w w7 := X4.out.trans (hE7.bel.mono (by omega))
                have y0 := hrr.at 0 rfl; have y1 := hrr.at 1 rfl; have y2 := hrr.at 2 rfl; have y3 := hrr.at 3 rfl
                have f0 := hrr.frozen 0; have f1 := hrr.frozen 1; have f2 := hrr.frozen 2; have f3 := hrr.frozen 3
                clear hE7
                go_wp2_with fail
                (have r6 := VRow.set (i := 3) (.slice none 0 0) (VRow.set (i := 2) (.slice none 0 0) (VRow.set (i := 1) (.int .i64 0) (VRow.set (i := 0) (.int .i64 0) hrr))); have y0 := r6.at 0 rfl; have y1 := r6.at 1 rfl; have y2 := r6.at 2 rfl; have y3 := r6.at 3 rfl; exact bodyPost_ret (v := .tuple #[.agg #[.int .i64 0, .int .i64 0, .slice none 0 0, .slice none 0 0], .int .i64 6]) (by simp [results, Tryz.results16, go_sem, y0, y1, y2, y3]) rfl (RetExt.zero ⟨HX.out, set4 hX9 (by omega)⟩))
              · rw [h1] at HI
                have hvm := HWZ.out _ (List.getElem_mem hkk)
                have HNX2 := hidI (HNX.out _ h2 (by unfold maxLen; omega) h3)
                clear h1 h2 h3 HFL HNX
                go_wp2_with fail
                refine HI.out.mono ?_
                rintro e w7 ⟨rfl, hB7⟩
                have HE7 := hidI (HE6.out.below hB7 hbo)
                have hX7 := HEX6.out.below hB7
                obtain ⟨bq, oq, rfl, hbq, hcq⟩ := hX7.qin.get 0 (by simp)
                have q0 := hcq 0 (by simp); have q1 := hcq 1 (by simp)
                simp only [List.getElem_cons_zero, List.getElem_cons_succ, Nat.add_zero] at q0 q1
                obtain ⟨ba, oa, rfl, hba, hca⟩ := (HAL6.out.below hB7).get kk hkk
                have v0 := hca kk hkk
                have m0 := hX7.pb.at 0 rfl
                have n0 := hX7.ob.at 0 rfl; have n1 := hX7.ob.at 1 rfl; have n2 := hX7.ob.at 2 rfl; have n3 := hX7.ob.at 3 rfl
                have hkI : (kk : Int) < (all.length : Int) := by omega
                have HOS := hidI hX7.oin.swaps
                generalize all[kk] = v at *
                clear hX7 hcq hca HI HEX HEX6 HE5 HE6 hbq hba
                go_upto_region 18 with fail
                refine region_tail 12 (by kernel_rfl) (by kernel_rfl) fun W hD => ?_
                have d0 := (hD.cell _).trans n0; have d1' := (hD.cell _).trans n1; have d2' := (hD.cell _).trans n2; have d3 := (hD.cell _).trans n3
                have d4 := (hD.cell _).trans m0; have d5 := (hD.cell _).trans q0; have d6 := (hD.cell _).trans q1; have d7 := (hD.cell _).trans v0
                have HE8 := hidI (HE7.out.below (hD.below _) hbo)
                have HWI := hidI (lkWith_any out ⟨i, j, v⟩ o1 o2 d1 d2 W (HOS.out.below (hD.below _)) (by omega) hPs)
                clear n0 n1 n2 n3 m0 q0 q1 v0 HE7
                simp only [List.take_succ_cons, List.take_zero, List.drop_succ_cons, List.drop_zero]
                iterate 12 still_step
                refine wpStill_nil ?_
                clear d0 d1' d2' d3 d4 d5 d6 d7
                go_wp2_with fail
                refine HWI.out.mono ?_
                rintro e w9 ⟨pn, cn, rfl, hNs, hB9⟩
                have hE9 := HE8.out.below hB9 hbo
                have y0 := hE9.row.at 0 rfl; have y1 := hE9.row.at 1 rfl; have y2 := hE9.row.at 2 rfl; have y3 := hE9.row.at 3 rfl
                have f0 := hE9.row.frozen 0; have f1 := hE9.row.frozen 1; have f2 := hE9.row.frozen 2; have f3 := hE9.row.frozen 3
                have hWs : w4.heap.size ≤ W.heap.size := HE8.out.bel.size
                have k1 := hidI (ownsRow_setCell_below (a := ⟨w3.heap.size + 1 + 1, 3, none⟩) (ownsRow_setCell_below (a := ⟨w3.heap.size + 1 + 1, 2, none⟩) (ownsRow_setCell_below (a := ⟨w3.heap.size + 1 + 1, 1, none⟩) (ownsRow_setCell_below (a := ⟨w3.heap.size + 1 + 1, 0, none⟩) hE9.ob hbo (.int .i64 out.q)) hbo (.int .i64 out.n)) hbo (.slice o1 out.base.length d1)) hbo (.slice pn (out.swaps.length + 1) cn))
                have k2 := hidI (ownsRow_setCell_below (a := ⟨w3.heap.size + 1 + 1, 3, none⟩) (ownsRow_setCell_below (a := ⟨w3.heap.size + 1 + 1, 2, none⟩) (ownsRow_setCell_below (a := ⟨w3.heap.size + 1 + 1, 1, none⟩) (ownsRow_setCell_below (a := ⟨w3.heap.size + 1 + 1, 0, none⟩) (own_base hNs hWs) hbo (.int .i64 out.q)) hbo (.int .i64 out.n)) hbo (.slice o1 out.base.length d1)) hbo (.slice pn (out.swaps.length + 1) cn))
                have r6 := hidI (VRow.set (i := 3) (.slice pn (out.swaps.length + 1) cn) (VRow.set (i := 2) (.slice o1 out.base.length d1) (VRow.set (i := 1) (.int .i64 out.n) (VRow.set (i := 0) (.int .i64 out.q) hE9.row))))
                have hbl9 : Hid (RowKit.Below (w3.heap.size + 1 + 1) w4 ((((w9.setCell ⟨w3.heap.size + 1 + 1, 0, none⟩ (.int .i64 out.q)).setCell ⟨w3.heap.size + 1 + 1, 1, none⟩ (.int .i64 out.n)).setCell ⟨w3.heap.size + 1 + 1, 2, none⟩ (.slice o1 out.base.length d1)).setCell ⟨w3.heap.size + 1 + 1, 3, none⟩ (.slice pn (out.swaps.length + 1) cn))) := (((hE9.bel.setCell (Nat.le_refl _) _).setCell (Nat.le_refl _) _).setCell (Nat.le_refl _) _).setCell (Nat.le_refl _) _
                clear hE9 hNs HE8 HWI hWs
                go_wp2_with fail
                have hO2 := hidI (show OutY w4 _ (w3.heap.size + 1 + 1) (wthT out ⟨i, j, v⟩) from ⟨o1, pn, d1, cn, ⟨by have := r6.out; have e := insW_len out.swaps ⟨i, j, v⟩; simpa [wthT, e] using this, k1.out, by have := k2.out; have e := insW_len out.swaps ⟨i, j, v⟩; simpa [wthT, e] using this, hbl9.out⟩⟩)
                clear y0 y1 y2 y3 f0 f1 f2 f3 k1 k2 r6 hbl9
                go_roundw
                case rel => exact ⟨k + 1, wthT out ⟨i, j, v⟩, by omega, by go_num, HNX2, hO2⟩
                case measure => simp [intOf]; omega
            · have hP2 := hidI (hsame.out HR.out)
              have hO2 := hidI (show OutY w4 w6 (w3.heap.size + 1 + 1) out from ⟨o1, o2, d1, d2, HE6.out⟩)
              go_wp2_with fail
              go_roundw
              case rel => exact ⟨k + 1, out, by omega, by go_num, hP2, hO2⟩
              case measure => simp [intOf]; omega
          · obtain rfl : k = (badL T G).length := by omega
            have hltI : ¬ ((badL T G).length : Int) < ((badL T G).length : Int) := by omega
            have HPP := HP.out
            rw [HLL.out] at HPP
            have HX := hidI (HZ3.out out HPP.all)
            have hPb := HPP.base; have hPz := HPP.z2; have hPl := HPP.len
            obtain ⟨o1, o2, d1, d2, hE⟩ := HO.out
            have hbl := hidI hE.bel
            have hrr := R4.out.below hE.bel (by omega)
            have b0 := hE.row.at 0 rfl; have b1 := hE.row.at 1 rfl; have b2 := hE.row.at 2 rfl; have b3 := hE.row.at 3 rfl
            have y0 := hrr.at 0 rfl; have y1 := hrr.at 1 rfl; have y2 := hrr.at 2 rfl; have y3 := hrr.at 3 rfl
            have f0 := hrr.frozen 0; have f1 := hrr.frozen 1; have f2 := hrr.frozen 2; have f3 := hrr.frozen 3
            have hb := hidI hE.ob; have hs := hidI hE.os
            have hPP := hidI (show out.base.length ≤ 1000 ∧ out.swaps.length ≤ 1000 ∧ (∀ j (h : j < out.base.length), out.base[j].size ≤ maxLen) from ⟨by rw [hPb]; omega, by have := HLL.out; omega, by rw [hPb]; exact HIN3.out.z1⟩)
            have hPz := hidI hPz
            have hX9 : RowKit.Below w.heap.size w wr := X4.out.trans (hbl.out.mono (by omega))
            have hzw : w.heap.size + 1 + 1 < w4.heap.size := by omega
            clear HPP hPb hPl hE HP HO
            go_wp2_with fail
            have r6 := VRow.set (i := 3) (.slice o2 out.swaps.length d2) (VRow.set (i := 2) (.slice o1 out.base.length d1) (VRow.set (i := 1) (.int .i64 out.n) (VRow.set (i := 0) (.int .i64 out.q) hrr)))
            have n0 := r6.at 0 rfl; have n1 := r6.at 1 rfl; have n2 := r6.at 2 rfl; have n3 := r6.at 3 rfl
            have k1 := ownsRow_setCell_below (a := ⟨w.heap.size + 1 + 1, 3, none⟩) (ownsRow_setCell_below (a := ⟨w.heap.size + 1 + 1, 2, none⟩) (ownsRow_setCell_below (a := ⟨w.heap.size + 1 + 1, 1, none⟩) (ownsRow_setCell_below (a := ⟨w.heap.size + 1 + 1, 0, none⟩) hb.out hzw (.int .i64 out.q)) hzw (.int .i64 out.n)) hzw (.slice o1 out.base.length d1)) hzw (.slice o2 out.swaps.length d2)
            have k2 := ownsRow_setCell_below (a := ⟨w.heap.size + 1 + 1, 3, none⟩) (ownsRow_setCell_below (a := ⟨w.heap.size + 1 + 1, 2, none⟩) (ownsRow_setCell_below (a := ⟨w.heap.size + 1 + 1, 1, none⟩) (ownsRow_setCell_below (a := ⟨w.heap.size + 1 + 1, 0, none⟩) hs.out hzw (.int .i64 out.q)) hzw (.int .i64 out.n)) hzw (.slice o1 out.base.length d1)) hzw (.slice o2 out.swaps.length d2)
            obtain ⟨p7, c7, e7, hs7⟩ := own_sl k1
            cases e7
            refine bodyPost_ret (v := .tuple #[.agg #[.int .i64 out.q, .int .i64 out.n, .slice o1 out.base.length d1, .slice o2 out.swaps.length d2], .int .i64 0]) (by simp [results, Tryz.results16, go_sem, n0, n1, n2, n3]) rfl ?_
            rw [HX.out]
            exact ⟨o1, o2, d1, d2, rfl, ⟨hs7, RetWith.sg k2, own_cap k1 _ _ _ rfl, by show out.base.length ≤ _; have := hPP.out.1; omega, by show out.swaps.length ≤ _; have := hPP.out.2.1; omega, hPP.out.2.2, hPz.out⟩, set4 hX9 (by omega)⟩
  · have HR := hidI (HX0.out hk)
    have hkn : (k != 0) = true := by simpa using hk
    clear hk HFZ HX0 HX1 HX2 HX3 t1 g1
    have y0 := r1.at 0 rfl; have y1 := r1.at 1 rfl; have y2 := r1.at 2 rfl; have y3 := r1.at 3 rfl
    have f0 := r1.frozen 0; have f1 := r1.frozen 1; have f2 := r1.frozen 2; have f3 := r1.frozen 3
    go_wp2_with fail
    (have r6 := VRow.set (i := 3) (.slice none 0 0) (VRow.set (i := 2) (.slice none 0 0) (VRow.set (i := 1) (.int .i64 0) (VRow.set (i := 0) (.int .i64 0) r1))); have y0 := r6.at 0 rfl; have y1 := r6.at 1 rfl; have y2 := r6.at 2 rfl; have y3 := r6.at 3 rfl; exact bodyPost_ret (v := .tuple #[.agg #[.int .i64 0, .int .i64 0, .slice none 0 0, .slice none 0 0], .int .i64 k]) (by simp [results, Tryz.results16, go_sem, y0, y1, y2, y3]) rfl (RetExt.zero ⟨HR.out, set4 x1 (by omega)⟩))
end Go.Proofs.YtjpilmedlecdhaaGreatDoor
namespace Go.Proofs.YtjpilmedlecdhaaGreatDoor
open Go.RowKit Go.Sort Go.Shelf Go.Lib

/-! ### What Extend answers -/
theorem extA_cases (T : Tb) (G : Gr) : (∃ k, k ≠ 0 ∧ extA T G = (zT, k)) ∨ ∃ x, extA T G = (x, 0) ∧ fitA T G = 0 ∧ ExL T G (bdN T G T.base.length) x := by
  by_cases h : fitA T G = 0
  · cases h2 : allF T.q.toNat (2 * T.n.toNat) with
    | none => exact .inl ⟨4, by decide, extA_all h h2⟩
    | some all =>
      cases h3 : extP all T G (bdN T G T.base.length) with
      | none => exact .inl ⟨6, by decide, extA_none h h2 h3⟩
      | some x => exact .inr ⟨x, extA_some h h2 h3, h, ext_all bdN_bad h3⟩
  · exact .inl ⟨fitA T G, h, extA_fit h⟩
def cd3 (k : Int) : Prop := k = 0 ∨ k = 13 ∨ k = 4
theorem wrP_cd (G : Gr) (q : List Pl) (p : Pl) (w : ByteArray) (last : Int) : cd3 (wrP G q p w last).2 := by
  unfold wrP
  split
  · exact .inr (.inl rfl)
  · split
    · exact .inl rfl
    · split
      · exact .inr (.inr rfl)
      · exact .inl rfl
theorem bsP_cd {T : Tb} {G : Gr} {p : Pl} {x : List Pl × Int} {j : Nat} (h : cd3 x.2) : cd3 (bsP T G p x j).2 := by
  unfold bsP; split
  · exact h
  · split
    · exact wrP_cd _ _ _ _ _
    · exact h
theorem ssP_cd {T : Tb} {G : Gr} {p : Pl} {x : List Pl × Int} {s : Sw} (h : cd3 x.2) : cd3 (ssP T G p x s).2 := by
  unfold ssP; split
  · exact h
  · split
    · exact wrP_cd _ _ _ _ _
    · exact h
theorem rB_cd (T : Tb) (G : Gr) (p : Pl) (q : List Pl) : ∀ k, cd3 (rB T G p q k).2
  | 0 => .inl rfl
  | k + 1 => by rw [rB_succ]; exact bsP_cd (rB_cd T G p q k)
theorem rS_cd (T : Tb) (G : Gr) (p : Pl) (x : List Pl × Int) (hx : cd3 x.2) : ∀ k, k ≤ T.swaps.length → cd3 (rS T G p x k).2
  | 0, _ => by unfold rS; rw [List.take_zero]; exact hx
  | k + 1, h => by rw [rS_succ _ _ _ _ _ (by omega)]; exact ssP_cd (rS_cd T G p x hx k (by omega))
theorem kpN_cd (T : Tb) (G : Gr) : ∀ (f i : Nat) (q : List Pl), cd3 (kpN T G f i q)
  | 0, _, _ => .inl rfl
  | f + 1, i, q => by
    unfold kpN
    split
    · split
      · exact rS_cd T G _ _ (rB_cd T G _ _ _) _ (Nat.le_refl _)
      · exact kpN_cd T G f (i + 1) _
    · exact .inl rfl
theorem chk_14 {T : Tb} {G : Gr} (h : fitA T G = 0) : (chkL T G = 14 ↔ rdbl T = false) := by
  rw [chkL_fit, if_neg (by simp [h])]
  have hk : kpA T G ≠ 14 := by
    have : cd3 (kpA T G) := kpN_cd T G _ _ _
    rcases this with e | e | e <;> rw [e] <;> decide
  cases rdbl T
  · simp
  · simp [hk]
theorem fit_ext {T x : Tb} {G : Gr} (h : fitA T G = 0) (hq : x.q = T.q) (hf : fmd x = true) : fitA x G = 0 := by
  obtain ⟨_, hv, hg⟩ := fit_zero h
  unfold fitA
  have hc := chkG_ok.2 hv
  rw [if_neg (by simp [hf, hc]), if_neg (by rw [hq]; exact fun e => e hg)]
/-- An extended table is one, and its swaps stand. -/
structure XL (T : Tb) (G : Gr) (x : Tb) : Prop where
  fit : fitA T G = 0
  exl : ExL T G (bdN T G T.base.length) x
  fmd : fmd x = true
theorem XL.of {T x : Tb} {G : Gr} (h1 : fitA T G = 0) (h2 : ExL T G (bdN T G T.base.length) x) : XL T G x :=
  ⟨h1, h2, by rcases h2.ok with rfl | ⟨h, _⟩; exact (fit_zero h1).1; exact h⟩
theorem XL.amb {T x : Tb} {G : Gr} (h : XL T G x) (hc : chkL x G = 14) : x = T := by
  rcases h.exl.ok with e | ⟨hf, hr⟩
  · exact e
  · have := (chk_14 (fit_ext h.fit h.exl.inv.q hf)).1 hc
    rw [hr] at this; cases this
theorem XL.rd {T x : Tb} {G : Gr} (h : XL T G x) (hc : chkL x G ≠ 14) : rdbl x = true := by
  cases hr : rdbl x
  · exact absurd ((chk_14 (fit_ext h.fit h.exl.inv.q h.fmd)).2 hr) hc
  · rfl
/-- What is written with it is read back. -/
structure RdL (x : Tb) (l : List Int) (W : ByteArray) : Prop where
  enc : encA x l = (W, 0)
  dec : decA x W = (l, 0)
  len : W.size ≤ 65536
theorem rd_all {x : Tb} (hf : fmd x = true) (hr : rdbl x = true) {l : List Int} (ho : l.any (outB x.base.length) = false) (hl : l.length ≤ 10) : RdL x l (encW x l) := by
  have hN := pre_all (fmd_split hf).1
  have hz := encW_size hf l ho
  have hb : l.length * x.n.toNat ≤ 10 * 8 := Nat.mul_le_mul hl (by omega)
  have hok := encW_okw hf l.length l (Nat.le_refl _) ho
  have hck : Chg.wchk x.q (encW x l).data.toList = 0 := Chg.wchk_ok _ _ (by omega) (by omega) (by rw [toL_len]; omega) hok
  exact ⟨encA_ok hf ho, decA_ok hf hck (by rw [hz]; exact Nat.mul_mod_left _ _) (dec_enc hf hr l.length l (Nat.le_refl _) ho), by omega⟩

/-! ### slices.Equal at equal words -/
set_option maxRecDepth 100000 in
set_option maxHeartbeats 1000000 in
theorem equalStr_eq (l : List ByteArray) (p q : Option Addr) (c d : Nat) (w : World) (hp : Sl w Value.string p l) (hq : Sl w Value.string q l) (hl : l.length ≤ 100000) :
    Calls Tryz.prog 18 #[.slice p l.length c, .slice q l.length d] w fun e w' => e = .returned (.bool true) ∧ Dr w w' := by
  have hne : ((l.length : Int) != (l.length : Int)) = false := by simp
  go_enter Tryz.func18, Tryz.ntmps18
  go_wp2_with fail
  clear hne
  go_loopw [13] (fun iv wr => ∃ k : Nat, k ≤ l.length ∧ iv = .int .i64 k ∧ Dr w wr) (fun iv _ => l.length - (intOf iv).toNat)
  case atStart => exact ⟨0, by omega, rfl, Dr.refl _⟩
  case round =>
    obtain ⟨k, hk, rfl, hD⟩ := hrel
    by_cases hlt : k < l.length
    · have hltI : (k : Int) < (l.length : Int) := by omega
      obtain ⟨b1, o1, rfl, hb1, hc1⟩ := (hp.dr hD).get k hlt
      obtain ⟨b2, o2, rfl, hb2, hc2⟩ := (hq.dr hD).get k hlt
      have e0 := hc1 k hlt
      have e1 := hc2 k hlt
      have hbn : (l[k].toList != l[k].toList) = false := by simp
      clear hc1 hc2
      generalize l[k] = s at *
      go_upto_region 6 with fail
      (refine wp_region_quiet_lit (by kernel_rfl) (by kernel_rfl) ?_; (repeat (first | go_big_quiet_step (fail) | quiet_step (fail))); refine wpQuiet_nil ?_; intro _ hwq; obtain ⟨nq, hwq2⟩ := hwq; subst hwq2)
      go_wp2_with fail
      go_roundw
      case rel => exact ⟨k + 1, by omega, by go_num, hD.one _⟩
      case measure => simp [intOf]; omega
    · obtain rfl : k = l.length := by omega
      have hltI : ¬ (l.length : Int) < (l.length : Int) := by omega
      go_wp2_with fail
      go_ret
      exact ⟨rfl, hD⟩

/-! ### slices.Contains of a swap that is there -/
set_option maxRecDepth 100000 in
set_option maxHeartbeats 2000000 in
theorem indexSwV_in (l : List Sw) (y : Sw) (p : Option Addr) (c : Nat) (w : World) (hp : Sg 3 w swE p l) (hl : l.length ≤ 100000) (hy : y ∈ l) :
    Calls Tryz.prog 55 #[.slice p l.length c, (.agg #[.int .i64 y.i, .int .i64 y.j, .string y.wd])] w fun e w' => (∃ k : Nat, e = .returned (.int .i64 k)) ∧ RowKit.Below w.heap.size w w' := by
  obtain ⟨m, hm, hmy⟩ := List.mem_iff_getElem.1 hy
  obtain ⟨w0, hw0⟩ : ∃ w0, w0 = w.alloc (.cells #[.int .i64 y.i, .int .i64 y.j, .string y.wd] 55) := ⟨_, rfl⟩
  have b0 : VRow w0 w.heap.size 55 [.int .i64 y.i, .int .i64 y.j, .string y.wd] := by subst hw0; exact VRow.new w _ _
  have hB0 : RowKit.Below w.heap.size w w0 := by subst hw0; exact (RowKit.Below.refl _ _).alloc (Nat.le_refl _) _
  have HP := hidI (hp.below hB0)
  have HB := hidI b0
  have HM := hidI hmy
  clear hp b0 hmy hy
  go_enter Tryz.func55, Tryz.ntmps55
  go_upto_region 1 with fail
  rw [← hw0]
  clear hw0
  go_wp2_with fail
  go_loopw [8] (fun iv wr => ∃ k : Nat, k ≤ m ∧ iv = .int .i64 k ∧ Dr w0 wr) (fun iv _ => l.length - (intOf iv).toNat)
  case atStart => exact ⟨0, by omega, rfl, Dr.refl _⟩
  case round =>
    obtain ⟨k, hk, rfl, hD⟩ := hrel
    have hlt : k < l.length := by omega
    have hltI : (k : Int) < (l.length : Int) := by omega
    obtain ⟨b1, o1, rfl, hb1, e0, e1, e2⟩ := (HP.out.below (hD.below _)).get3 k hlt rfl
    have f0 := (HB.out.dr hD).at 0 rfl; have f1 := (HB.out.dr hD).at 1 rfl; have f2 := (HB.out.dr hD).at 2 rfl
    have HK : Hid (k = m → (y.i == l[k].i) = true ∧ (y.j == l[k].j) = true ∧ (y.wd.toList == l[k].wd.toList) = true) := fun e => by
      subst e; rw [HM.out]; simp
    generalize l[k] = x at *
    obtain ⟨r1, hr1⟩ : ∃ r, (y.i == x.i) = r := ⟨_, rfl⟩
    obtain ⟨r2, hr2⟩ : ∃ r, (y.j == x.j) = r := ⟨_, rfl⟩
    obtain ⟨r3, hr3⟩ : ∃ r, (y.wd.toList == x.wd.toList) = r := ⟨_, rfl⟩
    have HK2 : Hid (k = m → r1 = true ∧ r2 = true ∧ r3 = true) := by rw [Hid, ← hr1, ← hr2, ← hr3]; exact HK.out
    clear HK
    go_upto_region 4 with fail
    by_cases hall : r1 = true ∧ r2 = true ∧ r3 = true
    · obtain ⟨rfl, rfl, rfl⟩ := hall
      clear HK2
      (refine wp_region_quiet_lit (by kernel_rfl) (by kernel_rfl) ?_; (repeat (first | go_big_quiet_step (fail) | quiet_step (fail))); refine wpQuiet_nil ?_; intro _ hwq; obtain ⟨nq, hwq2⟩ := hwq; subst hwq2)
      go_wp2_with fail
      go_ret
      exact ⟨⟨k, rfl⟩, hB0.trans ((hD.one _).below _)⟩
    · have hkm : k < m := by
        rcases Nat.lt_or_eq_of_le hk with h | h
        · exact h
        · exact absurd (HK2.out h) hall
      clear HK2
      cases r1 <;> cases r2 <;> cases r3 <;> first
        | exact absurd ⟨rfl, rfl, rfl⟩ hall
        | (clear hall
           (refine wp_region_quiet_lit (by kernel_rfl) (by kernel_rfl) ?_; (repeat (first | go_big_quiet_step (fail) | quiet_step (fail))); refine wpQuiet_nil ?_; intro _ hwq; obtain ⟨nq, hwq2⟩ := hwq; subst hwq2)
           go_wp2_with fail
           go_roundw
           case rel => exact ⟨k + 1, by omega, by go_num, hD.one _⟩
           case measure => simp [intOf]; omega)
theorem containsSwV_in (l : List Sw) (y : Sw) (p : Option Addr) (c : Nat) (w : World) (hp : Sg 3 w swE p l) (hl : l.length ≤ 100000) (hy : y ∈ l) :
    Calls Tryz.prog 19 #[.slice p l.length c, (.agg #[.int .i64 y.i, .int .i64 y.j, .string y.wd])] w fun e w' => e = .returned (.bool true) ∧ RowKit.Below w.heap.size w w' := by
  obtain ⟨w0, hw0⟩ : ∃ w0, w0 = w.alloc (.cells #[.int .i64 y.i, .int .i64 y.j, .string y.wd] 55) := ⟨_, rfl⟩
  have b0 : VRow w0 w.heap.size 55 [.int .i64 y.i, .int .i64 y.j, .string y.wd] := by subst hw0; exact VRow.new w _ _
  have hB0 : RowKit.Below w.heap.size w w0 := by subst hw0; exact (RowKit.Below.refl _ _).alloc (Nat.le_refl _) _
  have HI := hidI (indexSwV_in l y p c w0 (hp.below hB0) hl hy)
  have f0 := b0.at 0 rfl; have f1 := b0.at 1 rfl; have f2 := b0.at 2 rfl
  clear hp hy b0
  go_enter Tryz.func19, Tryz.ntmps19
  go_upto_region 1 with fail
  rw [← hw0]
  clear hw0
  go_wp2_with fail
  refine HI.out.mono ?_
  rintro e w1 ⟨⟨k, rfl⟩, hB1⟩
  have hk0 : (0 : Int) ≤ (k : Int) := by omega
  go_wp2_with fail
  go_ret
  exact ⟨rfl, hB0.trans (hB1.mono hB0.size)⟩
set_option maxRecDepth 100000 in
set_option maxHeartbeats 400000 in
theorem lawExt1_any (s : Sw) (i j : Int) (q : Option Addr) (d bp : Nat) (w : World) (hs : Sl w (Value.int .i64) q [i, j]) (hp : w.cell? ⟨bp, 0, none⟩ = some (.slice q 2 d)) (hbp : bp < w.heap.size) (r : Bool) (hr : swIs i j s = r) :
    Calls Tryz.prog 21 #[.agg #[.int .i64 s.i, .int .i64 s.j, .string s.wd], .pointer (some ⟨bp, 0, none⟩)] w fun e w' => e = .returned (.bool r) ∧ RowKit.Below w.heap.size w w' := by
  obtain ⟨w0, hw0⟩ : ∃ w0, w0 = w.alloc (.cells #[.int .i64 s.i, .int .i64 s.j, .string s.wd] 55) := ⟨_, rfl⟩
  have hB0 : RowKit.Below w.heap.size w w0 := by subst hw0; exact (RowKit.Below.refl _ _).alloc (Nat.le_refl _) _
  have b0 : VRow w0 w.heap.size 55 [.int .i64 s.i, .int .i64 s.j, .string s.wd] := by subst hw0; exact VRow.new w _ _
  obtain ⟨b1, o1, rfl, hb1, hc⟩ := (hs.below hB0).get 0 (by simp)
  have e0 := hc 0 (by simp)
  have e1 := hc 1 (by simp)
  simp only [List.getElem_cons_zero, List.getElem_cons_succ, Nat.add_zero] at e0 e1
  have p0 := (hB0.cell (p := ⟨bp, 0, none⟩) hbp).trans hp
  have g0 := b0.at 0 rfl; have g1 := b0.at 1 rfl
  have HR := hidI hr
  clear hr hc hs hp b0
  by_cases h1 : s.i = i
  · have h1b : (s.i == i) = true := by simpa using h1
    by_cases h2 : s.j = j
    · have h2b : (s.j == j) = true := by simpa using h2
      have HT : Hid (r = true) := by unfold Hid; rw [← HR.out]; simp [swIs, h1, h2]
      clear h1 h2
      go_enter Tryz.func21, Tryz.ntmps21
      go_upto_region 1 with fail
      rw [← hw0]
      clear hw0
      (refine wp_region_quiet_lit (by kernel_rfl) (by kernel_rfl) ?_; (repeat (first | go_big_quiet_step (fail) | quiet_step (fail))); refine wpQuiet_nil ?_; intro _ hwq; obtain ⟨nq, hwq2⟩ := hwq; subst hwq2)
      go_wp2
      go_ret
      exact ⟨ret_bool HT.out.symm, hB0.trans ((Dr.one (Dr.refl _) _).below _)⟩
    · have h2b : (s.j == j) = false := by simpa using h2
      have HT : Hid (r = false) := by unfold Hid; rw [← HR.out]; simp [swIs, h2]
      clear h1 h2
      go_enter Tryz.func21, Tryz.ntmps21
      go_upto_region 1 with fail
      rw [← hw0]
      clear hw0
      (refine wp_region_quiet_lit (by kernel_rfl) (by kernel_rfl) ?_; (repeat (first | go_big_quiet_step (fail) | quiet_step (fail))); refine wpQuiet_nil ?_; intro _ hwq; obtain ⟨nq, hwq2⟩ := hwq; subst hwq2)
      go_wp2
      go_ret
      exact ⟨ret_bool HT.out.symm, hB0.trans ((Dr.one (Dr.refl _) _).below _)⟩
  · have h1b : (s.i == i) = false := by simpa using h1
    have HT : Hid (r = false) := by unfold Hid; rw [← HR.out]; simp [swIs, h1]
    clear h1
    go_enter Tryz.func21, Tryz.ntmps21
    go_upto_region 1 with fail
    rw [← hw0]
    clear hw0
    (refine wp_region_quiet_lit (by kernel_rfl) (by kernel_rfl) ?_; (repeat (first | go_big_quiet_step (fail) | quiet_step (fail))); refine wpQuiet_nil ?_; intro _ hwq; obtain ⟨nq, hwq2⟩ := hwq; subst hwq2)
    go_wp2
    go_ret
    exact ⟨ret_bool HT.out.symm, hB0.trans ((Dr.one (Dr.refl _) _).below _)⟩
end Go.Proofs.YtjpilmedlecdhaaGreatDoor
namespace Go.Proofs.YtjpilmedlecdhaaGreatDoor
open Go

section
variable {P : Program} {ops : Array Oper} {Q : Exit → Act → World → Prop} {md : Region.Mode}
/-- All that an operation waits for is done. -/
def rdyAt (md : Region.Mode) (ops : Array Oper) (listed : Array Bool) (i : Nat) : Bool := ((ops[i]?).map (·.after.all fun e => !Region.binds md e || listed.getD e.on false)).getD false
theorem mem_ready {listed : Array Bool} {i : Nat} : i ∈ Region.ready md ops listed ↔ i < ops.size ∧ listed.getD i true = false ∧ rdyAt md ops listed i = true := by
  unfold Region.ready rdyAt
  rw [List.mem_filter, List.mem_range, Bool.and_eq_true, Bool.not_eq_true']
theorem getD_false {listed : Array Bool} {i : Nat} (h : listed.getD i true = false) : ∃ hi : i < listed.size, listed[i] = false := by
  by_cases hi : i < listed.size
  · refine ⟨hi, ?_⟩
    simpa [Array.getD, hi] using h
  · simp [Array.getD, hi] at h
theorem wpAny_inv (Inv : Array Bool → Act → World → Prop)
    (hstep : ∀ listed a w i, Inv listed a w → i ∈ Region.ready md ops listed → wpOp P ops Q i (Inv (listed.setIfInBounds i true)) a w)
    (hend : ∀ listed a w, Inv listed a w → Region.ready md ops listed = [] → Q .normal a w) :
    ∀ (fuel : Nat) (listed : Array Bool) (a : Act) (w : World), listed.toList.count false ≤ fuel → Inv listed a w → wpAny P md ops Q fuel listed a w
  | 0, listed, a, w, hc, hI => by
    have hr : Region.ready md ops listed = [] := by
      rw [List.eq_nil_iff_forall_not_mem]
      intro i hi
      obtain ⟨hl, he⟩ := getD_false (mem_ready.1 hi).2.1
      have hm : false ∈ listed.toList := by rw [← he]; exact Array.getElem_mem_toList hl
      have := List.count_pos_iff.2 hm
      omega
    exact ⟨hr, hend _ _ _ hI hr⟩
  | fuel + 1, listed, a, w, hc, hI => ⟨hend _ _ _ hI, fun i hi => wpOp_mono (fun a' w' h => wpAny_inv Inv hstep hend fuel _ a' w' (by
      obtain ⟨hl, he⟩ := getD_false (mem_ready.1 hi).2.1
      rw [Array.toList_setIfInBounds, List.count_set (by simpa using hl)]
      have hm : false ∈ listed.toList := by rw [← he]; exact Array.getElem_mem_toList hl
      have := List.count_pos_iff.2 hm
      have e2 : (listed.toList[i]'(by simpa using hl)) = false := by simpa using he
      rw [e2]
      rw [if_pos (by rfl), if_neg (by decide)]
      omega) h) (hstep _ _ _ i hI hi)⟩
/-- Where nothing is ready, all is done. -/
theorem ready_nil {listed : Array Bool} (hs : listed.size = ops.size) (hd : ((List.range ops.size).all fun i => ((ops[i]?).map (·.after.all fun e => decide (e.on < i))).getD true) = true)
    (h : Region.ready md ops listed = []) : ∀ i, i < ops.size → listed.getD i false = true := by
  intro i
  induction i using Nat.strongRecOn with
  | ind i ih =>
    intro hi
    cases hx : listed.getD i false with
    | true => rfl
    | false =>
      exfalso
      have hl : i < listed.size := by omega
      have hx2 : listed.getD i true = false := by simpa [Array.getD, hl] using hx
      have : i ∈ Region.ready md ops listed := by
        rw [mem_ready]
        refine ⟨hi, hx2, ?_⟩
        have h1 := List.all_eq_true.1 hd i (List.mem_range.2 hi)
        unfold rdyAt
        rw [Array.getElem?_eq_getElem hi] at h1 ⊢
        simp only [Option.map_some, Option.getD_some, Array.all_eq_true] at h1 ⊢
        intro j hj
        have h2 := of_decide_eq_true (h1 j hj)
        rw [ih _ h2 (by omega), Bool.or_true]
      rw [h] at this
      cases this
end

/-! ### Frames of which some slots are written -/
def fr (A : Act) (f : Nat → Option Value) : Act := { A with tmps := A.tmps.mapIdx fun i v => (f i).getD v }
theorem fr_none (A : Act) : fr A (fun _ => none) = A := by
  unfold fr
  have : (A.tmps.mapIdx fun i v => ((none : Option Value)).getD v) = A.tmps := by apply Array.ext <;> simp
  rw [this]
theorem fr_put {A : Act} {f : Nat → Option Value} (t : Nat) (v : Value) : (fr A f).put (some t) v = fr A (fun i => if i = t then some v else f i) := by
  unfold fr Act.put
  simp only
  congr 1
  apply Array.ext
  · simp
  · intro i h1 h2
    by_cases e : t = i
    · subst e; simp
    · have e' : ¬ i = t := fun h => e h.symm
      rw [Array.getElem_setIfInBounds_ne (by simpa using h2) e]
      simp [e']
theorem fr_put0 {A : Act} {f : Nat → Option Value} (v : Value) : (fr A f).put none v = fr A f := rfl
theorem fr_eval0 {A : Act} {f : Nat → Option Value} {t : Nat} (h : f t = none) : (fr A f).eval (.tmp t) = A.eval (.tmp t) := by
  show (A.tmps.mapIdx fun i v => (f i).getD v).getD t undef = A.tmps.getD t undef
  by_cases ht : t < A.tmps.size
  · simp [Array.getD, ht, h]
  · simp [Array.getD, ht]
theorem fr_eval1 {A : Act} {f : Nat → Option Value} {t : Nat} {v : Value} (h : f t = some v) (ht : t < A.tmps.size) : (fr A f).eval (.tmp t) = v := by
  show (A.tmps.mapIdx fun i v => (f i).getD v).getD t undef = v
  simp [Array.getD, ht, h]
theorem fr_all {A : Act} {f : Nat → Option Value} {u9 u10 u45 u46 u47 u48 u49 u50 : Value} (h : ∀ i, i ∉ [9, 10, 45, 46, 47, 48, 49, 50] → f i = none)
    (h9 : f 9 = some u9) (h10 : f 10 = some u10) (h45 : f 45 = some u45) (h46 : f 46 = some u46) (h47 : f 47 = some u47) (h48 : f 48 = some u48) (h49 : f 49 = some u49) (h50 : f 50 = some u50) :
    fr A f = (((((((A.put (some 9) u9).put (some 10) u10).put (some 45) u45).put (some 46) u46).put (some 47) u47).put (some 48) u48).put (some 49) u49).put (some 50) u50 := by
  rw [show A = fr A (fun _ => none) from (fr_none A).symm]
  simp only [fr_put]
  rw [fr_none]
  congr 1
  funext i
  by_cases e50 : i = 50
  · subst e50; simpa using h50
  by_cases e49 : i = 49
  · subst e49; simpa using h49
  by_cases e48 : i = 48
  · subst e48; simpa using h48
  by_cases e47 : i = 47
  · subst e47; simpa using h47
  by_cases e46 : i = 46
  · subst e46; simpa using h46
  by_cases e45 : i = 45
  · subst e45; simpa using h45
  by_cases e10 : i = 10
  · subst e10; simpa using h10
  by_cases e9 : i = 9
  · subst e9; simpa using h9
  simp [e50, e49, e48, e47, e46, e45, e10, e9]
  exact h i (by simp [e50, e49, e48, e47, e46, e45, e10, e9])
end Go.Proofs.YtjpilmedlecdhaaGreatDoor
