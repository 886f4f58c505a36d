/-
  Words, plain lemmas and walks, merged: Qc, LkD, LkE, LkL, LkF, LkG, LkH, LkM, LkI, LkN, Law.
-/
import Derived.Test.YtjponanfpdmeoaaDoorZif
import Derived.Lib.AppendIntMem
import Derived.Test.YtjponanfpdmeoaaDoorZic
import Derived.Maps.AppendAt
import Derived.Lib.AppendZerosOnto
import Derived.Deep.RegionHeld3
import Derived.Deep.DeepCutAuto
import Derived.Test.YtjponanfpdmeoaaDoorRows
import Derived.ProofKit
import Derived.OpenShut
import Derived.ShutString
import Derived.SliceStrings
set_option linter.unusedVariables false
set_option linter.unusedSimpArgs false
namespace Go.Proofs.YtjponanfpdmeoaaDoor
open Go.RowKit Go.Sort Go.Shelf Go.Lib

/-- The table of powers of ten reads as the program lays it. -/
def T10 (w : World) : Prop := Lib.TabIs Tryd.prog w "internal/strconv.uint64pow10" .u64 Lib.pow10Tab
theorem T10.below {w w' : World} (h : T10 w) (hB : RowKit.Below w.heap.size w w') : T10 w' := Lib.tabBelow_of_tabIs h w' hB

def tailK (st : List Int) : List UInt8 := st.flatMap (fun s => 32 :: Lib.decDigits s.toNat)
/-- The key of a place. -/
def keyB (l : Int) (st : List Int) : List UInt8 := Lib.itoa l ++ tailK st
theorem tailK_snoc (st : List Int) (s : Int) : tailK (st ++ [s]) = tailK st ++ (32 :: Lib.decDigits s.toNat) := by simp [tailK]
theorem tailK_end : ∀ st : List Int, tailK st ++ [32] = 32 :: keyL st
  | [] => rfl
  | s :: st => by
    have ih := tailK_end st
    show (32 :: Lib.decDigits s.toNat) ++ tailK st ++ [32] = 32 :: (Lib.decDigits s.toNat ++ 32 :: keyL st)
    rw [List.append_assoc, ih]; rfl
theorem itoa_no : ∀ n : Nat, n < 17 → (32 : UInt8) ∉ Lib.itoa ((n : Int) - 1) := by decide +kernel
theorem itoa_inj : ∀ n : Nat, n < 17 → ∀ m : Nat, m < 17 → Lib.itoa ((n : Int) - 1) = Lib.itoa ((m : Int) - 1) → n = m := by decide +kernel
theorem itoa_len : ∀ n : Nat, n < 17 → (Lib.itoa ((n : Int) - 1)).length ≤ 2 := by decide +kernel
theorem keyB_inj {l l' : Int} {st st' : List Int} (h1 : -1 ≤ l ∧ l < 16) (h2 : -1 ≤ l' ∧ l' < 16) (h3 : ∀ x ∈ st, 0 ≤ x ∧ x < 100) (h4 : ∀ x ∈ st', 0 ≤ x ∧ x < 100) (e : keyB l st = keyB l' st') : l = l' ∧ st = st' := by
  obtain ⟨n, hn⟩ : ∃ n : Nat, (n : Int) - 1 = l := ⟨(l + 1).toNat, by omega⟩
  obtain ⟨m, hm⟩ : ∃ m : Nat, (m : Int) - 1 = l' := ⟨(l' + 1).toNat, by omega⟩
  have e2 : Lib.itoa l ++ 32 :: keyL st = Lib.itoa l' ++ 32 :: keyL st' := by
    have := congrArg (· ++ [(32 : UInt8)]) e
    simpa only [keyB, List.append_assoc, tailK_end] using this
  rw [← hn, ← hm] at e2
  obtain ⟨k1, k2⟩ := sep_inj (itoa_no n (by omega)) (itoa_no m (by omega)) e2
  exact ⟨by rw [← hn, ← hm, itoa_inj n (by omega) m (by omega) k1], keyL_inj h3 h4 k2⟩
theorem tailK_len : ∀ {st : List Int}, (∀ x ∈ st, 0 ≤ x ∧ x < 100) → (tailK st).length ≤ 3 * st.length
  | [], _ => Nat.le_refl _
  | s :: st, h => by
    have h1 := dit_small s.toNat (by have := h s (by simp); omega)
    have h2 := tailK_len (st := st) (fun y hy => h y (by simp [hy]))
    show ((32 :: Lib.decDigits s.toNat) ++ tailK st).length ≤ 3 * (st.length + 1)
    rw [List.length_append, List.length_cons]; omega
theorem keyB_len {l : Int} {st : List Int} (h1 : -1 ≤ l ∧ l < 16) (h3 : ∀ x ∈ st, 0 ≤ x ∧ x < 100) : (keyB l st).length ≤ 2 + 3 * st.length := by
  have h := itoa_len (l + 1).toNat (by omega)
  rw [show (((l + 1).toNat : Nat) : Int) - 1 = l by omega] at h
  have := tailK_len h3
  unfold keyB; rw [List.length_append]; omega
theorem itoaW_any (l : Int) (w : World) (h : -1 ≤ l ∧ l < 16) (ht : T10 w) : Calls Tryd.prog 37 #[.int .i64 l] w fun e w' => e = .returned (.string ⟨(Lib.itoa l).toArray⟩) ∧ RowKit.Below w.heap.size w w' :=
  (Tryd.strconv_Itoa l (by omega) (by omega) w ht).mono (fun e w' ⟨he, k, os, hw⟩ => ⟨he, by rw [hw]; exact Lib.below_grow _ _ (Nat.le_refl _) _ _⟩)
theorem itoaS_any (l : Int) (w : World) (h : 0 ≤ l ∧ l < 100) : Calls Tryd.prog 37 #[.int .i64 l] w fun e w' => e = .returned (.string ⟨(Lib.decDigits l.toNat).toArray⟩) ∧ w' = w := by
  obtain ⟨i, rfl⟩ := Int.eq_ofNat_of_zero_le h.1
  exact Tryd.strconv_Itoa_small i (by omega) w

set_option maxRecDepth 100000 in
set_option maxHeartbeats 1000000 in
theorem lkKey_any (l : Int) (st : List Int) (q : Option Addr) (d : Nat) (w : World) (hl : -1 ≤ l ∧ l < 16) (hst : Sl w (Value.int .i64) q st) (hr : ∀ x ∈ st, 0 ≤ x ∧ x < 100) (hs : st.length ≤ 64) (ht : T10 w) :
    Calls Tryd.prog 19 #[.agg #[.int .i64 l, .slice q st.length d]] w fun e w' => e = .returned (.string ⟨(keyB l st).toArray⟩) ∧ RowKit.Below w.heap.size w w' := by
  have HST := hidI hst; have HR := hidI hr
  obtain ⟨w0, hw0⟩ : ∃ w0, w0 = w.alloc (.cells #[.int .i64 l, .slice q st.length d] 53) := ⟨_, rfl⟩
  have b0 : VRow w0 w.heap.size 53 [.int .i64 l, .slice q st.length d] := by subst hw0; exact VRow.new w _ _
  have hB0 : RowKit.Below w.heap.size w w0 := by subst hw0; exact (RowKit.Below.refl _ _).alloc (Nat.le_refl _) _
  have HI := hidI (itoaW_any l w0 hl (ht.below hB0))
  have hil := itoa_len (l + 1).toNat (by omega)
  rw [show (((l + 1).toNat : Nat) : Int) - 1 = l by omega] at hil
  have a0 := b0.at 0 rfl
  have HK : Hid (∀ k, keyB l (st.take k) = Lib.itoa l ++ tailK (st.take k)) := fun _ => rfl
  have HX : Hid (keyB l (st.take st.length) = keyB l st) := by unfold Hid; rw [List.take_length]
  clear hst hr ht
  generalize Lib.itoa l = it at *
  go_enter Tryd.func19, Tryd.ntmps19
  go_upto_region 1 with fail
  rw [← hw0]
  clear hw0
  go_wp2_with fail
  refine HI.out.mono ?_
  rintro e w1 ⟨rfl, hB1⟩
  have x1 := hB0.trans (hB1.mono hB0.size)
  have a1 := (b0.below hB1 b0.lt).at 1 rfl
  clear a0 b0 hB0 hB1 HI
  go_wp2_with fail
  go_loopw [3, 12] (fun sv iv W => ∃ k : Nat, k ≤ st.length ∧ iv = .int .i64 k ∧ sv = .string ⟨(it ++ tailK (st.take k)).toArray⟩ ∧ RowKit.Below w.heap.size w W) (fun _ iv _ => st.length - (intOf iv).toNat)
  case atStart => exact ⟨0, by omega, rfl, by simp [tailK], x1⟩
  case round =>
    clear a1 x1
    obtain ⟨k, hk, rfl, rfl, hB⟩ := hrel
    by_cases hlt : k < st.length
    · have hltI : (k : Int) < (st.length : Int) := by omega
      obtain ⟨bb, oo, rfl, _, hc1⟩ := (HST.out.below hB).get k hlt
      have e0 := hc1 k hlt
      have hrk := HR.out _ (List.getElem_mem hlt)
      have HN : Hid (it ++ tailK (st.take (k + 1)) = (it ++ tailK (st.take k)) ++ (32 :: Lib.decDigits st[k].toNat)) := by
        rw [Hid, List.take_succ_eq_append_getElem hlt, tailK_snoc, List.append_assoc]
      have hdl := dit_small st[k].toNat (by omega)
      have htl : (it ++ tailK (st.take k)).length ≤ 200 := by
        have := tailK_len (st := st.take k) (fun x hx => HR.out x (List.mem_of_mem_take hx))
        rw [List.length_take] at this
        rw [List.length_append]; omega
      have HC := hidI (fun W => itoaS_any st[k] W hrk)
      generalize st[k] = s at *
      generalize it ++ tailK (st.take k) = o at *
      clear hc1
      go_wp2_with fail
      refine (HC.out wr).mono ?_
      rintro e w2 ⟨rfl, hw2⟩
      have hB2 : RowKit.Below w.heap.size w w2 := by rw [hw2]; exact hB
      clear hw2 hB e0 HC
      generalize Lib.decDigits s.toNat = dg at *
      have hsz1 : (⟨o.toArray⟩ : ByteArray).size = o.length := by simp [ByteArray.size]
      have hsz2 : (⟨dg.toArray⟩ : ByteArray).size = dg.length := by simp [ByteArray.size]
      have HQ : Hid ((⟨o.toArray⟩ : ByteArray) ++ ((⟨#[32]⟩ : ByteArray) ++ (⟨dg.toArray⟩ : ByteArray)) = ⟨(o ++ (32 :: dg)).toArray⟩) := by
        apply ByteArray.ext; simp
      go_wp2
      go_roundw
      case rel => exact ⟨k + 1, by omega, by go_num, by rw [HN.out, ← HQ.out], hB2⟩
      case measure => simp [intOf]; omega
    · obtain rfl : k = st.length := by omega
      have hltI : ¬ (st.length : Int) < (st.length : Int) := by omega
      have HY : Hid (it ++ tailK (st.take st.length) = keyB l st) := by rw [Hid, ← HK.out, HX.out]
      rw [HY.out]
      go_wp2
      go_ret
      exact ⟨rfl, hB⟩
end Go.Proofs.YtjponanfpdmeoaaDoor
namespace Go.Proofs.YtjponanfpdmeoaaDoor
open Go.RowKit

end Go.Proofs.YtjponanfpdmeoaaDoor
namespace Go.Proofs.YtjponanfpdmeoaaDoor
open Go.RowKit

theorem ret_str {a b : ByteArray} (h : a = b) : Ending.returned (.string a) = .returned (.string b) := by rw [h]
def swS (l : List Sw) (i j : Int) : ByteArray := (swapW l i j).getD ⟨#[]⟩
/-! ### Lists of numbers, asked by a function that only reads -/
set_option maxHeartbeats 400000 in
theorem indexI58_any (l : List Int) (f : Int → Bool) (B : Nat) (p : Option Addr) (c : Nat) (w : World) (hp : Sl w (Value.int .i64) p l) (hl : l.length ≤ 9223372036854775807)
    (hf : ∀ x, Calls Tryd.prog 26 #[.int .i64 x, .pointer (some ⟨B, 0, none⟩)] w fun e w' => e = .returned (.bool (f x)) ∧ w' = w) :
    Calls Tryd.prog 42 #[.slice p l.length c, .func (.func 26) #[] #[.pointer (some ⟨B, 0, none⟩)]] w fun e w' => e = .returned (.int .i64 (idxP f l)) ∧ w' = w := by
  go_enter Tryd.func42, Tryd.ntmps42
  go_wp2
  go_loop [8] (fun i => ∃ k : Nat, k ≤ l.length ∧ i = .int .i64 k ∧ Hid (∀ j (hj : j < l.length), j < k → f l[j] = false)) (fun i => l.length - (intOf i).toNat)
  case atStart => exact ⟨0, by omega, rfl, fun _ _ h => by omega⟩
  case round =>
    obtain ⟨k, hk, rfl, hj⟩ := hrel
    by_cases hlt : k < l.length
    · obtain ⟨b1, o1, rfl, hb1, hc1⟩ := hp.get k hlt
      have e1 := hc1 k hlt
      clear hc1
      have hfk := hf l[k]
      cases hh : f l[k]
      · rw [hh] at hfk
        have HH := hidI hh
        clear hh
        go_wp2_with (go_at_call 26; refine hfk.mono ?_; rintro e w' ⟨rfl, rfl⟩)
        go_round
        case rel => exact ⟨k + 1, by omega, by go_num, fun j h1 h2 => by
          rcases Nat.lt_succ_iff_lt_or_eq.1 h2 with h3 | h3
          · exact hj.out j h1 h3
          · subst h3; exact HH.out⟩
        case measure => simp [intOf]; omega
      · rw [hh] at hfk
        have HI := hidI (idxP_hit f l k hlt hj.out hh)
        clear hh
        go_wp2_with (go_at_call 26; refine hfk.mono ?_; rintro e w' ⟨rfl, rfl⟩)
        go_ret
        exact ⟨ret_int HI.out.symm, rfl⟩
    · have HM := hidI (idxP_miss f l (fun j h => hj.out j h (by omega)))
      go_wp2
      go_ret
      exact ⟨ret_int HM.out.symm, rfl⟩

set_option maxHeartbeats 400000 in
theorem containsI58_any (l : List Int) (f : Int → Bool) (B : Nat) (p : Option Addr) (c : Nat) (w : World) (hp : Sl w (Value.int .i64) p l) (hl : l.length ≤ 9223372036854775807)
    (hf : ∀ x, Calls Tryd.prog 26 #[.int .i64 x, .pointer (some ⟨B, 0, none⟩)] w fun e w' => e = .returned (.bool (f x)) ∧ w' = w) :
    Calls Tryd.prog 25 #[.slice p l.length c, .func (.func 26) #[] #[.pointer (some ⟨B, 0, none⟩)]] w fun e w' => e = .returned (.bool (l.any f)) ∧ w' = w := by
  have HA := hidI (idxP_any f l)
  go_enter Tryd.func25, Tryd.ntmps25
  go_wp2_with (go_at_call 42; refine (indexI58_any l f B p c _ hp hl hf).mono ?_; rintro e w' ⟨rfl, rfl⟩)
  go_ret
  exact ⟨ret_bool HA.out, rfl⟩

set_option maxHeartbeats 400000 in
theorem lkEncode1_any (x : Int) (N : Nat) (B : Nat) (p : Option Addr) (c : Nat) (w : World) (hb : w.cell? ⟨B, 2, none⟩ = some (.slice p N c)) :
    Calls Tryd.prog 26 #[.int .i64 x, .pointer (some ⟨B, 0, none⟩)] w fun e w' => e = .returned (.bool (outB N x)) ∧ w' = w := by
  go_enter Tryd.func26, Tryd.ntmps26
  go_wp2
  all_goals go_ret
  all_goals exact ⟨ret_bool (by unfold outB; first | rfl | (rw [Bool.eq_iff_iff]; simp; omega)), rfl⟩
end Go.Proofs.YtjponanfpdmeoaaDoor
namespace Go.Proofs.YtjponanfpdmeoaaDoor
open Go.RowKit

theorem infoInt : (Tryd.prog.info? 3).map (fun i => (i.zero, i.size, i.bytes)) = some (some (.int .i64 0), 1, 8) := by kernel_rfl
/-- A list of numbers in memory of the call's own. -/
def RetSl (r : List Int) (w : World) (e : Ending) (w' : World) : Prop := ∃ p c, e = .returned (.slice p r.length c) ∧ Sl w' (Value.int .i64) p r ∧ r.length ≤ c ∧ Below w.heap.size w w'
theorem RetSl.mk {r : List Int} {w w' : World} {B e n : Nat} {v : Value} {l : List Int} (h : w'.ownsRow B e 1 v n (l.map (Value.int .i64))) (hr : l = r) (hB : Below w.heap.size w w') : RetSl r w (.returned v) w' := by
  subst hr
  obtain ⟨p, c, rfl, hs⟩ := own_sl h
  exact ⟨p, c, rfl, hs, by have := own_cap h _ _ _ rfl; have := h.1; simp at this; omega, hB⟩
def u8v (b : UInt8) : Value := .int .u8 b.toNat
theorem picks_take {N : Nat} {l : List UInt8} {k : Nat} (h : k < l.length) : (picks N (l.take (k + 1))).map (Value.int .i64) = (picks N (l.take k)).map (Value.int .i64) ++ [.int .i64 ((l[k].toNat : Int) % N)] := by
  rw [List.take_succ_eq_append_getElem h]; unfold picks; rw [List.map_append, List.map_append]; rfl

set_option maxHeartbeats 1000000 in
theorem lkSome_any (T : Tb) (p1 p2 : Option Addr) (c1 c2 : Nat) (l : List UInt8) (pl : Option Addr) (cl : Nat) (w : World) (hl : Sl w u8v pl l) (hln : l.length ≤ 1000) (h0 : 0 < T.base.length) (h1 : T.base.length ≤ 9223372036854775807) :
    Calls Tryd.prog 9 #[.agg #[.int .i64 T.q, .int .i64 T.n, .slice p1 T.base.length c1, .slice p2 T.swaps.length c2], .slice pl l.length cl] w (RetSl (picks T.base.length l) w) := by
  have hB0 : Below w.heap.size w (w.alloc (.cells #[.int .i64 T.q, .int .i64 T.n, .slice p1 T.base.length c1, .slice p2 T.swaps.length c2] 25)) := (Below.refl _ _).alloc (Nat.le_refl _) _
  have b0 : VRow (w.alloc (.cells #[.int .i64 T.q, .int .i64 T.n, .slice p1 T.base.length c1, .slice p2 T.swaps.length c2] 25)) w.heap.size 25 [.int .i64 T.q, .int .i64 T.n, .slice p1 T.base.length c1, .slice p2 T.swaps.length c2] := VRow.new w _ _
  obtain ⟨i0, hi0, hz0, hz1, hz3⟩ := info_parts infoInt
  go_enter Tryd.func9, Tryd.ntmps9
  go_wp2
  generalize (w.alloc (.cells #[.int .i64 T.q, .int .i64 T.n, .slice p1 T.base.length c1, .slice p2 T.swaps.length c2] 25)) = w0 at b0 hB0 ⊢
  have hz0' := hB0.size
  go_loopw [5, 10] (fun ov iv wr => ∃ k : Nat, k ≤ l.length ∧ iv = .int .i64 k ∧ wr.ownsRow w0.heap.size 3 1 ov k ((picks T.base.length (l.take k)).map (Value.int .i64)) ∧ Below w0.heap.size w0 wr) (fun _ iv _ => l.length - (intOf iv).toNat)
  case atStart => exact ⟨0, by omega, rfl, World.ownsRow_nil _ _ _ _, Below.refl _ _⟩
  case round =>
    obtain ⟨k, hk, rfl, hown, hB⟩ := hrel
    have hBa := hB0.trans (hB.mono hB0.size)
    have f2 := (b0.below hB b0.lt).at 2 rfl
    by_cases hlt : k < l.length
    · obtain ⟨b1, o1, rfl, hb1, hc1⟩ := (hl.below hBa).get k hlt
      have e1 := hc1 k hlt
      unfold u8v at e1
      have hu := l[k].toNat_lt
      have HT := hidI (picks_take (N := T.base.length) hlt)
      clear hc1
      have hnew := cell_one_at wr (.int .i64 ((l[k].toNat : Int) % T.base.length)) 3 wr.heap.size rfl
      go_wp2_with (at_builtin; refine wpList_append_own _ rfl _ _ 35 rfl w0.heap.size 3 i0 (.int .i64 0) 1 8 Tryd.underlying35 hi0 hz0 hz1 hz3 rfl (by decide) _ _ _ rfl (hown.alloc _) ⟨wr.heap.size, 0, none⟩ 1 1 [.int .i64 ((l[k].toNat : Int) % T.base.length)] rfl rfl hnew (by simp [Value.oneCell']) (by simp [maxLen]; omega) (by omega) (by rw [World.size_alloc]; have := hB.size; omega) ?_; intro v' w1 hown' hgrow _)
      go_roundw
      case rel => exact ⟨k + 1, by omega, by go_num, by rw [HT.out]; exact hown', (hB.alloc hB.size _).grown hgrow (Nat.le_trans hB.size (by simp)) (fun j e => (hown.lt j e).1)⟩
      case measure => simp [intOf]; omega
    · obtain rfl : k = l.length := by omega
      rw [List.take_length] at hown
      go_wp2
      go_ret
      exact RetSl.mk hown rfl hBa

/-! ### Swaps asked by a function -/
def swV (s : Sw) : Value := .agg #[.int .i64 s.i, .int .i64 s.j, .string s.wd]
def swIs (i j : Int) (s : Sw) : Bool := decide (s.i = i) && decide (s.j = j)
end Go.Proofs.YtjponanfpdmeoaaDoor
namespace Go.Proofs.YtjponanfpdmeoaaDoor
open Go.RowKit

theorem ret_si {a a' : ByteArray} {b b' : Int} (h : (a', b') = (a, b)) : Ending.returned (.tuple #[.string a, .int .i64 b]) = .returned (.tuple #[.string a', .int .i64 b']) := by
  obtain ⟨rfl, rfl⟩ := Prod.mk.inj h; rfl
def slLen : Value → Nat | .slice _ n _ => n | _ => 0
theorem sl_drop1 {α : Type} {w : World} {enc : α → Value} {b off : Nat} {l : List α} (h : Sl w enc (some ⟨b, off, none⟩) l) (k : Nat) (hl : k < l.length) : Sl w enc (some ⟨b, off + k, none⟩) (l.drop k) := by
  obtain ⟨b', off', hp, hb, hc⟩ := h.get 0 (by omega)
  cases hp
  exact .inr ⟨b, off + k, rfl, hb, fun i hi => by rw [Nat.add_assoc, hc (k + i) (by rw [List.length_drop] at hi; omega)]; simp⟩
theorem sl_adv {α : Type} {w : World} {enc : α → Value} {b off : Nat} {l : List α} {m : Nat} (h : Sl w enc (some ⟨b, off, none⟩) (l.drop m)) (k : Nat) : Sl w enc (some ⟨b, off + k, none⟩) (l.drop (m + k)) := by
  by_cases hl : k < (l.drop m).length
  · have := sl_drop1 h k hl
    rwa [List.drop_drop] at this
  · exact .inl (List.drop_eq_nil_of_le (by rw [List.length_drop] at hl; omega))
theorem sl_nil' {α : Type} {w : World} {enc : α → Value} {p : Option Addr} {l : List α} {m : Nat} (h : l.length ≤ m) : Sl w enc p (l.drop m) := .inl (List.drop_eq_nil_of_le h)
theorem isb_dr {T e : TypeId} {B b : Nat} {bs : List Value} {w w' : World} (h : Lib.IsBuilderF T e B b bs w) (hD : Dr w w') : Lib.IsBuilderF T e B b bs w' := by obtain ⟨k, rfl⟩ := hD; exact h
theorem bc_app (o : List UInt8) (s : ByteArray) : Lib.byteCells o ++ Lib.strCells s = Lib.byteCells (o ++ s.data.toList) := by simp [Lib.byteCells, Lib.strCells]
theorem swaps_ok2 {T : Tb} (h : fmd T = true) : ∀ j (hj : j < T.swaps.length), ok2 (T.swaps[j].i, T.swaps[j].j) := by
  intro j hj
  have h1 := allB_get (fmd_split h).2.1 j hj
  unfold sOk at h1
  rw [sget_eq _ _ hj] at h1
  have h2 := (Bool.and_eq_true_iff.1 h1).1
  simp [inB] at h2
  have hp := of_decide_eq_true (show preB T = true from (fmd_split h).1)
  exact ⟨WalkArith.wf_i64 (by simp; omega), WalkArith.wf_i64 (by simp; omega)⟩

set_option maxRecDepth 100000 in
set_option maxHeartbeats 4000000 in
theorem lkEncode_any (T : Tb) (p1 p2 : Option Addr) (c1 c2 : Nat) (l : List Int) (pl : Option Addr) (cl : Nat) (w : World) (hin : TbIn w T p1 p2 c1 c2) (hl : Sl w (Value.int .i64) pl l) (hln : l.length ≤ 1000) (hcl : l.length ≤ cl) :
    Calls Tryd.prog 10 #[.agg #[.int .i64 T.q, .int .i64 T.n, .slice p1 T.base.length c1, .slice p2 T.swaps.length c2], .slice pl l.length cl] w fun e w' => e = .returned (.tuple #[.string (encA T l).1, .int .i64 (encA T l).2]) ∧ Below w.heap.size w w' := by
  have hB0 : Below w.heap.size w (w.alloc (.cells #[.int .i64 T.q, .int .i64 T.n, .slice p1 T.base.length c1, .slice p2 T.swaps.length c2] 25)) := (Below.refl _ _).alloc (Nat.le_refl _) _
  have b0 : VRow (w.alloc (.cells #[.int .i64 T.q, .int .i64 T.n, .slice p1 T.base.length c1, .slice p2 T.swaps.length c2] 25)) w.heap.size 25 [.int .i64 T.q, .int .i64 T.n, .slice p1 T.base.length c1, .slice p2 T.swaps.length c2] := VRow.new w _ _
  cases hf : fmd T
  · have HF := hidI hf
    have HR := hidI (encA_bad l hf)
    clear hf
    go_enter Tryd.func10, Tryd.ntmps10
    go_wp2_with fail
    refine (lkFormed_any T p1 p2 c1 c2 _ (hin.below hB0)).mono ?_
    rintro e w1 ⟨rfl, hB1⟩
    rw [HF.out]
    go_wp2
    go_ret2
    exact ⟨ret_si HR.out, hB0.trans (hB1.mono hB0.size)⟩
  cases ho : l.any (outB T.base.length)
  · have HF := hidI hf
    have HO := hidI ho
    have HR := hidI (encA_ok hf ho)
    obtain ⟨n1, n2⟩ := fmd_bd hf
    have hm0 : 0 ≤ (l.length : Int) * T.n := Int.mul_nonneg (by omega) (by omega)
    have hm1 : (l.length : Int) * T.n ≤ 8000 := by
      have := Int.mul_le_mul (show (l.length : Int) ≤ 1000 by omega) n2 (by omega) (by omega)
      omega
    clear hf ho
    go_enter Tryd.func10, Tryd.ntmps10
    go_wp2_with fail
    refine (lkFormed_any T p1 p2 c1 c2 _ (hin.below hB0)).mono ?_
    rintro e w1 ⟨rfl, hB1⟩
    rw [HF.out]
    have hBa := hB0.trans (hB1.mono hB0.size)
    have hb1 := b0.below hB1 (by simp)
    have f0 := hb1.at 0 rfl; have f1 := hb1.at 1 rfl; have f2 := hb1.at 2 rfl; have f3 := hb1.at 3 rfl
    clear hB1 b0
    go_wp2_with fail
    refine (containsI58_any l (outB T.base.length) w.heap.size pl cl _ (hl.below hBa) (by omega) (fun x => lkEncode1_any x _ _ _ _ _ f2)).mono ?_
    rintro e w1 ⟨rfl, rfl⟩
    rw [HO.out]
    have q0 : IntKind.i64.wrap ((l.length : Int) * T.n) = (l.length : Int) * T.n := IntWalk.i64_in _ (by omega)
    go_wp2_with fail
    refine (lkPairs_any T p1 p2 c1 c2 _ (hin.swaps.below hBa) hin.l2 (swaps_ok2 HF.out)).mono ?_
    rintro e w2 ⟨rfl, hM, hB2⟩
    clear q0 hm0 hm1
    have hBb := hBa.trans (hB2.mono hBa.size)
    have hz1 : w.heap.size < w1.heap.size := hb1.lt
    have hb2 := hb1.below hB2 hz1
    have hz2 : w1.heap.size + 1 < w2.heap.size := hM.lt
    clear f0 f1 f2 f3 hb1
    have HLL := hidI hl
    have HIN := hidI hin
    go_wp2
    go_loopw [1] (fun iv wr => ∃ (m r : Nat) (p' : Option Addr) (c' : Nat) (o : List UInt8), m + r = l.length ∧ iv = .slice p' r c' ∧ Sl w (Value.int .i64) p' (l.drop m) ∧ r ≤ c' ∧ Hid (o ++ encB T (l.drop m) = encB T l) ∧ o.length ≤ 16 * m ∧
        Lib.IsBuilderF 68 5 w2.heap.size w2.heap.size (Lib.byteCells o) wr ∧ Below w2.heap.size w2 wr) (fun iv _ => slLen iv)
    case atStart =>
      refine ⟨0, l.length, pl, cl, [], by omega, rfl, HLL.out, hcl, rfl, by simp, ?_, (Below.refl _ _).alloc (Nat.le_refl _) _⟩
      exact Lib.IsBuilderF.of (.inl ⟨Nat.le_refl _, .slice none 0 0, World.alloc_heap_new _ _, World.ownsRow_nil _ _ _ _, by simp [Value.ownBlock]⟩)
    case round =>
      obtain ⟨m, r, p', c', o, hmr, rfl, hs, hrc, ho, hol, hbd, hB⟩ := hrel
      have hB3 := hBb.trans (hB.mono hBb.size)
      have hb3 := hb2.below hB (by omega)
      have hM3 : SwM T.swaps wr (w1.heap.size + 1) := hM.below hB hz2
      have f2 := hb3.at 2 rfl
      by_cases hr : 0 < r
      · have hml : m < l.length := by omega
        have hdl : (l.drop m).length = r := by rw [List.length_drop]; omega
        obtain ⟨b1, o1, rfl, hb1, hc1⟩ := (hs.below hB3).get 0 (by omega)
        have e0 := hc1 0 (by omega)
        simp only [List.getElem_drop, Nat.add_zero] at e0
        have ho0 := outB_f (any_f HO.out m hml)
        have hp16 := of_decide_eq_true (show preB T = true from (fmd_split HF.out).1)
        by_cases hr2 : 1 < r
        · have hml2 : m + 1 < l.length := by omega
          have e1 := hc1 1 (by omega)
          simp only [List.getElem_drop] at e1
          have ho1 := outB_f (any_f HO.out (m + 1) hml2)
          have hlk := fun a : Nat => Mp.look (hM3.drewN a) key2 Tryd.underlying50 (zeroStr (wr.drewN a)) (l[m], l[m + 1]) ⟨WalkArith.wf_i64 (by simp; omega), WalkArith.wf_i64 (by simp; omega)⟩ true
          simp only [swapF_eq HF.out] at hlk
          cases hsw : swapW T.swaps l[m] l[m + 1] with
          | some wd =>
            have HE := hidI (encB_swap T l m hml2 wd hsw)
            have HS := hidI (swapW_size HF.out hsw)
            simp only [hsw, if_true, k2] at hlk
            clear hsw hc1
            have hr0' : (0 : Int) < (r : Int) := by omega
            have hr1' : (1 : Int) < (r : Int) := by omega
            go_wp2_with fail
            (refine wp_region_quiet_lit (by kernel_rfl) (by kernel_rfl) ?_; (repeat (first | go_big_quiet_step (fail) | quiet_step (fail))); refine wpQuiet_nil ?_; intro _ hwq; obtain ⟨nq, hwq2⟩ := hwq; subst hwq2)
            have hbdq : Lib.IsBuilderF 68 5 w2.heap.size w2.heap.size (Lib.byteCells o) (wr.drewN nq) := hbd
            go_wp2_with fail
            refine (bwrite_any _ _ _ wd _ hbdq (by have := HS.out; simp [Lib.byteCells]; omega) hB.size).mono ?_
            rintro e w4 ⟨rfl, hbd4, hB4⟩
            have hs4 := HS.out
            have hB5 : Below w2.heap.size w2 w4 := (below_drewN hB nq).trans hB4
            rw [bc_app] at hbd4
            have HE2 : Hid ((o ++ wd.data.toList) ++ encB T (l.drop (m + 2)) = encB T l) := by unfold Hid; rw [List.append_assoc, ← HE.out]; exact ho.out
            by_cases hc2 : c' = 2
            · subst hc2
              go_wp2
              go_roundw
              case rel => exact ⟨m + 2, 0, _, _, o ++ wd.data.toList, by omega, rfl, sl_nil' (by omega), by omega, HE2, by rw [List.length_append]; simp; omega, .inr hbd4, hB5⟩
              case measure => simp [slLen]; omega
            · go_wp2
              go_roundw
              case rel => exact ⟨m + 2, r - 2, _, _, o ++ wd.data.toList, by omega, rfl, sl_adv hs 2, by omega, HE2, by rw [List.length_append]; simp; omega, .inr hbd4, hB5⟩
              case measure => simp [slLen]; omega
          | none =>
            have HE := hidI (encB_base T l m hml2 hsw)
            simp only [hsw, if_true] at hlk
            simp only [k2] at hlk
            clear hsw hc1
            have hr0' : (0 : Int) < (r : Int) := by omega
            have hr1' : (1 : Int) < (r : Int) := by omega
            go_wp2_with fail
            (refine wp_region_quiet_lit (by kernel_rfl) (by kernel_rfl) ?_; (repeat (first | go_big_quiet_step (fail) | quiet_step (fail))); refine wpQuiet_nil ?_; intro _ hwq; obtain ⟨nq, hwq2⟩ := hwq; subst hwq2)
            have HBX : Below w2.heap.size w2 (wr.drewN nq) := below_drewN hB nq
            have GE0 : (wr.drewN nq).cell? ⟨b1, o1, none⟩ = some (.int .i64 l[m]) := e0
            have GF2 : (wr.drewN nq).cell? ⟨w.heap.size, 2, none⟩ = some (.slice p1 T.base.length c1) := f2
            have HBDX : Lib.IsBuilderF 68 5 w2.heap.size w2.heap.size (Lib.byteCells o) (wr.drewN nq) := hbd
            clear e0 e1 f2 hlk
            go_wp2_with fail
            refine region_tail 7 (by kernel_rfl) (by kernel_rfl) fun W hD => ?_
            have hBW : Below w2.heap.size w2 W := HBX.trans (hD.below _)
            have g0 := (hD.cell _).trans GE0
            have g2 := (hD.cell _).trans GF2
            have hin0 : l[m].toNat < T.base.length := by omega
            obtain ⟨b3, o3, hp1, _, hc3⟩ := (HIN.out.base.below (hBb.trans (hBW.mono hBb.size))).get l[m].toNat hin0
            have g3 := hc3 l[m].toNat hin0
            rw [hp1] at g2
            clear hp1
            have HWD : Hid (baseW T l[m] = T.base[l[m].toNat]) := bget_eq _ _ hin0
            have HS := hidI (base_size HF.out l[m] ho0.1 ho0.2)
            rw [HWD.out] at HS HE
            have ho00 := ho0.1
            have ho01 := ho0.2
            clear hc3
            simp only [List.take_succ_cons, List.take_zero, List.drop_succ_cons, List.drop_zero]
            iterate 7 still_step
            refine wpStill_nil ?_
            have hbdW : Lib.IsBuilderF 68 5 w2.heap.size w2.heap.size (Lib.byteCells o) W := isb_dr HBDX hD
            go_wp2_with fail
            refine (bwrite_any _ _ _ T.base[l[m].toNat] _ hbdW (by have := HS.out; simp [Lib.byteCells]; omega) hBW.size).mono ?_
            rintro e w4 ⟨rfl, hbd4, hB4⟩
            have hs4 := HS.out
            have hB5 : Below w2.heap.size w2 w4 := hBW.trans hB4
            rw [bc_app] at hbd4
            have HE2 : Hid ((o ++ T.base[l[m].toNat].data.toList) ++ encB T (l.drop (m + 1)) = encB T l) := by unfold Hid; rw [List.append_assoc, ← HE.out]; exact ho.out
            clear g0 g2 g3 HBX GE0 GF2 HBDX
            by_cases hc2 : c' = 1
            · subst hc2
              go_wp2
              go_roundw
              case rel => exact ⟨m + 1, 0, _, _, o ++ T.base[l[m].toNat].data.toList, by omega, rfl, sl_nil' (by omega), by omega, HE2, by rw [List.length_append]; simp; omega, .inr hbd4, hB5⟩
              case measure => simp [slLen]; omega
            · go_wp2
              go_roundw
              case rel => exact ⟨m + 1, r - 1, _, _, o ++ T.base[l[m].toNat].data.toList, by omega, rfl, sl_adv hs 1, by omega, HE2, by rw [List.length_append]; simp; omega, .inr hbd4, hB5⟩
              case measure => simp [slLen]; omega
        · have HE := hidI (encB_one T l m hml (by omega))
          have hrd : decide ((1 : Int) < (r : Int)) = false := decide_eq_false (by omega)
          have hrd2 : decide (1 < r) = false := decide_eq_false (by omega)
          have hr0' : (0 : Int) < (r : Int) := by omega
          have HBX := hB
          have GE0 := e0
          have GF2 := f2
          have HBDX := hbd
          clear hc1 e0 f2
          go_wp2_with fail
          refine region_tail 7 (by kernel_rfl) (by kernel_rfl) fun W hD => ?_
          have hBW : Below w2.heap.size w2 W := HBX.trans (hD.below _)
          have g0 := (hD.cell _).trans GE0
          have g2 := (hD.cell _).trans GF2
          have hin0 : l[m].toNat < T.base.length := by omega
          obtain ⟨b3, o3, hp1, _, hc3⟩ := (HIN.out.base.below (hBb.trans (hBW.mono hBb.size))).get l[m].toNat hin0
          have g3 := hc3 l[m].toNat hin0
          rw [hp1] at g2
          clear hp1
          have HWD : Hid (baseW T l[m] = T.base[l[m].toNat]) := bget_eq _ _ hin0
          have HS := hidI (base_size HF.out l[m] ho0.1 ho0.2)
          rw [HWD.out] at HS HE
          have ho00 := ho0.1
          have ho01 := ho0.2
          clear hc3
          simp only [List.take_succ_cons, List.take_zero, List.drop_succ_cons, List.drop_zero]
          iterate 7 still_step
          refine wpStill_nil ?_
          have hbdW : Lib.IsBuilderF 68 5 w2.heap.size w2.heap.size (Lib.byteCells o) W := isb_dr HBDX hD
          go_wp2_with fail
          refine (bwrite_any _ _ _ T.base[l[m].toNat] _ hbdW (by have := HS.out; simp [Lib.byteCells]; omega) hBW.size).mono ?_
          rintro e w4 ⟨rfl, hbd4, hB4⟩
          have hs4 := HS.out
          have hB5 : Below w2.heap.size w2 w4 := hBW.trans hB4
          rw [bc_app] at hbd4
          have HE2 : Hid ((o ++ T.base[l[m].toNat].data.toList) ++ encB T (l.drop (m + 1)) = encB T l) := by unfold Hid; rw [List.append_assoc, ← HE.out]; exact ho.out
          clear g0 g2 g3 HBX GE0 GF2 HBDX
          by_cases hc2 : c' = 1
          · subst hc2
            go_wp2
            go_roundw
            case rel => exact ⟨m + 1, 0, _, _, o ++ T.base[l[m].toNat].data.toList, by omega, rfl, sl_nil' (by omega), by omega, HE2, by rw [List.length_append]; simp; omega, .inr hbd4, hB5⟩
            case measure => simp [slLen]; omega
          · go_wp2
            go_roundw
            case rel => exact ⟨m + 1, r - 1, _, _, o ++ T.base[l[m].toNat].data.toList, by omega, rfl, sl_adv hs 1, by omega, HE2, by rw [List.length_append]; simp; omega, .inr hbd4, hB5⟩
            case measure => simp [slLen]; omega
      · have hr00 : r = 0 := by omega
        have hml : m = l.length := by omega
        have HE : Hid (encB T l = o) := by unfold Hid; rw [← ho.out, hml, List.drop_length]; simp [encB]
        clear hml
        subst hr00
        go_wp2_with (go_at_call 28; refine (Tryd.Builder_String_any_f w2.heap.size w2.heap.size o _ hbd hB.size).mono ?_; rintro e w4 ⟨rfl, hbd4, hB4⟩)
        go_ret2
        have hB5 : Below w2.heap.size w2 w4 := hB.trans hB4
        exact ⟨ret_si (by rw [HR.out]; unfold encW; rw [HE.out]), hBb.trans (hB5.mono hBb.size)⟩
  · have HF := hidI hf
    have HO := hidI ho
    have HR := hidI (encA_out hf ho)
    clear hf ho
    go_enter Tryd.func10, Tryd.ntmps10
    go_wp2_with fail
    refine (lkFormed_any T p1 p2 c1 c2 _ (hin.below hB0)).mono ?_
    rintro e w1 ⟨rfl, hB1⟩
    rw [HF.out]
    have hBa := hB0.trans (hB1.mono hB0.size)
    have hb1 := b0.below hB1 (by simp)
    have f2 := hb1.at 2 rfl
    clear hB1 b0
    go_wp2_with fail
    refine (containsI58_any l (outB T.base.length) w.heap.size pl cl _ (hl.below hBa) (by omega) (fun x => lkEncode1_any x _ _ _ _ _ f2)).mono ?_
    rintro e w' ⟨rfl, rfl⟩
    rw [HO.out]
    go_wp2
    go_ret2
    exact ⟨ret_si HR.out, hBa⟩
end Go.Proofs.YtjponanfpdmeoaaDoor
namespace Go.Proofs.YtjponanfpdmeoaaDoor
open Go.RowKit

theorem any_t {α : Type} {f : α → Bool} {l : List α} (k : Nat) (hk : k < l.length) (h : f l[k] = true) : l.any f = true := List.any_eq_true.2 ⟨l[k], List.getElem_mem hk, h⟩
theorem any_n {α : Type} {f : α → Bool} {l : List α} (h : ∀ k (hk : k < l.length), f l[k] = false) : l.any f = false := by
  rw [List.any_eq_false]; intro x hx
  obtain ⟨k, hk, rfl⟩ := List.mem_iff_getElem.1 hx
  simp [h k hk]
theorem outB_lo {N : Nat} {a : Int} (h : a < 0) : outB N a = true := by simp [outB, h]
theorem outB_hi {N : Nat} {a : Int} (h : (N : Int) ≤ a) : outB N a = true := by simp [outB, h]
theorem outB_in {N : Nat} {a : Int} (h : 0 ≤ a) (h2 : a < N) : outB N a = false := by simp [outB]; omega

theorem ne_empty {s : ByteArray} (h : 0 < s.size) : s.toList.isEmpty = false := by
  cases hh : s.toList with
  | nil =>
    have : (s.toList == (⟨#[]⟩ : ByteArray).toList) = true := by rw [hh]; decide +kernel
    have := (Lib.bytes_beq_iff _ _).1 this
    subst this; exact absurd h (by decide)
  | cons a b => rfl

end Go.Proofs.YtjponanfpdmeoaaDoor
namespace Go.Proofs.YtjponanfpdmeoaaDoor
open Go.RowKit

def okS (s : ByteArray) : Prop := s.size ≤ maxLen
theorem keyS : KeyBy Tryd.prog 9 Value.string okS where
  law := Maps.string_keyed Tryd.underlying9
  reads := fun a ha => ⟨.string a.data.toList, by simp [keyOf, mapKey, Tryd.underlying9]; exact ha⟩
  inj := fun a b _ _ h => by simpa using h
theorem zeroSlI (w : World) : (zeroValue 35).run Tryd.prog w = .ok (.slice none 0 0) w := by kernel_rfl
theorem infoI : (Tryd.prog.info? 3).map (fun i => (i.zero, i.size, i.bytes)) = some (some (.int .i64 0), 1, 8) := by kernel_rfl

theorem cell_turn {W w1 : World} {b : Nat} (h : W.mapTurned w1 b) {p : Addr} {v : Value} (hc : W.cell? p = some v) : w1.cell? p = some v := by
  obtain ⟨es, clock, es', clock', hb, rfl⟩ := h
  by_cases e : p.block = b
  · simp [World.cell?, e, hb] at hc
  · exact (World.cell?_of_block (ChangeMaps.heap_setBlock_other hb _ e)).trans hc
theorem Sl.turn {α : Type} {W w1 : World} {b : Nat} {enc : α → Value} {p : Option Addr} {l : List α} (h : Sl W enc p l) (ht : W.mapTurned w1 b) : Sl w1 enc p l := by
  rcases h with h | ⟨b', off, hp, hb, hc⟩
  · exact .inl h
  · exact .inr ⟨b', off, hp, Nat.lt_of_lt_of_le hb ht.grown.size, fun i hi => cell_turn ht (hc i hi)⟩
/-- Block b is a map of words to lists of numbers that answers as rd does. -/
def MapRd (b : Nat) (rd : ByteArray → Option (List Int)) (w : World) : Prop :=
  ∃ f : ByteArray → Option Value, Mp Value.string okS (fun v => v) w b f ∧ ∀ s, (rd s = none ∧ f s = none) ∨ ∃ l p c, rd s = some l ∧ f s = some (.slice p l.length c) ∧ Sl w (Value.int .i64) p l
theorem MapRd.made (w : World) : MapRd w.heap.size (fun _ => none) (w.alloc (.map #[] 0)) := ⟨_, Mp.made w, fun _ => .inl ⟨rfl, rfl⟩⟩
theorem MapRd.congr {b : Nat} {rd rd' : ByteArray → Option (List Int)} {w : World} (h : MapRd b rd w) (e : ∀ s, rd s = rd' s) : MapRd b rd' w := by
  have : rd = rd' := funext e
  exact this ▸ h
theorem MapRd.below {b : Nat} {rd : ByteArray → Option (List Int)} {w w' : World} (h : MapRd b rd w) (hB : Below w.heap.size w w') : MapRd b rd w' := by
  obtain ⟨f, hM, hf⟩ := h
  refine ⟨f, hM.below hB hM.lt, fun s => ?_⟩
  rcases hf s with h | ⟨l, p, c, h1, h2, h3⟩
  · exact .inl h
  · exact .inr ⟨l, p, c, h1, h2, h3.below hB⟩
theorem MapRd.put {b : Nat} {rd : ByteArray → Option (List Int)} {w w1 : World} {f : ByteArray → Option Value} (hf : ∀ s, (rd s = none ∧ f s = none) ∨ ∃ l p c, rd s = some l ∧ f s = some (.slice p l.length c) ∧ Sl w (Value.int .i64) p l)
    (k : ByteArray) {l : List Int} {p : Option Addr} {c : Nat} (hM : Mp Value.string okS (fun v => v) w1 b (mset f k (.slice p l.length c))) (ht : w.mapTurned w1 b) (hs : Sl w (Value.int .i64) p l) :
    MapRd b (fun s => if s = k then some l else rd s) w1 := by
  refine ⟨_, hM, fun s => ?_⟩
  by_cases e : s = k
  · exact .inr ⟨l, p, c, by simp [e], by simp [mset, e], hs.turn ht⟩
  · rcases hf s with h | ⟨l', p', c', h1, h2, h3⟩
    · exact .inl ⟨by simp [e, h.1], by simp [mset, e, h.2]⟩
    · exact .inr ⟨l', p', c', by simp [e, h1], by simp [mset, e, h2], h3.turn ht⟩
def rdB (T : Tb) (k : Nat) (s : ByteArray) : Option (List Int) := (baseF T.base s k).map (fun k => [k])
theorem rdB_succ (T : Tb) (k : Nat) (s : ByteArray) : (if s = bget T.base k then some [(k : Int)] else rdB T k s) = rdB T (k + 1) s := by
  unfold rdB; rw [baseF]; split <;> rfl
def rdS (T : Tb) (k : Nat) (s : ByteArray) : Option (List Int) := swF T.swaps s (bOf T s) k
theorem rdS_succ (T : Tb) (k : Nat) (s : ByteArray) : (if s = (sget T.swaps k).wd then some [(sget T.swaps k).i, (sget T.swaps k).j] else rdS T k s) = rdS T (k + 1) s := by
  unfold rdS; rw [swF]

theorem mod_nat {a : Nat} {n : Int} (hn : 1 ≤ n) (h : (a : Int) % n = 0) : a % n.toNat = 0 := by
  obtain ⟨m, rfl⟩ : ∃ m : Nat, n = m := ⟨n.toNat, by omega⟩
  rw [Int.toNat_natCast]; omega
theorem mod_nat_ne {a : Nat} {n : Int} (hn : 1 ≤ n) (h : (a : Int) % n ≠ 0) : a % n.toNat ≠ 0 := by
  obtain ⟨m, rfl⟩ : ∃ m : Nat, n = m := ⟨n.toNat, by omega⟩
  rw [Int.toNat_natCast]; omega
theorem news_sl {w : World} {b off : Nat} {l : List Int} (h : ∀ i (hi : i < l.length), w.cell? ⟨b, off + i, none⟩ = some (.int .i64 l[i])) : ∀ (j : Nat) (u : Value), (l.map (Value.int .i64))[j]? = some u → w.cell? ((⟨b, off, none⟩ : Addr).add j) = some u := by
  intro j u hu
  rw [List.getElem?_map, Option.map_eq_some_iff] at hu
  obtain ⟨x, hx, rfl⟩ := hu
  obtain ⟨hj, rfl⟩ := List.getElem?_eq_some_iff.1 hx
  rw [show ((⟨b, off, none⟩ : Addr).add j) = ⟨b, off + j, none⟩ from by unfold Addr.add; split <;> simp_all]; exact h j hj
theorem MapRd.look_hit {b : Nat} {rd : ByteArray → Option (List Int)} {w : World} (h : MapRd b rd w) (s : ByteArray) (hs : okS s) {l : List Int} (hl : rd s = some l) :
    ∃ p c, (Instr.lookup 74 (.map (some b)) (.string s) true).run Tryd.prog w = .ok (.tuple #[.slice p l.length c, .bool true]) w ∧ Sl w (Value.int .i64) p l := by
  obtain ⟨f, hM, hf⟩ := h
  rcases hf s with h | ⟨l', p, c, h1, h2, h3⟩
  · rw [h.1] at hl; cases hl
  · rw [h1] at hl; cases hl
    refine ⟨p, c, ?_, h3⟩
    have := Mp.look hM keyS Tryd.underlying74 (zeroSlI w) s hs true
    rw [h2] at this; exact this
theorem MapRd.look_miss {b : Nat} {rd : ByteArray → Option (List Int)} {w : World} (h : MapRd b rd w) (s : ByteArray) (hs : okS s) (hl : rd s = none) :
    (Instr.lookup 74 (.map (some b)) (.string s) true).run Tryd.prog w = .ok (.tuple #[.slice none 0 0, .bool false]) w := by
  obtain ⟨f, hM, hf⟩ := h
  rcases hf s with h | ⟨l', p, c, h1, h2, h3⟩
  · have := Mp.look hM keyS Tryd.underlying74 (zeroSlI w) s hs true
    rw [h.2] at this; exact this
  · rw [h1] at hl; cases hl
/-- A slice of numbers, and an error number, in memory of the call's own. -/
def RetSlI (r : List Int) (k : Int) (w : World) (e : Ending) (w' : World) : Prop :=
  ∃ q d, e = .returned (.tuple #[.slice q r.length d, .int .i64 k]) ∧ Sl w' (Value.int .i64) q r ∧ Below w.heap.size w w'
theorem RetSlI.mk {x : List Int × Int} {r' : List Int} {k' : Int} {w w' : World} {q : Option Addr} {d : Nat} (hr : x = (r', k')) (hs : Sl w' (Value.int .i64) q r') (hB : Below w.heap.size w w') :
    RetSlI x.1 x.2 w (.returned (.tuple #[.slice q r'.length d, .int .i64 k'])) w' := by
  subst hr; exact ⟨q, d, rfl, hs, hB⟩
theorem RetSlI.nil {x : List Int × Int} {k' : Int} {w w' : World} {q : Option Addr} {d : Nat} (hr : x = ([], k')) (hB : Below w.heap.size w w') :
    RetSlI x.1 x.2 w (.returned (.tuple #[.slice q 0 d, .int .i64 k'])) w' := by
  subst hr; exact ⟨q, d, rfl, Sl.nil _ _ _, hB⟩
theorem cur_one {a : Nat} {n : Int} (hn : 1 ≤ n) (h : (a : Int) % n = 0) (h0 : a ≠ 0) (h2 : ¬ 2 * n ≤ (a : Int)) : a = n.toNat := by
  have hd := Int.mul_ediv_add_emod (a : Int) n
  rw [h] at hd
  have h1 : 0 ≤ (a : Int) / n := Int.ediv_nonneg (by omega) (by omega)
  by_cases q : (a : Int) / n = 1
  · rw [q] at hd; omega
  · by_cases q0 : (a : Int) / n = 0
    · rw [q0] at hd; omega
    · have : n * 2 ≤ n * ((a : Int) / n) := Int.mul_le_mul_of_nonneg_left (by omega) (by omega)
      omega
def strLen : Value → Nat | .string s => s.size | _ => 0
set_option maxRecDepth 100000 in
set_option maxHeartbeats 4000000 in
theorem lkDecode_ok (T : Tb) (p1 p2 : Option Addr) (c1 c2 : Nat) (s : ByteArray) (w : World) (hin : TbIn w T p1 p2 c1 c2) (hs : s.size ≤ maxLen) (hf : fmd T = true) (hck : wchk T.q s.data.toList = 0) :
    Calls Tryd.prog 11 #[.agg #[.int .i64 T.q, .int .i64 T.n, .slice p1 T.base.length c1, .slice p2 T.swaps.length c2], .string s] w (RetSlI (decA T s).1 (decA T s).2 w) := by
  have hB0 : Below w.heap.size w (w.alloc (.cells #[.int .i64 T.q, .int .i64 T.n, .slice p1 T.base.length c1, .slice p2 T.swaps.length c2] 25)) := (Below.refl _ _).alloc (Nat.le_refl _) _
  have b0 : VRow (w.alloc (.cells #[.int .i64 T.q, .int .i64 T.n, .slice p1 T.base.length c1, .slice p2 T.swaps.length c2] 25)) w.heap.size 25 [.int .i64 T.q, .int .i64 T.n, .slice p1 T.base.length c1, .slice p2 T.swaps.length c2] := VRow.new w _ _
  obtain ⟨i0, hi0, hz0, hz1, hz3⟩ := info_parts infoI
  have HF := hidI hf
  have HC := hidI hck
  have hsz := wchk_long' T.q s hck
  obtain ⟨n1, n2⟩ := fmd_bd hf
  have HIN := hidI hin
  have hl1 := hin.l1
  have hl2 := hin.l2
  clear hf hck
  have hmm := @run_makeMap Tryd.prog
  go_enter Tryd.func11, Tryd.ntmps11
  go_wp2_with fail
  refine (lkFormed_any T p1 p2 c1 c2 _ (hin.below hB0)).mono ?_
  rintro e w1 ⟨rfl, hB1⟩
  rw [HF.out]
  have hBa := hB0.trans (hB1.mono hB0.size)
  have hb1 := b0.below hB1 (by simp)
  clear hB1 b0 hB0
  have f0 := hb1.at 0 rfl
  go_wp2_with fail
  refine (wcheck_any T.q s _ hs).mono ?_
  rintro e w2 ⟨rfl, hD⟩
  rw [HC.out]
  have hBb := hBa.trans (hD.below _)
  have hb2 := hb1.dr hD
  clear f0 hb1
  have f1 := hb2.at 1 rfl; have f2 := hb2.at 2 rfl; have f3 := hb2.at 3 rfl
  have hz2 := hb2.lt
  by_cases hmod : (s.size : Int) % T.n = 0
  · have hmodb : ((s.size : Int) % T.n == 0) = true := by simpa using hmod
    have hmodc : ((s.size : Int) % T.n != 0) = false := by simpa using hmod
    have HMOD := hidI hmod
    have HSM : Hid (s.size % T.n.toNat = 0) := mod_nat n1 hmod
    clear hmod
    go_wp2
    clear hmodb hmodc
    clear f1 f2 f3
    have hbM := (hb2.alloc (.map #[] 0))
    have hBM := hBb.alloc hBb.size (.map #[] 0)
    go_loopw [36] (fun iv wr => ∃ k : Nat, k ≤ T.base.length ∧ iv = .int .i64 k ∧ MapRd w2.heap.size (rdB T k) wr ∧ VRow wr w.heap.size 25 [.int .i64 T.q, .int .i64 T.n, .slice p1 T.base.length c1, .slice p2 T.swaps.length c2] ∧ Below w.heap.size w wr) (fun iv _ => T.base.length - (intOf iv).toNat)
    case atStart => exact ⟨0, by omega, rfl, MapRd.made w2, hbM, hBM⟩
    case round =>
      clear hbM hBM
      obtain ⟨k, hk, rfl, ⟨f, hM, hfr⟩, hb, hB⟩ := hrel
      by_cases hlt : k < T.base.length
      · obtain ⟨b3, o3, rfl, _, hc3⟩ := (HIN.out.base.below hB).get k hlt
        have e0 := hc3 k hlt
        have HG := hidI (bget_eq T.base k hlt)
        have hok : okS T.base[k] := HIN.out.z1 k hlt
        have HFR := hidI hfr
        clear hc3 hfr hin
        go_wp2_with (at_mapUpdate; refine wpList_update_mp rfl _ _ _ 74 rfl 35 keyS Tryd.underlying74 w2.heap.size f rfl (hM.alloc _) T.base[k] rfl hok (.slice (some ⟨wr.heap.size, 0, none⟩) 1 1) rfl ?_; intro w3 hM1 hturn)
        have hMR := MapRd.put (w := wr.alloc (.cells #[.int .i64 k] 3)) (l := [(k : Int)]) (f := f) (rd := rdB T k) (fun s => (HFR.out s).imp id (fun ⟨l, p, c, h1, h2, h3⟩ => ⟨l, p, c, h1, h2, h3.below ((Below.refl _ _).alloc (Nat.le_refl _) _)⟩)) T.base[k] hM1 hturn (Sl.of_vrow (VRow.new wr 3 [.int .i64 k]))
        go_roundw
        case rel => exact ⟨k + 1, by omega, by go_num, hMR.congr (fun s => by rw [← HG.out]; exact rdB_succ T k s), (hb.alloc _).grown hturn.grown (fun e => by have := Option.some.inj e; omega), (hB.alloc hB.size _).grown hturn.grown (Nat.le_trans hB.size (by simp)) (fun j e => by have := Option.some.inj e; omega)⟩
        case measure => simp [intOf]; omega
      · obtain rfl : k = T.base.length := by omega
        have hMR0 : MapRd w2.heap.size (rdS T 0) wr := ⟨f, hM, hfr⟩
        clear hfr hM
        have f3 := hb.at 3 rfl
        go_wp2
        clear hlt hk f3
        go_loopw [49] (fun iv wr => ∃ k : Nat, k ≤ T.swaps.length ∧ iv = .int .i64 k ∧ MapRd w2.heap.size (rdS T k) wr ∧ VRow wr w.heap.size 25 [.int .i64 T.q, .int .i64 T.n, .slice p1 T.base.length c1, .slice p2 T.swaps.length c2] ∧ Below w.heap.size w wr) (fun iv _ => T.swaps.length - (intOf iv).toNat)
        case atStart => exact ⟨0, by omega, rfl, hMR0, hb, hB⟩
        case round =>
          clear hMR0 hb hB
          obtain ⟨k, hk, rfl, ⟨f, hM, hfr⟩, hb, hB⟩ := hrel
          by_cases hlt : k < T.swaps.length
          · obtain ⟨b3, o3, rfl, hb3, e0, e1, e2⟩ := (HIN.out.swaps.below hB).get3 k hlt rfl
            have HG := hidI (sget_eq T.swaps k hlt)
            have hok : okS T.swaps[k].wd := HIN.out.z2 k hlt
            have HFR := hidI hfr
            clear hfr
            go_wp2_with (at_mapUpdate; refine wpList_update_mp rfl _ _ _ 74 rfl 35 keyS Tryd.underlying74 w2.heap.size f rfl ((hM.alloc _).alloc _) T.swaps[k].wd rfl hok (.slice (some ⟨wr.heap.size + 1, 0, none⟩) 2 2) rfl ?_; intro w3 hM1 hturn)
            have hv2 := (VRow.new1 wr (.cells #[.int .i64 T.swaps[k].i, .int .i64 T.swaps[k].j, .string T.swaps[k].wd] 63) 3 [.int .i64 T.swaps[k].i, .int .i64 T.swaps[k].j])
            have hBn : Below wr.heap.size wr ((wr.alloc (.cells #[.int .i64 T.swaps[k].i, .int .i64 T.swaps[k].j, .string T.swaps[k].wd] 63)).alloc (.cells #[.int .i64 T.swaps[k].i, .int .i64 T.swaps[k].j] 3)) := ((Below.refl _ _).alloc (Nat.le_refl _) _).alloc (by simp) _
            have hMR := MapRd.put (w := (wr.alloc (.cells #[.int .i64 T.swaps[k].i, .int .i64 T.swaps[k].j, .string T.swaps[k].wd] 63)).alloc (.cells #[.int .i64 T.swaps[k].i, .int .i64 T.swaps[k].j] 3)) (l := [T.swaps[k].i, T.swaps[k].j]) (f := f) (rd := rdS T k)
              (fun s => (HFR.out s).imp id (fun ⟨l, p, c, h1, h2, h3⟩ => ⟨l, p, c, h1, h2, h3.below hBn⟩)) T.swaps[k].wd hM1 hturn (Sl.of_vrow hv2)
            go_roundw
            case rel => exact ⟨k + 1, by omega, by go_num, hMR.congr (fun s => by rw [← HG.out]; exact rdS_succ T k s), ((hb.alloc _).alloc _).grown hturn.grown (fun e => by have := Option.some.inj e; omega), ((hB.alloc hB.size _).alloc (Nat.le_trans hB.size (by simp)) _).grown hturn.grown (Nat.le_trans hB.size (by simp; omega)) (fun j e => by have := Option.some.inj e; omega)⟩
            case measure => simp [intOf]; omega
          · obtain rfl : k = T.swaps.length := by omega
            have hMR : MapRd w2.heap.size (rdF T) wr := ⟨f, hM, hfr⟩
            have f3 := hb.at 3 rfl
            clear hfr hM
            go_wp2
            clear hlt hk f3
            have hzb : w2.heap.size < wr.heap.size := by obtain ⟨f, hM, _⟩ := hMR; exact hM.lt
            have HMR := hidI hMR
            have HBX := hidI hb
            have HB := hidI hB
            clear hMR hb hB
            obtain ⟨wl, rfl⟩ : ∃ wl : World, wl = wr := ⟨_, rfl⟩
            go_loopw [1, 12] (fun cv ov wr => ∃ (cur : ByteArray) (out : List Int), cv = .string cur ∧ Hid ((decF T cur).map (out ++ ·) = decF T s) ∧ (cur.size : Int) % T.n = 0 ∧ out.length + 2 * cur.size ≤ 2 * s.size ∧ cur.size ≤ 65536 ∧
                wr.ownsRow wl.heap.size 3 1 ov out.length (out.map (Value.int .i64)) ∧ Below wl.heap.size wl wr) (fun cv _ _ => strLen cv)
            case atStart => exact ⟨s, [], rfl, by unfold Hid; simp, HMOD.out, by simp, hsz, World.ownsRow_nil _ _ _ _, Below.refl _ _⟩
            case round =>
              obtain ⟨cur, out, rfl, hd, hcm, hol, hcz, hown, hB⟩ := hrel
              have hMR := HMR.out.below hB
              have hbx := HBX.out.below hB HBX.out.lt
              have f1 := hbx.at 1 rfl
              by_cases h0 : cur.size = 0
              · obtain ⟨d0⟩ := cur
                have : d0 = #[] := Array.eq_empty_of_size_eq_zero h0
                subst this
                have HR : Hid (decA T s = (out, 0)) := decA_ok HF.out HC.out HSM.out (by rw [← hd.out, decF_nil T h0]; simp)
                obtain ⟨q, d, rfl, hsl⟩ := own_sl hown
                go_wp2
                go_ret2
                exact RetSlI.mk HR.out hsl (HB.out.trans (hB.mono HB.out.size))
              · have hne : cur.toList.isEmpty = false := ne_empty (by omega)
                have hn0 : 0 < T.n.toNat := by omega
                have okx : ∀ k : Nat, okS (cur.extract 0 k) := fun k => by unfold okS maxLen; rw [ByteArray.size_extract]; omega
                by_cases h2 : 2 * T.n ≤ (cur.size : Int)
                · have hmin : min (2 * T.n) (cur.size : Int) = 2 * T.n := by omega
                  have ht2 : (2 * T.n).toNat = 2 * T.n.toNat := by omega
                  cases hr1 : rdF T (cur.extract 0 (2 * T.n.toNat)) with
                  | some l1 =>
                    have hl1 := rdF_len hr1
                    obtain ⟨p, c, hlk, hsl⟩ := MapRd.look_hit hMR _ (okx _) hr1
                    rw [← ht2] at hlk
                    have HT2 := hidI ht2
                    clear ht2 hMR
                    obtain ⟨b4, o4, rfl, _, hc4⟩ := hsl.get 0 hl1.1
                    have hnew : ∀ (j : Nat) (u : Value), (l1.map (Value.int .i64))[j]? = some u → wr.cell? ((⟨b4, o4, none⟩ : Addr).add j) = some u := news_sl hc4
                    have HDS := hidI (decF_on hd.out (by rw [HT2.out]; exact decF_step hn0 h0 (by omega) (step_swap (by omega) hr1) : decF T cur = (decF T (cur.extract (2 * T.n).toNat cur.size)).map (l1 ++ ·)))
                    have HSZ := hidI (ext_size cur (2 * T.n).toNat)
                    have hcm2 : ((cur.size : Int) - (2 * T.n)) % T.n = 0 := mod_sub hcm (by simp)
                    have HCM := hidI hcm2
                    clear hc4 hcm2
                    go_wp2_with (at_builtin; refine wpList_append_own _ rfl _ _ 35 rfl wl.heap.size 3 i0 (.int .i64 0) 1 8 Tryd.underlying35 hi0 hz0 hz1 hz3 rfl (by decide) _ _ _ rfl hown ⟨b4, o4, none⟩ l1.length c (l1.map (Value.int .i64)) rfl (by simp) hnew (by simp [Value.oneCell']) (by simp [maxLen]; omega) (by omega) hB.size ?_; intro v' w5 hown' hgrow _)
                    go_roundw
                    case rel =>
                      refine ⟨cur.extract (2 * T.n).toNat cur.size, out ++ l1, rfl, HDS, ?_, ?_, ?_, by rw [List.length_append, List.map_append]; exact hown', hB.grown hgrow hB.size (fun j e => (hown.lt j e).1)⟩
                      · rw [HSZ.out, Int.natCast_sub (by omega), show (((2 * T.n).toNat : Nat) : Int) = 2 * T.n by omega]; exact HCM.out
                      · rw [List.length_append, HSZ.out]; omega
                      · rw [HSZ.out]; omega
                    case measure => simp [strLen]; omega
                  | none =>
                    have hlk := MapRd.look_miss hMR _ (okx _) hr1
                    rw [← ht2] at hlk
                    have HT2 := hidI ht2
                    clear ht2
                    cases hr2 : rdF T (cur.extract 0 T.n.toNat) with
                    | some l1 =>
                      have hl1 := rdF_len hr2
                      obtain ⟨p, c, hlk2, hsl⟩ := MapRd.look_hit hMR _ (okx _) hr2
                      clear hMR
                      obtain ⟨b4, o4, rfl, _, hc4⟩ := hsl.get 0 hl1.1
                      have hnew : ∀ (j : Nat) (u : Value), (l1.map (Value.int .i64))[j]? = some u → wr.cell? ((⟨b4, o4, none⟩ : Addr).add j) = some u := news_sl hc4
                      have HDS := hidI (decF_on hd.out (decF_step hn0 h0 hn0 ((step_base (fun _ => hr1)).trans (by rw [hr2]; rfl))))
                      have HSZ := hidI (ext_size cur (T.n).toNat)
                      have hcm2 : ((cur.size : Int) - (T.n)) % T.n = 0 := mod_sub hcm (by simp)
                      have HCM := hidI hcm2
                      clear hc4 hcm2
                      go_wp2_with (at_builtin; refine wpList_append_own _ rfl _ _ 35 rfl wl.heap.size 3 i0 (.int .i64 0) 1 8 Tryd.underlying35 hi0 hz0 hz1 hz3 rfl (by decide) _ _ _ rfl hown ⟨b4, o4, none⟩ l1.length c (l1.map (Value.int .i64)) rfl (by simp) hnew (by simp [Value.oneCell']) (by simp [maxLen]; omega) (by omega) hB.size ?_; intro v' w5 hown' hgrow _)
                      go_roundw
                      case rel =>
                        refine ⟨cur.extract (T.n).toNat cur.size, out ++ l1, rfl, HDS, ?_, ?_, ?_, by rw [List.length_append, List.map_append]; exact hown', hB.grown hgrow hB.size (fun j e => (hown.lt j e).1)⟩
                        · rw [HSZ.out, Int.natCast_sub (by omega), show (((T.n).toNat : Nat) : Int) = T.n by omega]; exact HCM.out
                        · rw [List.length_append, HSZ.out]; omega
                        · rw [HSZ.out]; omega
                      case measure => simp [strLen]; omega
                    | none =>
                      have hlk2 := MapRd.look_miss hMR _ (okx _) hr2
                      clear hMR
                      have HR := hidI (decA_word HF.out HC.out HSM.out (by rw [← hd.out, decF_fail h0 ((step_base (fun _ => hr1)).trans (by rw [hr2]; rfl))]; rfl))
                      go_wp2
                      go_ret2
                      exact RetSlI.nil HR.out (HB.out.trans (hB.mono HB.out.size))
                · have hmin : min (2 * T.n) (cur.size : Int) = (cur.size : Int) := by omega
                  have hcn : cur.size = T.n.toNat := cur_one n1 hcm h0 h2
                  have hcu : cur.extract 0 T.n.toNat = cur := by rw [← hcn]; simp
                  have HCN := hidI hcn
                  have hle : T.n ≤ (cur.size : Int) := by omega
                  have HCU := hidI hcu
                  have okc : okS cur := by unfold okS maxLen; omega
                  cases hr1 : rdF T cur with
                  | some l1 =>
                    have hl1 := rdF_len hr1
                    obtain ⟨p, c, hlk, hsl⟩ := MapRd.look_hit hMR _ okc hr1
                    clear hMR hcn hcu
                    obtain ⟨b4, o4, rfl, _, hc4⟩ := hsl.get 0 hl1.1
                    have hnew : ∀ (j : Nat) (u : Value), (l1.map (Value.int .i64))[j]? = some u → wr.cell? ((⟨b4, o4, none⟩ : Addr).add j) = some u := news_sl hc4
                    have HDS := hidI (decF_on hd.out (decF_step hn0 h0 hn0 ((step_base (fun h => absurd h (by omega))).trans (by rw [HCU.out, hr1]; rfl))))
                    rw [← HCN.out] at HDS
                    have hxe : cur.extract cur.size cur.size = ByteArray.empty := by simp
                    rw [hxe] at HDS
                    clear hxe
                    clear hc4
                    go_wp2_with (at_builtin; refine wpList_append_own _ rfl _ _ 35 rfl wl.heap.size 3 i0 (.int .i64 0) 1 8 Tryd.underlying35 hi0 hz0 hz1 hz3 rfl (by decide) _ _ _ rfl hown ⟨b4, o4, none⟩ l1.length c (l1.map (Value.int .i64)) rfl (by simp) hnew (by simp [Value.oneCell']) (by simp [maxLen]; omega) (by omega) hB.size ?_; intro v' w5 hown' hgrow _)
                    go_roundw
                    case rel =>
                      refine ⟨ByteArray.empty, out ++ l1, rfl, HDS, ?_, ?_, ?_, by rw [List.length_append, List.map_append]; exact hown', hB.grown hgrow hB.size (fun j e => (hown.lt j e).1)⟩
                      · simp
                      · rw [List.length_append, ByteArray.size_empty]; omega
                      · rw [ByteArray.size_empty]; omega
                    case measure => simp [strLen]; omega
                  | none =>
                    have hlk := MapRd.look_miss hMR _ okc hr1
                    have hlk2 := hlk
                    rw [← hcu] at hlk2
                    clear hMR hcn hcu
                    have HR := hidI (decA_word HF.out HC.out HSM.out (by rw [← hd.out, decF_fail h0 ((step_base (fun h => absurd h (by omega))).trans (by rw [HCU.out, hr1]; rfl))]; rfl))
                    go_wp2
                    go_ret2
                    exact RetSlI.nil HR.out (HB.out.trans (hB.mono HB.out.size))
  · have HR := hidI (decA_mod HF.out HC.out (mod_nat_ne n1 hmod))
    have hmodb : ((s.size : Int) % T.n == 0) = false := by simpa using hmod
    have hmodc : ((s.size : Int) % T.n != 0) = true := by simpa using hmod
    go_wp2
    go_ret2
    exact RetSlI.nil HR.out hBb
end Go.Proofs.YtjponanfpdmeoaaDoor
namespace Go.Proofs.YtjponanfpdmeoaaDoor
open Go.RowKit

theorem own_grow (w : World) (B cap : Nat) (e : TypeId) (cur : Array Value) (hB : B ≤ w.heap.size) (hm : cap ≤ maxLen) (hc : cur.size = cap) :
    (w.alloc (.cells cur e)).ownsRow B e 1 (.slice (some ⟨w.heap.size, 0, none⟩) 0 cap) 0 [] :=
  ⟨by simp, .inr ⟨w.heap.size, _, _, rfl, hB, heap_alloc_new w _, Nat.zero_le _, hm, by simp [hc], by simp⟩⟩
def RetOwn0 (w : World) (e : Ending) (w' : World) : Prop := ∃ v, e = .returned v ∧ w'.ownsRow w.heap.size 3 1 v 0 [] ∧ Below w.heap.size w w'
/-- Two lists, one after the other. -/
def cat2 (a b : List Int) (k : Nat) : List Int := if k = 0 then [] else if k = 1 then a else a ++ b
theorem one_ints (l : List Int) : ∀ u ∈ l.map (Value.int .i64), u.oneCell' = true := by
  intro u hu; obtain ⟨x, _, rfl⟩ := List.mem_map.1 hu; rfl
/-- Appending a list that lies in memory, nil or not. -/
theorem run_append_sl {P : Program} (w : World) (base : Nat) (t ty e : TypeId) (i : TypeInfo) (bytes : Nat) (ht : P.underlying t = some (.slice e)) (hi : P.info? e = some i) (hz : i.zero = some (.int .i64 0)) (hs : i.size = 1) (hby : i.bytes = bytes)
    (v : Value) (xs : List Int) (hown : w.ownsRow base e 1 v xs.length (xs.map (Value.int .i64))) (p : Option Addr) (c : Nat) (l : List Int) (hl : Sl w (Value.int .i64) p l) (h63 : xs.length + l.length ≤ maxLen) (hb : (xs.length + l.length) * bytes ≤ 140737488355328) (hbase : base ≤ w.heap.size) :
    ∃ v' w', (Builtin.append_ #[t, t] ty #[v, .slice p l.length c]).run P w = .ok v' w' ∧ w'.ownsRow base e 1 v' (xs ++ l).length ((xs ++ l).map (Value.int .i64)) ∧ w.grownBy w' v.ownBlock := by
  cases p with
  | none =>
    rcases hl with h0 | ⟨_, _, hp, _⟩
    · subst h0
      refine ⟨v, w, ?_, by simpa using hown, World.grownBy.refl w _⟩
      rcases hown.2 with ⟨rfl, h0⟩ | ⟨g, cap, cur, rfl, _, _, hnc, _⟩
      · simp [Builtin.append_, run_underlying ht, sizeOf, typeInfo, hi, Builtin.lenOf, Builtin.firstCells]
      · simp [Builtin.append_, run_underlying ht, sizeOf, typeInfo, hi, Builtin.lenOf, Builtin.firstCells, hnc, storeCells]
    · cases hp
  | some ad =>
    have hn : ∀ j u, (l.map (Value.int .i64))[j]? = some u → w.cell? (ad.add j) = some u := by
      rcases hl with h0 | ⟨b, off, hp, _, hc⟩
      · subst h0; simp
      · cases hp; exact news_sl hc
    obtain ⟨v', w', h1, h2, h3, _, _⟩ := run_append_own_at w base t ty e i (.int .i64 0) 1 bytes ht hi hz hs hby rfl (by decide) v xs.length _ hown ad l.length c (l.map (Value.int .i64)) (by simp) hn (one_ints l) h63 hb hbase
    exact ⟨v', w', h1, by rw [List.length_append, List.map_append]; exact h2, h3⟩

end Go.Proofs.YtjponanfpdmeoaaDoor
namespace Go.Proofs.YtjponanfpdmeoaaDoor
open Go.RowKit

set_option maxRecDepth 100000 in
set_option maxHeartbeats 1000000 in
theorem lkDecode_any (T : Tb) (p1 p2 : Option Addr) (c1 c2 : Nat) (s : ByteArray) (w : World) (hin : TbIn w T p1 p2 c1 c2) (hs : s.size ≤ maxLen) :
    Calls Tryd.prog 11 #[.agg #[.int .i64 T.q, .int .i64 T.n, .slice p1 T.base.length c1, .slice p2 T.swaps.length c2], .string s] w (RetSlI (decA T s).1 (decA T s).2 w) := by
  have hB0 : Below w.heap.size w (w.alloc (.cells #[.int .i64 T.q, .int .i64 T.n, .slice p1 T.base.length c1, .slice p2 T.swaps.length c2] 25)) := (Below.refl _ _).alloc (Nat.le_refl _) _
  have b0 : VRow (w.alloc (.cells #[.int .i64 T.q, .int .i64 T.n, .slice p1 T.base.length c1, .slice p2 T.swaps.length c2] 25)) w.heap.size 25 [.int .i64 T.q, .int .i64 T.n, .slice p1 T.base.length c1, .slice p2 T.swaps.length c2] := VRow.new w _ _
  cases hf : fmd T
  · have HF := hidI hf
    have HR := hidI (decA_bad s hf)
    clear hf
    go_enter Tryd.func11, Tryd.ntmps11
    go_wp2_with fail
    refine (lkFormed_any T p1 p2 c1 c2 _ (hin.below hB0)).mono ?_
    rintro e w1 ⟨rfl, hB1⟩
    rw [HF.out]
    go_wp2
    go_ret2
    exact RetSlI.nil HR.out (hB0.trans (hB1.mono hB0.size))
  by_cases hck : wchk T.q s.data.toList = 0
  · exact lkDecode_ok T p1 p2 c1 c2 s w hin hs hf hck
  · have HF := hidI hf
    have HR := hidI (decA_chk hf hck)
    have hck' : (wchk T.q s.data.toList == 0) = false := by simpa using hck
    clear hf hck
    go_enter Tryd.func11, Tryd.ntmps11
    go_wp2_with fail
    refine (lkFormed_any T p1 p2 c1 c2 _ (hin.below hB0)).mono ?_
    rintro e w1 ⟨rfl, hB1⟩
    rw [HF.out]
    have hBa := hB0.trans (hB1.mono hB0.size)
    have f0 := (b0.below hB1 (by simp)).at 0 rfl
    go_wp2_with fail
    refine (wcheck_any T.q s _ hs).mono ?_
    rintro e w2 ⟨rfl, hD⟩
    go_wp2
    go_ret2
    exact RetSlI.nil HR.out (hBa.trans (hD.below _))

set_option maxHeartbeats 400000 in
theorem r12Same_any (l m : List Int) (p q : Option Addr) (c d : Nat) (w : World) (hp : Sl w (Value.int .i64) p l) (hq : Sl w (Value.int .i64) q m) (hl : l.length ≤ 9223372036854775807) (hm : m.length ≤ 9223372036854775807) :
    Calls Tryd.prog 34 #[.slice p l.length c, .slice q m.length d] w fun e w' => e = .returned (.bool (decide (l = m))) ∧ Dr w w' := by
  by_cases hlen : l.length = m.length
  · have hlen' : ((l.length : Int) == (m.length : Int)) = true := by simp [hlen]
    have HT : Hid (l.length = m.length) := hlen
    clear hlen
    go_enter Tryd.func34, Tryd.ntmps34
    go_wp2
    go_loopw [5] (fun i wr => ∃ k : Nat, k ≤ l.length ∧ i = .int .i64 k ∧ Hid (l.take k = m.take k) ∧ Dr w wr) (fun i _ => l.length - (intOf i).toNat)
    case atStart => exact ⟨0, by omega, rfl, by simp [Hid], Dr.refl _⟩
    case round =>
      obtain ⟨k, hk, rfl, hj, hD⟩ := hrel
      by_cases hlt : k < l.length
      · have hlt2 : k < m.length := by have := HT.out; omega
        obtain ⟨b1, o1, rfl, hb1, hc1⟩ := (hp.dr hD).get k hlt
        obtain ⟨b2, o2, rfl, hb2, hc2⟩ := (hq.dr hD).get k hlt2
        have e1 := hc1 k hlt
        have e2 := hc2 k hlt2
        have h2' : (k : Int) < (m.length : Int) := by omega
        clear hc1 hc2
        by_cases he : l[k] = m[k]
        · have heb : (l[k] == m[k]) = true := by simpa using he
          have HE : Hid (l.take (k + 1) = m.take (k + 1)) := by unfold Hid; rw [List.take_succ_eq_append_getElem hlt, List.take_succ_eq_append_getElem hlt2, hj.out, he]
          clear he
          go_wp2_with fail
          (refine wp_region_quiet_lit (by kernel_rfl) (by kernel_rfl) ?_; (repeat (first | go_big_quiet_step (fail) | quiet_step (fail))); refine wpQuiet_nil ?_; intro _ hwq; obtain ⟨nq, hwq2⟩ := hwq; subst hwq2)
          go_wp2
          go_roundw
          case rel => exact ⟨k + 1, by omega, by go_num, HE, hD.one _⟩
          case measure => simp [intOf]; omega
        · have heb : (l[k] == m[k]) = false := by simpa using he
          have HE : Hid (decide (l = m) = false) := decide_eq_false (fun e => by subst e; exact he rfl)
          go_wp2_with fail
          (refine wp_region_quiet_lit (by kernel_rfl) (by kernel_rfl) ?_; (repeat (first | go_big_quiet_step (fail) | quiet_step (fail))); refine wpQuiet_nil ?_; intro _ hwq; obtain ⟨nq, hwq2⟩ := hwq; subst hwq2)
          go_wp2
          go_ret
          exact ⟨ret_bool HE.out.symm, hD.one _⟩
      · obtain rfl : k = l.length := by omega
        have HE : Hid (decide (l = m) = true) := by
          have h1 := hj.out
          rw [List.take_length, HT.out, List.take_length] at h1
          simp [Hid, h1]
        go_wp2
        go_ret
        exact ⟨ret_bool HE.out.symm, hD⟩
  · have hlen' : ((l.length : Int) == (m.length : Int)) = false := by simpa using fun h : (l.length : Int) = m.length => hlen (by omega)
    have HE : Hid (decide (l = m) = false) := by simp [Hid]; rintro rfl; exact hlen rfl
    clear hlen
    go_enter Tryd.func34, Tryd.ntmps34
    go_wp2
    go_ret
    exact ⟨ret_bool HE.out.symm, Dr.refl _⟩
def exT : Tb := ⟨2, 3, [⟨#[49, 48, 49]⟩, ⟨#[49, 48, 48]⟩, ⟨#[48, 48, 49]⟩, ⟨#[48, 49, 48]⟩], [⟨0, 0, ⟨#[49, 48, 49, 48, 48, 48]⟩⟩, ⟨0, 1, ⟨#[49, 48, 48, 48, 48, 48]⟩⟩, ⟨2, 0, ⟨#[48, 48, 49, 48, 48, 48]⟩⟩, ⟨2, 1, ⟨#[48, 49, 48, 48, 48, 48]⟩⟩]⟩
theorem flat_get {α β : Type} {enc : α → List β} {m : Nat} (hm : ∀ x, (enc x).length = m) : ∀ (l : List α) (i : Nat) (hi : i < l.length) (j : Nat), j < m → (l.flatMap enc)[i * m + j]? = (enc l[i])[j]?
  | [], i, hi, _, _ => by simp at hi
  | x :: l, 0, _, j, hj => by
    rw [List.flatMap_cons, Nat.zero_mul, Nat.zero_add, List.getElem?_append_left (by rw [hm]; exact hj)]; rfl
  | x :: l, i + 1, hi, j, hj => by
    rw [List.flatMap_cons, List.getElem?_append_right (by rw [hm, Nat.succ_mul]; omega), hm, show (i + 1) * m + j - m = i * m + j by rw [Nat.succ_mul]; omega]
    exact flat_get hm l i (by simpa using hi) j hj
theorem Sg.of_vrow {α : Type} {w : World} {B t m : Nat} {enc : α → List Value} {l : List α} (hm : ∀ x, (enc x).length = m) (h : VRow w B t (l.flatMap enc)) : Sg m w enc (some ⟨B, 0, none⟩) l :=
  .inr ⟨B, 0, rfl, h.lt, fun i hi j hj => by rw [Nat.zero_add, h.cell, flat_get hm l i hi j hj]⟩
/-- The table of the chapter, in memory of the call's own. -/
def RetTb (w : World) (e : Ending) (w' : World) : Prop := ∃ p1 p2, e = .returned (.agg #[.int .i64 2, .int .i64 3, .slice p1 4 4, .slice p2 4 4]) ∧ TbIn w' exT p1 p2 4 4 ∧ Below w.heap.size w w'
set_option maxHeartbeats 1000000 in
theorem lkTable_any (w : World) : Calls Tryd.prog 23 #[] w (RetTb w) := by
  go_enter Tryd.func23, Tryd.ntmps23
  go_wp2
  refine bodyPost_ret (v := .agg #[.int .i64 2, .int .i64 3, .slice (some ⟨w.heap.size + 1, 0, none⟩) 4 4, .slice (some ⟨w.heap.size + 1 + 1, 0, none⟩) 4 4]) (by simp [results, Tryd.results23, go_sem]) rfl ?_
  have h1 := (VRow.new1 w (.cells #[.int .i64 2, .int .i64 3, .slice (some ⟨w.heap.size + 1, 0, none⟩) 4 4, .slice (some ⟨w.heap.size + 1 + 1, 0, none⟩) 4 4] 25) 9 (exT.base.map Value.string)).alloc (.cells (exT.swaps.flatMap swE).toArray 63)
  have h2 := VRow.new2 w (.cells #[.int .i64 2, .int .i64 3, .slice (some ⟨w.heap.size + 1, 0, none⟩) 4 4, .slice (some ⟨w.heap.size + 1 + 1, 0, none⟩) 4 4] 25) (.cells (exT.base.map Value.string).toArray 9) 63 (exT.swaps.flatMap swE)
  exact ⟨_, _, rfl, ⟨Sl.of_vrow h1, Sg.of_vrow (m := 3) (fun _ => rfl) h2, by decide, by decide, by decide, by decide +kernel, by decide +kernel⟩, (((Below.refl _ _).alloc (Nat.le_refl _) _).alloc (by simp) _).alloc (by simp; omega) _⟩
theorem exT_fmd : fmd exT = true := by decide +kernel
theorem ex1 : encA exT [0, 0, 1] = (⟨#[49, 48, 49, 48, 48, 48, 49, 48, 48]⟩, 0) := by decide +kernel
theorem ex2 : encA exT [0, 1, 0] = (⟨#[49, 48, 48, 48, 48, 48, 49, 48, 49]⟩, 0) := by decide +kernel
theorem ex3 : encA exT [1, 0, 3] = (⟨#[49, 48, 48, 49, 48, 49, 48, 49, 48]⟩, 0) := by decide +kernel
theorem ex4 : decA exT ⟨#[49, 48, 49, 48, 49, 48]⟩ = ([0, 3], 0) := by decide +kernel
theorem ne_of_get {α : Type} {l m : List α} (k : Nat) (h1 : k < l.length) (h2 : k < m.length) (h : l[k] ≠ m[k]) : l ≠ m := by
  intro e; subst e; exact h rfl

set_option maxHeartbeats 400000 in
theorem equalI_any (l m : List Int) (p q : Option Addr) (c d : Nat) (w : World) (hp : Sl w (Value.int .i64) p l) (hq : Sl w (Value.int .i64) q m) (hl : l.length ≤ 9223372036854775807) (hm : m.length ≤ 9223372036854775807) :
    Calls Tryd.prog 13 #[.slice p l.length c, .slice q m.length d] w fun e w' => e = .returned (.bool (decide (l = m))) ∧ Dr w w' := by
  by_cases hlen : l.length = m.length
  · have hlen' : ((l.length : Int) == (m.length : Int)) = true := by simp [hlen]
    have HT : Hid (l.length = m.length) := hlen
    clear hlen
    go_enter Tryd.func13, Tryd.ntmps13
    go_wp2
    go_loopw [13] (fun i wr => ∃ k : Nat, k ≤ l.length ∧ i = .int .i64 k ∧ Hid (l.take k = m.take k) ∧ Dr w wr) (fun i _ => l.length - (intOf i).toNat)
    case atStart => exact ⟨0, by omega, rfl, by simp [Hid], Dr.refl _⟩
    case round =>
      obtain ⟨k, hk, rfl, hj, hD⟩ := hrel
      by_cases hlt : k < l.length
      · have hlt2 : k < m.length := by have := HT.out; omega
        obtain ⟨b1, o1, rfl, hb1, hc1⟩ := (hp.dr hD).get k hlt
        obtain ⟨b2, o2, rfl, hb2, hc2⟩ := (hq.dr hD).get k hlt2
        have e1 := hc1 k hlt
        have e2 := hc2 k hlt2
        clear hc1 hc2
        have h2' : (k : Int) < (m.length : Int) := by omega
        by_cases he : l[k] = m[k]
        · have heb : (l[k] == m[k]) = true := by simpa using he
          have HE : Hid (l.take (k + 1) = m.take (k + 1)) := by unfold Hid; rw [List.take_succ_eq_append_getElem hlt, List.take_succ_eq_append_getElem hlt2, hj.out, he]
          clear he
          go_wp2_with fail
          (refine wp_region_quiet_lit (by kernel_rfl) (by kernel_rfl) ?_; (repeat (first | go_big_quiet_step (fail) | quiet_step (fail))); refine wpQuiet_nil ?_; intro _ hwq; obtain ⟨nq, hwq2⟩ := hwq; subst hwq2)
          go_wp2
          go_roundw
          case rel => exact ⟨k + 1, by omega, by go_num, HE, hD.one _⟩
          case measure => simp [intOf]; omega
        · have heb : (l[k] == m[k]) = false := by simpa using he
          have HE : Hid (decide (l = m) = false) := decide_eq_false (fun e => by subst e; exact he rfl)
          go_wp2_with fail
          (refine wp_region_quiet_lit (by kernel_rfl) (by kernel_rfl) ?_; (repeat (first | go_big_quiet_step (fail) | quiet_step (fail))); refine wpQuiet_nil ?_; intro _ hwq; obtain ⟨nq, hwq2⟩ := hwq; subst hwq2)
          go_wp2
          go_ret
          exact ⟨ret_bool HE.out.symm, hD.one _⟩
      · obtain rfl : k = l.length := by omega
        have HE : Hid (decide (l = m) = true) := by
          have h1 := hj.out
          rw [List.take_length, HT.out, List.take_length] at h1
          simp [Hid, h1]
        go_wp2
        go_ret
        exact ⟨ret_bool HE.out.symm, hD⟩
  · have hlen' : ((l.length : Int) == (m.length : Int)) = false := by simpa using fun h : (l.length : Int) = m.length => hlen (by omega)
    have HE : Hid (decide (l = m) = false) := by simp [Hid]; rintro rfl; exact hlen rfl
    clear hlen
    go_enter Tryd.func13, Tryd.ntmps13
    go_wp2
    go_ret
    exact ⟨ret_bool HE.out.symm, Dr.refl _⟩


theorem encEx (p1 p2 pl : Option Addr) (a b c : Int) (r : ByteArray) (w : World) (hin : TbIn w exT p1 p2 4 4) (hl : Sl w (Value.int .i64) pl [a, b, c]) (h : encA exT [a, b, c] = (r, 0)) :
    Calls Tryd.prog 10 #[.agg #[.int .i64 2, .int .i64 3, .slice p1 4 4, .slice p2 4 4], .slice pl 3 3] w fun e w' => e = .returned (.tuple #[.string r, .int .i64 0]) ∧ Below w.heap.size w w' := by
  have := lkEncode_any exT p1 p2 4 4 [a, b, c] pl 3 w hin hl (by simp) (by simp)
  rw [h] at this
  exact this
theorem decEx (p1 p2 : Option Addr) (s : ByteArray) (l : List Int) (w : World) (hin : TbIn w exT p1 p2 4 4) (hs : s.size ≤ maxLen) (h : decA exT s = (l, 0)) :
    Calls Tryd.prog 11 #[.agg #[.int .i64 2, .int .i64 3, .slice p1 4 4, .slice p2 4 4], .string s] w (RetSlI l 0 w) := by
  have := lkDecode_any exT p1 p2 4 4 s w hin hs
  rw [h] at this
  exact this
theorem eqEx (q1 q2 : Option Addr) (d : Nat) (w : World) (h1 : Sl w (Value.int .i64) q1 [0, 3]) (h2 : Sl w (Value.int .i64) q2 [0, 3]) :
    Calls Tryd.prog 13 #[.slice q1 2 d, .slice q2 2 2] w fun e w' => e = .returned (.bool true) ∧ Dr w w' := by
  have := equalI_any [0, 3] [0, 3] q1 q2 d 2 w h1 h2 (by simp) (by simp)
  rw [show decide (([0, 3] : List Int) = [0, 3]) = true from rfl] at this
  exact this

set_option maxRecDepth 100000 in
set_option maxHeartbeats 600000 in
theorem lkAwake_any (w : World) : Calls Tryd.prog 8 #[] w fun e w' => e = .returned (.bool true) ∧ Below w.heap.size w w' := by
  have hmx : ∀ w : World, (Builtin.max_ #[32, 32, 32, 32] 32 #[.int .i64 0, .int .i64 0, .int .i64 0, .int .i64 0]).run Tryd.prog w = .ok (.int .i64 0) w := fun _ => by kernel_rfl
  go_enter Tryd.func8, Tryd.ntmps8
  go_wp2_with fail
  refine (lkTable_any _).mono ?_
  rintro e w1 ⟨p1, p2, rfl, hin, hB1⟩
  have hb1 : VRow (w1.alloc (.cells #[.int .i64 2, .int .i64 3, .slice p1 4 4, .slice p2 4 4] 25)) w1.heap.size 25 [.int .i64 2, .int .i64 3, .slice p1 4 4, .slice p2 4 4] := VRow.new w1 _ _
  have hW1 : Below w.heap.size w (w1.alloc (.cells #[.int .i64 2, .int .i64 3, .slice p1 4 4, .slice p2 4 4] 25)) := hB1.alloc hB1.size _
  have hin1 := hin.below ((Below.refl w1.heap.size w1).alloc (Nat.le_refl _) (.cells #[.int .i64 2, .int .i64 3, .slice p1 4 4, .slice p2 4 4] 25))
  go_wp2_with fail
  have s1 := Sl.of_vrow (enc := Value.int .i64) (l := [0, 0, 1]) (VRow.new1 w1 (.cells #[.int .i64 2, .int .i64 3, .slice p1 4 4, .slice p2 4 4] 25) 3 ([0, 0, 1].map (Value.int .i64)))
  have hA1 : Below (w1.alloc (.cells #[.int .i64 2, .int .i64 3, .slice p1 4 4, .slice p2 4 4] 25)).heap.size (w1.alloc (.cells #[.int .i64 2, .int .i64 3, .slice p1 4 4, .slice p2 4 4] 25)) ((w1.alloc (.cells #[.int .i64 2, .int .i64 3, .slice p1 4 4, .slice p2 4 4] 25)).alloc (.cells ([0, 0, 1].map (Value.int .i64)).toArray 3)) := (Below.refl _ _).alloc (Nat.le_refl _) _
  refine (encEx p1 p2 _ 0 0 1 _ _ (hin1.below hA1) s1 ex1).mono ?_
  rintro e v1 ⟨rfl, hE1⟩
  have hT1 := hA1.trans (hE1.mono hA1.size)
  have hin2 := hin1.below hT1
  have hb2 := hb1.below hT1 hb1.lt
  have g2 := hb2.at 0 rfl; have m2 := hb2.at 1 rfl; have n2 := hb2.at 2 rfl; have o2 := hb2.at 3 rfl
  have hW2 := hW1.trans (hT1.mono hW1.size)
  clear hE1 hA1 s1
  go_wp2_with fail
  have s2 := Sl.of_vrow (enc := Value.int .i64) (l := [0, 1, 0]) (VRow.new v1 3 ([0, 1, 0].map (Value.int .i64)))
  have hA2 : Below v1.heap.size v1 (v1.alloc (.cells ([0, 1, 0].map (Value.int .i64)).toArray 3)) := (Below.refl _ _).alloc (Nat.le_refl _) _
  refine (encEx p1 p2 _ 0 1 0 _ _ (hin2.below hA2) s2 ex2).mono ?_
  rintro e v2 ⟨rfl, hE2⟩
  have hT2 := hA2.trans (hE2.mono hA2.size)
  have hin3 := hin2.below hT2
  have hb3 := hb2.below hT2 hb2.lt
  have g3 := hb3.at 0 rfl; have m3 := hb3.at 1 rfl; have n3 := hb3.at 2 rfl; have o3 := hb3.at 3 rfl
  have hW3 := hW2.trans (hT2.mono hW2.size)
  clear hE2 hA2 s2
  clear g2 m2 n2 o2
  go_wp2_with fail
  have s3 := Sl.of_vrow (enc := Value.int .i64) (l := [1, 0, 3]) (VRow.new v2 3 ([1, 0, 3].map (Value.int .i64)))
  have hA3 : Below v2.heap.size v2 (v2.alloc (.cells ([1, 0, 3].map (Value.int .i64)).toArray 3)) := (Below.refl _ _).alloc (Nat.le_refl _) _
  refine (encEx p1 p2 _ 1 0 3 _ _ (hin3.below hA3) s3 ex3).mono ?_
  rintro e v3 ⟨rfl, hE3⟩
  have hT3 := hA3.trans (hE3.mono hA3.size)
  have hin4 := hin3.below hT3
  have hb4 := hb3.below hT3 hb3.lt
  have g4 := hb4.at 0 rfl; have m4 := hb4.at 1 rfl; have n4 := hb4.at 2 rfl; have o4 := hb4.at 3 rfl
  have hW4 := hW3.trans (hT3.mono hW3.size)
  clear hE3 hA3 s3
  clear g3 m3 n3 o3
  go_wp2_with fail
  refine (decEx p1 p2 ⟨#[49, 48, 49, 48, 49, 48]⟩ [0, 3] _ hin4 (by decide +kernel) ex4).mono ?_
  rintro e v4 ⟨q, d, rfl, hs4, hE4⟩
  have hW5 := hW4.trans (hE4.mono hW4.size)
  have s5 := Sl.of_vrow (enc := Value.int .i64) (l := [0, 3]) (VRow.new v4 3 (([0, 3] : List Int).map (Value.int .i64)))
  clear g4 m4 n4 o4
  go_wp2_with fail
  refine (eqEx q _ d _ (hs4.below ((Below.refl _ _).alloc (Nat.le_refl _) _)) s5).mono ?_
  rintro e v5 ⟨rfl, hD5⟩
  go_wp2
  go_ret
  exact ⟨rfl, (hW5.alloc hW5.size _).trans (hD5.below _)⟩
end Go.Proofs.YtjponanfpdmeoaaDoor
namespace Go.Proofs.YtjponanfpdmeoaaDoor
open Go.RowKit

theorem lkEncode_r (T : Tb) (p1 p2 : Option Addr) (c1 c2 : Nat) (l : List Int) (pl : Option Addr) (cl : Nat) (w : World) (hin : TbIn w T p1 p2 c1 c2) (hl : Sl w (Value.int .i64) pl l) (hln : l.length ≤ 1000) (hcl : l.length ≤ cl) (r : ByteArray) (k : Int) (hr : encA T l = (r, k)) :
    Calls Tryd.prog 10 #[.agg #[.int .i64 T.q, .int .i64 T.n, .slice p1 T.base.length c1, .slice p2 T.swaps.length c2], .slice pl l.length cl] w fun e w' => e = .returned (.tuple #[.string r, .int .i64 k]) ∧ Below w.heap.size w w' := by
  have := lkEncode_any T p1 p2 c1 c2 l pl cl w hin hl hln hcl
  rw [hr] at this
  exact this
theorem lkEncode_n (T : Tb) (p1 p2 : Option Addr) (c1 c2 : Nat) (l : List Int) (pl : Option Addr) (cl : Nat) (w : World) (hin : TbIn w T p1 p2 c1 c2) (hl : Sl w (Value.int .i64) pl l) (hln : l.length ≤ 1000) (hcl : l.length ≤ cl) (r : ByteArray) (k : Int) (hr : encA T l = (r, k)) (n : Nat) (hn : l.length = n) :
    Calls Tryd.prog 10 #[.agg #[.int .i64 T.q, .int .i64 T.n, .slice p1 T.base.length c1, .slice p2 T.swaps.length c2], .slice pl n cl] w fun e w' => e = .returned (.tuple #[.string r, .int .i64 k]) ∧ Below w.heap.size w w' := by
  subst hn
  exact lkEncode_r T p1 p2 c1 c2 l pl cl w hin hl hln hcl r k hr
/-- What is written for two lists and for both of them together. -/
def Enc3 (T : Tb) (a b : List Int) (u v x : ByteArray) (k : Int) : Prop := encA T a = (u, k) ∧ encA T b = (v, k) ∧ encA T (a ++ b) = (x, k)
theorem enc3_bad {T : Tb} (a b : List Int) (h : fmd T = false) : Enc3 T a b ⟨#[]⟩ ⟨#[]⟩ ⟨#[]⟩ 1 := ⟨encA_bad a h, encA_bad b h, encA_bad _ h⟩
theorem enc3_ok {T : Tb} {a b : List Int} (h : fmd T = true) (ha : a.any (outB T.base.length) = false) (hb : b.any (outB T.base.length) = false) : Enc3 T a b (encW T a) (encW T b) (encW T (a ++ b)) 0 :=
  ⟨encA_ok h ha, encA_ok h hb, encA_ok h (any_app_f ha hb)⟩
/-- Two lists of numbers in two slots. -/
def Two (w : World) (A B : List Int) (v u : Value) (wx : World) : Prop :=
  ∃ pa ca pb cb, v = .slice pa A.length ca ∧ u = .slice pb B.length cb ∧ Sl wx (Value.int .i64) pa A ∧ Sl wx (Value.int .i64) pb B ∧ A.length ≤ ca ∧ B.length ≤ cb ∧ Below w.heap.size w wx
theorem box_below {w wx : World} {T : Tb} {p1 p2 : Option Addr} {c1 c2 : Nat} (h : Below (w.alloc (.cells #[.int .i64 T.q, .int .i64 T.n, .slice p1 T.base.length c1, .slice p2 T.swaps.length c2] 25)).heap.size (w.alloc (.cells #[.int .i64 T.q, .int .i64 T.n, .slice p1 T.base.length c1, .slice p2 T.swaps.length c2] 25)) wx) :
    VRow wx w.heap.size 25 [.int .i64 T.q, .int .i64 T.n, .slice p1 T.base.length c1, .slice p2 T.swaps.length c2] :=
  (VRow.new w _ _).below h (by simp)

end Go.Proofs.YtjponanfpdmeoaaDoor
namespace Go.Proofs.YtjponanfpdmeoaaDoor
open Go.ChangeShapes Go.WideShapes Go.ChangeAt Go.RowKit

theorem own : ownKnob Tryd.prog.godebug = none := by kernel_rfl
theorem laidOut : laidOutB Tryd.prog = true := by kernel_rfl

theorem trodAll_below {H : Type} {enc : TypeId × Value → H} {W W' : World} (hb : Below W.heap.size W W') :
    ∀ (ts : List TypeId) (vs : List Value) (ds : List (DataW H)) (p : List MemPlace), (∀ t ∈ ts, Tryd.prog.readableRec t = true ∧ t < Tryd.prog.types.size) →
      DataW.TrodAll enc Tryd.prog W 0 (fun _ => true) true ts vs ds p → (∀ x ∈ p, x.block < W.heap.size) →
      DataW.TrodAll enc Tryd.prog W' 0 (fun b => decide (b < W.heap.size)) true ts vs ds p
  | [], vs, ds, p, _, h, _ => by
    obtain ⟨rfl, rfl, rfl⟩ := trodAll_nil h
    exact trodAll_mk0
  | t :: ts, vs, ds, p, ht, h, hlt => by
    obtain ⟨v, vs', d, ds', p', q', rfl, rfl, rfl, h0, h1⟩ := trodAll_cons h
    exact trodAll_cons_mk (Below.trod laidOut (ht t List.mem_cons_self).1 (ht t List.mem_cons_self).2 h0 hb (fun x hx => hlt x (List.mem_append_left _ hx)))
      (trodAll_below hb ts vs' ds' q' (fun t h => ht t (List.mem_cons_of_mem _ h)) h1 (fun x hx => hlt x (List.mem_append_right _ hx)))

/-- What the row asks behind the call of a law. -/
theorem law_post {H : Type} {enc : TypeId × Value → H} {f : Func} {s : ChangeSpec} {W W' : World} {args : Array Value} {ds gs : List (DataW H)} {before : List MemPlace}
    (hW : DataW.Whole enc Tryd.prog f.params.toList s.vars false W args.toList ds gs before) (hv : s.vars = [])
    (hr : f.resultTypes = #[4]) (ht : ∀ t ∈ f.params.toList, Tryd.prog.readableRec t = true ∧ t < Tryd.prog.types.size)
    (hfr : (s.fn H (ds ++ gs)).results = [.lit (.bool true)]) (hfa : (s.fn H (ds ++ gs)).args = ds) (hfv : (s.fn H (ds ++ gs)).vars = [])
    (hB : Below W.heap.size W W') : s.post enc Tryd.prog f false true false false W args (.bool true) W' := by
  have hW' := hW
  obtain ⟨p, q, hA, hV, rfl, hfz, hnd⟩ := hW
  have hlt : ∀ x ∈ p, x.block < W.heap.size := fun x hx => hW'.lt x (List.mem_append_left _ hx)
  refine ⟨ds, gs, _, [] ++ [], p, [], hW', ?_, ?_, ?_, hB.frame _, fun h => by cases h⟩
  · rw [hfr, hr]; exact trodAll_mk1 (shut_bool Tryd.underlying4 true)
  · rw [hfa]; exact trodAll_below hB _ _ _ _ ht hA hlt
  · rw [hfv, hv]; exact rfl
end Go.Proofs.YtjponanfpdmeoaaDoor
