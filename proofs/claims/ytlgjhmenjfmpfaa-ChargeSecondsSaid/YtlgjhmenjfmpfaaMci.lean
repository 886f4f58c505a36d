/-
  ChargeSeconds: for all numbers and words the law returns true, and its arguments read as they did.
-/
import Derived.Test.YtlgjhmenjfmpfaaMch
import Derived.Test.YtlgjhmenjfmpfaaRows
import Derived.ProofKit
import Derived.OpenShut
import Derived.ShutString
import Derived.SliceStrings
import Derived.Test.YtlgjhmenjfmpfaaMcg
import Derived.Test.YtlgjhmenjfmpfaaMcb
import Derived.Lib.ConvBytes
import Derived.Lib.AtoiErrMem
namespace Go.Proofs.Ytlgjhmenjfmpfaa
open Go.RowKit Go.Sort Go.Shelf Go.Lib

theorem nxS_len {n m : Int} (hn : n ≤ 62) (hm : m ≤ 62) : (mdA (n + 1) (m + 1) (numS m) (nxS (n.tdiv 2))).length ≤ 2 * 63 * 63 := by
  refine Nat.le_trans (mdA_len _ _ _ _) ?_
  exact Nat.mul_le_mul (Nat.mul_le_mul_left 2 (by omega)) (by omega)
/-- What is out of range, tested in order. -/
theorem sec_out {n m : Int} (h : ¬ (2 ≤ n ∧ n ≤ 62 ∧ n.tmod 2 = 0 ∧ 1 ≤ m ∧ m ≤ 62)) :
    n < 2 ∨ (¬ n < 2 ∧ 62 < n) ∨ (¬ n < 2 ∧ ¬ 62 < n ∧ (n.tmod 2 == 0) = false ∧ (n % 2 == 0) = false ∧ ¬ n % 2 = 0) ∨ (¬ n < 2 ∧ ¬ 62 < n ∧ (n % 2 == 0) = true ∧ n % 2 = 0 ∧ m < 1) ∨ (¬ n < 2 ∧ ¬ 62 < n ∧ (n % 2 == 0) = true ∧ n % 2 = 0 ∧ ¬ m < 1 ∧ 62 < m) := by
  by_cases h1 : n < 2
  · exact .inl h1
  by_cases h2 : 62 < n
  · exact .inr (.inl ⟨h1, h2⟩)
  by_cases h3 : n.tmod 2 = 0
  · have h3' : n % 2 = 0 := by rwa [Int.tmod_eq_emod_of_nonneg (by omega)] at h3
    by_cases h4 : m < 1
    · exact .inr (.inr (.inr (.inl ⟨h1, h2, by simpa using h3', h3', h4⟩)))
    · exact .inr (.inr (.inr (.inr ⟨h1, h2, by simpa using h3', h3', h4, by omega⟩)))
  · have h4 : ¬ n % 2 = 0 := by rwa [Int.tmod_eq_emod_of_nonneg (by omega)] at h3
    exact .inr (.inr (.inl ⟨h1, h2, by simpa using h3, by simpa using h4, h4⟩))

set_option maxRecDepth 100000 in
set_option maxHeartbeats 4000000 in
theorem cSecond_any (n m : Int) (w : World) : Calls Try.prog 11 #[.int .i64 n, .int .i64 m] w (RetGr (secA n m).1 (secA n m).2 w) := by
  have hmf : ∀ (fn : Fn) (first cap : Array Value) (w : World), (Instr.makeFunc fn first cap).run Try.prog w = .ok (.func fn first cap) w := fun _ _ _ _ => rfl
  obtain ⟨w0, hw0⟩ : ∃ w0, w0 = ((w.alloc (.cells #[.int .i64 n] 3)).alloc (.cells #[.int .i64 m] 3)).alloc (.cells #[.int .i64 0, .int .i64 0, .slice none 0 0] 24) := ⟨_, rfl⟩
  have bn : VRow w0 w.heap.size 3 [.int .i64 n] := by subst hw0; exact ((VRow.new w _ _).alloc _).alloc _
  have bm : VRow w0 (w.heap.size + 1) 3 [.int .i64 m] := by subst hw0; exact (VRow.new1 w _ _ _).alloc _
  have b2 : VRow w0 (w.heap.size + 1 + 1) 24 [.int .i64 0, .int .i64 0, .slice none 0 0] := by subst hw0; exact VRow.new2 w _ _ _ _
  have hB0 : RowKit.Below w.heap.size w w0 := by subst hw0; exact (((RowKit.Below.refl _ _).alloc (Nat.le_refl _) _).alloc (by simp) _).alloc (by simp; omega) _
  by_cases h : 2 ≤ n ∧ n ≤ 62 ∧ n.tmod 2 = 0 ∧ 1 ≤ m ∧ m ≤ 62
  · have g1 : ¬ n < 2 := by omega
    have g2 : ¬ 62 < n := by omega
    have g3 : (n.tmod 2 == 0) = true := by simpa using h.2.2.1
    have g4 : ¬ m < 1 := by omega
    have g5 : ¬ 62 < m := by omega
    have k0 : 0 ≤ (n + 1) * (m + 1) := Int.mul_nonneg (by omega) (by omega)
    have k1 : (n + 1) * (m + 1) ≤ 63 * 63 := Int.mul_le_mul (by omega) (by omega) (by omega) (by omega)
    by_cases hK : (n + 1) * (m + 1) ≤ 64
    · have HK0 := secA_ok h hK
      obtain ⟨x, hx⟩ : ∃ x, secA n m = x := ⟨_, rfl⟩
      rw [hx] at HK0 ⊢
      obtain ⟨R', k'⟩ := x
      obtain ⟨y, hy⟩ : ∃ y, makeA 2 ((n + 1) * (m + 1)) (mdA (n + 1) (m + 1) (numS m) (nxS (n.tdiv 2))) = y := ⟨_, rfl⟩
      have HL : Hid (y.1.es.length ≤ 10000) := by
        rw [← hy]
        have h3 := makeA_len 2 ((n + 1) * (m + 1)) (mdA (n + 1) (m + 1) (numS m) (nxS (n.tdiv 2)))
        have h4 := nxS_len (n := n) (m := m) (by omega) (by omega)
        unfold Hid; omega
      rw [hy] at HK0
      obtain ⟨R, k⟩ := y
      have HY := hidI hy
      have HK := hidI HK0
      clear hx HK0 hy
      have HNA := hidI (numS_at n m (by omega) (by omega) (by omega) (w.heap.size + 1) w0 bm)
      have HXA := hidI (nxS_at n m (by omega) (by omega) (by omega) w.heap.size w0 bn)
      have hkk : ¬ 64 < (n + 1) * (m + 1) := by omega
      go_enter Try.func11, Try.ntmps11
      go_wp2_with fail
      rw [← hw0]
      clear hw0
      refine (cMade_any (n + 1) (m + 1) (numS m) (nxS (n.tdiv 2)) 29 30 #[.pointer (some ⟨w.heap.size + 1, 0, none⟩)] #[.pointer (some ⟨w.heap.size, 0, none⟩)] w0 (by omega) (by omega) (by omega) (by omega) (enters_of Try.func29 (by kernel_rfl) rfl) (enters_of Try.func30 (by kernel_rfl) rfl) HNA.out HXA.out).mono ?_
      rw [HY.out]
      intro e w4 hr
      obtain ⟨p, c, rfl, hs, _, _, hB4⟩ := hr.open
      have x4 := hB0.trans (hB4.mono hB0.size)
      have e14 := b2.below hB4 b2.lt
      go_wp2_with fail
      refine (cEss_any R k p c w4 hs HL.out).mono ?_
      rw [HK.out]
      rintro e w5 ⟨p5, c5, rfl, hs5, hc5, hB5⟩
      have x5 := x4.trans (hB5.mono x4.size)
      have e15 := e14.below hB5 e14.lt
      have HB := hidI (box3 (w := w) (c := c5) e15 hs5 x5 (by omega))
      have j0 := e15.at 0 rfl; have j1 := e15.at 1 rfl; have j2 := e15.at 2 rfl
      have z0 := e15.frozen 0; have z1 := e15.frozen 1; have z2 := e15.frozen 2
      go_wp2
      obtain ⟨r6, s6, x6⟩ := HB.out
      unfold set3 at r6 s6 x6
      have y0 := r6.at 0 rfl; have y1 := r6.at 1 rfl; have y2 := r6.at 2 rfl
      refine bodyPost_ret (v := .tuple #[(.agg #[.int .i64 R'.q, .int .i64 R'.n, .slice p5 R'.es.length c5]), .int .i64 k']) (by simp [results, Try.results11, go_sem, y0, y1, y2]) rfl ?_
      exact ⟨p5, c5, rfl, s6, hc5, x6⟩
    · have HK := hidI (secA_big h hK)
      have hkk : 64 < (n + 1) * (m + 1) := by omega
      have y0 := b2.at 0 rfl; have y1 := b2.at 1 rfl; have y2 := b2.at 2 rfl
      go_enter Try.func11, Try.ntmps11
      go_wp2
      rw [← hw0]
      refine bodyPost_ret (v := .tuple #[.agg #[.int .i64 0, .int .i64 0, .slice none 0 0], .int .i64 4]) (by simp [results, Try.results11, go_sem, y0, y1, y2]) rfl ?_
      exact RetGr.of (G' := ⟨0, 0, []⟩) HK.out (Sg.nil _ _ _ _) (Nat.zero_le _) hB0
  · have HK := hidI (secA_bad h)
    rcases sec_out h with h1 | ⟨h1, h2⟩ | ⟨h1, h2, h3, h3a, h3b⟩ | ⟨h1, h2, h3, h3a, h4⟩ | ⟨h1, h2, h3, h3a, h4, h5⟩
    all_goals
      clear h
      have y0 := b2.at 0 rfl; have y1 := b2.at 1 rfl; have y2 := b2.at 2 rfl
      go_enter Try.func11, Try.ntmps11
      go_wp2
      rw [← hw0]
      refine bodyPost_ret (v := .tuple #[.agg #[.int .i64 0, .int .i64 0, .slice none 0 0], .int .i64 2]) (by simp [results, Try.results11, go_sem, y0, y1, y2]) rfl ?_
      exact RetGr.of (G' := ⟨0, 0, []⟩) HK.out (Sg.nil _ _ _ _) (Nat.zero_le _) hB0
end Go.Proofs.Ytlgjhmenjfmpfaa
namespace Go.Proofs.Ytlgjhmenjfmpfaa
open Go.ChangeShapes Go.WideShapes Go.ChangeAt Go.RowKit

theorem own : ownKnob Try.prog.godebug = none := by kernel_rfl
theorem laidOut : laidOutB Try.prog = true := by kernel_rfl

theorem trodAll_below {H : Type} {enc : TypeId × Value → H} {W W' : World} (hb : Below W.heap.size W W') :
    ∀ (ts : List TypeId) (vs : List Value) (ds : List (DataW H)) (p : List MemPlace), (∀ t ∈ ts, Try.prog.readableRec t = true ∧ t < Try.prog.types.size) →
      DataW.TrodAll enc Try.prog W 0 (fun _ => true) true ts vs ds p → (∀ x ∈ p, x.block < W.heap.size) →
      DataW.TrodAll enc Try.prog W' 0 (fun b => decide (b < W.heap.size)) true ts vs ds p
  | [], vs, ds, p, _, h, _ => by
    obtain ⟨rfl, rfl, rfl⟩ := trodAll_nil h
    exact trodAll_mk0
  | t :: ts, vs, ds, p, ht, h, hlt => by
    obtain ⟨v, vs', d, ds', p', q', rfl, rfl, rfl, h0, h1⟩ := trodAll_cons h
    exact trodAll_cons_mk (Below.trod laidOut (ht t List.mem_cons_self).1 (ht t List.mem_cons_self).2 h0 hb (fun x hx => hlt x (List.mem_append_left _ hx)))
      (trodAll_below hb ts vs' ds' q' (fun t h => ht t (List.mem_cons_of_mem _ h)) h1 (fun x hx => hlt x (List.mem_append_right _ hx)))

/-- What the row asks behind the call of a law. -/
theorem law_post {H : Type} {enc : TypeId × Value → H} {f : Func} {s : ChangeSpec} {W W' : World} {args : Array Value} {ds gs : List (DataW H)} {before : List MemPlace}
    (hW : DataW.Whole enc Try.prog f.params.toList s.vars false W args.toList ds gs before) (hv : s.vars = [])
    (hr : f.resultTypes = #[4]) (ht : ∀ t ∈ f.params.toList, Try.prog.readableRec t = true ∧ t < Try.prog.types.size)
    (hfr : (s.fn H (ds ++ gs)).results = [.lit (.bool true)]) (hfa : (s.fn H (ds ++ gs)).args = ds) (hfv : (s.fn H (ds ++ gs)).vars = [])
    (hB : Below W.heap.size W W') : s.post enc Try.prog f false true false false W args (.bool true) W' := by
  have hW' := hW
  obtain ⟨p, q, hA, hV, rfl, hfz, hnd⟩ := hW
  have hlt : ∀ x ∈ p, x.block < W.heap.size := fun x hx => hW'.lt x (List.mem_append_left _ hx)
  refine ⟨ds, gs, _, [] ++ [], p, [], hW', ?_, ?_, ?_, hB.frame _, fun h => by cases h⟩
  · rw [hfr, hr]; exact trodAll_mk1 (shut_bool Try.underlying4 true)
  · rw [hfa]; exact trodAll_below hB _ _ _ _ ht hA hlt
  · rw [hfv, hv]; exact rfl
end Go.Proofs.Ytlgjhmenjfmpfaa
namespace Go.Proofs.Ytlgjhmenjfmpfaa
open Go.ChangeShapes Go.WideShapes Go.ChangeAt Go.RowKit
open Go.ChangeMaps (open_string shut_string)

theorem bin_okS {s : ByteArray} {n : Int} (h : Chg.bin s n = true) : (s.size : Int) ≤ n ∧ Chg.wchk 2 s.data.toList = 0 := by
  unfold Chg.bin at h
  simpa using h
theorem dig_u8 {c : UInt8} (h : (c.toNat : Int) = 48 ∨ (c.toNat : Int) = 49) : IntKind.u8.wrap ((c.toNat : Int) - 48) = Chg.dig (c.toNat : Int) ∧ 0 ≤ Chg.dig (c.toNat : Int) ∧ Chg.dig (c.toNat : Int) ≤ 1 := by
  rcases h with h | h <;> rw [h] <;> decide
theorem ltr_01 {s : ByteArray} (h : Chg.wchk 2 s.data.toList = 0) : ∀ x ∈ ltr s, 0 ≤ x ∧ x ≤ 1 := by
  intro x hx
  obtain ⟨k, hk, rfl⟩ := List.mem_iff_getElem.1 hx
  have hk' : k < s.size := by rw [← ltr_len]; exact hk
  rw [ltr_get s k hk']
  exact (dig_u8 (Chg.vals_bin s h k hk')).2
/-- The letters' bytes, in memory. -/
theorem bytes_at (w : World) (t : TypeId) (s : ByteArray) (i : Nat) (h : i < s.size) : (Lib.bytesWorld w t s).cell? ⟨w.heap.size, i, none⟩ = some (.int .u8 (s[i].toNat : Int)) := by
  rw [Lib.bytesWorld_cell w t s i h, List.getD_eq_getElem?_getD, List.getElem?_eq_getElem (by simpa using h)]
  rfl

def two (a b : Bool) : Nat → Bool
  | 0 => false
  | 1 => a
  | _ => a || b
theorem app_word {a s : ByteArray} (ha : a = lt0 ∨ a = lt1) (hc : Chg.wchk 2 s.data.toList = 0) (hs : s.size ≤ 20) : (Chg.wchk 2 (a ++ s).data.toList = 0 ∧ Chg.wchk 2 (s ++ a).data.toList = 0) ∧ (a ++ s).size ≤ 21 ∧ (s ++ a).size ≤ 21 := by
  have hw := wchk_okw hc
  have ha1 : a.size = 1 := by rcases ha with rfl | rfl <;> rfl
  have hwa : Chg.okw 2 a.data.toList = true := by rcases ha with rfl | rfl <;> decide
  have h1 : (a ++ s).data.toList = a.data.toList ++ s.data.toList := by simp
  have h2 : (s ++ a).data.toList = s.data.toList ++ a.data.toList := by simp
  have l1 : a.data.toList.length = 1 := by simpa using ha1
  have l2 : s.data.toList.length ≤ 20 := by simpa using hs
  unfold Chg.okw at hw hwa
  refine ⟨⟨Chg.wchk_ok 2 _ (by omega) (by omega) (by rw [h1, List.length_append]; omega) ?_, Chg.wchk_ok 2 _ (by omega) (by omega) (by rw [h2, List.length_append]; omega) ?_⟩, ?_, ?_⟩
  · unfold Chg.okw; rw [h1, List.all_append, hw, hwa]; rfl
  · unfold Chg.okw; rw [h2, List.all_append, hw, hwa]; rfl
  · rw [ByteArray.size_append]; omega
  · rw [ByteArray.size_append]; omega
/-- The four calls of Accepts. -/
theorem sec_calls {G : Gr} {p : Option Addr} {c : Nat} {s : ByteArray} {W : World} (hc : Chg.wchk 2 s.data.toList = 0) (hs : s.size ≤ 20) (hv : Vg G) (hq : G.q = 2) (hsg : Sg 3 W edE p G.es) :
    (Calls Try.prog 16 #[(.agg #[.int .i64 G.q, .int .i64 G.n, .slice p G.es.length c]), .string (lt0 ++ s)] W fun e w' => e = .returned (.tuple #[.bool (accA G (lt0 ++ s)), .int .i64 0]) ∧ RowKit.Below W.heap.size W w') ∧
    (Calls Try.prog 16 #[(.agg #[.int .i64 G.q, .int .i64 G.n, .slice p G.es.length c]), .string (s ++ lt0)] W fun e w' => e = .returned (.tuple #[.bool (accA G (s ++ lt0)), .int .i64 0]) ∧ RowKit.Below W.heap.size W w') ∧
    (Calls Try.prog 16 #[(.agg #[.int .i64 G.q, .int .i64 G.n, .slice p G.es.length c]), .string (lt1 ++ s)] W fun e w' => e = .returned (.tuple #[.bool (accA G (lt1 ++ s)), .int .i64 0]) ∧ RowKit.Below W.heap.size W w') ∧
    (Calls Try.prog 16 #[(.agg #[.int .i64 G.q, .int .i64 G.n, .slice p G.es.length c]), .string (s ++ lt1)] W fun e w' => e = .returned (.tuple #[.bool (accA G (s ++ lt1)), .int .i64 0]) ∧ RowKit.Below W.heap.size W w') := by
  obtain ⟨⟨u1, u2⟩, u3, u4⟩ := app_word (a := lt0) (.inl rfl) hc hs
  obtain ⟨⟨v1, v2⟩, v3, v4⟩ := app_word (a := lt1) (.inr rfl) hc hs
  exact ⟨lAccepts_any G p c _ W hsg hv (by omega) (by unfold maxLen; omega) (by rw [hq]; exact u1) (by omega), lAccepts_any G p c _ W hsg hv (by omega) (by unfold maxLen; omega) (by rw [hq]; exact u2) (by omega),
    lAccepts_any G p c _ W hsg hv (by omega) (by unfold maxLen; omega) (by rw [hq]; exact v1) (by omega), lAccepts_any G p c _ W hsg hv (by omega) (by unfold maxLen; omega) (by rw [hq]; exact v2) (by omega)⟩

set_option maxRecDepth 100000 in
set_option maxHeartbeats 4000000 in
theorem lawSeconds_any (n m : Int) (s : ByteArray) (w : World) (hn0 : 0 ≤ n) (hn1 : n ≤ 255) (hm0 : 0 ≤ m) (hm1 : m ≤ 255) (hs : s.size ≤ maxLen) :
    Calls Try.prog 6 #[.int .u8 n, .int .u8 m, .string s] w fun e w' => e = .returned (.bool true) ∧ Below w.heap.size w w' := by
  cases hb : Chg.bin s 20
  · have HB := hidI hb
    clear hb
    go_enter Try.func6, Try.ntmps6
    go_wp2_with fail
    refine (Chg.binary_any s 20 _ hs).mono ?_
    rintro e w1 ⟨rfl, hD⟩
    have hD' : Dr w w1 := hD
    rw [HB.out]
    go_wp2_with fail
    refine (Chg.awake_any w1).mono ?_
    rintro e w2 ⟨rfl, hB⟩
    go_wp2
    go_ret
    exact ⟨rfl, (hD'.below _).trans (hB.mono (hD'.below 0).size)⟩
  · have HB := hidI hb
    obtain ⟨hl, hok⟩ := bin_okS hb
    have HOK := hidI hok
    clear hb hok
    have hs2 : s.size ≤ 20 := by omega
    obtain ⟨A, hA⟩ : ∃ A, A = 2 + 2 * (n % 3) := ⟨_, rfl⟩
    obtain ⟨B, hBB⟩ : ∃ B, B = 1 + m % 7 := ⟨_, rfl⟩
    have hA3 : A = 2 ∨ A = 4 ∨ A = 6 := by omega
    have hB1 : 1 ≤ B ∧ B ≤ 7 := by omega
    have HKA : Hid (2 + 2 * (n % 3) = A) := hA.symm
    have HKB : Hid (1 + m % 7 = B) := hBB.symm
    have hr : 2 ≤ A ∧ A ≤ 62 ∧ A.tmod 2 = 0 ∧ 1 ≤ B ∧ B ≤ 62 := by rcases hA3 with h | h | h <;> subst h <;> refine ⟨by omega, by omega, by decide, by omega, by omega⟩
    have h64 : (A + 1) * (B + 1) ≤ 64 := by rcases hA3 with h | h | h <;> rw [h] <;> omega
    obtain ⟨h, hh⟩ : ∃ h, h = A.tdiv 2 := ⟨_, rfl⟩
    have hh1 : 1 ≤ h ∧ h ≤ 3 := by rcases hA3 with e | e | e <;> subst e <;> subst hh <;> decide
    have HHH : Hid (A.tdiv 2 = h) := hh.symm
    have hA6 : 2 ≤ A ∧ A ≤ 6 := by omega
    have HA2 : Hid (A / 2 = h) := by rw [Hid, hh]; rcases hA3 with e | e | e <;> subst e <;> decide
    clear hA hBB
    have HG := hidI (fun W => cSecond_any A B W)
    rw [secA_eq hr h64] at HG
    have HV := hidI (secG_vg hr h64)
    have HEX := hidI (fun ha => sec_ext hr h64 (s := s) ha)
    have HFO := hidI (fun ha => sec_found hr h64 hh (s := s) ha)
    have HQ : Hid ((secG A B).q = 2) := rfl
    have HVL := hidI (Chg.vld_ok false 63 A s (by omega) (by omega) HOK.out)
    have HVA := fun W => Chg.valid_any A s W hs
    rw [HVL.out] at HVA
    clear HVL
    have HVA := hidI HVA
    generalize hG : secG A B = G at *
    clear hG hr h64 hh hA3
    go_enter Try.func6, Try.ntmps6
    go_wp2_with fail
    refine (Chg.binary_any s 20 _ hs).mono ?_
    rintro e w1 ⟨rfl, hD⟩
    have hD' : Dr w w1 := hD
    have x1 : RowKit.Below w.heap.size w w1 := hD'.below _
    rw [HB.out]
    go_wp2_with fail
    rw [HKA.out, HKB.out]
    clear HKA HKB hD hD'
    refine (HG.out w1).mono ?_
    rintro e w2 ⟨p, c, rfl, hsg, _, hB2⟩
    have x2 := x1.trans (hB2.mono x1.size)
    obtain ⟨w3, hw3⟩ : ∃ w3, w3 = w2.alloc (.cells #[.int .i64 G.q, .int .i64 G.n, .slice p G.es.length c] 24) := ⟨_, rfl⟩
    have r3 : VRow w3 w2.heap.size 24 [.int .i64 G.q, .int .i64 G.n, .slice p G.es.length c] := by subst hw3; exact VRow.new w2 _ _
    have hq : RowKit.Below w2.heap.size w2 w3 := by subst hw3; exact (RowKit.Below.refl _ _).alloc (Nat.le_refl _) _
    have s3 := hsg.below hq
    have x3 := x2.trans (hq.mono x2.size)
    obtain ⟨gb, hgb⟩ : ∃ gb, gb = w2.heap.size := ⟨_, rfl⟩
    rw [← hgb] at r3
    clear hsg hq hB2 x2
    go_wp2_with fail
    rw [← hw3, ← hgb]
    clear hw3 hgb
    refine (lAccepts_any G p c s w3 s3 HV.out (by have := HQ.out; omega) hs (by rw [HQ.out]; exact HOK.out) (by omega)).mono ?_
    rintro e w4 ⟨rfl, hB4⟩
    have r4 := r3.below hB4 r3.lt
    have s4 := s3.below hB4
    have x4 := x3.trans (hB4.mono x3.size)
    clear r3 s3 x3 hB4
    cases ha : accA G s
    · go_wp2_with fail
      refine (Chg.awake_any w4).mono ?_
      rintro e w8 ⟨rfl, hB8⟩
      go_wp2
      go_ret
      exact ⟨rfl, x4.trans (hB8.mono x4.size)⟩
    · have HX := hidI (HEX.out ha)
      obtain ⟨c0, d0, hc0, hd0, hok0⟩ := HFO.out ha
      have HOK0 := hidI hok0
      have hwd : decide (Chg.wid false s ≤ A) = true := decide_eq_true (sec_wid HOK.out hc0 hok0)
      have HVA : Hid (∀ W, Calls Try.prog 18 #[.int .i64 A, .string s] W fun e w' => e = .returned (.tuple #[.bool true, .int .i64 0]) ∧ Below W.heap.size W w') := fun W => by have := HVA.out W; rw [hwd] at this; exact this
      clear ha hwd hok0 HEX HFO
      go_wp2_with fail
      refine (HVA.out w4).mono ?_
      rintro e w5 ⟨rfl, hB5⟩
      have r5 := r4.below hB5 r4.lt
      have s5 := s4.below hB5
      have x5 := x4.trans (hB5.mono x4.size)
      clear r4 s4 x4 hB5
      obtain ⟨NA, hNA⟩ : ∃ NA : Nat, (NA : Int) = A + 1 := ⟨(A + 1).toNat, by omega⟩
      obtain ⟨NB, hNB⟩ : ∃ NB : Nat, (NB : Int) = B + 1 := ⟨(B + 1).toNat, by omega⟩
      obtain ⟨c1, rfl⟩ : ∃ c1 : Nat, c0 = c1 := ⟨c0.toNat, by omega⟩
      obtain ⟨d1, rfl⟩ : ∃ d1 : Nat, d0 = d1 := ⟨d0.toNat, by omega⟩
      have hc1 : c1 < NA := by omega
      have hd1 : d1 < NB := by omega
      have HNA := hidI hNA; have HNB := hidI hNB
      clear hNA hNB hc0 hd0
      go_wp2
      go_loopw [15, 79] (fun fv iv wr => ∃ (k : Nat) (f : Bool), k ≤ NA ∧ fv = .bool f ∧ iv = .int .i64 k ∧ (c1 < k → f = true) ∧ RowKit.Below w5.heap.size w5 wr) (fun _ iv _ => NA - (intOf iv).toNat)
      case atStart => exact ⟨0, false, by omega, rfl, rfl, fun h => absurd h (by omega), RowKit.Below.refl _ _⟩
      case round =>
        obtain ⟨k, f, hk, rfl, rfl, hf, hB⟩ := hrel
        by_cases hlt : k < NA
        · have hltI : (k : Int) < A + 1 := by rw [← HNA.out]; omega
          obtain ⟨wo, rfl⟩ : ∃ wo : World, wo = wr := ⟨_, rfl⟩
          go_wp2
          go_loopw [15, 84] (fun fv iv wr => ∃ (j : Nat) (f : Bool), j ≤ NB ∧ fv = .bool f ∧ iv = .int .i64 j ∧ (c1 < k ∨ (c1 = k ∧ d1 < j) → f = true) ∧ RowKit.Below w5.heap.size w5 wr) (fun _ iv _ => NB - (intOf iv).toNat)
          case atStart => exact ⟨0, f, by omega, rfl, rfl, fun h => hf (by omega), hB⟩
          case round =>
            clear hf hB
            obtain ⟨j, g, hj, rfl, rfl, hf, hB⟩ := hrel
            by_cases hltj : j < NB
            · have hltJ : (j : Int) < B + 1 := by rw [← HNB.out]; omega
              have hcv := Lib.run_convert_string_bytes (P := Try.prog) wr 9 40 5 s (u := .string) Try.underlying9 Try.underlying40 Try.underlying5
              have hB1 := hB.trans ((Lib.bytesWorld_below wr 5 s).mono hB.size)
              have HBY := hidI (bytes_at wr 5 s)
              generalize Lib.bytesWorld wr 5 s = wb at *
              go_wp2
              clear hcv
              go_loop [18, 19, 20, 92] (fun xv yv ov iv => ∃ l : Nat, l ≤ s.size ∧ iv = .int .i64 l ∧ xv = .int .i64 (runS A B h (k, j) ((ltr s).take l)).1.1 ∧ yv = .int .i64 (runS A B h (k, j) ((ltr s).take l)).1.2 ∧ ov = .bool (runS A B h (k, j) ((ltr s).take l)).2) (fun _ _ _ iv => s.size - (intOf iv).toNat)
              case atStart => exact ⟨0, by omega, rfl, rfl, rfl, rfl⟩
              case round =>
                obtain ⟨l, hl, rfl, rfl, rfl, rfl⟩ := hrel
                by_cases hltl : l < s.size
                · have hltL : (l : Int) < (s.size : Int) := by omega
                  have e1 := HBY.out l hltl
                  obtain ⟨e2, e3, e4⟩ := dig_u8 (Chg.vals_bin s HOK.out l hltl)
                  have HTK := hidI (ltr_take s l hltl)
                  have hbd := runS_bd (n := A) (m := B) (h := h) (by omega) (by omega) ((ltr s).take l) (k, j) 0 (fun x hx => ltr_01 HOK.out x (List.mem_of_mem_take hx)) (by rw [List.length_take, ltr_len]; omega) (by simp; omega) (by simp; omega) true
                  rw [List.length_take, ltr_len, Nat.min_eq_left hl, Nat.zero_add] at hbd
                  have HST := hidI (runS_snoc A B h (k, j) ((ltr s).take l) (Chg.dig (s[l].toNat : Int)))
                  change -(l : Int) ≤ (runS A B h (k, j) ((ltr s).take l)).1.1 ∧ (runS A B h (k, j) ((ltr s).take l)).1.1 ≤ 10 + (l : Int) ∧ -(60 * (l : Int)) ≤ (runS A B h (k, j) ((ltr s).take l)).1.2 ∧ (runS A B h (k, j) ((ltr s).take l)).1.2 ≤ 10 + 60 * (l : Int) at hbd
                  generalize runS A B h (k, j) ((ltr s).take l) = R at *
                  obtain ⟨⟨X, Y⟩, ok⟩ := R
                  generalize Chg.dig (s[l].toNat : Int) = dg at *
                  generalize (s[l].toNat : Int) = cc at *
                  simp only at hbd ⊢
                  go_upto_region 26 with fail
                  rw [HA2.out]
                  have HN : Hid (runS A B h (k, j) ((ltr s).take (l + 1)) = ((X + (2 * dg - 1), Y + (X + (2 * dg - 1) - h)), ok && inSc A B (X + (2 * dg - 1), Y + (X + (2 * dg - 1) - h)))) := by
                    rw [Hid, HTK.out, HST.out]
                    unfold fS chS
                    simp only
                    rw [show Y + (X + (2 * dg - 1)) - h = Y + (X + (2 * dg - 1) - h) by omega]
                  clear HST HTK e1 e2 hbd
                  generalize Y + (X + (2 * dg - 1) - h) = Y' at *
                  generalize X + (2 * dg - 1) = X' at *
                  cases ok
                  · have HN2 : Hid (runS A B h (k, j) ((ltr s).take (l + 1)) = ((X', Y'), false)) := by rw [Hid, HN.out]; simp [inSc, *]
                    clear HN
                    go_wp2
                    go_round
                    case rel => exact ⟨l + 1, by omega, by go_num, by rw [HN2.out], by rw [HN2.out], by rw [HN2.out]⟩
                    case measure => simp [intOf]; omega
                  · by_cases a1 : 0 ≤ X'
                    · by_cases a2 : X' ≤ A
                      · by_cases a3 : 0 ≤ Y'
                        · by_cases a4 : Y' ≤ B
                          · have HN2 : Hid (runS A B h (k, j) ((ltr s).take (l + 1)) = ((X', Y'), true)) := by rw [Hid, HN.out]; simp [inSc, *]
                            clear HN
                            go_wp2
                            go_round
                            case rel => exact ⟨l + 1, by omega, by go_num, by rw [HN2.out], by rw [HN2.out], by rw [HN2.out]⟩
                            case measure => simp [intOf]; omega
                          · have HN2 : Hid (runS A B h (k, j) ((ltr s).take (l + 1)) = ((X', Y'), false)) := by rw [Hid, HN.out]; simp [inSc, *]
                            clear HN
                            go_wp2
                            go_round
                            case rel => exact ⟨l + 1, by omega, by go_num, by rw [HN2.out], by rw [HN2.out], by rw [HN2.out]⟩
                            case measure => simp [intOf]; omega
                        · have HN2 : Hid (runS A B h (k, j) ((ltr s).take (l + 1)) = ((X', Y'), false)) := by rw [Hid, HN.out]; simp [inSc, *]
                          clear HN
                          go_wp2
                          go_round
                          case rel => exact ⟨l + 1, by omega, by go_num, by rw [HN2.out], by rw [HN2.out], by rw [HN2.out]⟩
                          case measure => simp [intOf]; omega
                      · have HN2 : Hid (runS A B h (k, j) ((ltr s).take (l + 1)) = ((X', Y'), false)) := by rw [Hid, HN.out]; simp [inSc, *]
                        clear HN
                        go_wp2
                        go_round
                        case rel => exact ⟨l + 1, by omega, by go_num, by rw [HN2.out], by rw [HN2.out], by rw [HN2.out]⟩
                        case measure => simp [intOf]; omega
                    · have HN2 : Hid (runS A B h (k, j) ((ltr s).take (l + 1)) = ((X', Y'), false)) := by rw [Hid, HN.out]; simp [inSc, *]
                      clear HN
                      go_wp2
                      go_round
                      case rel => exact ⟨l + 1, by omega, by go_num, by rw [HN2.out], by rw [HN2.out], by rw [HN2.out]⟩
                      case measure => simp [intOf]; omega
                · have hltL : ¬ (l : Int) < (s.size : Int) := by omega
                  obtain rfl : l = s.size := by omega
                  have HR : Hid ((runS A B h ((k : Int), (j : Int)) ((ltr s).take s.size)).2 = okS A B h (k, j) (ltr s)) := by
                    rw [Hid, ltr_all]
                    unfold runS
                    rw [runS_ok]; rfl
                  generalize runS A B h ((k : Int), (j : Int)) ((ltr s).take s.size) = R at *
                  obtain ⟨XY, ok⟩ := R
                  have HR : Hid (ok = okS A B h (k, j) (ltr s)) := HR
                  simp only
                  cases g
                  · have hgo : Hid (c1 < k ∨ (c1 = k ∧ d1 < j + 1) → ok = true) := fun h => by
                      by_cases e : c1 < k ∨ (c1 = k ∧ d1 < j)
                      · have := hf e; cases this
                      · have h1 : c1 = k := by omega
                        have h2 : d1 = j := by omega
                        rw [HR.out, ← h1, ← h2]; exact HOK0.out
                    clear hf
                    go_wp2
                    go_roundw
                    case rel => exact ⟨j + 1, _, by omega, rfl, by go_num, hgo.out, hB1⟩
                    case measure => simp [intOf]; omega
                  · clear hf
                    go_wp2
                    go_roundw
                    case rel => exact ⟨j + 1, true, by omega, rfl, by go_num, fun _ => rfl, hB1⟩
                    case measure => simp [intOf]; omega
            · have hltJ : ¬ (j : Int) < B + 1 := by rw [← HNB.out]; omega
              go_wp2
              go_roundw
              case rel => exact ⟨k + 1, g, by omega, rfl, by go_num, fun h => hf (by omega), hB⟩
              case measure => simp [intOf]; omega
        · have hltI : ¬ (k : Int) < A + 1 := by rw [← HNA.out]; omega
          have ht : f = true := hf (by omega)
          subst ht
          clear hf
          have HC := hidI (fun W (hW : RowKit.Below w5.heap.size w5 W) => sec_calls (p := p) (c := c) HOK.out hs2 HV.out HQ.out (s5.below hW))
          go_upto_region 32 with fail
          obtain ⟨wz, hwz⟩ : ∃ wz, wz = wr.alloc (.cells #[.string ⟨#[48]⟩, .string ⟨#[49]⟩] 9) := ⟨_, rfl⟩
          have rz : VRow wz wr.heap.size 9 [.string ⟨#[48]⟩, .string ⟨#[49]⟩] := by subst hwz; exact VRow.new wr _ _
          have hBz : RowKit.Below w5.heap.size w5 wz := by subst hwz; exact hB.alloc hB.size _
          obtain ⟨zb, hzb⟩ : ∃ zb, zb = wr.heap.size := ⟨_, rfl⟩
          rw [← hzb] at rz
          go_wp2
          rw [← hwz, ← hzb]
          clear hwz hzb hB
          obtain ⟨a0, ha0⟩ : ∃ a0, a0 = accA G (lt0 ++ s) := ⟨_, rfl⟩
          obtain ⟨a1, ha1⟩ : ∃ a1, a1 = accA G (lt1 ++ s) := ⟨_, rfl⟩
          obtain ⟨b0, hb0⟩ : ∃ b0, b0 = accA G (s ++ lt0) := ⟨_, rfl⟩
          obtain ⟨b1, hb1⟩ : ∃ b1, b1 = accA G (s ++ lt1) := ⟨_, rfl⟩
          rw [← ha0, ← ha1, ← hb0, ← hb1] at HX HC
          clear ha0 ha1 hb0 hb1
          go_loopw [23, 24, 137] (fun lv rv iv wx => ∃ k : Nat, k ≤ 2 ∧ lv = .bool (two a0 a1 k) ∧ rv = .bool (two b0 b1 k) ∧ iv = .int .i64 k ∧ RowKit.Below wz.heap.size wz wx) (fun _ _ iv _ => 2 - (intOf iv).toNat)
          case atStart => exact ⟨0, by omega, rfl, rfl, rfl, RowKit.Below.refl _ _⟩
          case round =>
            obtain ⟨k, hk, rfl, rfl, rfl, hBx⟩ := hrel
            have rx := rz.below hBx rz.lt
            have hBw := hBz.trans (hBx.mono hBz.size)
            have gx := r5.below hBw r5.lt
            have g0 := gx.at 0 rfl; have g1 := gx.at 1 rfl; have g2 := gx.at 2 rfl
            rcases (show k = 0 ∨ k = 1 ∨ k = 2 by omega) with rfl | rfl | rfl
            · have z0 := rx.at 0 rfl
              simp only [two]
              go_wp2_with fail
              refine ((HC.out _ hBw).1).mono ?_
              rintro e wy ⟨rfl, hBy⟩
              have hBv := hBw.trans (hBy.mono hBw.size)
              have hBxy := hBx.trans (hBy.mono hBx.size)
              have gy := gx.below hBy gx.lt
              clear g0 g1 g2
              have g0 := gy.at 0 rfl; have g1 := gy.at 1 rfl; have g2 := gy.at 2 rfl
              go_wp2_with fail
              refine ((HC.out _ hBv).2.1).mono ?_
              rintro e wu ⟨rfl, hBu⟩
              have hBf := hBxy.trans (hBu.mono hBxy.size)
              clear g0 g1 g2 hBy hBu
              go_wp2
              go_roundw
              case rel => exact ⟨1, by omega, rfl, rfl, by go_num, hBf⟩
              case measure => simp [intOf]
            · have z0 := rx.at 1 rfl
              simp only [two]
              go_wp2_with fail
              refine ((HC.out _ hBw).2.2.1).mono ?_
              rintro e wy ⟨rfl, hBy⟩
              have hBv := hBw.trans (hBy.mono hBw.size)
              have hBxy := hBx.trans (hBy.mono hBx.size)
              have gy := gx.below hBy gx.lt
              clear g0 g1 g2
              have g0 := gy.at 0 rfl; have g1 := gy.at 1 rfl; have g2 := gy.at 2 rfl
              go_wp2_with fail
              refine ((HC.out _ hBv).2.2.2).mono ?_
              rintro e wu ⟨rfl, hBu⟩
              have hBf := hBxy.trans (hBu.mono hBxy.size)
              clear g0 g1 g2 hBy hBu
              cases a0 <;> cases b0
              all_goals
                go_wp2
                go_roundw
                case rel => exact ⟨2, by omega, by simp [two], by simp [two], by go_num, hBf⟩
                case measure => simp [intOf]
            · simp only [two]
              rw [HX.out.1, HX.out.2]
              go_wp2_with fail
              refine (Chg.awake_any wr).mono ?_
              rintro e wy ⟨rfl, hBy⟩
              go_wp2
              go_ret
              exact ⟨rfl, (x5.trans (hBw.mono x5.size)).trans (hBy.mono (x5.trans (hBw.mono x5.size)).size)⟩
theorem readU8S : Try.prog.readableRec 5 = true ∧ 5 < Try.prog.types.size := ⟨by kernel_rfl, of_decide_eq_true (by kernel_rfl)⟩
theorem readStringS : Try.prog.readableRec 9 = true ∧ 9 < Try.prog.types.size := ⟨by kernel_rfl, of_decide_eq_true (by kernel_rfl)⟩

set_option maxRecDepth 100000 in
theorem seconds_lifted (os : Os) (started : os.Started) (H : Type) (enc : TypeId × Value → H) :
    ReturnsInHanded {} Try.checked os 6 .any (Rows.chargeSecondsSpec.pre6 enc Try.prog Try.f6 Rows.chargeSecondsRow.domain false) (Rows.chargeSecondsSpec.post enc Try.prog Try.f6 false true false false) := by
  refine returnsInHanded_of_change (C := Try.checked) own started (by kernel_rfl) Try.func6
    (ChangeSpec.witness6 (enc := enc) (C := Try.checked) false ⟨#[], #[.int .u8 0, .int .u8 0, .string ByteArray.empty], []⟩ 8 (by kernel_rfl) (by kernel_rfl) (by kernel_rfl) (by kernel_rfl)) ?_
  intro W base args ds gs before hval0 hW hcnd _
  have hval : ∀ (j : Nat) t v, Try.f6.params[j]? = some t → args[j]? = some v → Value.okWide Try.prog W .any base t v := hval0
  have hW' := hW
  obtain ⟨p, q, hA0, hV, rfl, hfz, hnd⟩ := hW
  have hA : DataW.TrodAll enc Try.prog W 0 (fun _ => true) true Try.f6.params.toList args.toList ds p := hA0
  rw [Try.params6] at hA hval
  obtain ⟨v0, v1, v2, d0, d1, d2, p0, p1, p2, rfl, rfl, rfl, h0, h1, h2⟩ := trodAll_three hA
  obtain ⟨rfl, rfl⟩ := trodVars_none hV
  obtain ⟨a0, rfl, rfl, rfl, w0⟩ := open_int Try.underlying5 (hval 0 5 v0 rfl rfl) h0
  obtain ⟨a1, rfl, rfl, rfl, w1⟩ := open_int Try.underlying5 (hval 1 5 v1 rfl rfl) h1
  obtain ⟨a2, rfl, rfl, rfl, w2⟩ := open_string Try.underlying9 (hval 2 9 v2 rfl rfl) h2
  have hb := bounds_u8 w0
  have hb1 := bounds_u8 w1
  refine (lawSeconds_any a0 a1 a2 W hb.1 hb.2 hb1.1 hb1.2 w2).mono fun e W' ⟨he, hB⟩ => ?_
  subst he
  refine ⟨_, rfl, law_post hW' rfl (by kernel_rfl) ?_ rfl rfl rfl hB⟩
  rw [Try.params6]
  intro t ht
  simp only [List.mem_cons, List.not_mem_nil, or_false] at ht
  rcases ht with rfl | rfl | rfl
  · exact readU8S
  · exact readU8S
  · exact readStringS

theorem chargeSeconds_holds : Rows.ChargeSecondsSaid :=
  OpenClaim.holds_of_wide 6 Try.f6 rfl rfl rfl rfl rfl rfl rfl ⟨rfl, rfl, rfl, rfl, rfl⟩ rfl rfl rfl rfl rfl (by kernel_rfl) Try.func6 (by kernel_rfl)
    (of_decide_eq_true (by kernel_rfl)) (by unfold Func.isWrapper; rw [if_neg (of_decide_eq_false (by kernel_rfl))]; exact ⟨rfl, rfl⟩)
    (fun os started H enc _ => seconds_lifted os started H enc)
#print axioms chargeSeconds_holds
end Go.Proofs.Ytlgjhmenjfmpfaa
