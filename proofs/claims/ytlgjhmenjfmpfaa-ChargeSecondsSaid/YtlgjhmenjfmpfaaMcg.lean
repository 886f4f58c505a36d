/-
  Words, plain lemmas and walks, merged: Cj, Ca, Cc, Map, He, Hi, Hd, Hu.
-/
import Derived.Test.YtlgjhmenjfmpfaaMcf
import Derived.Test.YtlgjhmenjfmpfaaMce
import Derived.Maps.OwnIn
import Derived.DeepKeys4
import Derived.Test.YtlgjhmenjfmpfaaMcc
import Derived.Shelf.SlicesE.DeleteFunc
import Derived.Test.YtlgjhmenjfmpfaaMca
namespace Go.Proofs.Ytlgjhmenjfmpfaa
open Go.RowKit Go.Sort Go.Shelf Go.Lib

theorem endA_stop {G : Gr} {st l : List Int} {k : Nat} (h : endA G st (l.take k) = []) : endA G st l = [] := by
  have e : endA G st l = endA G (endA G st (l.take k)) (l.drop k) := by
    unfold endA
    rw [← List.foldl_append, List.take_append_drop]
  rw [e, h, endA_nil]

set_option maxRecDepth 100000 in
set_option maxHeartbeats 2000000 in
theorem lEnds_any (G : Gr) (p : Option Addr) (c : Nat) (st : List Int) (q : Option Addr) (d : Nat) (s : ByteArray) (w : World) (hin : Sg 3 w edE p G.es) (hst : Sl w (Value.int .i64) q st) (hv : Vg G) (hS : St G.n st) (hw : Chg.okw G.q s.data.toList = true) (hs : s.size ≤ 65536) :
    Calls Try.prog 37 #[(.agg #[.int .i64 G.q, .int .i64 G.n, .slice p G.es.length c]), .slice q st.length d, .string s] w (LsOut (endA G st (ltr s)) w) := by
  have HIN := hidI hin; have HV := hidI hv; have HS := hidI hS; have HW := hidI hw
  have HST := hidI hst
  clear hin hst hv hS hw
  obtain ⟨w0, hw0⟩ : ∃ w0, w0 = w.alloc (.cells #[.int .i64 G.q, .int .i64 G.n, .slice p G.es.length c] 24) := ⟨_, rfl⟩
  have b0 : VRow w0 w.heap.size 24 [.int .i64 G.q, .int .i64 G.n, .slice p G.es.length c] := by subst hw0; exact VRow.new w _ _
  have hB0 : RowKit.Below w.heap.size w w0 := by subst hw0; exact (RowKit.Below.refl _ _).alloc (Nat.le_refl _) _
  have hE0 : endA G st ((ltr s).take 0) = st := rfl
  go_enter Try.func37, Try.ntmps37
  go_wp2
  rw [← hw0]
  clear hw0
  go_loopw [1, 7] (fun sv iv wr => ∃ (k : Nat) (qk : Option Addr) (dk : Nat), k ≤ s.size ∧ sv = .slice qk (endA G st ((ltr s).take k)).length dk ∧ iv = .int .i64 k ∧ Sl wr (Value.int .i64) qk (endA G st ((ltr s).take k)) ∧ RowKit.Below w0.heap.size w0 wr) (fun _ iv _ => s.size - (intOf iv).toNat)
  case atStart => exact ⟨0, q, d, by omega, by rw [hE0], rfl, by rw [hE0]; exact HST.out.below hB0, RowKit.Below.refl _ _⟩
  case round =>
    obtain ⟨k, qk, dk, hk, rfl, rfl, hsl, hB⟩ := hrel
    have HSK := hidI (endA_st G st HS.out ((ltr s).take k))
    have HSTOP := hidI (@endA_stop G st (ltr s) k)
    have xr := hB0.trans (hB.mono hB0.size)
    by_cases hlt : k < s.size
    · have HN : Hid (endA G st ((ltr s).take (k + 1)) = nextA G (endA G st ((ltr s).take k)) (Chg.dig (s[k].toNat : Int))) := by rw [Hid, ltr_take s k hlt, endA_snoc]
      generalize endA G st ((ltr s).take k) = L at *
      have hltN : (k : Int) < (s.size : Int) := by omega
      by_cases hL : 0 < L.length
      · have hLi : (0 : Int) < (L.length : Int) := by omega
        have hd := okw_at HW.out k hlt
        have r0 := b0.below hB b0.lt
        go_upto_region 4 with fail
        refine region_tail 5 (by kernel_rfl) (by kernel_rfl) fun W hD => ?_
        have g0 := (r0.dr hD).at 0 rfl; have g1 := (r0.dr hD).at 1 rfl; have g2 := (r0.dr hD).at 2 rfl
        have hBW := hB.trans (hD.below _)
        have xw := xr.trans (hD.below _)
        have hslW := hsl.dr hD
        clear r0
        simp only [List.take_succ_cons, List.take_zero, List.drop_succ_cons, List.drop_zero]
        iterate 5 still_step
        refine wpStill_nil ?_
        go_wp2_with fail
        refine (lStep_any G p c L qk dk s[k] W (HIN.out.below xw) hslW HV.out HSK.out hd.1 hd.2).mono ?_
        rintro e w2 ⟨p', m', c', rfl, hown, hB2⟩
        obtain ⟨q2, d2, he, hs2⟩ := own_sl hown
        cases he
        go_wp2
        go_roundw
        case rel => exact ⟨k + 1, p', c', by omega, by rw [HN.out], by go_num, by rw [HN.out]; exact hs2, hBW.trans (hB2.mono hBW.size)⟩
        case measure => simp [intOf]; omega
      · have hLi : ¬ (0 : Int) < (L.length : Int) := by omega
        have HE : Hid (endA G st (ltr s) = L) := by
          have h0 : L = [] := List.eq_nil_of_length_eq_zero (by omega)
          rw [Hid, h0]; exact HSTOP.out h0
        clear hL
        go_wp2
        go_ret
        exact ⟨qk, dk, by rw [HE.out]; rfl, by rw [HE.out]; exact hsl, xr⟩
    · obtain rfl : k = s.size := by omega
      have hkk : ¬ ((s.size : Int)) < (s.size : Int) := by omega
      have HE : Hid (endA G st (ltr s) = endA G st ((ltr s).take s.size)) := by rw [Hid, ltr_all]
      generalize endA G st ((ltr s).take s.size) = L at *
      go_wp2
      go_ret
      exact ⟨qk, dk, by rw [HE.out]; rfl, by rw [HE.out]; exact hsl, xr⟩

set_option maxRecDepth 100000 in
set_option maxHeartbeats 1000000 in
theorem lAccepts_any (G : Gr) (p : Option Addr) (c : Nat) (s : ByteArray) (w : World) (hin : Sg 3 w edE p G.es) (hv : Vg G) (hq : G.q ≤ 16) (hs : s.size ≤ maxLen) (hc : Chg.wchk G.q s.data.toList = 0) (hl : s.size ≤ 65536) :
    Calls Try.prog 16 #[(.agg #[.int .i64 G.q, .int .i64 G.n, .slice p G.es.length c]), .string s] w fun e w' => e = .returned (.tuple #[.bool (accA G s), .int .i64 0]) ∧ RowKit.Below w.heap.size w w' := by
  have HIN := hidI hin; have HV := hidI hv; have HC := hidI hc
  clear hin hv hc
  obtain ⟨w0, hw0⟩ : ∃ w0, w0 = w.alloc (.cells #[.int .i64 G.q, .int .i64 G.n, .slice p G.es.length c] 24) := ⟨_, rfl⟩
  have b0 : VRow w0 w.heap.size 24 [.int .i64 G.q, .int .i64 G.n, .slice p G.es.length c] := by subst hw0; exact VRow.new w _ _
  have hB0 : RowKit.Below w.heap.size w w0 := by subst hw0; exact (RowKit.Below.refl _ _).alloc (Nat.le_refl _) _
  go_enter Try.func16, Try.ntmps16
  go_wp2_with fail
  rw [← hw0]
  clear hw0
  refine (lSpells_any G p c s w0 (HIN.out.below hB0) HV.out hq hs).mono ?_
  rw [HC.out]
  rintro e w1 ⟨rfl, hB1⟩
  have x1 := hB0.trans (hB1.mono hB0.size)
  have b1 := b0.below hB1 b0.lt
  go_upto_region 4 with fail
  have g0 := b1.at 0 rfl; have g1 := b1.at 1 rfl; have g2 := b1.at 2 rfl
  have zb : w.heap.size < w1.heap.size := b1.lt
  have HIX : Hid (∀ W, RowKit.Below w1.heap.size w1 W → Sg 3 W edE p G.es) := fun W h => HIN.out.below (x1.trans (h.mono x1.size))
  have HA : Hid (accA G s = decide (0 < (endA G (upto G.n.toNat) (ltr s)).length)) := rfl
  have HUP := hidI (St.upto HV.out.n1)
  have HOK := hidI (wchk_okw HC.out)
  clear b0 hB0 hB1 b1
  generalize hL : endA G (upto G.n.toNat) (ltr s) = L at *
  have HL := hidI hL
  clear hL
  go_cut [4, 5] (fun s4 s5 wx => s4 = .bool (decide (0 < L.length)) ∧ s5 = .int .i64 0 ∧ RowKit.Below w1.heap.size w1 wx)
  case first =>
    go_region_held3 (fun w' => w'.cell? ⟨w.heap.size, 0, none⟩ = some (.int .i64 G.q) ∧ w'.cell? ⟨w.heap.size, 1, none⟩ = some (.int .i64 G.n) ∧ w'.cell? ⟨w.heap.size, 2, none⟩ = some (.slice p G.es.length c) ∧ RowKit.Below w1.heap.size w1 w')
      (first | (go_split_ands; refine ⟨?_, ?_, ?_, ?_⟩ <;> first | assumption | (go_keep; done) | exact below_drewN (RowKit.Below.refl _ _) 1 | exact (hBa.cell (Nat.lt_of_lt_of_le zb (RowKit.Below.size (by assumption)))).trans (by assumption) | exact (hBb.cell (Nat.lt_of_lt_of_le zb (RowKit.Below.size (by assumption)))).trans (by assumption) | exact RowKit.Below.trans (by assumption) (hBa.mono (RowKit.Below.size (by assumption))) | exact RowKit.Below.trans (by assumption) (hBb.mono (RowKit.Below.size (by assumption)))))
      (first
        | (go_at_call 38; go_split_ands; refine (lStates_any G p c _ HV.out).mono ?_; rintro e wA ⟨q, d, rfl, hsl, hBa⟩)
        | (go_at_call 37; go_split_ands; refine (lEnds_any G p c (upto G.n.toNat) q d s _ (HIX.out _ (by assumption)) hsl HV.out HUP.out HOK.out hl).mono ?_; rw [HL.out]; rintro e wB ⟨q3, d3, rfl, _, hBb⟩))
    all_goals
      go_wp2_with fail
      go_meet
      exact ⟨rfl, rfl, RowKit.Below.trans (by assumption) (hBb.mono (RowKit.Below.size (by assumption)))⟩
  case rest =>
    obtain ⟨rfl, rfl, hB2⟩ := hcut
    go_wp2
    go_ret2
    refine ⟨?_, x1.trans (hB2.mono x1.size)⟩
    rw [HA.out]; rfl
end Go.Proofs.Ytlgjhmenjfmpfaa
namespace Go.Proofs.Ytlgjhmenjfmpfaa
open Go.RowKit

theorem insE_lenC (x : Ed) : ∀ l : List Ed, (insE x l).length ≤ l.length + 1
  | [] => by simp [insE]
  | y :: l => by
    have := insE_lenC x l
    unfold insE
    split
    · simp
    · split
      · simp
      · simp only [List.length_cons]; omega
theorem normC_gen : ∀ (l a : List Ed), (l.foldl (fun a x => insE x a) a).length ≤ a.length + l.length
  | [], a => by simp
  | y :: l, a => by
    have h1 := normC_gen l (insE y a); have h2 := insE_lenC y a
    rw [List.foldl_cons, List.length_cons]; omega
theorem normC_len (l : List Ed) : (norm l).length ≤ l.length := by have := normC_gen l []; rw [List.length_nil] at this; unfold norm; omega
theorem chkG_norm {q n : Int} {l : List Ed} (h1 : 1 ≤ q) (h2 : q ≤ 256) (h3 : 0 ≤ n) (h4 : n ≤ 64) (h5 : l.length ≤ 1024) (h : ∀ x ∈ l, 0 ≤ x.f ∧ 0 ≤ x.l ∧ 0 ≤ x.t ∧ x.f < n ∧ x.t < n ∧ x.l < q) : chkG ⟨q, n, norm l⟩ = 0 :=
  chkG_ok.2 ⟨h1, h2, h3, h4, Nat.le_trans (normC_len l) h5, fun x hx => h x (mem_norm.1 hx), norm_srt l⟩
theorem makeA_same {q n : Int} {l m : List Ed} (h : ∀ x, x ∈ l ↔ x ∈ m) : makeA q n l = makeA q n m := by unfold makeA; rw [norm_congr h]

/-- An edge of a pair, if the pair behind it is one. -/
def mdB (A B : Int) (num : Int → Int → Int) (nx : Int → Int → Int → Int × Int) (a b l : Int) : List Ed :=
  if 0 ≤ (nx a b l).1 ∧ (nx a b l).1 < A ∧ 0 ≤ (nx a b l).2 ∧ (nx a b l).2 < B then [⟨num a b, l, num (nx a b l).1 (nx a b l).2⟩] else []
def md1 (A B : Int) (num : Int → Int → Int) (nx : Int → Int → Int → Int × Int) (a b : Int) (k : Nat) : List Ed := (upto k).flatMap (mdB A B num nx a b)
def md2 (A B : Int) (num : Int → Int → Int) (nx : Int → Int → Int → Int × Int) (a : Int) (k : Nat) : List Ed := (upto k).flatMap (fun b => md1 A B num nx a b 2)
def md3 (A B : Int) (num : Int → Int → Int) (nx : Int → Int → Int → Int × Int) (k : Nat) : List Ed := (upto k).flatMap (fun a => md2 A B num nx a B.toNat)
def mdA (A B : Int) (num : Int → Int → Int) (nx : Int → Int → Int → Int × Int) : List Ed := md3 A B num nx A.toNat
theorem mdB_go {A B : Int} {num : Int → Int → Int} {nx : Int → Int → Int → Int × Int} {a b l : Int} (h : 0 ≤ (nx a b l).1 ∧ (nx a b l).1 < A ∧ 0 ≤ (nx a b l).2 ∧ (nx a b l).2 < B) : mdB A B num nx a b l = [⟨num a b, l, num (nx a b l).1 (nx a b l).2⟩] := if_pos h
theorem mdB_stop {A B : Int} {num : Int → Int → Int} {nx : Int → Int → Int → Int × Int} {a b l : Int} (h : ¬ (0 ≤ (nx a b l).1 ∧ (nx a b l).1 < A ∧ 0 ≤ (nx a b l).2 ∧ (nx a b l).2 < B)) : mdB A B num nx a b l = [] := if_neg h
theorem mdB_len (A B : Int) (num : Int → Int → Int) (nx : Int → Int → Int → Int × Int) (a b l : Int) : (mdB A B num nx a b l).length ≤ 1 := by unfold mdB; split <;> simp
theorem flat_succ {α : Type} (f : Int → List α) (k : Nat) : (upto (k + 1)).flatMap f = (upto k).flatMap f ++ f k := by rw [upto_succ, List.flatMap_append]; simp
theorem md1_zero (A B : Int) (num : Int → Int → Int) (nx : Int → Int → Int → Int × Int) (a b : Int) : md1 A B num nx a b 0 = [] := rfl
theorem md2_zero (A B : Int) (num : Int → Int → Int) (nx : Int → Int → Int → Int × Int) (a : Int) : md2 A B num nx a 0 = [] := rfl
theorem md3_zero (A B : Int) (num : Int → Int → Int) (nx : Int → Int → Int → Int × Int) : md3 A B num nx 0 = [] := rfl
theorem md1_succ (A B : Int) (num : Int → Int → Int) (nx : Int → Int → Int → Int × Int) (a b : Int) (k : Nat) : md1 A B num nx a b (k + 1) = md1 A B num nx a b k ++ mdB A B num nx a b k := flat_succ _ k
theorem md2_succ (A B : Int) (num : Int → Int → Int) (nx : Int → Int → Int → Int × Int) (a : Int) (k : Nat) : md2 A B num nx a (k + 1) = md2 A B num nx a k ++ md1 A B num nx a k 2 := flat_succ _ k
theorem md3_succ (A B : Int) (num : Int → Int → Int) (nx : Int → Int → Int → Int × Int) (k : Nat) : md3 A B num nx (k + 1) = md3 A B num nx k ++ md2 A B num nx k B.toNat := flat_succ _ k
theorem flat_len {α : Type} (f : Int → List α) (m : Nat) (h : ∀ a, (f a).length ≤ m) : ∀ k, ((upto k).flatMap f).length ≤ m * k
  | 0 => by simp [upto]
  | k + 1 => by rw [flat_succ, List.length_append]; have h1 := flat_len f m h k; have h2 := h k; rw [Nat.mul_succ]; omega
theorem md1_len (A B : Int) (num : Int → Int → Int) (nx : Int → Int → Int → Int × Int) (a b : Int) (k : Nat) : (md1 A B num nx a b k).length ≤ k := by
  have := flat_len (mdB A B num nx a b) 1 (mdB_len A B num nx a b) k; unfold md1; omega
theorem md2_len (A B : Int) (num : Int → Int → Int) (nx : Int → Int → Int → Int × Int) (a : Int) (k : Nat) : (md2 A B num nx a k).length ≤ 2 * k :=
  flat_len (fun b => md1 A B num nx a b 2) 2 (fun b => md1_len A B num nx a b 2) k
theorem md3_len (A B : Int) (num : Int → Int → Int) (nx : Int → Int → Int → Int × Int) (k : Nat) : (md3 A B num nx k).length ≤ 2 * B.toNat * k :=
  flat_len (fun a => md2 A B num nx a B.toNat) _ (fun a => md2_len A B num nx a B.toNat) k
theorem mem_uptoC {k : Nat} {x : Int} : x ∈ upto k ↔ 0 ≤ x ∧ x < k := by
  simp only [upto, List.mem_map, List.mem_range]
  exact ⟨fun ⟨i, h, e⟩ => by omega, fun h => ⟨x.toNat, by omega, by omega⟩⟩
theorem mem_mdA {A B : Int} {num : Int → Int → Int} {nx : Int → Int → Int → Int × Int} {x : Ed} : x ∈ mdA A B num nx ↔ ∃ a b l, (0 ≤ a ∧ a < A) ∧ (0 ≤ b ∧ b < B) ∧ (0 ≤ l ∧ l < 2) ∧
    (0 ≤ (nx a b l).1 ∧ (nx a b l).1 < A ∧ 0 ≤ (nx a b l).2 ∧ (nx a b l).2 < B) ∧ x = ⟨num a b, l, num (nx a b l).1 (nx a b l).2⟩ := by
  unfold mdA md3 md2 md1
  simp only [List.mem_flatMap, mem_uptoC]
  constructor
  · rintro ⟨a, ha, b, hb, l, hl, hx⟩
    unfold mdB at hx
    split at hx
    · rename_i h
      exact ⟨a, b, l, by omega, by omega, by omega, h, by simpa using hx⟩
    · simp at hx
  · rintro ⟨a, b, l, ha, hb, hl, h, rfl⟩
    exact ⟨a, by omega, b, by omega, l, by omega, by rw [mdB_go h]; simp⟩
/-- The edges of the charge graph, of the null graph and of the second-order graph. -/
def numC (a _ : Int) : Int := a
def nxC (a _ l : Int) : Int × Int := (a + 2 * l - 1, 0)
def numN (v t : Int) : Int := 2 * v + t
def nxN (v t l : Int) : Int × Int := (v + 2 * (if t = 1 then 1 - l else l) - 1, 1 - t)
def numS (m c s : Int) : Int := c * (m + 1) + s
def nxS (h c s l : Int) : Int × Int := (c + (2 * l - 1), s + (c + (2 * l - 1)) - h)
def crgE (k : Nat) : List Ed := (upto k).flatMap (fun s => [⟨s, 1, s + 1⟩, ⟨s + 1, 0, s⟩])
def nulB (n v t : Int) : List Ed := (if v < n then [⟨2 * v + t, 1 - t, 2 * (v + 1) + 1 - t⟩] else []) ++ (if 0 < v then [⟨2 * v + t, t, 2 * (v - 1) + 1 - t⟩] else [])
def nul1 (n v : Int) (k : Nat) : List Ed := (upto k).flatMap (nulB n v)
def nulE (n : Int) (k : Nat) : List Ed := (upto k).flatMap (fun v => nul1 n v 2)
theorem crgE_zero : crgE 0 = [] := rfl
theorem crgE_succ (k : Nat) : crgE (k + 1) = crgE k ++ [⟨k, 1, (k : Int) + 1⟩, ⟨(k : Int) + 1, 0, k⟩] := flat_succ _ k
theorem crgE_len (k : Nat) : (crgE k).length ≤ 2 * k := flat_len _ 2 (fun _ => by simp) k
theorem nul1_zero (n v : Int) : nul1 n v 0 = [] := rfl
theorem nul1_succ (n v : Int) (k : Nat) : nul1 n v (k + 1) = nul1 n v k ++ nulB n v k := flat_succ _ k
theorem nulB_len (n v t : Int) : (nulB n v t).length ≤ 2 := by unfold nulB; split <;> split <;> simp
theorem nul1_len (n v : Int) (k : Nat) : (nul1 n v k).length ≤ 2 * k := flat_len _ 2 (nulB_len n v) k
theorem nulE_zero (n : Int) : nulE n 0 = [] := rfl
theorem nulE_succ (n : Int) (k : Nat) : nulE n (k + 1) = nulE n k ++ nul1 n k 2 := flat_succ _ k
theorem nulE_len (n : Int) (k : Nat) : (nulE n k).length ≤ 4 * k := flat_len _ 4 (fun v => nul1_len n v 2) k
theorem crg_same (n : Int) (h : 0 ≤ n) (x : Ed) : x ∈ mdA (n + 1) 1 numC nxC ↔ x ∈ crgE n.toNat := by
  rw [mem_mdA]
  unfold crgE
  simp only [List.mem_flatMap, mem_uptoC, nxC, numC]
  constructor
  · rintro ⟨a, b, l, ha, hb, hl, hc, rfl⟩
    rcases (show l = 0 ∨ l = 1 by omega) with rfl | rfl
    · refine ⟨a - 1, by omega, ?_⟩
      simp <;> omega
    · refine ⟨a, by omega, ?_⟩
      simp <;> omega
  · rintro ⟨s, hs, hx⟩
    simp only [List.mem_cons, List.not_mem_nil, or_false] at hx
    rcases hx with rfl | rfl
    · exact ⟨s, 0, 1, by omega, by omega, by omega, by omega, by simp <;> omega⟩
    · exact ⟨s + 1, 0, 0, by omega, by omega, by omega, by omega, by simp <;> omega⟩
theorem nul_same (n : Int) (h : 0 ≤ n) (x : Ed) : x ∈ mdA (n + 1) 2 numN nxN ↔ x ∈ nulE n (n + 1).toNat := by
  rw [mem_mdA]
  unfold nulE nul1
  simp only [List.mem_flatMap, mem_uptoC, nxN, numN, nulB]
  constructor
  · rintro ⟨a, b, l, ha, hb, hl, hc, rfl⟩
    refine ⟨a, by omega, b, by omega, ?_⟩
    rcases (show b = 0 ∨ b = 1 by omega) with rfl | rfl <;> rcases (show l = 0 ∨ l = 1 by omega) with rfl | rfl <;> simp at hc ⊢ <;> omega
  · rintro ⟨v, hv, t, ht, hx⟩
    rw [List.mem_append] at hx
    rcases hx with hx | hx
    · split at hx
      · simp only [List.mem_cons, List.not_mem_nil, or_false] at hx
        subst hx
        refine ⟨v, t, 1 - t, by omega, by omega, by omega, ?_, ?_⟩ <;> rcases (show t = 0 ∨ t = 1 by omega) with rfl | rfl <;> simp <;> omega
      · simp at hx
    · split at hx
      · simp only [List.mem_cons, List.not_mem_nil, or_false] at hx
        subst hx
        refine ⟨v, t, t, by omega, by omega, by omega, ?_, ?_⟩ <;> rcases (show t = 0 ∨ t = 1 by omega) with rfl | rfl <;> simp <;> omega
      · simp at hx
theorem mdA_len (A B : Int) (num : Int → Int → Int) (nx : Int → Int → Int → Int × Int) : (mdA A B num nx).length ≤ 2 * B.toNat * A.toNat := md3_len A B num nx A.toNat
/-- Graphs of pairs are valid. -/
theorem mdA_chk {A B : Int} {num : Int → Int → Int} {nx : Int → Int → Int → Int × Int} (h1 : 0 ≤ A) (h2 : 0 ≤ B) (h3 : A * B ≤ 64) (hn : ∀ a b, 0 ≤ a → a < A → 0 ≤ b → b < B → 0 ≤ num a b ∧ num a b < A * B) :
    chkG ⟨2, A * B, norm (mdA A B num nx)⟩ = 0 := by
  refine chkG_norm (by omega) (by omega) (Int.mul_nonneg h1 h2) h3 ?_ (fun x hx => ?_)
  · refine Nat.le_trans (mdA_len A B num nx) ?_
    have : ((2 * B.toNat * A.toNat : Nat) : Int) = 2 * (A * B) := by
      rw [Int.natCast_mul, Int.natCast_mul, Int.toNat_of_nonneg h1, Int.toNat_of_nonneg h2, Int.mul_assoc, Int.mul_comm B A]; rfl
    omega
  · obtain ⟨a, b, l, ha, hb, hl, hc, rfl⟩ := mem_mdA.1 hx
    have i1 := hn a b ha.1 ha.2 hb.1 hb.2
    have i2 := hn _ _ hc.1 hc.2.1 hc.2.2.1 hc.2.2.2
    exact ⟨i1.1, hl.1, i2.1, i1.2, i2.2, hl.2⟩
end Go.Proofs.Ytlgjhmenjfmpfaa
namespace Go.Proofs.Ytlgjhmenjfmpfaa
open Go.RowKit Go.Sort Go.Shelf Go.Lib

theorem sg_box {w : World} {B : Nat} {x y : Int} {q : Option Addr} {n c : Nat} {p : Option Addr} {l : List Ed} (hb : VRow w B 24 [.int .i64 x, .int .i64 y, .slice q n c]) (h : Sg 3 w edE p l) (i : Nat) (v : Value) : Sg 3 (w.setCell ⟨B, i, none⟩ v) edE p l := by
  rcases h with h | ⟨b, off, hp, hlt, hc⟩
  · exact .inl h
  · rcases l with _ | ⟨e, l⟩
    · exact .inl rfl
    · have hne : B ≠ b := by
        intro he
        subst he
        have h2 := hc 0 (by simp) 2 (by omega)
        rw [hb.cell] at h2
        rcases off with _ | off
        · simp [edE] at h2
        · simp [edE] at h2
      exact .inr ⟨b, off, hp, by rw [World.size_setCell]; exact hlt, fun i hi j hj => (World.cell?_setCell_far _ _ _ _ hne).trans (hc i hi j hj)⟩
theorem own_after {w : World} {B B' e n : Nat} {v : Value} {xs : List Value} (h : w.ownsRow B' e 3 v n xs) (hB : B ≤ B') : w.ownsRow B e 3 v n xs := ⟨h.1, h.2.imp id (fun ⟨g, cap, cur, a, b, z⟩ => ⟨g, cap, cur, a, Nat.le_trans hB b, z⟩)⟩

/-- What a function value for the numbers of pairs gives. -/
def NumAt (A B : Int) (num : Int → Int → Int) (g : Nat) (lb : Array Value) (w : World) : Prop :=
  ∀ (W : World) (a b : Int), RowKit.Below w.heap.size w W → 0 ≤ a → a < A → 0 ≤ b → b < B → Calls Try.prog g (#[.int .i64 a, .int .i64 b] ++ lb) W fun e w' => e = .returned (.int .i64 (num a b)) ∧ Dr W w'
/-- What a function value for the next pairs gives. -/
def NxtAt (A B : Int) (nx : Int → Int → Int → Int × Int) (g : Nat) (lb : Array Value) (w : World) : Prop :=
  ∀ (W : World) (a b l : Int), RowKit.Below w.heap.size w W → 0 ≤ a → a < A → 0 ≤ b → b < B → 0 ≤ l → l < 2 → Calls Try.prog g (#[.int .i64 a, .int .i64 b, .int .i64 l] ++ lb) W fun e w' => e = .returned (.tuple #[.int .i64 (nx a b l).1, .int .i64 (nx a b l).2]) ∧ Dr W w'

set_option maxRecDepth 100000 in
set_option maxHeartbeats 4000000 in
theorem cMade_any (A B : Int) (num : Int → Int → Int) (nx : Int → Int → Int → Int × Int) (g1 g2 : Nat) (lb1 lb2 : Array Value) (w : World) (hA0 : 1 ≤ A) (hA1 : A ≤ 64) (hB0 : 1 ≤ B) (hB1 : B ≤ 64)
    (eg1 : ∀ args w, (callFunc g1 args).run Try.prog w = .ok (.enter g1 args) w) (eg2 : ∀ args w, (callFunc g2 args).run Try.prog w = .ok (.enter g2 args) w) (hn : NumAt A B num g1 lb1 w) (hx : NxtAt A B nx g2 lb2 w) :
    Calls Try.prog 21 #[.int .i64 A, .int .i64 B, .func (.func g1) #[] lb1, .func (.func g2) #[] lb2] w (RetGo (makeA 2 (A * B) (mdA A B num nx)).1 (makeA 2 (A * B) (mdA A B num nx)).2 w) := by
  have HNU := hidI hn; have HNX := hidI hx
  clear hn hx
  obtain ⟨i0, hi0, hz0, hz1, hz2⟩ := info_parts infoE
  obtain ⟨w0, hw0⟩ : ∃ w0, w0 = w.alloc (.cells #[.int .i64 0, .int .i64 0, .slice none 0 0] 24) := ⟨_, rfl⟩
  have b0 : VRow w0 w.heap.size 24 [.int .i64 0, .int .i64 0, .slice none 0 0] := by subst hw0; exact VRow.new w _ _
  have hW0 : RowKit.Below w.heap.size w w0 := by subst hw0; exact (RowKit.Below.refl _ _).alloc (Nat.le_refl _) _
  have hlt0 : w.heap.size < w0.heap.size := b0.lt
  have hsz0 := hW0.size
  obtain ⟨M, hM⟩ : ∃ M : Nat, (M : Int) = A := ⟨A.toNat, by omega⟩
  obtain ⟨N, hN⟩ : ∃ N : Nat, (N : Int) = B := ⟨B.toNat, by omega⟩
  obtain ⟨x, hx⟩ : ∃ x, makeA 2 (A * B) (mdA A B num nx) = x := ⟨_, rfl⟩
  rw [hx]
  obtain ⟨R, k⟩ := x
  have HMD : Hid (makeA 2 (A * B) (md3 A B num nx M) = (R, k)) := by rw [Hid, ← hx]; unfold mdA; rw [← hM, Int.toNat_natCast]
  clear hx
  have HNB : Hid (B.toNat = N) := by rw [Hid, ← hN, Int.toNat_natCast]
  go_enter Try.func21, Try.ntmps21
  go_wp2
  rw [← hw0]
  clear hw0
  go_loopw [10, 17] (fun lv iv wr => ∃ k : Nat, k ≤ M ∧ iv = .int .i64 k ∧ (md3 A B num nx k).length ≤ 128 * k ∧ wr.ownsRow w0.heap.size 47 3 lv (md3 A B num nx k).length (cat (md3 A B num nx k)) ∧ RowKit.Below w0.heap.size w0 wr) (fun _ iv _ => M - (intOf iv).toNat)
  case atStart => exact ⟨0, by omega, rfl, by rw [md3_zero]; simp, World.ownsRow_nil _ _ _ _, RowKit.Below.refl _ _⟩
  case round =>
    obtain ⟨a, ha, rfl, hL3, hown, hB⟩ := hrel
    by_cases hlt : a < M
    · have hltA : (a : Int) < A := by omega
      have H3S : Hid (md3 A B num nx (a + 1) = md3 A B num nx a ++ md2 A B num nx a N) := by rw [Hid, md3_succ, HNB.out]
      generalize md3 A B num nx a = L3 at *
      obtain ⟨wo, rfl⟩ : ∃ wo : World, wo = wr := ⟨_, rfl⟩
      go_wp2
      go_loopw [10, 21] (fun lv iv wr => ∃ k : Nat, k ≤ N ∧ iv = .int .i64 k ∧ (L3 ++ md2 A B num nx a k).length ≤ 128 * a + 2 * k ∧ wr.ownsRow w0.heap.size 47 3 lv (L3 ++ md2 A B num nx a k).length (cat (L3 ++ md2 A B num nx a k)) ∧ RowKit.Below w0.heap.size w0 wr) (fun _ iv _ => N - (intOf iv).toNat)
      case atStart => exact ⟨0, by omega, rfl, by rw [md2_zero, List.append_nil]; omega, by rw [md2_zero, List.append_nil]; exact hown, hB⟩
      case round =>
        clear hown hB hL3
        obtain ⟨b, hb, rfl, hL2, hown, hB⟩ := hrel
        by_cases hltb : b < N
        · have hltB : (b : Int) < B := by omega
          have H2S : Hid (L3 ++ md2 A B num nx a (b + 1) = (L3 ++ md2 A B num nx a b) ++ md1 A B num nx a b 2) := by rw [Hid, md2_succ, List.append_assoc]
          generalize L3 ++ md2 A B num nx a b = L2 at *
          obtain ⟨wp, rfl⟩ : ∃ wp : World, wp = wr := ⟨_, rfl⟩
          go_wp2
          go_loopw [10, 24] (fun lv iv wr => ∃ k : Nat, k ≤ 2 ∧ iv = .int .i64 k ∧ (L2 ++ md1 A B num nx a b k).length ≤ 128 * a + 2 * b + k ∧ wr.ownsRow w0.heap.size 47 3 lv (L2 ++ md1 A B num nx a b k).length (cat (L2 ++ md1 A B num nx a b k)) ∧ RowKit.Below w0.heap.size w0 wr) (fun _ iv _ => 2 - (intOf iv).toNat)
          case atStart => exact ⟨0, by omega, rfl, by rw [md1_zero, List.append_nil]; omega, by rw [md1_zero, List.append_nil]; exact hown, hB⟩
          case round =>
            clear hown hB hL2
            obtain ⟨l, hl, rfl, hL1, hown, hB⟩ := hrel
            by_cases hltl : l < 2
            · have hl2 : (l : Int) < 2 := by omega
              have H1S : Hid (L2 ++ md1 A B num nx a b (l + 1) = (L2 ++ md1 A B num nx a b l) ++ mdB A B num nx a b l) := by rw [Hid, md1_succ, List.append_assoc]
              have HB1 := hidI (@mdB_go A B num nx a b l); have HB2 := hidI (@mdB_stop A B num nx a b l)
              have HCX := hidI (HNX.out wr a b l (hW0.trans (hB.mono hsz0)) (by omega) hltA (by omega) hltB (by omega) hl2)
              have HCN := hidI (fun W h => HNU.out W a b h (by omega) hltA (by omega) hltB)
              generalize L2 ++ md1 A B num nx a b l = L1 at *
              generalize nx a b l = cd at *
              obtain ⟨c, d⟩ := cd
              obtain ⟨wq, rfl⟩ : ∃ wq : World, wq = wr := ⟨_, rfl⟩
              have HIN := hidI (⟨hltA, hltB, hl2⟩ : (a : Int) < A ∧ (b : Int) < B ∧ (l : Int) < 2)
              clear hltA hltB hl2
              go_wp2_with fail
              go_at_fn g2
              refine HCX.out.mono ?_
              rintro e w1 ⟨rfl, hD⟩
              have hBw := hB.trans (hD.below _)
              have hownw := hown.dr hD
              clear hD hB hown
              by_cases hm : 0 ≤ c ∧ c < A ∧ 0 ≤ d ∧ d < B
              · have H1E := hidI (HB1.out hm)
                obtain ⟨hc0, hcA, hd0, hdB⟩ := hm
                have HY1 := hidI (HCN.out w1 (hW0.trans (hBw.mono hsz0)))
                have HCM := hidI (fun W h => HNU.out W c d h hc0 hcA hd0 hdB)
                generalize num a b = na at *
                generalize num c d = nc at *
                go_wp2_with fail
                go_at_fn g1
                refine HY1.out.mono ?_
                rintro e w2 ⟨rfl, hD2⟩
                have hB2 := hBw.trans (hD2.below _)
                have hown2 := hownw.dr hD2
                have HY2 := hidI (HCM.out w2 (hW0.trans (hB2.mono hsz0)))
                clear hBw hownw hD2
                go_wp2_with fail
                go_at_fn g1
                refine HY2.out.mono ?_
                rintro e w3 ⟨rfl, hD3⟩
                have hB3 := hB2.trans (hD3.below _)
                have hown3 := hown2.dr hD3
                clear hB2 hown2 hD3
                have hszw := hB3.size
                have hnew := cell_new3 w3 ⟨na, (l : Int), nc⟩ 47 w3.heap.size rfl
                have hownA := hown3.alloc (.cells (edE ⟨na, (l : Int), nc⟩).toArray 47)
                have hBA := hB3.alloc hB3.size (.cells (edE ⟨na, (l : Int), nc⟩).toArray 47)
                have hne := fun j e => (hown3.lt j e).1
                clear hc0 hcA hd0 hdB
                go_wp2_with (at_builtin; refine wpList_append_own _ rfl _ _ 22 rfl w0.heap.size 47 i0 _ 3 24 Try.underlying22 hi0 hz0 hz1 hz2 rfl (by decide) _ _ _ rfl hownA ⟨w3.heap.size, 0, none⟩ 1 1 (cat [⟨na, (l : Int), nc⟩]) rfl rfl hnew (cat_one _) (by simp [maxLen]; omega) (by omega) (by rw [World.size_alloc]; omega) ?_; intro v' w4 hown' hgrow _; rw [← cat_app] at hown')
                have hBf := hBA.grown hgrow (Nat.le_trans hszw (by simp)) hne
                go_roundw
                case rel =>
                  refine ⟨l + 1, by omega, by go_num, ?_, ?_, hBf⟩
                  · rw [H1S.out, H1E.out, List.length_append, List.length_singleton]; omega
                  · rw [H1S.out, H1E.out]; exact own_conv hown' rfl (Nat.le_refl _)
                case measure => simp [intOf]; omega
              · have H1E : Hid (L2 ++ md1 A B num nx a b (l + 1) = L1) := by rw [Hid, H1S.out, HB2.out hm, List.append_nil]
                have hor : decide (0 ≤ c) = false ∨ (0 ≤ c ∧ decide (c < A) = false) ∨ (0 ≤ c ∧ c < A ∧ decide (0 ≤ d) = false) ∨ (0 ≤ c ∧ c < A ∧ 0 ≤ d ∧ decide (d < B) = false) := by
                  by_cases h1 : 0 ≤ c
                  · by_cases h2 : c < A
                    · by_cases h3 : 0 ≤ d
                      · exact .inr (.inr (.inr ⟨h1, h2, h3, decide_eq_false (fun h4 => hm ⟨h1, h2, h3, h4⟩)⟩))
                      · exact .inr (.inr (.inl ⟨h1, h2, decide_eq_false h3⟩))
                    · exact .inr (.inl ⟨h1, decide_eq_false h2⟩)
                  · exact .inl (decide_eq_false h1)
                clear hm HB1 HB2
                rcases hor with h1 | ⟨h1, h2⟩ | ⟨h1, h2, h3⟩ | ⟨h1, h2, h3, h4⟩
                all_goals
                  go_wp2_with fail
                  go_roundw
                  case rel => exact ⟨l + 1, by omega, by go_num, by rw [H1E.out]; omega, by rw [H1E.out]; exact hownw, hBw⟩
                  case measure => simp [intOf]; omega
            · have HL : Hid (l = 2) := by unfold Hid; omega
              have hl2 : ¬ (l : Int) < 2 := by omega
              have HR : Hid (L2 ++ md1 A B num nx a b l = L3 ++ md2 A B num nx a (b + 1)) := by rw [Hid, H2S.out, HL.out]
              go_wp2
              go_roundw
              case rel => exact ⟨b + 1, by omega, by go_num, by rw [← HR.out]; omega, by rw [← HR.out]; exact hown, hB⟩
              case measure => simp [intOf]; omega
        · obtain rfl : b = N := by omega
          have hbB : ¬ (b : Int) < B := by omega
          go_wp2
          go_roundw
          case rel => exact ⟨a + 1, by omega, by go_num, by rw [H3S.out]; omega, by rw [H3S.out]; exact hown, hB⟩
          case measure => simp [intOf]; omega
    · obtain rfl : a = M := by omega
      have haA : ¬ (a : Int) < A := by omega
      generalize md3 A B num nx a = L at *
      have hAB0 : 0 ≤ A * B := Int.mul_nonneg (by omega) (by omega)
      have hAB1 : A * B ≤ 64 * 64 := Int.mul_le_mul hA1 hB1 (by omega) (by omega)
      obtain ⟨p, c, rfl, hsg, _⟩ := own_sg hown
      have br := b0.below hB b0.lt
      have xr := hW0.trans (hB.mono hsz0)
      generalize hAB : A * B = K at *
      go_wp2_with fail
      refine (gMake_own 2 K L p c wr hsg (by omega)).mono ?_
      rw [HMD.out]
      rintro e w4 ⟨p4, m4, c4, rfl, hown4, hB4⟩
      have x4 := xr.trans (hB4.mono xr.size)
      have e14 := br.below hB4 br.lt
      have hz3 : w.heap.size < wr.heap.size := br.lt
      have j0 := e14.at 0 rfl; have j1 := e14.at 1 rfl; have j2 := e14.at 2 rfl
      have z0 := e14.frozen 0; have z1 := e14.frozen 1; have z2 := e14.frozen 2
      go_wp2
      have r6 := VRow.set (i := 2) (.slice p4 m4 c4) (VRow.set (i := 1) (.int .i64 R.n) (VRow.set (i := 0) (.int .i64 R.q) e14))
      have y0 := r6.at 0 rfl; have y1 := r6.at 1 rfl; have y2 := r6.at 2 rfl
      have o6 := ownsRow_setCell_below (a := (⟨w.heap.size, 2, none⟩ : Addr)) (ownsRow_setCell_below (a := (⟨w.heap.size, 1, none⟩ : Addr)) (ownsRow_setCell_below (a := (⟨w.heap.size, 0, none⟩ : Addr)) hown4 hz3 (.int .i64 R.q)) hz3 (.int .i64 R.n)) hz3 (.slice p4 m4 c4)
      have x6 : RowKit.Below w.heap.size w (((w4.setCell (⟨w.heap.size, 0, none⟩ : Addr) (.int .i64 R.q)).setCell (⟨w.heap.size, 1, none⟩ : Addr) (.int .i64 R.n)).setCell (⟨w.heap.size, 2, none⟩ : Addr) (.slice p4 m4 c4)) :=
        ((x4.setCell (Nat.le_refl _) _).setCell (Nat.le_refl _) _).setCell (Nat.le_refl _) _
      refine bodyPost_ret (v := .tuple #[.agg #[.int .i64 R.q, .int .i64 R.n, .slice p4 m4 c4], .int .i64 k]) (by simp [results, Try.results21, go_sem, y0, y1, y2]) rfl ?_
      exact ⟨p4, m4, c4, rfl, own_conv o6 rfl (by omega), x6⟩
end Go.Proofs.Ytlgjhmenjfmpfaa
namespace Go.Proofs.Ytlgjhmenjfmpfaa
open Go.RowKit Go.ChangeMaps Go.MapKept Go.WideShapes Go.Maps

/-- The keys of a kind, as they lie in memory. -/
structure KeyBy {α : Type} (P : Program) (k : TypeId) (kv : α → Value) (ok : α → Prop) : Prop where
  law : Keyed P k
  reads : ∀ a, ok a → ∃ l, keyOf P k (kv a) = some l
  inj : ∀ a b, ok a → ok b → kv a = kv b → a = b

/-- Block b is a map that answers as f does. -/
def Mp {α β : Type} (kv : α → Value) (ok : α → Prop) (vv : β → Value) (w : World) (b : Nat) (f : α → Option β) : Prop :=
  ∃ es clock, w.heap[b]? = some (.map es clock) ∧ es.toList.Pairwise (fun x y => x.key ≠ y.key) ∧
    (∀ e ∈ es.toList, ∃ a x, e.key = kv a ∧ ok a ∧ e.val = vv x ∧ f a = some x) ∧ (∀ a x, f a = some x → ∃ e ∈ es.toList, e.key = kv a)

section
variable {α β : Type} {kv : α → Value} {ok : α → Prop} {vv : β → Value} {w : World} {b : Nat} {f : α → Option β} {P : Program} {k : TypeId}

theorem Mp.lt (h : Mp kv ok vv w b f) : b < w.heap.size := by
  obtain ⟨es, clock, hb, _⟩ := h
  exact (Array.getElem?_eq_some_iff.1 hb).1
theorem Mp.same {w' : World} (h : Mp kv ok vv w b f) (hb : w'.heap[b]? = w.heap[b]?) : Mp kv ok vv w' b f := by
  obtain ⟨es, clock, hb', r⟩ := h
  exact ⟨es, clock, hb.trans hb', r⟩
theorem Mp.alloc (h : Mp kv ok vv w b f) (o : Obj) : Mp kv ok vv (w.alloc o) b f := h.same (Below.heap_alloc w o b h.lt)
theorem Mp.drewN (h : Mp kv ok vv w b f) (n : Nat) : Mp kv ok vv (w.drewN n) b f := h
theorem Mp.drew (h : Mp kv ok vv w b f) : Mp kv ok vv w.drew b f := h
theorem Mp.below {w' : World} {B : Nat} (h : Mp kv ok vv w b f) (hB : Below B w w') (hb : b < B) : Mp kv ok vv w' b f := h.same (hB.block b hb)
theorem Mp.kept {w' : World} {row : Option Nat} (h : Mp kv ok vv w b f) (hg : w.grownBy w' row) (hne : some b ≠ row) : Mp kv ok vv w' b f :=
  h.same (hg.block b h.lt hne)
theorem Mp.setCell (h : Mp kv ok vv w b f) {a : Addr} (ha : b ≠ a.block) (u : Value) : Mp kv ok vv (w.setCell a u) b f := h.same (Below.heap_setCell _ _ _ _ ha)
theorem Mp.made (w : World) : Mp kv ok vv (w.alloc (.map #[] 0)) w.heap.size (fun _ => none) :=
  ⟨#[], 0, heap_alloc_new w _, by simp, by simp, by simp⟩
theorem Mp.congr {g : α → Option β} (h : Mp kv ok vv w b f) (e : ∀ a, f a = g a) : Mp kv ok vv w b g := by
  have : f = g := funext e
  exact this ▸ h

theorem Mp.look {t e : TypeId} (h : Mp kv ok vv w b f) (K : KeyBy P k kv ok) (ht : P.underlying t = some (.map k e)) {z : Value} (hz : (zeroValue e).run P w = .ok z w) (a : α) (ha : ok a) (c : Bool) :
    (Instr.lookup t (.map (some b)) (kv a) c).run P w = .ok (match f a with | some x => if c then .tuple #[vv x, .bool true] else vv x | none => if c then .tuple #[z, .bool false] else z) w := by
  obtain ⟨es, clock, hb, hd, hr, hc⟩ := h
  obtain ⟨kl, hkey⟩ := K.reads a ha
  have hkeys : ∀ e ∈ es.toList, ∃ l, keyOf P k e.key = some l := fun e he => by
    obtain ⟨a', x, h1, h2, _⟩ := hr e he
    rw [h1]; exact K.reads a' h2
  rcases K.law.find w hkey es.toList hkeys with ⟨h1, h2⟩ | ⟨j, e0, h1, h2, h3⟩
  · have hf : f a = none := by
      cases hfa : f a with
      | none => rfl
      | some x => obtain ⟨e, he, hk⟩ := hc a x hfa; exact absurd hk (h2 e he)
    rw [hf]
    simp [Instr.lookup, run_underlying ht, MapKept.run_getObj_map hb, K.law.check w _ hkey, h1, hz, Result.andThen]
  · obtain ⟨a', x, g1, g2, g3, g4⟩ := hr e0 (List.mem_of_getElem? h2)
    obtain rfl := K.inj a' a g2 ha (g1.symm.trans h3)
    rw [g4]
    simp [Instr.lookup, run_underlying ht, MapKept.run_getObj_map hb, K.law.check w _ hkey, h1, g3, Result.andThen]

/-- One key more, or another value at it. -/
def mset [DecidableEq α] (f : α → Option β) (a : α) (x : β) : α → Option β := fun a' => if a' = a then some x else f a'
theorem mset_at [DecidableEq α] (f : α → Option β) (a : α) (x : β) : mset f a x a = some x := by simp [mset]
theorem mset_ne [DecidableEq α] (f : α → Option β) (a a' : α) (x : β) (h : a' ≠ a) : mset f a x a' = f a' := by simp [mset, h]

theorem Mp.store [DecidableEq α] {t e : TypeId} (h : Mp kv ok vv w b f) (K : KeyBy P k kv ok) (ht : P.underlying t = some (.map k e)) (a : α) (ha : ok a) (x : β) :
    ∃ w', (Instr.mapUpdate t (.map (some b)) (kv a) (vv x)).run P w = .ok () w' ∧ Mp kv ok vv w' b (mset f a x) ∧ w.mapTurned w' b := by
  obtain ⟨es, clock, hb, hd, hr, hc⟩ := h
  obtain ⟨kl, hkey⟩ := K.reads a ha
  have hkeys : ∀ e ∈ es.toList, ∃ l, keyOf P k e.key = some l := fun e he => by
    obtain ⟨a', x, h1, h2, _⟩ := hr e he
    rw [h1]; exact K.reads a' h2
  rcases K.law.find w hkey es.toList hkeys with ⟨h1, h2⟩ | ⟨j, e0, h1, h2, h3⟩
  · refine ⟨_, ?_, ⟨es.push ⟨kv a, vv x, clock⟩, clock + 1, heap_setBlock_same hb _, ?_, ?_, ?_⟩, ⟨es, clock, _, _, hb, rfl⟩⟩
    · simp [Instr.mapUpdate, run_underlying ht, MapKept.run_getObj_map hb, K.law.check w false hkey, h1, MapKept.run_setObj_map _ hb, Result.andThen, setBlock]
    · rw [Array.toList_push, List.pairwise_append]
      refine ⟨hd, by simp, fun y hy z hz => ?_⟩
      simp only [List.mem_singleton] at hz; subst hz
      exact h2 y hy
    · intro y hy
      rw [Array.toList_push, List.mem_append, List.mem_singleton] at hy
      rcases hy with hy | rfl
      · obtain ⟨a', x', g1, g2, g3, g4⟩ := hr y hy
        refine ⟨a', x', g1, g2, g3, ?_⟩
        rw [mset_ne _ _ _ _ (fun e => h2 y hy (by rw [g1, e]))]; exact g4
      · exact ⟨a, x, rfl, ha, rfl, mset_at _ _ _⟩
    · intro a' x' hfa
      by_cases e : a' = a
      · subst e; exact ⟨⟨kv a', vv x, clock⟩, by simp, rfl⟩
      · rw [mset_ne _ _ _ _ e] at hfa
        obtain ⟨y, hy, hk⟩ := hc a' x' hfa
        exact ⟨y, by simp [Array.toList_push]; exact .inl (by simpa using hy), hk⟩
  · have hj : es[j]? = some e0 := by simpa using h2
    have hjl : j < es.toList.length := (List.getElem?_eq_some_iff.1 h2).1
    have hlist : (es.modify j (fun e' => { e' with key := kv a, val := vv x })).toList = es.toList.set j { e0 with key := kv a, val := vv x } := by rw [Array.toList_modify, modify_eq_set _ _ _ _ h2]
    have hkm : (es.toList.set j { e0 with key := kv a, val := vv x }).map MapEntry.key = es.toList.map MapEntry.key := by
      rw [List.map_set]
      apply List.ext_getElem?
      intro i
      rw [List.getElem?_set]
      split
      · rename_i hi; subst hi
        rw [if_pos (by simpa using hjl), List.getElem?_map, h2]
        simp [h3]
      · rfl
    have hd' : (es.toList.set j { e0 with key := kv a, val := vv x }).Pairwise (fun x y => x.key ≠ y.key) := by
      have hn : (es.toList.map MapEntry.key).Pairwise (· ≠ ·) := List.pairwise_map.2 hd
      rw [← hkm] at hn
      exact List.pairwise_map.1 hn
    refine ⟨_, ?_, ⟨es.modify j (fun e' => { e' with key := kv a, val := vv x }), clock, heap_setBlock_same hb _, ?_, ?_, ?_⟩, ⟨es, clock, _, _, hb, rfl⟩⟩
    · have hst := K.law.stays w hkey
      simp [Instr.mapUpdate, run_underlying ht, MapKept.run_getObj_map hb, K.law.check w false hkey, h1, hj, h3, hst, MapKept.run_setObj_map _ hb, Result.andThen, setBlock]
    · rw [hlist]; exact hd'
    · intro y hy
      rw [hlist] at hy
      obtain ⟨i, hi, hyi⟩ := List.mem_iff_getElem.1 hy
      rw [List.getElem_set] at hyi
      split at hyi
      · subst hyi; exact ⟨a, x, rfl, ha, rfl, mset_at _ _ _⟩
      · rename_i hne
        have hi' : i < es.toList.length := by simpa using hi
        have hym : y ∈ es.toList := by rw [← hyi]; exact List.getElem_mem _
        obtain ⟨a', x', g1, g2, g3, g4⟩ := hr y hym
        refine ⟨a', x', g1, g2, g3, ?_⟩
        rw [mset_ne]
        · exact g4
        · rintro rfl
          have e1 : es.toList[i].key = es.toList[j].key := by
            rw [hyi, g1]
            have : es.toList[j] = e0 := by have := List.getElem?_eq_getElem hjl; rw [h2] at this; exact (Option.some.inj this).symm
            rw [this, h3]
          rcases Nat.lt_or_gt_of_ne (fun e => hne e) with hlt | hlt
          · exact (List.pairwise_iff_getElem.1 hd j i hjl hi' hlt) e1.symm
          · exact (List.pairwise_iff_getElem.1 hd i j hi' hjl hlt) e1
    · intro a' x' hfa
      rw [hlist]
      by_cases e : a' = a
      · subst e
        exact ⟨_, List.mem_of_getElem? (by rw [List.getElem?_set_self hjl]), rfl⟩
      · rw [mset_ne _ _ _ _ e] at hfa
        obtain ⟨y, hy, hk⟩ := hc a' x' hfa
        have : y.key ∈ (es.toList.set j { e0 with key := kv a, val := vv x }).map MapEntry.key := by rw [hkm]; exact List.mem_map_of_mem hy
        obtain ⟨y', hy', e'⟩ := List.mem_map.1 this
        exact ⟨y', hy', e'.trans hk⟩

/-! ### at the operation, for the walk -/
theorem wpList_lookup_mp {ops : Array Oper} {rest : List Oper} {o : Oper} {a : Act} {Q : Exit → Act → World → Prop}
    (hg : o.guard = none) (m x : Operand) (t : TypeId) (c : Bool) (hop : o.op = Op.lookup t m x c) (e : TypeId) (K : KeyBy P k kv ok) (ht : P.underlying t = some (.map k e)) (z : Value) (hz : (zeroValue e).run P w = .ok z w)
    (b : Nat) (f : α → Option β) (hm : a.eval m = .map (some b)) (hown : Mp kv ok vv w b f) (key : α) (hx : a.eval x = kv key) (hkey : ok key) (r : Value)
    (hr : (match f key with | some x => if c then .tuple #[vv x, .bool true] else vv x | none => if c then .tuple #[z, .bool false] else z) = r)
    (hK : wpList P ops Q rest (a.put o.dst r) w) : wpList P ops Q (o :: rest) a w := by
  refine wpList_plain hg fun K' hK' => ?_
  have hrun := hown.look K ht hz key hkey c
  rw [hr] at hrun
  unfold Oper.wp
  simp [execOp, hop, hm, hx, hrun, Result.andThen]
  exact hK' _ _ hK
theorem wpList_update_mp [DecidableEq α] {ops : Array Oper} {rest : List Oper} {o : Oper} {a : Act} {Q : Exit → Act → World → Prop}
    (hg : o.guard = none) (m x v : Operand) (t : TypeId) (hop : o.op = Op.mapUpdate t m x v) (e : TypeId) (K : KeyBy P k kv ok) (ht : P.underlying t = some (.map k e))
    (b : Nat) (f : α → Option β) (hm : a.eval m = .map (some b)) (hown : Mp kv ok vv w b f) (key : α) (hx : a.eval x = kv key) (hkey : ok key) (val : β) (hv : a.eval v = vv val)
    (hK : ∀ w', Mp kv ok vv w' b (mset f key val) → w.mapTurned w' b → wpList P ops Q rest (a.put o.dst undef) w') : wpList P ops Q (o :: rest) a w := by
  refine wpList_plain hg fun K' hK' => ?_
  obtain ⟨w', hrun, r1, r2⟩ := hown.store K ht key hkey val
  unfold Oper.wp
  simp [execOp, hop, hm, hx, hv, hrun, Result.andThen]
  exact hK' _ _ (hK w' r1 r2)
variable {F : Fence} {nF : Nat}
theorem wpListIn_lookup_mp {ops : Array Oper} {rest : List Oper} {o : Oper} {a : Act} {Q : Exit → Act → World → Prop}
    (hg : o.guard = none) (m x : Operand) (t : TypeId) (c : Bool) (hop : o.op = Op.lookup t m x c) (e : TypeId) (K : KeyBy P k kv ok) (ht : P.underlying t = some (.map k e)) (z : Value) (hz : (zeroValue e).run P w = .ok z w)
    (b : Nat) (f : α → Option β) (hm : a.eval m = .map (some b)) (hown : Mp kv ok vv w b f) (key : α) (hx : a.eval x = kv key) (hkey : ok key) (r : Value)
    (hr : (match f key with | some x => if c then .tuple #[vv x, .bool true] else vv x | none => if c then .tuple #[z, .bool false] else z) = r)
    (hK : wpListIn F nF P ops Q rest (a.put o.dst r) w) : wpListIn F nF P ops Q (o :: rest) a w := by
  refine wpListIn_plain hg fun K' hK' => ?_
  have hrun := hown.look K ht hz key hkey c
  rw [hr] at hrun
  unfold Oper.wpIn
  refine ⟨by simp [Oper.about, hop], ?_⟩
  rw [Oper.semAt_plain F _ _ (by rw [hop]; intro c hc'; cases hc')]
  simp [execOp, hop, hm, hx, hrun, Result.andThen]
  exact hK' _ _ hK
theorem wpListIn_update_mp [DecidableEq α] {ops : Array Oper} {rest : List Oper} {o : Oper} {a : Act} {Q : Exit → Act → World → Prop}
    (hg : o.guard = none) (m x v : Operand) (t : TypeId) (hop : o.op = Op.mapUpdate t m x v) (e : TypeId) (K : KeyBy P k kv ok) (ht : P.underlying t = some (.map k e))
    (b : Nat) (f : α → Option β) (hm : a.eval m = .map (some b)) (hown : Mp kv ok vv w b f) (key : α) (hx : a.eval x = kv key) (hkey : ok key) (val : β) (hv : a.eval v = vv val)
    (hK : ∀ w', Mp kv ok vv w' b (mset f key val) → w.mapTurned w' b → wpListIn F nF P ops Q rest (a.put o.dst undef) w') : wpListIn F nF P ops Q (o :: rest) a w := by
  refine wpListIn_plain hg fun K' hK' => ?_
  obtain ⟨w', hrun, r1, r2⟩ := hown.store K ht key hkey val
  unfold Oper.wpIn
  refine ⟨by simp [Oper.about, hop], ?_⟩
  rw [Oper.semAt_plain F _ _ (by rw [hop]; intro c hc'; cases hc')]
  simp [execOp, hop, hm, hx, hv, hrun, Result.andThen]
  exact hK' _ _ (hK w' r1 r2)
end
end Go.Proofs.Ytlgjhmenjfmpfaa
namespace Go.Proofs.Ytlgjhmenjfmpfaa
open Go.RowKit Go.Sort Go.Shelf Go.Lib

def okI (a : Int) : Prop := (Lit.int .i64 a).wf = true
theorem okI_of {a : Int} (h0 : 0 ≤ a) (h1 : a ≤ 1000000) : okI a := WalkArith.wf_i64 (by omega)
theorem keyI : KeyBy Try.prog 3 (Value.int .i64) okI where
  law := Maps.int_keyed Try.underlying3
  reads := fun a ha => ⟨.int .i64 a, by simp [keyOf, mapKey, Try.underlying3]; exact ha⟩
  inj := fun a b _ _ h => by simpa using h
theorem zeroBl (w : World) : (zeroValue 4).run Try.prog w = .ok (.bool false) w := by kernel_rfl
/-- Block b is a map of numbers in which those that f names are true. -/
def MapB (w : World) (b : Nat) (f : Int → Bool) : Prop := Mp (Value.int .i64) okI Value.bool w b (fun a => if f a = true then some true else none)
theorem MapB.congr {w : World} {b : Nat} {f g : Int → Bool} (h : MapB w b f) (e : ∀ a, f a = g a) : MapB w b g := by
  have : f = g := funext e
  exact this ▸ h
theorem MapB.look {w : World} {b : Nat} {f : Int → Bool} (h : MapB w b f) (a : Int) (ha : okI a) : (Instr.lookup 84 (.map (some b)) (.int .i64 a) false).run Try.prog w = .ok (.bool (f a)) w := by
  have := Mp.look h keyI Try.underlying84 (zeroBl w) a ha false
  rw [this]
  cases f a <;> rfl

set_option maxRecDepth 100000 in
set_option maxHeartbeats 1000000 in
/-- The closure: a state is left out if no edge leads to it, or none leaves it. -/
theorem gEss1_gives (f g : Int → Bool) (b1 b2 m1 m2 : Nat) (W : World) (x : Int) (hx : okI x) (h1 : W.cell? ⟨b1, 0, none⟩ = some (.map (some m1))) (h2 : W.cell? ⟨b2, 0, none⟩ = some (.map (some m2))) (hf : MapB W m1 f) (hg : MapB W m2 g) :
    FnGives Try.prog 64 #[.pointer (some ⟨b1, 0, none⟩), .pointer (some ⟨b2, 0, none⟩)] #[.int .i64 x] (.bool (!(f x && g x))) W := by
  show Calls Try.prog 64 #[.int .i64 x, .pointer (some ⟨b1, 0, none⟩), .pointer (some ⟨b2, 0, none⟩)] W _
  have l1 := hf.look x hx
  have l2 := hg.look x hx
  clear hf hg hx
  generalize f x = u at *
  generalize g x = v at *
  go_enter Try.func64, Try.ntmps64
  cases u
  · go_wp2
    go_ret
    exact ⟨rfl, 0, rfl⟩
  · cases v
    · go_wp2
      go_ret
      exact ⟨rfl, 0, rfl⟩
    · go_wp2
      go_ret
      exact ⟨rfl, 0, rfl⟩
end Go.Proofs.Ytlgjhmenjfmpfaa
namespace Go.Proofs.Ytlgjhmenjfmpfaa
open Go.RowKit Go.Sort Go.Shelf Go.Lib

/-- A number as it lies in memory; numbers that are no states read as 0. -/
def nmI (x : Int) : Int := if 0 ≤ x ∧ x ≤ 1000000 then x else 0
def encN (x : Int) : Value := .int .i64 (nmI x)
theorem nmI_in {x : Int} (h : 0 ≤ x ∧ x ≤ 1000000) : nmI x = x := if_pos h
theorem nmI_bd (x : Int) : 0 ≤ nmI x ∧ nmI x ≤ 1000000 := by unfold nmI; split <;> omega
theorem encN_in {l : List Int} (h : ∀ x ∈ l, 0 ≤ x ∧ x ≤ 1000000) : l.map encN = l.map (Value.int .i64) :=
  List.map_congr_left (fun x hx => by unfold encN; rw [nmI_in (h x hx)])
theorem own_holdsN {w : World} {B e g n cap : Nat} {l : List Int} (h : w.ownsRow B e 1 (.slice (some ⟨g, 0, none⟩) n cap) n (l.map (Value.int .i64))) (hi : ∀ x ∈ l, 0 ≤ x ∧ x ≤ 1000000) :
    Holds encN w g 0 l.toArray ∧ g < w.heap.size ∧ B ≤ g ∧ l.length = n ∧ n ≤ cap := by
  have hn : l.length = n := by have := h.1; simpa using this
  rcases h.2 with ⟨e0, _⟩ | ⟨g', cap', cur, e0, hg, hh, hc, hm, hs, ht⟩
  · cases e0
  · cases e0
    refine ⟨fun j hj => ?_, (Array.getElem?_eq_some_iff.1 hh).1, hg, hn, hc⟩
    have hj' : j < l.length := by simpa using hj
    refine ⟨?_, by simp [World.frozen?, hh]⟩
    have e1 : (l.map encN)[j]? = cur.toList[j]? := by
      rw [encN_in hi, ← ht, List.getElem?_take, if_pos (by omega)]
    rw [List.getElem?_map, List.getElem?_eq_getElem hj', Array.getElem?_toList] at e1
    rw [getElem!_pos l.toArray j hj, Nat.zero_add]
    simp [World.cell?, hh]
    exact e1.symm
theorem own_struck {w : World} {B e g n cap q : Nat} {l m : List Int} (h : w.ownsRow B e 1 (.slice (some ⟨g, 0, none⟩) n cap) n (l.map (Value.int .i64))) (hm : m.length ≤ n) (hi : ∀ x ∈ m, 0 ≤ x ∧ x ≤ 1000000) :
    (putRow encN (Sort.ahead w q) g 0 (m ++ List.replicate (n - m.length) 0).toArray).ownsRow B e 1 (.slice (some ⟨g, 0, none⟩) m.length cap) m.length (m.map (Value.int .i64)) := by
  rcases h.2 with ⟨e0, _⟩ | ⟨g', cap', cur, e0, hg, hh, hc, hcm, hs, ht⟩
  · cases e0
  · cases e0
    have hlt : g < w.heap.size := (Array.getElem?_eq_some_iff.1 hh).1
    refine ⟨by simp, .inr ⟨g, cap, putCells encN 0 (m ++ List.replicate (n - m.length) 0).toArray cur, rfl, hg, ?_, by omega, hcm, by simpa [putCells] using hs, ?_⟩⟩
    · have hg' : w.heap[g] = .cells cur e (0, 0) := by have := Array.getElem?_eq_some_iff.1 hh; exact this.2
      simp [putRow, mapBlock, Sort.ahead, hlt, Array.getElem_modify, hg', onCells]
    · apply List.ext_getElem?
      intro j
      rw [List.getElem?_take, Array.getElem?_toList]
      by_cases hj : j < m.length
      · have hjc : j < cur.size := by omega
        rw [if_pos (by omega), List.getElem?_map, List.getElem?_eq_getElem hj]
        simp only [putCells, Array.getElem?_mapIdx, Array.getElem?_eq_getElem hjc, Option.map_some]
        rw [if_pos (by simp; omega)]
        simp only [Nat.sub_zero]
        rw [getElem!_pos _ j (by simp; omega)]
        simp [hj, encN, nmI_in (hi _ (List.getElem_mem hj))]
      · rw [if_neg (by omega), List.getElem?_eq_none (by simp; omega)]
theorem grown_struck {w : World} {g q : Nat} (d : Array Int) : w.grownBy (putRow encN (Sort.ahead w q) g 0 d) (some g) := by
  refine ⟨rfl, rfl, rfl, by simp [putRow, mapBlock, Sort.ahead], fun i hi hne => ?_⟩
  have hne' : g ≠ i := fun e => hne (by rw [e])
  simp [putRow, mapBlock, Sort.ahead, hi, Array.getElem_modify, hne']
theorem grown_over {w : World} {g q : Nat} (d : Array Int) (os : Array Obj) : w.grownBy (sortWorld encN w g 0 q d os) (some g) := by
  refine ⟨rfl, rfl, rfl, by simp [sortWorld, grow, putRow, mapBlock, Sort.ahead], fun i hi hne => ?_⟩
  have hne' : g ≠ i := fun e => hne (by rw [e])
  simp [sortWorld, grow, putRow, mapBlock, Sort.ahead, Array.getElem?_append, hi, Array.getElem_modify, hne']
end Go.Proofs.Ytlgjhmenjfmpfaa
namespace Go.Proofs.Ytlgjhmenjfmpfaa
open Go.RowKit Go.Sort Go.Shelf Go.Lib

theorem MapB.kept {w w' : World} {b : Nat} {f : Int → Bool} {row : Option Nat} (h : MapB w b f) (hg : w.grownBy w' row) (hne : some b ≠ row) : MapB w' b f := Mp.kept h hg hne
theorem MapB.lt {w : World} {b : Nat} {f : Int → Bool} (h : MapB w b f) : b < w.heap.size := Mp.lt h
theorem MapB.ne {w : World} {b g e : Nat} {f : Int → Bool} {cur : Array Value} {z : Nat × Nat} (h : MapB w b f) (hg : w.heap[g]? = some (.cells cur e z)) : b ≠ g := by
  obtain ⟨es, cl, hb, _⟩ := h
  rintro rfl
  rw [hb] at hg; cases hg
theorem cell_kept {w w' : World} {b : Nat} {u : Value} {row : Option Nat} (hg : w.grownBy w' row) (hc : w.cell? ⟨b, 0, none⟩ = some u) (hne : some b ≠ row) : w'.cell? ⟨b, 0, none⟩ = some u :=
  (World.cell?_of_block (w := w) (a := ⟨b, 0, none⟩) (hg.block b (World.block_lt_of_cell? w _ hc) hne)).trans hc

set_option maxRecDepth 100000 in
set_option maxHeartbeats 1000000 in
theorem gDel_nil (fv : Value) (w : World) : Calls Try.prog 63 #[.slice none 0 0, fv] w fun e w' => e = .returned (.slice none 0 0) ∧ w' = w := by
  go_enter Try.func63, Try.ntmps63
  go_wp2_with (go_at_call 75; refine (Try.slices_IndexFunc_empty (α := Int) none 0 fv w).mono ?_; rintro e w' ⟨rfl, rfl⟩)
  go_ret
  exact ⟨rfl, rfl⟩
theorem gDel_any (f g : Int → Bool) (st : List Int) (B n b1 b2 m1 m2 : Nat) (v : Value) (w : World) (h : w.ownsRow B 3 1 v n (st.map (Value.int .i64))) (hn : n ≤ 100000) (hi : ∀ x ∈ st, 0 ≤ x ∧ x ≤ 1000000)
    (h1 : w.cell? ⟨b1, 0, none⟩ = some (.map (some m1))) (h2 : w.cell? ⟨b2, 0, none⟩ = some (.map (some m2))) (hf : MapB w m1 f) (hg : MapB w m2 g) (n1 : v.ownBlock ≠ some b1) (n2 : v.ownBlock ≠ some b2) :
    Calls Try.prog 63 #[v, .func (.func 64) #[] #[.pointer (some ⟨b1, 0, none⟩), .pointer (some ⟨b2, 0, none⟩)]] w fun e w' =>
      ∃ v', e = .returned v' ∧ w'.ownsRow B 3 1 v' (st.filter fun x => f x && g x).length ((st.filter fun x => f x && g x).map (Value.int .i64)) ∧ w.grownBy w' v.ownBlock ∧ v'.ownBlock = v.ownBlock := by
  rcases h.2 with ⟨rfl, rfl⟩ | ⟨gb, cap, cur, rfl, hgb, hh, hc, hm, hs, ht⟩
  · have : st = [] := List.length_eq_zero_iff.1 (by have := h.1; simpa using this)
    subst this
    refine (gDel_nil _ w).mono ?_
    rintro e w' ⟨rfl, rfl⟩
    exact ⟨_, rfl, World.ownsRow_nil _ _ _ _, ⟨rfl, rfl, rfl, Nat.le_refl _, fun _ _ _ => rfl⟩, rfl⟩
  · obtain ⟨hH, hlt, _, hl, _⟩ := own_holdsN h hi
    have k1 := hf.ne hh; have k2 := hg.ne hh
    have n1' : (some b1 : Option Nat) ≠ some gb := fun e => n1 (by rw [Value.ownBlock]; exact e.symm)
    have n2' : (some b2 : Option Nat) ≠ some gb := fun e => n2 (by rw [Value.ownBlock]; exact e.symm)
    have eg : ∀ args w, (callFunc 64 args).run Try.prog w = .ok (.enter 64 args) w := enters_of Try.func64 (by kernel_rfl) rfl
    have hgive : ∀ (W : World) (x : Int), w.grownBy W (some gb) → FnGives Try.prog 64 #[.pointer (some ⟨b1, 0, none⟩), .pointer (some ⟨b2, 0, none⟩)] #[encN x] (.bool (!(f (nmI x) && g (nmI x)))) W := fun W x hgr =>
      gEss1_gives f g b1 b2 m1 m2 W (nmI x) (okI_of (nmI_bd x).1 (nmI_bd x).2) (cell_kept hgr h1 n1') (cell_kept hgr h2 n2') (hf.kept hgr (fun e => k1 (Option.some.inj e))) (hg.kept hgr (fun e => k2 (Option.some.inj e)))
    have hz : ∀ w, (zeroValue 3).run Try.prog w = .ok (encN 0) w := fun w => by kernel_rfl
    have hcon := Try.slices_DeleteFunc encN (fun _ => rfl) (fun x => !(f (nmI x) && g (nmI x))) 64 #[.pointer (some ⟨b1, 0, none⟩), .pointer (some ⟨b2, 0, none⟩)] eg 0 hz gb 0 cap st.toArray w
      (fun W x hb => hgive W x ⟨hb.os, hb.tape, hb.output, hb.size, fun i hi _ => hb.block i hi⟩) (fun q os dk x _ => hgive _ x (grown_over dk os)) hH (by simp; omega) (by simp; omega)
    have hfl : (st.toArray.toList.filter fun x => !!(f (nmI x) && g (nmI x))) = st.filter fun x => f x && g x := by
      simp only [Bool.not_not]
      exact List.filter_congr (fun x hx => by rw [nmI_in (hi x hx)])
    rw [hfl, show st.toArray.size = n by simpa using hl] at hcon
    refine hcon.mono ?_
    rintro e w' ⟨rfl, q, rfl⟩
    exact ⟨_, rfl, own_struck h (by rw [← hl]; exact List.length_filter_le _ _) (fun x hx => hi x (List.mem_filter.1 hx).1), grown_struck _, rfl⟩
end Go.Proofs.Ytlgjhmenjfmpfaa
namespace Go.Proofs.Ytlgjhmenjfmpfaa
open Go.RowKit Go.Sort Go.Shelf Go.Lib

/-- The states that edges of the part enter, and those that they leave, among the first k edges. -/
def enE (es : List Ed) (st : List Int) (k : Nat) (a : Int) : Bool := (es.take k).any (fun x => (decide (x.f ∈ st) && decide (x.t ∈ st)) && decide (a = x.t))
def lfE (es : List Ed) (st : List Int) (k : Nat) (a : Int) : Bool := (es.take k).any (fun x => (decide (x.f ∈ st) && decide (x.t ∈ st)) && decide (a = x.f))
theorem enE_hit {es : List Ed} {st : List Int} {k : Nat} (h : k < es.length) (h1 : es[k].f ∈ st ∧ es[k].t ∈ st) (a : Int) : enE es st (k + 1) a = (decide (a = es[k].t) || enE es st k a) := by
  unfold enE; rw [any_snoc _ _ _ h]; simp [h1.1, h1.2, Bool.or_comm]
theorem lfE_hit {es : List Ed} {st : List Int} {k : Nat} (h : k < es.length) (h1 : es[k].f ∈ st ∧ es[k].t ∈ st) (a : Int) : lfE es st (k + 1) a = (decide (a = es[k].f) || lfE es st k a) := by
  unfold lfE; rw [any_snoc _ _ _ h]; simp [h1.1, h1.2, Bool.or_comm]
theorem enE_miss {es : List Ed} {st : List Int} {k : Nat} (h : k < es.length) (h1 : ¬ (es[k].f ∈ st ∧ es[k].t ∈ st)) (a : Int) : enE es st (k + 1) a = enE es st k a := by
  unfold enE; rw [any_snoc _ _ _ h]
  have : (decide (es[k].f ∈ st) && decide (es[k].t ∈ st)) = false := by simpa using h1
  rw [this]; simp
theorem lfE_miss {es : List Ed} {st : List Int} {k : Nat} (h : k < es.length) (h1 : ¬ (es[k].f ∈ st ∧ es[k].t ∈ st)) (a : Int) : lfE es st (k + 1) a = lfE es st k a := by
  unfold lfE; rw [any_snoc _ _ _ h]
  have : (decide (es[k].f ∈ st) && decide (es[k].t ∈ st)) = false := by simpa using h1
  rw [this]; simp
theorem essS_maps (es : List Ed) (st : List Int) : (st.filter fun x => enE es st es.length x && lfE es st es.length x) = essS es st := by
  refine List.filter_congr (fun a ha => ?_)
  unfold enE lfE essP cmsE goesE
  rw [List.take_length]
  congr 1
  · refine congrArg (fun f => es.any f) (funext fun x => ?_)
    by_cases e : a = x.t
    · subst e; simp [ha]
    · have e' : ¬ x.t = a := fun h => e h.symm
      simp [e, e']
  · refine congrArg (fun f => es.any f) (funext fun x => ?_)
    by_cases e : a = x.f
    · subst e; simp [ha]
    · have e' : ¬ x.f = a := fun h => e h.symm
      simp [e, e']
theorem MapB.made (w : World) : MapB (w.alloc (.map #[] 0)) w.heap.size (fun _ => false) := Mp.congr (Mp.made w) (fun _ => rfl)
theorem MapB.alloc {w : World} {b : Nat} {f : Int → Bool} (h : MapB w b f) (o : Obj) : MapB (w.alloc o) b f := Mp.alloc h o
theorem MapB.dr {w w' : World} {b : Nat} {f : Int → Bool} (h : MapB w b f) (hD : Dr w w') : MapB w' b f := by obtain ⟨k, rfl⟩ := hD; exact h
theorem MapB.store {w : World} {b : Nat} {f : Int → Bool} (h : MapB w b f) (a : Int) (ha : okI a) :
    ∃ w', (Instr.mapUpdate 84 (.map (some b)) (.int .i64 a) (.bool true)).run Try.prog w = .ok () w' ∧ MapB w' b (fun y => decide (y = a) || f y) ∧ w.grownBy w' (some b) := by
  obtain ⟨w', h1, h2, h3⟩ := Mp.store h keyI Try.underlying84 a ha true
  refine ⟨w', h1, Mp.congr h2 (fun y => ?_), h3.grown⟩
  unfold mset
  by_cases e : y = a <;> simp [e]
def slLen : Value → Nat | .slice _ n _ => n | _ => 0
theorem cell_at_kept {w w' : World} {p : Addr} {u : Value} {row : Option Nat} (hg : w.grownBy w' row) (hc : w.cell? p = some u) (hne : some p.block ≠ row) : w'.cell? p = some u :=
  (World.cell?_of_block (w := w) (a := p) (hg.block p.block (World.block_lt_of_cell? w _ hc) hne)).trans hc
/-- The essential part, its states and an error, in memory of the call's own. -/
def RetEs (G : Gr) (l : List Int) (k : Int) (w : World) (e : Ending) (w' : World) : Prop :=
  ∃ p m c q d, e = .returned (.tuple #[.agg #[.int .i64 G.q, .int .i64 G.n, .slice p m c], .slice q l.length d, .int .i64 k]) ∧ w'.ownsRow w.heap.size 47 3 (.slice p m c) G.es.length (cat G.es) ∧
    w'.ownsRow w.heap.size 3 1 (.slice q l.length d) l.length (l.map (Value.int .i64)) ∧ RowKit.Below w.heap.size w w'
theorem RetEs.of {x : Gr × List Int × Int} {G : Gr} {l : List Int} {k : Int} {w w' : World} {p : Option Addr} {m c : Nat} {v : Value} (hx : x = (G, l, k)) (h1 : w'.ownsRow w.heap.size 47 3 (.slice p m c) G.es.length (cat G.es))
    (h2 : w'.ownsRow w.heap.size 3 1 v l.length (l.map (Value.int .i64))) (hB : RowKit.Below w.heap.size w w') :
    RetEs x.1 x.2.1 x.2.2 w (.returned (.tuple #[.agg #[.int .i64 G.q, .int .i64 G.n, .slice p m c], v, .int .i64 k])) w' := by
  subst hx
  obtain ⟨q, d, rfl, _⟩ := own_sl h2
  exact ⟨p, m, c, q, d, rfl, h1, h2, hB⟩

set_option maxRecDepth 100000 in
set_option maxHeartbeats 4000000 in
theorem gEss_any (G : Gr) (p : Option Addr) (c : Nat) (w : World) (hin : Sg 3 w edE p G.es) (hl : G.es.length ≤ 10000) :
    Calls Try.prog 46 #[(.agg #[.int .i64 G.q, .int .i64 G.n, .slice p G.es.length c])] w (RetEs (essA G).1 (essA G).2.1 (essA G).2.2 w) := by
  have HIN := hidI hin
  clear hin
  obtain ⟨i0, hi0, hz0, hz1, hz3⟩ := info_parts infoIn
  obtain ⟨w0, hw0⟩ : ∃ w0, w0 = (w.alloc (.cells #[.int .i64 G.q, .int .i64 G.n, .slice p G.es.length c] 24)).alloc (.cells #[.int .i64 0, .int .i64 0, .slice none 0 0] 24) := ⟨_, rfl⟩
  have b0 : VRow w0 w.heap.size 24 [.int .i64 G.q, .int .i64 G.n, .slice p G.es.length c] := by subst hw0; exact (VRow.new w _ _).alloc _
  have b1 : VRow w0 (w.heap.size + 1) 24 [.int .i64 0, .int .i64 0, .slice none 0 0] := by subst hw0; exact VRow.new1 w _ _ _
  have hB0 : RowKit.Below w.heap.size w w0 := by subst hw0; exact ((RowKit.Below.refl _ _).alloc (Nat.le_refl _) _).alloc (by simp) _
  obtain ⟨r, hr⟩ : ∃ r, chkG G = r := ⟨_, rfl⟩
  by_cases hr0 : r = 0
  · subst hr0
    have HR := hidI hr
    have HV := hidI (chkG_ok.1 hr)
    obtain ⟨N, hNt⟩ : ∃ N : Nat, N = G.n.toNat := ⟨_, rfl⟩
    have HK : Hid (essA G = (partA G (ess G.es (upto N)), ess G.es (upto N), 0)) := by rw [hNt]; exact essA_ok hr
    clear hr
    go_enter Try.func46, Try.ntmps46
    go_wp2_with fail
    rw [← hw0]
    clear hw0
    refine (gCheck_r G p c _ 0 HR.out (HIN.out.below hB0) (by omega)).mono ?_
    rintro e w1 ⟨rfl, hB1⟩
    have x1 := hB0.trans (hB1.mono hB0.size)
    have c0 := b0.below hB1 b0.lt
    have c1 := b1.below hB1 b1.lt
    have f1 := c0.at 1 rfl
    clear hB1 b0 b1 hB0
    have hz : w.heap.size + 1 < w1.heap.size := c1.lt
    have hn0 := HV.out.n1; have hn1 := HV.out.n2
    have HN : Hid ((N : Int) = G.n) := by unfold Hid; omega
    have HU : Hid (St G.n (upto N)) := by rw [hNt]; exact St.upto hn0
    clear hNt
    go_wp2
    go_loopw [5, 22] (fun ov iv wr => ∃ k : Nat, k ≤ N ∧ iv = .int .i64 k ∧ wr.ownsRow w1.heap.size 3 1 ov k ((upto k).map (Value.int .i64)) ∧ RowKit.Below w1.heap.size w1 wr) (fun _ iv _ => N - (intOf iv).toNat)
    case atStart => exact ⟨0, by omega, rfl, World.ownsRow_nil _ _ _ _, RowKit.Below.refl _ _⟩
    case round =>
      obtain ⟨k, hk, rfl, hown, hB⟩ := hrel
      have hNN := HN.out
      by_cases hlt : (k : Int) < G.n
      · have hkN : k + 1 ≤ N := by omega
        clear hNN
        have hnew := cell_one_at wr (.int .i64 (k : Int)) 3 wr.heap.size rfl
        have HUS := hidI (upto_succ k)
        generalize upto k = M at *
        go_wp2_with (at_builtin; refine wpList_append_own _ rfl _ _ 50 rfl w1.heap.size 3 i0 (.int .i64 0) 1 8 Try.underlying50 hi0 hz0 hz1 hz3 rfl (by decide) _ _ _ rfl (hown.alloc _) ⟨wr.heap.size, 0, none⟩ 1 1 [.int .i64 (k : Int)] rfl rfl hnew (by simp [Value.oneCell']) (by simp [maxLen]; omega) (by omega) (by rw [World.size_alloc]; have := hB.size; omega) ?_; intro v' w2 hown' hgrow _)
        go_roundw
        case rel => exact ⟨k + 1, hkN, by go_num, by rw [HUS.out, List.map_append]; exact hown', (hB.alloc hB.size _).grown hgrow (Nat.le_trans hB.size (by simp)) (fun j e => (hown.lt j e).1)⟩
        case measure => simp [intOf]; omega
      · obtain rfl : N = k := by omega
        clear hNN
        obtain ⟨w2, rfl⟩ : ∃ w2 : World, w2 = wr := ⟨_, rfl⟩
        have x2 := x1.trans (hB.mono x1.size)
        have d0 := c0.below hB c0.lt
        have d1 := c1.below hB c1.lt
        have hge := hB.size
        have hmm := @run_makeMap Try.prog
        clear hB x1 c0 c1 f1
        go_wp2
        clear hlt
        go_loopw [5] (fun sv wr => ∃ st : List Int, Hid (St G.n st) ∧ Hid (ess G.es st = ess G.es (upto N)) ∧ wr.ownsRow w1.heap.size 3 1 sv st.length (st.map (Value.int .i64)) ∧ VRow wr w.heap.size 24 [.int .i64 G.q, .int .i64 G.n, .slice p G.es.length c] ∧ VRow wr (w.heap.size + 1) 24 [.int .i64 0, .int .i64 0, .slice none 0 0] ∧ RowKit.Below w.heap.size w wr ∧ w1.heap.size ≤ wr.heap.size) (fun sv _ => slLen sv)
        case atStart => exact ⟨upto N, HU, rfl, by rw [upto_len]; exact hown, d0, d1, x2, hge⟩
        case round =>
          obtain ⟨st, HST, HE, hown, e0, e1, hB, hge⟩ := hrel
          obtain ⟨ps, cs, rfl, _⟩ := own_sl hown
          obtain ⟨wo, rfl⟩ : ∃ wo : World, wo = wr := ⟨_, rfl⟩
          have hsl : st.length ≤ 64 := by have := HST.out.len hn0; omega
          obtain ⟨W0, hW0⟩ : ∃ W0, W0 = (((wo.alloc (.map #[] 0)).alloc (.map #[] 0)).alloc (.cells #[.map (some wo.heap.size)] 84)).alloc (.cells #[.map (some (wo.heap.size + 1))] 84) := ⟨_, rfl⟩
          have m1 : MapB W0 wo.heap.size (enE G.es st 0) := by subst hW0; exact (((MapB.made wo).alloc _).alloc _).alloc _
          have m2 : MapB W0 (wo.heap.size + 1) (lfE G.es st 0) := by
            subst hW0
            have := (((MapB.made (wo.alloc (.map #[] 0))).alloc (.cells #[.map (some wo.heap.size)] 84)).alloc (.cells #[.map (some (wo.heap.size + 1))] 84))
            rwa [World.size_alloc] at this
          have q1 : VRow W0 (wo.heap.size + 1 + 1) 84 [.map (some wo.heap.size)] := by
            subst hW0; exact (VRow.new2 wo _ _ _ _).alloc _
          have q2 : VRow W0 (wo.heap.size + 1 + 1 + 1) 84 [.map (some (wo.heap.size + 1))] := by
            subst hW0
            have h := VRow.new (((wo.alloc (.map #[] 0)).alloc (.map #[] 0)).alloc (.cells #[.map (some wo.heap.size)] 84)) 84 [.map (some (wo.heap.size + 1))]
            rwa [World.size_alloc, World.size_alloc, World.size_alloc] at h
          have hown0 : W0.ownsRow w1.heap.size 3 1 (.slice ps st.length cs) st.length (st.map (Value.int .i64)) := by subst hW0; exact (((hown.alloc _).alloc _).alloc _).alloc _
          have e00 : VRow W0 w.heap.size 24 [.int .i64 G.q, .int .i64 G.n, .slice p G.es.length c] := by subst hW0; exact (((e0.alloc _).alloc _).alloc _).alloc _
          have e10 : VRow W0 (w.heap.size + 1) 24 [.int .i64 0, .int .i64 0, .slice none 0 0] := by subst hW0; exact (((e1.alloc _).alloc _).alloc _).alloc _
          have hbs := hB.size
          have hB0 : RowKit.Below w.heap.size w W0 := by subst hW0; exact (((hB.alloc hbs _).alloc (by simp; omega) _).alloc (by simp; omega) _).alloc (by simp; omega) _
          have hz0 : wo.heap.size + 1 + 1 + 1 < W0.heap.size := q2.lt
          have nb : ∀ j, (Value.slice ps st.length cs).ownBlock = some j → j < wo.heap.size := fun j e => (hown.lt j e).2
          have f2 := e00.at 2 rfl
          rw [hW0] at f2
          go_wp2
          rw [← hW0]
          clear hW0 f2 e0 e1
          go_loopw [35] (fun jv wx => ∃ k : Nat, k ≤ G.es.length ∧ jv = .int .i64 k ∧ MapB wx wo.heap.size (enE G.es st k) ∧ MapB wx (wo.heap.size + 1) (lfE G.es st k) ∧ VRow wx (wo.heap.size + 1 + 1) 84 [.map (some wo.heap.size)] ∧ VRow wx (wo.heap.size + 1 + 1 + 1) 84 [.map (some (wo.heap.size + 1))] ∧
              wx.ownsRow w1.heap.size 3 1 (.slice ps st.length cs) st.length (st.map (Value.int .i64)) ∧ VRow wx w.heap.size 24 [.int .i64 G.q, .int .i64 G.n, .slice p G.es.length c] ∧ VRow wx (w.heap.size + 1) 24 [.int .i64 0, .int .i64 0, .slice none 0 0] ∧ RowKit.Below w.heap.size w wx ∧ w1.heap.size ≤ wx.heap.size) (fun jv _ => G.es.length - (intOf jv).toNat)
          case atStart => exact ⟨0, by omega, rfl, m1, m2, q1, q2, hown0, e00, e10, hB0, by omega⟩
          case round =>
            clear m1 m2 q1 q2 hown0 e00 e10 hB0 hz0
            obtain ⟨k, hk, rfl, m1, m2, q1, q2, hownx, e0, e1, hBx, hgx⟩ := hrel
            by_cases hlt : k < G.es.length
            · obtain ⟨b3, o3, rfl, hb3, z0, z1, z2⟩ := (HIN.out.below hBx).get3 k hlt rfl
              have HX := hidI (HV.out.ins G.es[k] (List.getElem_mem hlt))
              obtain ⟨ps', cs', hpe, hsl1⟩ := own_sl hownx
              cases hpe
              have hbz := hBx.size
              have HEN := hidI (enE_hit (st := st) hlt); have HLF := hidI (lfE_hit (st := st) hlt)
              have HEM := hidI (enE_miss (st := st) hlt); have HLM := hidI (lfE_miss (st := st) hlt)
              generalize G.es[k] = x at *
              obtain ⟨W1, hW1⟩ : ∃ W1, W1 = wr.alloc (.cells #[.int .i64 x.f, .int .i64 x.l, .int .i64 x.t] 47) := ⟨_, rfl⟩
              have y0 : VRow W1 wr.heap.size 47 [.int .i64 x.f, .int .i64 x.l, .int .i64 x.t] := by subst hW1; exact VRow.new wr _ _
              have hS1 : Sl W1 (Value.int .i64) ps st := by subst hW1; exact hsl1.below ((RowKit.Below.refl _ _).alloc (Nat.le_refl _) _)
              have n1 : MapB W1 wo.heap.size (enE G.es st k) := by subst hW1; exact m1.alloc _
              have n2 : MapB W1 (wo.heap.size + 1) (lfE G.es st k) := by subst hW1; exact m2.alloc _
              have r1 : VRow W1 (wo.heap.size + 1 + 1) 84 [.map (some wo.heap.size)] := by subst hW1; exact q1.alloc _
              have r2 : VRow W1 (wo.heap.size + 1 + 1 + 1) 84 [.map (some (wo.heap.size + 1))] := by subst hW1; exact q2.alloc _
              have hown1 : W1.ownsRow w1.heap.size 3 1 (.slice ps st.length cs) st.length (st.map (Value.int .i64)) := by subst hW1; exact hownx.alloc _
              have g0 : VRow W1 w.heap.size 24 [.int .i64 G.q, .int .i64 G.n, .slice (some ⟨b3, o3, none⟩) G.es.length c] := by subst hW1; exact e0.alloc _
              have g1 : VRow W1 (w.heap.size + 1) 24 [.int .i64 0, .int .i64 0, .slice none 0 0] := by subst hW1; exact e1.alloc _
              have hB1 : RowKit.Below w.heap.size w W1 := by subst hW1; exact hBx.alloc hbz _
              have hg1 : w1.heap.size ≤ W1.heap.size := by subst hW1; simp; omega
              have hwz : wo.heap.size + 1 + 1 + 1 < wr.heap.size := q2.lt
              go_wp2_with fail
              rw [← hW1]
              clear hW1 m1 m2 q1 q2 hownx e0 e1 hBx hgx hsl1 hbz
              have u0 := y0.at 0 rfl; have u2 := y0.at 2 rfl
              refine (binI_any st ps cs x.f W1 hS1 HST.out.srt (by omega)).mono ?_
              rintro e wa ⟨⟨i, rfl, _⟩, hDa⟩
              have hS2 := hS1.dr hDa
              have v2 := (y0.dr hDa).at 2 rfl
              clear u0 u2
              go_wp2_with fail
              refine (binI_any st ps cs x.t wa hS2 HST.out.srt (by omega)).mono ?_
              rintro e W2 ⟨⟨j, rfl, _⟩, hDb⟩
              have hD := hDa.trans hDb
              have y2 := y0.dr hD
              have n1' := n1.dr hD; have n2' := n2.dr hD
              have r1' := r1.dr hD; have r2' := r2.dr hD
              have hown2 := hown1.dr hD
              have g0' := g0.dr hD; have g1' := g1.dr hD
              have hB2 := hB1.trans (hD.below _)
              have hg2 : w1.heap.size ≤ W2.heap.size := by rw [hD.size]; exact hg1
              clear y0 hS1 hS2 n1 n2 r1 r2 hown1 g0 g1 hB1 hg1 v2 hDa hDb hD
              by_cases hm : x.f ∈ st ∧ x.t ∈ st
              · have m1 : decide (x.f ∈ st) = true := decide_eq_true hm.1
                have m2 : decide (x.t ∈ st) = true := decide_eq_true hm.2
                rw [m1, m2]
                have HEN := hidI (HEN.out hm); have HLF := hidI (HLF.out hm)
                clear HEM HLM m1 m2 hm
                have okt : okI x.t := okI_of (by have := HX.out; omega) (by have := HX.out; omega)
                have okf : okI x.f := okI_of (by have := HX.out; omega) (by have := HX.out; omega)
                have n1d : MapB W2.drew wo.heap.size (enE G.es st k) := n1'
                have n2d : MapB W2.drew (wo.heap.size + 1) (lfE G.es st k) := n2'
                have y2d : VRow W2.drew wr.heap.size 47 [.int .i64 x.f, .int .i64 x.l, .int .i64 x.t] := y2
                have r1d : VRow W2.drew (wo.heap.size + 1 + 1) 84 [.map (some wo.heap.size)] := r1'
                have r2d : VRow W2.drew (wo.heap.size + 1 + 1 + 1) 84 [.map (some (wo.heap.size + 1))] := r2'
                have hownd : W2.drew.ownsRow w1.heap.size 3 1 (.slice ps st.length cs) st.length (st.map (Value.int .i64)) := hown2
                have g0d : VRow W2.drew w.heap.size 24 [.int .i64 G.q, .int .i64 G.n, .slice (some ⟨b3, o3, none⟩) G.es.length c] := g0'
                have g1d : VRow W2.drew (w.heap.size + 1) 24 [.int .i64 0, .int .i64 0, .slice none 0 0] := g1'
                have hBd : RowKit.Below w.heap.size w W2.drew := hB2.drew
                have hgd : w1.heap.size ≤ W2.drew.heap.size := hg2
                have hwb := hB.size
                clear n1' n2' y2 r1' r2' hown2 g0' g1' hB2 hg2
                go_wp2_with fail
                obtain ⟨U1, hr1, M1, G1⟩ := n1d.store x.t okt
                have n2u := n2d.kept G1 (fun e => by have := Option.some.inj e; omega)
                obtain ⟨U2, hr2, M2, G2⟩ := n2u.store x.f okf
                have M1' := M1.kept G2 (fun e => by have := Option.some.inj e; omega)
                have a0 := y2d.at 0 rfl; have a2 := y2d.at 2 rfl
                have a7 := r1d.at 0 rfl; have a8 := r2d.at 0 rfl
                have yu := y2d.grown G1 (fun e => by have := Option.some.inj e; omega)
                have ru1 := r1d.grown G1 (fun e => by have := Option.some.inj e; omega)
                have ru2 := r2d.grown G1 (fun e => by have := Option.some.inj e; omega)
                have d0 := yu.at 0 rfl; have d8 := ru2.at 0 rfl
                have rr1 := ru1.grown G2 (fun e => by have := Option.some.inj e; omega)
                have rr2 := ru2.grown G2 (fun e => by have := Option.some.inj e; omega)
                have hownu := (hownd.kept G1 (.inr (fun e => by have := nb _ e; omega))).kept G2 (.inr (fun e => by have := nb _ e; omega))
                have g0u := (g0d.grown G1 (fun e => by have := Option.some.inj e; omega)).grown G2 (fun e => by have := Option.some.inj e; omega)
                have g1u := (g1d.grown G1 (fun e => by have := Option.some.inj e; omega)).grown G2 (fun e => by have := Option.some.inj e; omega)
                have hBu := (hBd.grown G1 hBd.size (fun j e => by have := Option.some.inj e; omega)).grown G2 (Nat.le_trans hBd.size G1.size) (fun j e => by have := Option.some.inj e; omega)
                have hgu := Nat.le_trans (Nat.le_trans hgd G1.size) G2.size
                clear n1d n2d y2d r1d r2d hownd g0d g1d hBd hgd n2u yu ru1 ru2 M1 G1 G2
                go_region
                all_goals
                  go_wp2
                  go_roundw
                  case rel => exact ⟨k + 1, by omega, by go_num, M1'.congr (fun a => (HEN.out a).symm), M2.congr (fun a => (HLF.out a).symm), rr1, rr2, hownu, g0u, g1u, hBu, hgu⟩
                  case measure => simp [intOf]; omega
              · have HEM := hidI (HEM.out hm); have HLM := hidI (HLM.out hm)
                have hor : decide (x.f ∈ st) = false ∨ (decide (x.f ∈ st) = true ∧ decide (x.t ∈ st) = false) := by
                  by_cases h1 : x.f ∈ st
                  · exact .inr ⟨decide_eq_true h1, decide_eq_false (fun h2 => hm ⟨h1, h2⟩)⟩
                  · exact .inl (decide_eq_false h1)
                clear HEN HLF hm
                generalize decide (x.f ∈ st) = b1 at *
                generalize decide (x.t ∈ st) = b2 at *
                rcases hor with rfl | ⟨rfl, rfl⟩
                all_goals
                  go_wp2_with fail
                  go_roundw
                  case rel => exact ⟨k + 1, by omega, by go_num, n1'.congr (fun a => (HEM.out a).symm), n2'.congr (fun a => (HLM.out a).symm), r1', r2', hown2, g0', g1', hB2, hg2⟩
                  case measure => simp [intOf]; omega
            · obtain rfl : k = G.es.length := by omega
              obtain ⟨ps', cs', hpe, hsl1⟩ := own_sl hownx
              cases hpe
              have HSS := hidI (essS_maps G.es st)
              have k1 := q1.at 0 rfl; have k2 := q2.at 0 rfl
              have hwz : wo.heap.size + 1 + 1 + 1 < wr.heap.size := q2.lt
              have c1 : (Value.slice ps st.length cs).ownBlock ≠ some (wo.heap.size + 1 + 1) := fun e => by have := nb _ e; omega
              have c2 : (Value.slice ps st.length cs).ownBlock ≠ some (wo.heap.size + 1 + 1 + 1) := fun e => by have := nb _ e; omega
              have hdel := gDel_any (enE G.es st G.es.length) (lfE G.es st G.es.length) st w1.heap.size st.length (wo.heap.size + 1 + 1) (wo.heap.size + 1 + 1 + 1) wo.heap.size (wo.heap.size + 1) (.slice ps st.length cs) wr hownx (by omega) (fun x hx => by have := HST.out.ins x hx; omega) k1 k2 m1 m2 c1 c2
              rw [HSS.out] at hdel
              have HDEL := hidI hdel
              clear hdel k1 k2
              go_wp2_with (go_at_call 63; refine HDEL.out.mono ?_)
              rintro e w3 ⟨v3, rfl, hown3, G3, _⟩
              have hne : ∀ j, (Value.slice ps st.length cs).ownBlock = some j → w1.heap.size ≤ j := fun j e => (hownx.lt j e).1
              have e03 := e0.grown G3 (fun e => by have := hne _ e.symm; omega)
              have e13 := e1.grown G3 (fun e => by have := hne _ e.symm; omega)
              have hB3 := hBx.grown G3 hBx.size (fun j e => by have := hne _ e; omega)
              have hg3 := Nat.le_trans hgx G3.size
              clear m1 m2 q1 q2 hownx e0 e1 hBx hgx hsl1 hne nb c1 c2 G3 HDEL HSS
              by_cases he : (essS G.es st).length = st.length
              · have hE := essS_eq he
                have HKK : Hid (essA G = (partA G st, st, 0)) := by
                  have := HE.out
                  rw [ess_stop he] at this
                  rw [Hid, HK.out, ← this]
                rw [hE] at hown3
                clear hE he
                obtain ⟨p3, c3, rfl, hs3⟩ := own_sl hown3
                have f0 := e03.at 0 rfl; have f1 := e03.at 1 rfl; have f2 := e03.at 2 rfl
                have hst3 := HST.out.srt
                clear HE
                go_wp2_with fail
                refine (gkeep_any G p c st p3 c3 w3 (HIN.out.below hB3) hs3 hl (by omega) hst3).mono ?_
                generalize partA G st = R at *
                rintro e w4 ⟨p4, m4, c4, rfl, hown4, hB4⟩
                have x4 := hB3.trans (hB4.mono hB3.size)
                have e14 := e13.below hB4 e13.lt
                have hz3 : w.heap.size + 1 < w3.heap.size := e13.lt
                have hown5 := hown3.below hB4
                clear f0 f1 f2
                have j0 := e14.at 0 rfl; have j1 := e14.at 1 rfl; have j2 := e14.at 2 rfl
                have z0 := e14.frozen 0; have z1 := e14.frozen 1; have z2 := e14.frozen 2
                go_wp2
                have r6 := VRow.set (i := 2) (.slice p4 m4 c4) (VRow.set (i := 1) (.int .i64 R.n) (VRow.set (i := 0) (.int .i64 R.q) e14))
                have y0 := r6.at 0 rfl; have y1 := r6.at 1 rfl; have y2 := r6.at 2 rfl
                have o6 := ownsRow_setCell_below (a := (⟨w.heap.size + 1, 2, none⟩ : Addr)) (ownsRow_setCell_below (a := (⟨w.heap.size + 1, 1, none⟩ : Addr)) (ownsRow_setCell_below (a := (⟨w.heap.size + 1, 0, none⟩ : Addr)) hown4 hz3 (.int .i64 R.q)) hz3 (.int .i64 R.n)) hz3 (.slice p4 m4 c4)
                have o7 := ownsRow_setCell_below (a := (⟨w.heap.size + 1, 2, none⟩ : Addr)) (ownsRow_setCell_below (a := (⟨w.heap.size + 1, 1, none⟩ : Addr)) (ownsRow_setCell_below (a := (⟨w.heap.size + 1, 0, none⟩ : Addr)) hown5 hz (.int .i64 R.q)) hz (.int .i64 R.n)) hz (.slice p4 m4 c4)
                have x6 : RowKit.Below w.heap.size w (((w4.setCell (⟨w.heap.size + 1, 0, none⟩ : Addr) (.int .i64 R.q)).setCell (⟨w.heap.size + 1, 1, none⟩ : Addr) (.int .i64 R.n)).setCell (⟨w.heap.size + 1, 2, none⟩ : Addr) (.slice p4 m4 c4)) :=
                  ((x4.setCell (show w.heap.size ≤ w.heap.size + 1 by omega) _).setCell (show w.heap.size ≤ w.heap.size + 1 by omega) _).setCell (show w.heap.size ≤ w.heap.size + 1 by omega) _
                refine bodyPost_ret (v := .tuple #[.agg #[.int .i64 R.q, .int .i64 R.n, .slice p4 m4 c4], .slice p3 st.length c3, .int .i64 0]) (by simp [results, Try.results46, go_sem, y0, y1, y2]) rfl ?_
                exact RetEs.of HKK.out (own_conv o6 rfl (by omega)) ⟨o7.1, o7.2.imp id (fun ⟨g, cap, cur, a, b, z⟩ => ⟨g, cap, cur, a, Nat.le_trans (show w.heap.size ≤ w1.heap.size by omega) b, z⟩)⟩ x6
              · have HEG : Hid (ess G.es (essS G.es st) = ess G.es (upto N)) := by rw [Hid, ← ess_go he]; exact HE.out
                have HSF : Hid (St G.n (essS G.es st)) := HST.out.filter _
                have hle := essS_le G.es st
                clear HE
                generalize essS G.es st = S at *
                obtain ⟨p3, c3, rfl, hs3⟩ := own_sl hown3
                have hb : ((S.length : Int) == (st.length : Int)) = false := by rw [beq_eq_false_iff_ne]; omega
                go_wp2
                go_roundw
                case rel => exact ⟨S, HSF, HEG, hown3, e03, e13, hB3, hg3⟩
                case measure => simp [slLen]; omega
  · have HK : Hid (essA G = (⟨0, 0, []⟩, [], 1)) := essA_bad (by rw [hr]; exact hr0)
    have hrb : (r == 0) = false := by simpa using hr0
    have HR := hidI hr
    clear hr
    go_enter Try.func46, Try.ntmps46
    go_wp2_with fail
    rw [← hw0]
    clear hw0
    refine (gCheck_r G p c _ r HR.out (HIN.out.below hB0) (by omega)).mono ?_
    rintro e w1 ⟨rfl, hB1⟩
    have x1 := hB0.trans (hB1.mono hB0.size)
    have c1 := b1.below hB1 b1.lt
    have j0 := c1.at 0 rfl; have j1 := c1.at 1 rfl; have j2 := c1.at 2 rfl
    have z0 := c1.frozen 0; have z1 := c1.frozen 1; have z2 := c1.frozen 2
    go_wp2
    have r6 := VRow.set (i := 2) (.slice none 0 0) (VRow.set (i := 1) (.int .i64 0) (VRow.set (i := 0) (.int .i64 0) c1))
    have y0 := r6.at 0 rfl; have y1 := r6.at 1 rfl; have y2 := r6.at 2 rfl
    have x6 : RowKit.Below w.heap.size w (((w1.setCell (⟨w.heap.size + 1, 0, none⟩ : Addr) (.int .i64 0)).setCell (⟨w.heap.size + 1, 1, none⟩ : Addr) (.int .i64 0)).setCell (⟨w.heap.size + 1, 2, none⟩ : Addr) (.slice none 0 0)) :=
      ((x1.setCell (show w.heap.size ≤ w.heap.size + 1 by omega) _).setCell (show w.heap.size ≤ w.heap.size + 1 by omega) _).setCell (show w.heap.size ≤ w.heap.size + 1 by omega) _
    refine bodyPost_ret (v := .tuple #[.agg #[.int .i64 0, .int .i64 0, .slice none 0 0], .slice none 0 0, .int .i64 1]) (by simp [results, Try.results46, go_sem, y0, y1, y2]) rfl ?_
    exact RetEs.of (G := ⟨0, 0, []⟩) (l := []) HK.out (World.ownsRow_nil _ _ _ _) (World.ownsRow_nil _ _ _ _) x6
end Go.Proofs.Ytlgjhmenjfmpfaa
