/-
  Plain definitions and lemmas: the edges of numbered pairs, and the graphs of charges. Nothing here speaks of a program.
-/
import Derived.Test.YtlgjhmenjfmpfaaGq
namespace Go.Proofs.Ytlgjhmenjfmpfaa
open Go.RowKit

theorem insE_lenC (x : Ed) : ∀ l : List Ed, (insE x l).length ≤ l.length + 1
  | [] => by simp [insE]
  | y :: l => by
    have := insE_lenC x l
    unfold insE
    split
    · simp
    · split
      · simp
      · simp only [List.length_cons]; omega
theorem normC_gen : ∀ (l a : List Ed), (l.foldl (fun a x => insE x a) a).length ≤ a.length + l.length
  | [], a => by simp
  | y :: l, a => by
    have h1 := normC_gen l (insE y a); have h2 := insE_lenC y a
    rw [List.foldl_cons, List.length_cons]; omega
theorem normC_len (l : List Ed) : (norm l).length ≤ l.length := by have := normC_gen l []; rw [List.length_nil] at this; unfold norm; omega
theorem chkG_norm {q n : Int} {l : List Ed} (h1 : 1 ≤ q) (h2 : q ≤ 256) (h3 : 0 ≤ n) (h4 : n ≤ 64) (h5 : l.length ≤ 1024) (h : ∀ x ∈ l, 0 ≤ x.f ∧ 0 ≤ x.l ∧ 0 ≤ x.t ∧ x.f < n ∧ x.t < n ∧ x.l < q) : chkG ⟨q, n, norm l⟩ = 0 :=
  chkG_ok.2 ⟨h1, h2, h3, h4, Nat.le_trans (normC_len l) h5, fun x hx => h x (mem_norm.1 hx), norm_srt l⟩
theorem makeA_same {q n : Int} {l m : List Ed} (h : ∀ x, x ∈ l ↔ x ∈ m) : makeA q n l = makeA q n m := by unfold makeA; rw [norm_congr h]

/-- An edge of a pair, if the pair behind it is one. -/
def mdB (A B : Int) (num : Int → Int → Int) (nx : Int → Int → Int → Int × Int) (a b l : Int) : List Ed :=
  if 0 ≤ (nx a b l).1 ∧ (nx a b l).1 < A ∧ 0 ≤ (nx a b l).2 ∧ (nx a b l).2 < B then [⟨num a b, l, num (nx a b l).1 (nx a b l).2⟩] else []
def md1 (A B : Int) (num : Int → Int → Int) (nx : Int → Int → Int → Int × Int) (a b : Int) (k : Nat) : List Ed := (upto k).flatMap (mdB A B num nx a b)
def md2 (A B : Int) (num : Int → Int → Int) (nx : Int → Int → Int → Int × Int) (a : Int) (k : Nat) : List Ed := (upto k).flatMap (fun b => md1 A B num nx a b 2)
def md3 (A B : Int) (num : Int → Int → Int) (nx : Int → Int → Int → Int × Int) (k : Nat) : List Ed := (upto k).flatMap (fun a => md2 A B num nx a B.toNat)
def mdA (A B : Int) (num : Int → Int → Int) (nx : Int → Int → Int → Int × Int) : List Ed := md3 A B num nx A.toNat
theorem mdB_go {A B : Int} {num : Int → Int → Int} {nx : Int → Int → Int → Int × Int} {a b l : Int} (h : 0 ≤ (nx a b l).1 ∧ (nx a b l).1 < A ∧ 0 ≤ (nx a b l).2 ∧ (nx a b l).2 < B) : mdB A B num nx a b l = [⟨num a b, l, num (nx a b l).1 (nx a b l).2⟩] := if_pos h
theorem mdB_stop {A B : Int} {num : Int → Int → Int} {nx : Int → Int → Int → Int × Int} {a b l : Int} (h : ¬ (0 ≤ (nx a b l).1 ∧ (nx a b l).1 < A ∧ 0 ≤ (nx a b l).2 ∧ (nx a b l).2 < B)) : mdB A B num nx a b l = [] := if_neg h
theorem mdB_len (A B : Int) (num : Int → Int → Int) (nx : Int → Int → Int → Int × Int) (a b l : Int) : (mdB A B num nx a b l).length ≤ 1 := by unfold mdB; split <;> simp
theorem flat_succ {α : Type} (f : Int → List α) (k : Nat) : (upto (k + 1)).flatMap f = (upto k).flatMap f ++ f k := by rw [upto_succ, List.flatMap_append]; simp
theorem md1_zero (A B : Int) (num : Int → Int → Int) (nx : Int → Int → Int → Int × Int) (a b : Int) : md1 A B num nx a b 0 = [] := rfl
theorem md2_zero (A B : Int) (num : Int → Int → Int) (nx : Int → Int → Int → Int × Int) (a : Int) : md2 A B num nx a 0 = [] := rfl
theorem md3_zero (A B : Int) (num : Int → Int → Int) (nx : Int → Int → Int → Int × Int) : md3 A B num nx 0 = [] := rfl
theorem md1_succ (A B : Int) (num : Int → Int → Int) (nx : Int → Int → Int → Int × Int) (a b : Int) (k : Nat) : md1 A B num nx a b (k + 1) = md1 A B num nx a b k ++ mdB A B num nx a b k := flat_succ _ k
theorem md2_succ (A B : Int) (num : Int → Int → Int) (nx : Int → Int → Int → Int × Int) (a : Int) (k : Nat) : md2 A B num nx a (k + 1) = md2 A B num nx a k ++ md1 A B num nx a k 2 := flat_succ _ k
theorem md3_succ (A B : Int) (num : Int → Int → Int) (nx : Int → Int → Int → Int × Int) (k : Nat) : md3 A B num nx (k + 1) = md3 A B num nx k ++ md2 A B num nx k B.toNat := flat_succ _ k
theorem flat_len {α : Type} (f : Int → List α) (m : Nat) (h : ∀ a, (f a).length ≤ m) : ∀ k, ((upto k).flatMap f).length ≤ m * k
  | 0 => by simp [upto]
  | k + 1 => by rw [flat_succ, List.length_append]; have h1 := flat_len f m h k; have h2 := h k; rw [Nat.mul_succ]; omega
theorem md1_len (A B : Int) (num : Int → Int → Int) (nx : Int → Int → Int → Int × Int) (a b : Int) (k : Nat) : (md1 A B num nx a b k).length ≤ k := by
  have := flat_len (mdB A B num nx a b) 1 (mdB_len A B num nx a b) k; unfold md1; omega
theorem md2_len (A B : Int) (num : Int → Int → Int) (nx : Int → Int → Int → Int × Int) (a : Int) (k : Nat) : (md2 A B num nx a k).length ≤ 2 * k :=
  flat_len (fun b => md1 A B num nx a b 2) 2 (fun b => md1_len A B num nx a b 2) k
theorem md3_len (A B : Int) (num : Int → Int → Int) (nx : Int → Int → Int → Int × Int) (k : Nat) : (md3 A B num nx k).length ≤ 2 * B.toNat * k :=
  flat_len (fun a => md2 A B num nx a B.toNat) _ (fun a => md2_len A B num nx a B.toNat) k
theorem mem_uptoC {k : Nat} {x : Int} : x ∈ upto k ↔ 0 ≤ x ∧ x < k := by
  simp only [upto, List.mem_map, List.mem_range]
  exact ⟨fun ⟨i, h, e⟩ => by omega, fun h => ⟨x.toNat, by omega, by omega⟩⟩
theorem mem_mdA {A B : Int} {num : Int → Int → Int} {nx : Int → Int → Int → Int × Int} {x : Ed} : x ∈ mdA A B num nx ↔ ∃ a b l, (0 ≤ a ∧ a < A) ∧ (0 ≤ b ∧ b < B) ∧ (0 ≤ l ∧ l < 2) ∧
    (0 ≤ (nx a b l).1 ∧ (nx a b l).1 < A ∧ 0 ≤ (nx a b l).2 ∧ (nx a b l).2 < B) ∧ x = ⟨num a b, l, num (nx a b l).1 (nx a b l).2⟩ := by
  unfold mdA md3 md2 md1
  simp only [List.mem_flatMap, mem_uptoC]
  constructor
  · rintro ⟨a, ha, b, hb, l, hl, hx⟩
    unfold mdB at hx
    split at hx
    · rename_i h
      exact ⟨a, b, l, by omega, by omega, by omega, h, by simpa using hx⟩
    · simp at hx
  · rintro ⟨a, b, l, ha, hb, hl, h, rfl⟩
    exact ⟨a, by omega, b, by omega, l, by omega, by rw [mdB_go h]; simp⟩
/-- The edges of the charge graph, of the null graph and of the second-order graph. -/
def numC (a _ : Int) : Int := a
def nxC (a _ l : Int) : Int × Int := (a + 2 * l - 1, 0)
def numN (v t : Int) : Int := 2 * v + t
def nxN (v t l : Int) : Int × Int := (v + 2 * (if t = 1 then 1 - l else l) - 1, 1 - t)
def numS (m c s : Int) : Int := c * (m + 1) + s
def nxS (h c s l : Int) : Int × Int := (c + (2 * l - 1), s + (c + (2 * l - 1)) - h)
def crgE (k : Nat) : List Ed := (upto k).flatMap (fun s => [⟨s, 1, s + 1⟩, ⟨s + 1, 0, s⟩])
def nulB (n v t : Int) : List Ed := (if v < n then [⟨2 * v + t, 1 - t, 2 * (v + 1) + 1 - t⟩] else []) ++ (if 0 < v then [⟨2 * v + t, t, 2 * (v - 1) + 1 - t⟩] else [])
def nul1 (n v : Int) (k : Nat) : List Ed := (upto k).flatMap (nulB n v)
def nulE (n : Int) (k : Nat) : List Ed := (upto k).flatMap (fun v => nul1 n v 2)
theorem crgE_zero : crgE 0 = [] := rfl
theorem crgE_succ (k : Nat) : crgE (k + 1) = crgE k ++ [⟨k, 1, (k : Int) + 1⟩, ⟨(k : Int) + 1, 0, k⟩] := flat_succ _ k
theorem crgE_len (k : Nat) : (crgE k).length ≤ 2 * k := flat_len _ 2 (fun _ => by simp) k
theorem nul1_zero (n v : Int) : nul1 n v 0 = [] := rfl
theorem nul1_succ (n v : Int) (k : Nat) : nul1 n v (k + 1) = nul1 n v k ++ nulB n v k := flat_succ _ k
theorem nulB_len (n v t : Int) : (nulB n v t).length ≤ 2 := by unfold nulB; split <;> split <;> simp
theorem nul1_len (n v : Int) (k : Nat) : (nul1 n v k).length ≤ 2 * k := flat_len _ 2 (nulB_len n v) k
theorem nulE_zero (n : Int) : nulE n 0 = [] := rfl
theorem nulE_succ (n : Int) (k : Nat) : nulE n (k + 1) = nulE n k ++ nul1 n k 2 := flat_succ _ k
theorem nulE_len (n : Int) (k : Nat) : (nulE n k).length ≤ 4 * k := flat_len _ 4 (fun v => nul1_len n v 2) k
theorem crg_same (n : Int) (h : 0 ≤ n) (x : Ed) : x ∈ mdA (n + 1) 1 numC nxC ↔ x ∈ crgE n.toNat := by
  rw [mem_mdA]
  unfold crgE
  simp only [List.mem_flatMap, mem_uptoC, nxC, numC]
  constructor
  · rintro ⟨a, b, l, ha, hb, hl, hc, rfl⟩
    rcases (show l = 0 ∨ l = 1 by omega) with rfl | rfl
    · refine ⟨a - 1, by omega, ?_⟩
      simp <;> omega
    · refine ⟨a, by omega, ?_⟩
      simp <;> omega
  · rintro ⟨s, hs, hx⟩
    simp only [List.mem_cons, List.not_mem_nil, or_false] at hx
    rcases hx with rfl | rfl
    · exact ⟨s, 0, 1, by omega, by omega, by omega, by omega, by simp <;> omega⟩
    · exact ⟨s + 1, 0, 0, by omega, by omega, by omega, by omega, by simp <;> omega⟩
theorem nul_same (n : Int) (h : 0 ≤ n) (x : Ed) : x ∈ mdA (n + 1) 2 numN nxN ↔ x ∈ nulE n (n + 1).toNat := by
  rw [mem_mdA]
  unfold nulE nul1
  simp only [List.mem_flatMap, mem_uptoC, nxN, numN, nulB]
  constructor
  · rintro ⟨a, b, l, ha, hb, hl, hc, rfl⟩
    refine ⟨a, by omega, b, by omega, ?_⟩
    rcases (show b = 0 ∨ b = 1 by omega) with rfl | rfl <;> rcases (show l = 0 ∨ l = 1 by omega) with rfl | rfl <;> simp at hc ⊢ <;> omega
  · rintro ⟨v, hv, t, ht, hx⟩
    rw [List.mem_append] at hx
    rcases hx with hx | hx
    · split at hx
      · simp only [List.mem_cons, List.not_mem_nil, or_false] at hx
        subst hx
        refine ⟨v, t, 1 - t, by omega, by omega, by omega, ?_, ?_⟩ <;> rcases (show t = 0 ∨ t = 1 by omega) with rfl | rfl <;> simp <;> omega
      · simp at hx
    · split at hx
      · simp only [List.mem_cons, List.not_mem_nil, or_false] at hx
        subst hx
        refine ⟨v, t, t, by omega, by omega, by omega, ?_, ?_⟩ <;> rcases (show t = 0 ∨ t = 1 by omega) with rfl | rfl <;> simp <;> omega
      · simp at hx
theorem mdA_len (A B : Int) (num : Int → Int → Int) (nx : Int → Int → Int → Int × Int) : (mdA A B num nx).length ≤ 2 * B.toNat * A.toNat := md3_len A B num nx A.toNat
/-- Graphs of pairs are valid. -/
theorem mdA_chk {A B : Int} {num : Int → Int → Int} {nx : Int → Int → Int → Int × Int} (h1 : 0 ≤ A) (h2 : 0 ≤ B) (h3 : A * B ≤ 64) (hn : ∀ a b, 0 ≤ a → a < A → 0 ≤ b → b < B → 0 ≤ num a b ∧ num a b < A * B) :
    chkG ⟨2, A * B, norm (mdA A B num nx)⟩ = 0 := by
  refine chkG_norm (by omega) (by omega) (Int.mul_nonneg h1 h2) h3 ?_ (fun x hx => ?_)
  · refine Nat.le_trans (mdA_len A B num nx) ?_
    have : ((2 * B.toNat * A.toNat : Nat) : Int) = 2 * (A * B) := by
      rw [Int.natCast_mul, Int.natCast_mul, Int.toNat_of_nonneg h1, Int.toNat_of_nonneg h2, Int.mul_assoc, Int.mul_comm B A]; rfl
    omega
  · obtain ⟨a, b, l, ha, hb, hl, hc, rfl⟩ := mem_mdA.1 hx
    have i1 := hn a b ha.1 ha.2 hb.1 hb.2
    have i2 := hn _ _ hc.1 hc.2.1 hc.2.2.1 hc.2.2.2
    exact ⟨i1.1, hl.1, i2.1, i1.2, i2.2, hl.2⟩
end Go.Proofs.Ytlgjhmenjfmpfaa
