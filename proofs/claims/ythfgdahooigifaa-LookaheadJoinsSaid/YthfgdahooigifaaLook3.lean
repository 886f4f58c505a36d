/-
  Plain definitions and lemmas on tables with lookahead: what is read. Nothing here speaks of a program.
-/
import Derived.Test.YthfgdahooigifaaLook2
namespace Go.Proofs.Ythfgdahooigifaa
open Go.RowKit

/-- The input of a word of Base, among the first k. -/
def baseF (l : List ByteArray) (s : ByteArray) : Nat → Option Int | 0 => none | k + 1 => if s = bget l k then some (k : Int) else baseF l s k
/-- The inputs of a swap's word, among the first k; the others by f0. -/
def swF (l : List Sw) (s : ByteArray) (f0 : Option (List Int)) : Nat → Option (List Int) | 0 => f0 | k + 1 => if s = (sget l k).wd then some [(sget l k).i, (sget l k).j] else swF l s f0 k
def bOf (T : Tb) (s : ByteArray) : Option (List Int) := (baseF T.base s T.base.length).map (fun k => [k])
def rdF (T : Tb) (s : ByteArray) : Option (List Int) := swF T.swaps s (bOf T s) T.swaps.length

theorem baseF_none {l : List ByteArray} {s : ByteArray} : ∀ {k : Nat}, (∀ j, j < k → bget l j ≠ s) → baseF l s k = none
  | 0, _ => rfl
  | k + 1, h => by
    rw [baseF, if_neg (fun e => h k (by omega) e.symm)]
    exact baseF_none (fun j hj => h j (by omega))
theorem baseF_hit {l : List ByteArray} {s : ByteArray} {i : Nat} : ∀ {k : Nat}, i < k → bget l i = s → (∀ j, j < k → bget l j = s → j = i) → baseF l s k = some (i : Int)
  | 0, h, _, _ => by omega
  | k + 1, h, he, hu => by
    by_cases e : s = bget l k
    · have := hu k (by omega) e.symm
      subst this
      rw [baseF, if_pos e]
    · rw [baseF, if_neg e]
      have : i ≠ k := by rintro rfl; exact e he.symm
      exact baseF_hit (by omega) he (fun j hj => hu j (by omega))
theorem swF_none {l : List Sw} {s : ByteArray} {f0 : Option (List Int)} : ∀ {k : Nat}, (∀ j, j < k → (sget l j).wd ≠ s) → swF l s f0 k = f0
  | 0, _ => rfl
  | k + 1, h => by
    rw [swF, if_neg (fun e => h k (by omega) e.symm)]
    exact swF_none (fun j hj => h j (by omega))
theorem swF_hit {l : List Sw} {s : ByteArray} {f0 : Option (List Int)} {i : Nat} : ∀ {k : Nat}, i < k → (sget l i).wd = s → (∀ j, j < k → (sget l j).wd = s → j = i) → swF l s f0 k = some [(sget l i).i, (sget l i).j]
  | 0, h, _, _ => by omega
  | k + 1, h, he, hu => by
    by_cases e : s = (sget l k).wd
    · have := hu k (by omega) e.symm
      subst this
      rw [swF, if_pos e]
    · rw [swF, if_neg e]
      have : i ≠ k := by rintro rfl; exact e he.symm
      exact swF_hit (by omega) he (fun j hj => hu j (by omega))

/-! ### Words of well formed tables differ -/
theorem wOk_new {q n : Int} {l : List ByteArray} {k : Nat} (h : wOk q n l k = true) (i : Nat) (hi : i < k) (hk : k < l.length) : bget l i ≠ bget l k := by
  intro e
  have h1 : (l.take k).any (eqb (bget l k)) = false := by
    unfold wOk at h; simp only [Bool.and_eq_true, Bool.not_eq_true'] at h; exact h.2.2
  have h2 := List.any_eq_false.1 h1 (bget l i) (List.mem_iff_getElem.2 ⟨i, by rw [List.length_take]; omega, by rw [List.getElem_take, bget_eq l i (by omega)]⟩)
  exact h2 (eqb_t e.symm)
theorem ws_uniq {q n : Int} {l : List ByteArray} (h : wsOk q n l = true) {i j : Nat} (hi : i < l.length) (hj : j < l.length) (e : bget l i = bget l j) : i = j := by
  rcases Nat.lt_trichotomy i j with hlt | rfl | hlt
  · exact absurd e (wOk_new (allB_get h j hj) i hlt hj)
  · rfl
  · exact absurd e.symm (wOk_new (allB_get h i hi) j hlt hi)
theorem sw_uniq {T : Tb} (h : fmd T = true) {i j : Nat} (hi : i < T.swaps.length) (hj : j < T.swaps.length) (e : (sget T.swaps i).wd = (sget T.swaps j).wd) : i = j := by
  refine ws_uniq (fmd_split h).2.2.2 (by simpa using hi) (by simpa using hj) ?_
  rw [bget_map _ _ hi, bget_map _ _ hj, ← sget_eq _ _ hi, ← sget_eq _ _ hj]; exact e
theorem base_sz {T : Tb} (h : fmd T = true) (k : Nat) (hk : k < T.base.length) : ((bget T.base k).size : Int) = T.n := by
  rw [bget_eq _ _ hk]; exact (wsOk_get (fmd_split h).2.2.1 k hk).1
theorem sw_sz {T : Tb} (h : fmd T = true) (k : Nat) (hk : k < T.swaps.length) : ((sget T.swaps k).wd.size : Int) = 2 * T.n := by
  rw [sget_eq _ _ hk]; exact swap_size h k hk
/-- A word of Base is read by Base. -/
theorem rd_base {T : Tb} (h : fmd T = true) {s : ByteArray} (hs : (s.size : Int) = T.n) : rdF T s = bOf T s := by
  refine swF_none (fun j hj e => ?_)
  have := sw_sz h j hj; rw [e] at this; have := fmd_bd h; omega
theorem rd_base_hit {T : Tb} (h : fmd T = true) {s : ByteArray} (hs : (s.size : Int) = T.n) {k : Nat} (hk : k < T.base.length) (e : bget T.base k = s) : rdF T s = some [(k : Int)] := by
  rw [rd_base h hs, bOf, baseF_hit hk e (fun _ hj e' => ws_uniq (fmd_split h).2.2.1 hj hk (e'.trans e.symm))]; rfl
theorem rd_base_miss {T : Tb} (h : fmd T = true) {s : ByteArray} (hs : (s.size : Int) = T.n) (hn : ∀ j, j < T.base.length → bget T.base j ≠ s) : rdF T s = none := by
  rw [rd_base h hs, bOf, baseF_none hn]; rfl
theorem rd_swap_hit {T : Tb} (h : fmd T = true) {s : ByteArray} {k : Nat} (hk : k < T.swaps.length) (e : (sget T.swaps k).wd = s) : rdF T s = some [(sget T.swaps k).i, (sget T.swaps k).j] :=
  swF_hit hk e (fun _ hj e' => sw_uniq h hj hk (e'.trans e.symm))
theorem rd_swap_miss {T : Tb} (h : fmd T = true) {s : ByteArray} (hs : (s.size : Int) = 2 * T.n) (hn : ∀ j, j < T.swaps.length → (sget T.swaps j).wd ≠ s) : rdF T s = none := by
  unfold rdF bOf
  rw [swF_none hn, baseF_none (fun j hj e => ?_)]
  · rfl
  · have := base_sz h j hj; rw [e] at this; have := fmd_bd h; omega

/-! ### Decoding -/
/-- What is read at the beginning of a word, and how many letters it takes. -/
def stepS (T : Tb) (w : ByteArray) : Option (List Int × Nat) :=
  if 2 * T.n.toNat ≤ w.size then
    (match rdF T (w.extract 0 (2 * T.n.toNat)) with
    | some l => some (l, 2 * T.n.toNat)
    | none => (rdF T (w.extract 0 T.n.toNat)).map (·, T.n.toNat))
  else (rdF T (w.extract 0 T.n.toNat)).map (·, T.n.toNat)
def decG (T : Tb) : Nat → ByteArray → Option (List Int)
  | 0, _ => none
  | f + 1, w => if w.size = 0 then some [] else match stepS T w with
    | some (l, k) => (decG T f (w.extract k w.size)).map (l ++ ·)
    | none => none
def decF (T : Tb) (w : ByteArray) : Option (List Int) := decG T (w.size + 1) w
theorem ext_size (w : ByteArray) (k : Nat) : (w.extract k w.size).size = w.size - k := by simp [ByteArray.size_extract]
theorem decG_more {T : Tb} (hn : 0 < T.n.toNat) : ∀ (f g : Nat) (w : ByteArray), w.size < f → w.size < g → decG T f w = decG T g w := by
  intro f
  induction f with
  | zero => intro g w h; omega
  | succ f ih =>
    intro g w h1 h2
    obtain ⟨g, rfl⟩ : ∃ g', g = g' + 1 := ⟨g - 1, by omega⟩
    simp only [decG]
    split
    · rfl
    · split
      · rename_i hz _ l k hs
        have hk : 0 < k := by
          unfold stepS at hs
          split at hs
          · split at hs
            · cases hs; omega
            · obtain ⟨_, _, h⟩ := Option.map_eq_some_iff.1 hs; cases h; exact hn
          · obtain ⟨_, _, h⟩ := Option.map_eq_some_iff.1 hs; cases h; exact hn
        rw [ih g (w.extract k w.size) (by rw [ext_size]; omega) (by rw [ext_size]; omega)]
      · rfl
theorem decF_nil (T : Tb) {w : ByteArray} (h : w.size = 0) : decF T w = some [] := by simp [decF, decG, h]
theorem decF_step {T : Tb} (hn : 0 < T.n.toNat) {w : ByteArray} (h : w.size ≠ 0) {l : List Int} {k : Nat} (hk : 0 < k) (hs : stepS T w = some (l, k)) : decF T w = (decF T (w.extract k w.size)).map (l ++ ·) := by
  unfold decF
  rw [decG, if_neg h, hs]
  simp only
  rw [decG_more hn w.size ((w.extract k w.size).size + 1) _ (by rw [ext_size]; omega) (by omega)]
theorem decF_fail {T : Tb} {w : ByteArray} (h : w.size ≠ 0) (hs : stepS T w = none) : decF T w = none := by
  unfold decF; rw [decG, if_neg h, hs]
theorem step_swap {T : Tb} {w : ByteArray} (h : 2 * T.n.toNat ≤ w.size) {l : List Int} (hl : rdF T (w.extract 0 (2 * T.n.toNat)) = some l) : stepS T w = some (l, 2 * T.n.toNat) := by
  unfold stepS; rw [if_pos h, hl]
theorem step_base {T : Tb} {w : ByteArray} (h : 2 * T.n.toNat ≤ w.size → rdF T (w.extract 0 (2 * T.n.toNat)) = none) : stepS T w = (rdF T (w.extract 0 T.n.toNat)).map (·, T.n.toNat) := by
  unfold stepS
  split
  · rename_i h1; rw [h h1]
  · rfl
/-- What Decode answers. -/
def decA (T : Tb) (w : ByteArray) : List Int × Int :=
  if fmd T = false then ([], 1) else if wchk T.q w.data.toList ≠ 0 then ([], wchk T.q w.data.toList) else if w.size % T.n.toNat ≠ 0 then ([], 11)
  else match decF T w with | some l => (l, 0) | none => ([], 13)
theorem decA_bad {T : Tb} (w : ByteArray) (h : fmd T = false) : decA T w = ([], 1) := by simp [decA, h]
theorem decA_chk {T : Tb} {w : ByteArray} (h : fmd T = true) (h2 : wchk T.q w.data.toList ≠ 0) : decA T w = ([], wchk T.q w.data.toList) := by
  unfold decA; rw [if_neg (by simp [h]), if_pos h2]
theorem decA_mod {T : Tb} {w : ByteArray} (h : fmd T = true) (h2 : wchk T.q w.data.toList = 0) (h3 : w.size % T.n.toNat ≠ 0) : decA T w = ([], 11) := by
  unfold decA; rw [if_neg (by simp [h]), if_neg (by simp [h2]), if_pos h3]
theorem decA_ok {T : Tb} {w : ByteArray} (h : fmd T = true) (h2 : wchk T.q w.data.toList = 0) (h3 : w.size % T.n.toNat = 0) {l : List Int} (hl : decF T w = some l) : decA T w = (l, 0) := by
  unfold decA; rw [if_neg (by simp [h]), if_neg (by simp [h2]), if_neg (by simp [h3]), hl]
theorem decA_word {T : Tb} {w : ByteArray} (h : fmd T = true) (h2 : wchk T.q w.data.toList = 0) (h3 : w.size % T.n.toNat = 0) (hl : decF T w = none) : decA T w = ([], 13) := by
  unfold decA; rw [if_neg (by simp [h]), if_neg (by simp [h2]), if_neg (by simp [h3]), hl]
theorem swF_len {l : List Sw} {s : ByteArray} {f0 : Option (List Int)} (h0 : ∀ r, f0 = some r → 0 < r.length ∧ r.length ≤ 2) : ∀ {k : Nat} {r : List Int}, swF l s f0 k = some r → 0 < r.length ∧ r.length ≤ 2
  | 0, r, h => h0 r h
  | k + 1, r, h => by
    rw [swF] at h
    split at h
    · cases h; simp
    · exact swF_len h0 h
theorem rdF_len {T : Tb} {s : ByteArray} {r : List Int} (h : rdF T s = some r) : 0 < r.length ∧ r.length ≤ 2 := by
  refine swF_len (fun r hr => ?_) h
  unfold bOf at hr
  obtain ⟨k, _, rfl⟩ := Option.map_eq_some_iff.1 hr
  simp
theorem mod_sub {a k n : Int} (h : a % n = 0) (hk : k % n = 0) : (a - k) % n = 0 :=
  Int.emod_eq_zero_of_dvd (Int.dvd_sub (Int.dvd_of_emod_eq_zero h) (Int.dvd_of_emod_eq_zero hk))
theorem decF_on {T : Tb} {s cur cur' : ByteArray} {out l1 : List Int} (hd : (decF T cur).map (out ++ ·) = decF T s) (hs : decF T cur = (decF T cur').map (l1 ++ ·)) : (decF T cur').map ((out ++ l1) ++ ·) = decF T s := by
  rw [← hd, hs, Option.map_map]
  congr 1
  funext x
  simp
end Go.Proofs.Ythfgdahooigifaa
