/-
  Words, plain lemmas and walks, merged: Look3, LookJ, Qa, LkA, LkB, LkC, Qb, Ta, Qc, LkD, LkE, LkF, Rb, LkG, LkH, Rc, Rd.
-/
import Derived.Test.YtdhkdampdlhdoaaGreatZnl
import Derived.Test.YtdhkdampdlhdoaaGreatZng
import Derived.Test.YtdhkdampdlhdoaaGreatZnk
import Derived.Test.YtdhkdampdlhdoaaGreatZnh
import Derived.StillTailTactics
import Derived.Outline
import Derived.WideKeyPair
import Derived.Test.YtdhkdampdlhdoaaGreatZne
import Derived.Test.YtdhkdampdlhdoaaGreatZnd
import Derived.Shelf.Strconv.Itoa3
import Derived.Lib.AppendIntMem
import Derived.Test.YtdhkdampdlhdoaaGreatZnf
import Derived.Deep.RegionWith
set_option linter.unusedVariables false
set_option linter.unusedSimpArgs false
namespace Go.Proofs.YtdhkdampdlhdoaaGreat
open Go.RowKit

/-- The input of a word of Base, among the first k. -/
def baseF (l : List ByteArray) (s : ByteArray) : Nat → Option Int | 0 => none | k + 1 => if s = bget l k then some (k : Int) else baseF l s k
/-- The inputs of a swap's word, among the first k; the others by f0. -/
def swF (l : List Sw) (s : ByteArray) (f0 : Option (List Int)) : Nat → Option (List Int) | 0 => f0 | k + 1 => if s = (sget l k).wd then some [(sget l k).i, (sget l k).j] else swF l s f0 k
def bOf (T : Tb) (s : ByteArray) : Option (List Int) := (baseF T.base s T.base.length).map (fun k => [k])
def rdF (T : Tb) (s : ByteArray) : Option (List Int) := swF T.swaps s (bOf T s) T.swaps.length

theorem baseF_none {l : List ByteArray} {s : ByteArray} : ∀ {k : Nat}, (∀ j, j < k → bget l j ≠ s) → baseF l s k = none
  | 0, _ => rfl
  | k + 1, h => by
    rw [baseF, if_neg (fun e => h k (by omega) e.symm)]
    exact baseF_none (fun j hj => h j (by omega))
theorem baseF_hit {l : List ByteArray} {s : ByteArray} {i : Nat} : ∀ {k : Nat}, i < k → bget l i = s → (∀ j, j < k → bget l j = s → j = i) → baseF l s k = some (i : Int)
  | 0, h, _, _ => by omega
  | k + 1, h, he, hu => by
    by_cases e : s = bget l k
    · have := hu k (by omega) e.symm
      subst this
      rw [baseF, if_pos e]
    · rw [baseF, if_neg e]
      have : i ≠ k := by rintro rfl; exact e he.symm
      exact baseF_hit (by omega) he (fun j hj => hu j (by omega))
theorem swF_none {l : List Sw} {s : ByteArray} {f0 : Option (List Int)} : ∀ {k : Nat}, (∀ j, j < k → (sget l j).wd ≠ s) → swF l s f0 k = f0
  | 0, _ => rfl
  | k + 1, h => by
    rw [swF, if_neg (fun e => h k (by omega) e.symm)]
    exact swF_none (fun j hj => h j (by omega))
theorem swF_hit {l : List Sw} {s : ByteArray} {f0 : Option (List Int)} {i : Nat} : ∀ {k : Nat}, i < k → (sget l i).wd = s → (∀ j, j < k → (sget l j).wd = s → j = i) → swF l s f0 k = some [(sget l i).i, (sget l i).j]
  | 0, h, _, _ => by omega
  | k + 1, h, he, hu => by
    by_cases e : s = (sget l k).wd
    · have := hu k (by omega) e.symm
      subst this
      rw [swF, if_pos e]
    · rw [swF, if_neg e]
      have : i ≠ k := by rintro rfl; exact e he.symm
      exact swF_hit (by omega) he (fun j hj => hu j (by omega))

/-! ### Words of well formed tables differ -/
theorem wOk_new {q n : Int} {l : List ByteArray} {k : Nat} (h : wOk q n l k = true) (i : Nat) (hi : i < k) (hk : k < l.length) : bget l i ≠ bget l k := by
  intro e
  have h1 : (l.take k).any (eqb (bget l k)) = false := by
    unfold wOk at h; simp only [Bool.and_eq_true, Bool.not_eq_true'] at h; exact h.2.2
  have h2 := List.any_eq_false.1 h1 (bget l i) (List.mem_iff_getElem.2 ⟨i, by rw [List.length_take]; omega, by rw [List.getElem_take, bget_eq l i (by omega)]⟩)
  exact h2 (eqb_t e.symm)
theorem ws_uniq {q n : Int} {l : List ByteArray} (h : wsOk q n l = true) {i j : Nat} (hi : i < l.length) (hj : j < l.length) (e : bget l i = bget l j) : i = j := by
  rcases Nat.lt_trichotomy i j with hlt | rfl | hlt
  · exact absurd e (wOk_new (allB_get h j hj) i hlt hj)
  · rfl
  · exact absurd e.symm (wOk_new (allB_get h i hi) j hlt hi)
theorem sw_uniq {T : Tb} (h : fmd T = true) {i j : Nat} (hi : i < T.swaps.length) (hj : j < T.swaps.length) (e : (sget T.swaps i).wd = (sget T.swaps j).wd) : i = j := by
  refine ws_uniq (fmd_split h).2.2.2 (by simpa using hi) (by simpa using hj) ?_
  rw [bget_map _ _ hi, bget_map _ _ hj, ← sget_eq _ _ hi, ← sget_eq _ _ hj]; exact e
theorem base_sz {T : Tb} (h : fmd T = true) (k : Nat) (hk : k < T.base.length) : ((bget T.base k).size : Int) = T.n := by
  rw [bget_eq _ _ hk]; exact (wsOk_get (fmd_split h).2.2.1 k hk).1
theorem sw_sz {T : Tb} (h : fmd T = true) (k : Nat) (hk : k < T.swaps.length) : ((sget T.swaps k).wd.size : Int) = 2 * T.n := by
  rw [sget_eq _ _ hk]; exact swap_size h k hk
/-- A word of Base is read by Base. -/
theorem rd_base {T : Tb} (h : fmd T = true) {s : ByteArray} (hs : (s.size : Int) = T.n) : rdF T s = bOf T s := by
  refine swF_none (fun j hj e => ?_)
  have := sw_sz h j hj; rw [e] at this; have := fmd_bd h; omega
theorem rd_base_hit {T : Tb} (h : fmd T = true) {s : ByteArray} (hs : (s.size : Int) = T.n) {k : Nat} (hk : k < T.base.length) (e : bget T.base k = s) : rdF T s = some [(k : Int)] := by
  rw [rd_base h hs, bOf, baseF_hit hk e (fun _ hj e' => ws_uniq (fmd_split h).2.2.1 hj hk (e'.trans e.symm))]; rfl
theorem rd_base_miss {T : Tb} (h : fmd T = true) {s : ByteArray} (hs : (s.size : Int) = T.n) (hn : ∀ j, j < T.base.length → bget T.base j ≠ s) : rdF T s = none := by
  rw [rd_base h hs, bOf, baseF_none hn]; rfl
theorem rd_swap_hit {T : Tb} (h : fmd T = true) {s : ByteArray} {k : Nat} (hk : k < T.swaps.length) (e : (sget T.swaps k).wd = s) : rdF T s = some [(sget T.swaps k).i, (sget T.swaps k).j] :=
  swF_hit hk e (fun _ hj e' => sw_uniq h hj hk (e'.trans e.symm))
theorem rd_swap_miss {T : Tb} (h : fmd T = true) {s : ByteArray} (hs : (s.size : Int) = 2 * T.n) (hn : ∀ j, j < T.swaps.length → (sget T.swaps j).wd ≠ s) : rdF T s = none := by
  unfold rdF bOf
  rw [swF_none hn, baseF_none (fun j hj e => ?_)]
  · rfl
  · have := base_sz h j hj; rw [e] at this; have := fmd_bd h; omega

/-! ### Decoding -/
/-- What is read at the beginning of a word, and how many letters it takes. -/
def stepS (T : Tb) (w : ByteArray) : Option (List Int × Nat) :=
  if 2 * T.n.toNat ≤ w.size then
    (match rdF T (w.extract 0 (2 * T.n.toNat)) with
    | some l => some (l, 2 * T.n.toNat)
    | none => (rdF T (w.extract 0 T.n.toNat)).map (·, T.n.toNat))
  else (rdF T (w.extract 0 T.n.toNat)).map (·, T.n.toNat)
def decG (T : Tb) : Nat → ByteArray → Option (List Int)
  | 0, _ => none
  | f + 1, w => if w.size = 0 then some [] else match stepS T w with
    | some (l, k) => (decG T f (w.extract k w.size)).map (l ++ ·)
    | none => none
def decF (T : Tb) (w : ByteArray) : Option (List Int) := decG T (w.size + 1) w
theorem ext_size (w : ByteArray) (k : Nat) : (w.extract k w.size).size = w.size - k := by simp [ByteArray.size_extract]
theorem decG_more {T : Tb} (hn : 0 < T.n.toNat) : ∀ (f g : Nat) (w : ByteArray), w.size < f → w.size < g → decG T f w = decG T g w := by
  intro f
  induction f with
  | zero => intro g w h; omega
  | succ f ih =>
    intro g w h1 h2
    obtain ⟨g, rfl⟩ : ∃ g', g = g' + 1 := ⟨g - 1, by omega⟩
    simp only [decG]
    split
    · rfl
    · split
      · rename_i hz _ l k hs
        have hk : 0 < k := by
          unfold stepS at hs
          split at hs
          · split at hs
            · cases hs; omega
            · obtain ⟨_, _, h⟩ := Option.map_eq_some_iff.1 hs; cases h; exact hn
          · obtain ⟨_, _, h⟩ := Option.map_eq_some_iff.1 hs; cases h; exact hn
        rw [ih g (w.extract k w.size) (by rw [ext_size]; omega) (by rw [ext_size]; omega)]
      · rfl
theorem decF_nil (T : Tb) {w : ByteArray} (h : w.size = 0) : decF T w = some [] := by simp [decF, decG, h]
theorem decF_step {T : Tb} (hn : 0 < T.n.toNat) {w : ByteArray} (h : w.size ≠ 0) {l : List Int} {k : Nat} (hk : 0 < k) (hs : stepS T w = some (l, k)) : decF T w = (decF T (w.extract k w.size)).map (l ++ ·) := by
  unfold decF
  rw [decG, if_neg h, hs]
  simp only
  rw [decG_more hn w.size ((w.extract k w.size).size + 1) _ (by rw [ext_size]; omega) (by omega)]
theorem decF_fail {T : Tb} {w : ByteArray} (h : w.size ≠ 0) (hs : stepS T w = none) : decF T w = none := by
  unfold decF; rw [decG, if_neg h, hs]
theorem step_swap {T : Tb} {w : ByteArray} (h : 2 * T.n.toNat ≤ w.size) {l : List Int} (hl : rdF T (w.extract 0 (2 * T.n.toNat)) = some l) : stepS T w = some (l, 2 * T.n.toNat) := by
  unfold stepS; rw [if_pos h, hl]
theorem step_base {T : Tb} {w : ByteArray} (h : 2 * T.n.toNat ≤ w.size → rdF T (w.extract 0 (2 * T.n.toNat)) = none) : stepS T w = (rdF T (w.extract 0 T.n.toNat)).map (·, T.n.toNat) := by
  unfold stepS
  split
  · rename_i h1; rw [h h1]
  · rfl
/-- What Decode answers. -/
def decA (T : Tb) (w : ByteArray) : List Int × Int :=
  if fmd T = false then ([], 1) else if wchk T.q w.data.toList ≠ 0 then ([], wchk T.q w.data.toList) else if w.size % T.n.toNat ≠ 0 then ([], 11)
  else match decF T w with | some l => (l, 0) | none => ([], 13)
theorem decA_bad {T : Tb} (w : ByteArray) (h : fmd T = false) : decA T w = ([], 1) := by simp [decA, h]
theorem decA_chk {T : Tb} {w : ByteArray} (h : fmd T = true) (h2 : wchk T.q w.data.toList ≠ 0) : decA T w = ([], wchk T.q w.data.toList) := by
  unfold decA; rw [if_neg (by simp [h]), if_pos h2]
theorem decA_mod {T : Tb} {w : ByteArray} (h : fmd T = true) (h2 : wchk T.q w.data.toList = 0) (h3 : w.size % T.n.toNat ≠ 0) : decA T w = ([], 11) := by
  unfold decA; rw [if_neg (by simp [h]), if_neg (by simp [h2]), if_pos h3]
theorem decA_ok {T : Tb} {w : ByteArray} (h : fmd T = true) (h2 : wchk T.q w.data.toList = 0) (h3 : w.size % T.n.toNat = 0) {l : List Int} (hl : decF T w = some l) : decA T w = (l, 0) := by
  unfold decA; rw [if_neg (by simp [h]), if_neg (by simp [h2]), if_neg (by simp [h3]), hl]
theorem decA_word {T : Tb} {w : ByteArray} (h : fmd T = true) (h2 : wchk T.q w.data.toList = 0) (h3 : w.size % T.n.toNat = 0) (hl : decF T w = none) : decA T w = ([], 13) := by
  unfold decA; rw [if_neg (by simp [h]), if_neg (by simp [h2]), if_neg (by simp [h3]), hl]
theorem swF_len {l : List Sw} {s : ByteArray} {f0 : Option (List Int)} (h0 : ∀ r, f0 = some r → 0 < r.length ∧ r.length ≤ 2) : ∀ {k : Nat} {r : List Int}, swF l s f0 k = some r → 0 < r.length ∧ r.length ≤ 2
  | 0, r, h => h0 r h
  | k + 1, r, h => by
    rw [swF] at h
    split at h
    · cases h; simp
    · exact swF_len h0 h
theorem rdF_len {T : Tb} {s : ByteArray} {r : List Int} (h : rdF T s = some r) : 0 < r.length ∧ r.length ≤ 2 := by
  refine swF_len (fun r hr => ?_) h
  unfold bOf at hr
  obtain ⟨k, _, rfl⟩ := Option.map_eq_some_iff.1 hr
  simp
theorem mod_sub {a k n : Int} (h : a % n = 0) (hk : k % n = 0) : (a - k) % n = 0 :=
  Int.emod_eq_zero_of_dvd (Int.dvd_sub (Int.dvd_of_emod_eq_zero h) (Int.dvd_of_emod_eq_zero hk))
theorem decF_on {T : Tb} {s cur cur' : ByteArray} {out l1 : List Int} (hd : (decF T cur).map (out ++ ·) = decF T s) (hs : decF T cur = (decF T cur').map (l1 ++ ·)) : (decF T cur').map ((out ++ l1) ++ ·) = decF T s := by
  rw [← hd, hs, Option.map_map]
  congr 1
  funext x
  simp
end Go.Proofs.YtdhkdampdlhdoaaGreat
namespace Go.Proofs.YtdhkdampdlhdoaaGreat
open Go.RowKit

def isSw (l : List Sw) (i j : Int) : Bool := l.any (fun s => decide (s.i = i) && decide (s.j = j))
theorem isSw_eq (l : List Sw) (i j : Int) : isSw l i j = (swapW l i j).isSome := by
  unfold isSw swapW
  rw [Option.isSome_map, List.any_eq, Bool.eq_iff_iff]
  simp [List.find?_isSome]
theorem isSw_some {l : List Sw} {i j : Int} (h : isSw l i j = true) : ∃ w, swapW l i j = some w := by
  rw [isSw_eq] at h; exact Option.isSome_iff_exists.1 h
theorem isSw_none {l : List Sw} {i j : Int} (h : isSw l i j = false) : swapW l i j = none := by
  rw [isSw_eq] at h; simpa using h
/-- Whether the last input is written alone. -/
def aloneL (S : List Sw) : List Int → Bool
  | [] => false
  | [_] => true
  | x :: y :: r => if isSw S x y then aloneL S r else aloneL S (y :: r)
/-- The same behind a first part, after which `b` holds. -/
def aloneF (S : List Sw) (b : Bool) (l : List Int) : Bool := if l = [] then b else aloneL S l
theorem aloneF_start (S : List Sw) (l : List Int) : aloneF S false l = aloneL S l := by
  unfold aloneF; split
  · rename_i h; subst h; rfl
  · rfl
theorem aloneF_end (S : List Sw) (b : Bool) (l : List Int) (m : Nat) (h : l.length ≤ m) : aloneF S b (l.drop m) = b := by
  rw [List.drop_eq_nil_of_le h]; rfl
theorem aloneF_one (S : List Sw) (b : Bool) (l : List Int) (m : Nat) (h : m < l.length) (h1 : ¬ m + 1 < l.length) : aloneF S b (l.drop m) = aloneF S true (l.drop (m + 1)) := by
  have h2 : l.drop (m + 1) = [] := List.drop_eq_nil_of_le (by omega)
  rw [List.drop_eq_getElem_cons h, h2]; rfl
theorem aloneF_swap' (S : List Sw) (b : Bool) (x y : Int) (r : List Int) (hs : isSw S x y = true) : aloneF S b (x :: y :: r) = aloneF S false r := by
  rw [aloneF_start]; simp [aloneF, aloneL, hs]
theorem aloneF_base' (S : List Sw) (b : Bool) (x y : Int) (r : List Int) (hs : isSw S x y = false) : aloneF S b (x :: y :: r) = aloneF S true (y :: r) := by
  simp [aloneF, aloneL, hs]
theorem aloneF_swap (S : List Sw) (b : Bool) (l : List Int) (m : Nat) (h : m + 1 < l.length) (hs : isSw S l[m] l[m + 1] = true) : aloneF S b (l.drop m) = aloneF S false (l.drop (m + 2)) := by
  rw [List.drop_eq_getElem_cons (by omega : m < l.length), List.drop_eq_getElem_cons h]; exact aloneF_swap' S b _ _ _ hs
theorem aloneF_base (S : List Sw) (b : Bool) (l : List Int) (m : Nat) (h : m + 1 < l.length) (hs : isSw S l[m] l[m + 1] = false) : aloneF S b (l.drop m) = aloneF S true (l.drop (m + 1)) := by
  rw [List.drop_eq_getElem_cons (by omega : m < l.length), List.drop_eq_getElem_cons h]; exact aloneF_base' S b _ _ _ hs

theorem encB_app (T : Tb) (b : List Int) : ∀ (n : Nat) (a : List Int), a.length ≤ n →
    (aloneL T.swaps a = true → ∀ x y, a.getLast? = some x → b.head? = some y → isSw T.swaps x y = false) → encB T (a ++ b) = encB T a ++ encB T b
  | _, [], _, _ => by simp [encB]
  | _, [x], _, h => by
    cases b with
    | nil => simp [encB]
    | cons y r =>
      have := isSw_none (h rfl x y rfl rfl)
      show encB T (x :: y :: r) = encB T [x] ++ encB T (y :: r)
      simp [encB, this]
  | 0, x :: y :: r, hn, _ => by simp at hn
  | n + 1, x :: y :: r, hn, h => by
    cases hs : isSw T.swaps x y
    · have h1 := isSw_none hs
      have ih := encB_app T b n (y :: r) (by simp at hn ⊢; omega) (fun ha u v hu hv => h (by rw [aloneL, hs]; exact ha) u v (by simpa using hu) hv)
      show encB T (x :: y :: (r ++ b)) = encB T (x :: y :: r) ++ encB T b
      rw [show encB T (x :: y :: (r ++ b)) = (baseW T x).data.toList ++ encB T (y :: (r ++ b)) by simp [encB, h1], show encB T (x :: y :: r) = (baseW T x).data.toList ++ encB T (y :: r) by simp [encB, h1], List.append_assoc, ← ih]; rfl
    · obtain ⟨w, h1⟩ := isSw_some hs
      have ih := encB_app T b n r (by simp at hn ⊢; omega) (fun ha u v hu hv => h (by rw [aloneL, hs]; exact ha) u v (by
        cases r with
        | nil => simp at hu
        | cons z r => simpa using hu) hv)
      show encB T (x :: y :: (r ++ b)) = encB T (x :: y :: r) ++ encB T b
      simp only [encB, h1, List.append_assoc, ih]
theorem encB_len {T : Tb} (h : fmd T = true) : ∀ (n : Nat) (l : List Int), l.length ≤ n → l.any (outB T.base.length) = false → (encB T l).length = l.length * T.n.toNat
  | _, [], _, _ => by simp [encB]
  | _, [x], _, ho => by
    have := outB_f (any_f ho 0 (by simp))
    have h2 := base_size h x this.1 this.2
    simp [encB]; omega
  | 0, x :: y :: r, hn, _ => by simp at hn
  | n + 1, x :: y :: r, hn, ho => by
    have h0 := outB_f (any_f ho 0 (by simp))
    have h2 := base_size h x h0.1 h0.2
    simp only [List.getElem_cons_zero] at h0 h2
    have ho1 : (y :: r).any (outB T.base.length) = false := by rw [List.any_cons] at ho; simp at ho ⊢; exact ho.2
    have ho2 : r.any (outB T.base.length) = false := by rw [List.any_cons] at ho1; simp at ho1 ⊢; exact ho1.2
    cases hs : swapW T.swaps x y with
    | none =>
      have ih := encB_len h n (y :: r) (by simp at hn ⊢; omega) ho1
      simp only [encB, hs, List.length_append, ih, List.length_cons]
      have : (baseW T x).data.toList.length = T.n.toNat := by simp; omega
      rw [this, Nat.succ_mul (r.length + 1)]; omega
    | some w =>
      have ih := encB_len h n r (by simp at hn ⊢; omega) ho2
      have hw := swapW_size h hs
      simp only [encB, hs, List.length_append, ih, List.length_cons]
      have : w.data.toList.length = 2 * T.n.toNat := by simp; omega
      rw [this, Nat.succ_mul (r.length + 1), Nat.succ_mul r.length]; omega
/-- The inputs that a law picks. -/
def picks (N : Nat) (l : List UInt8) : List Int := l.map (fun n => (n.toNat : Int) % N)
theorem picks_ok {N : Nat} (hN : 0 < N) (l : List UInt8) : (picks N l).any (outB N) = false := by
  rw [List.any_eq_false]; intro x hx
  obtain ⟨n, _, rfl⟩ := List.mem_map.1 hx
  have h1 := Int.emod_nonneg (n.toNat : Int) (b := N) (by omega)
  have h2 := Int.emod_lt_of_pos (n.toNat : Int) (b := N) (by omega)
  simp [outB]; omega
theorem encW_app (T : Tb) (a b : List Int) (h : aloneL T.swaps a = true → ∀ x y, a.getLast? = some x → b.head? = some y → isSw T.swaps x y = false) : encW T (a ++ b) = encW T a ++ encW T b := by
  unfold encW
  rw [encB_app T b a.length a (Nat.le_refl _) h]
  apply ByteArray.ext
  simp
theorem encW_size {T : Tb} (h : fmd T = true) (l : List Int) (ho : l.any (outB T.base.length) = false) : (encW T l).size = l.length * T.n.toNat := by
  have := encB_len h l.length l (Nat.le_refl _) ho
  unfold encW; simp [ByteArray.size, this]
theorem any_app_f {α : Type} {f : α → Bool} {a b : List α} (ha : a.any f = false) (hb : b.any f = false) : (a ++ b).any f = false := by rw [List.any_append, ha, hb]; rfl
end Go.Proofs.YtdhkdampdlhdoaaGreat
namespace Go.Proofs.YtdhkdampdlhdoaaGreat
open Go.RowKit

/-! ### Readable tables -/
/-- A pair is no swap. -/
def frW (T : Tb) (i j : Int) : Bool := (swapW T.swaps i j).isNone
/-- The blocks that can follow the Base word of an input. -/
def flw (T : Tb) (i : Int) : List ByteArray :=
  ((List.range T.base.length).filter (fun (j : Nat) => frW T i (j : Int))).map (fun j => bget T.base j) ++ (T.swaps.filter (fun s => frW T i s.i)).map (fun s => s.wd.extract 0 T.n.toNat)
def tkn (T : Tb) (w : ByteArray) : Bool := T.swaps.any (fun s => eqb s.wd w)
def rdbl (T : Tb) : Bool := (List.range T.base.length).all (fun (i : Nat) => (flw T (i : Int)).all (fun b => !tkn T (bget T.base i ++ b)))
theorem rdbl_get {T : Tb} (h : rdbl T = true) {i : Nat} (hi : i < T.base.length) {b : ByteArray} (hb : b ∈ flw T (i : Int)) : ∀ s ∈ T.swaps, s.wd ≠ bget T.base i ++ b := fun s hs e => by
  have h1 := List.all_eq_true.1 h i (List.mem_range.2 hi)
  have h2 := List.all_eq_true.1 h1 b hb
  unfold tkn at h2
  rw [Bool.not_eq_true', List.any_eq_false] at h2
  exact h2 s hs (eqb_t e)
theorem swapW_mem {T : Tb} {i j : Int} {w : ByteArray} (h : swapW T.swaps i j = some w) : ∃ k, ∃ hk : k < T.swaps.length, T.swaps[k].i = i ∧ T.swaps[k].j = j ∧ T.swaps[k].wd = w := by
  unfold swapW at h
  obtain ⟨s, hs, rfl⟩ := Option.map_eq_some_iff.1 h
  have hm := List.mem_of_find?_eq_some hs
  have hp := List.find?_some hs
  simp only [Bool.and_eq_true, decide_eq_true_eq] at hp
  obtain ⟨k, hk, rfl⟩ := List.getElem_of_mem hm
  exact ⟨k, hk, hp.1, hp.2, rfl⟩
theorem swaps_in {T : Tb} (hf : fmd T = true) {s : Sw} (hs : s ∈ T.swaps) : 0 ≤ s.i ∧ s.i < T.base.length ∧ 0 ≤ s.j ∧ s.j < T.base.length := by
  obtain ⟨k, hk, rfl⟩ := List.getElem_of_mem hs
  have h := (fmd_split hf).2.1
  have h1 := allB_get h k hk
  unfold sOk at h1
  rw [Bool.and_eq_true, sget_eq _ _ hk] at h1
  have h2 := h1.1
  unfold inB at h2
  simp only [Bool.and_eq_true, decide_eq_true_eq] at h2
  omega
theorem frW_start {T : Tb} (hf : fmd T = true) (j : Int) : frW T (-1) j = true := by
  unfold frW
  rw [Option.isNone_iff_eq_none]
  cases h : swapW T.swaps (-1) j with
  | none => rfl
  | some w =>
    obtain ⟨k, hk, h1, _, _⟩ := swapW_mem h
    have := swaps_in hf (List.getElem_mem hk)
    omega

theorem pre_base {T : Tb} (hf : fmd T = true) : 0 < T.base.length := by
  have h := of_decide_eq_true (show decide (2 ≤ T.q ∧ T.q ≤ 16 ∧ 1 ≤ T.n ∧ T.n ≤ 8 ∧ 2 ≤ T.base.length ∧ T.base.length ≤ 16 ∧ T.swaps.length ≤ 64) = true from (fmd_split hf).1)
  omega

/-! ### Reading back -/
theorem encW_nil (T : Tb) : encW T [] = (⟨#[]⟩ : ByteArray) := rfl
theorem encW_one (T : Tb) (x : Int) : encW T [x] = baseW T x := by
  unfold encW; simp only [encB]
theorem encW_base {T : Tb} {x y : Int} {r : List Int} (h : swapW T.swaps x y = none) : encW T (x :: y :: r) = baseW T x ++ encW T (y :: r) := by
  unfold encW; rw [encB, h]; apply ByteArray.ext; simp
theorem encW_swap {T : Tb} {x y : Int} {r : List Int} {w : ByteArray} (h : swapW T.swaps x y = some w) : encW T (x :: y :: r) = w ++ encW T r := by
  unfold encW; rw [encB, h]; apply ByteArray.ext; simp
theorem toL_ext (w : ByteArray) (i k : Nat) : (w.extract i k).data.toList = (w.data.toList.take k).drop i := by
  rw [ByteArray.data_extract, Array.toList_extract, List.extract_eq_take_drop, List.drop_take]
theorem toL_app (a b : ByteArray) : (a ++ b).data.toList = a.data.toList ++ b.data.toList := by rw [ByteArray.data_append, Array.toList_append]
theorem toL_len (a : ByteArray) : a.data.toList.length = a.size := by cases a; rfl
theorem ba_eq {a b : ByteArray} (h : a.data.toList = b.data.toList) : a = b := ByteArray.ext (Array.toList_inj.1 h)
theorem ext_pre (a b : ByteArray) : (a ++ b).extract 0 a.size = a := by
  apply ba_eq
  rw [toL_ext, toL_app, List.drop_zero, ← toL_len, List.take_left]
theorem ext_suf (a b : ByteArray) : (a ++ b).extract a.size (a ++ b).size = b := by
  apply ba_eq
  rw [toL_ext, ← toL_len, ← toL_len, List.take_length, toL_app, List.drop_left]
theorem ext_pre2 (a b : ByteArray) (n : Nat) (h : n ≤ a.size) : (a ++ b).extract 0 n = a.extract 0 n := by
  apply ba_eq
  rw [toL_ext, toL_ext, toL_app, List.drop_zero, List.drop_zero, List.take_append_of_le_length (by rw [toL_len]; exact h)]
theorem ext_two (a b : ByteArray) (n m : Nat) (h : a.size = n) : (a ++ b).extract 0 (n + m) = a ++ b.extract 0 m := by
  subst h
  apply ba_eq
  rw [toL_ext, toL_app, toL_app, toL_ext, List.drop_zero, List.drop_zero, ← toL_len, List.take_length_add_append]
/-- The first block of what is written. -/
theorem head_flw {T : Tb} (hf : fmd T = true) {x y : Int} {r : List Int} (ho : (y :: r).any (outB T.base.length) = false) (h : swapW T.swaps x y = none) : (encW T (y :: r)).extract 0 T.n.toNat ∈ flw T x := by
  have hy := outB_f (any_f ho 0 (by simp))
  simp only [List.getElem_cons_zero] at hy
  have hbs := base_size hf y hy.1 hy.2
  have hfr : frW T x y = true := by unfold frW; rw [h]; rfl
  have hbase : baseW T y ∈ flw T x := by
    unfold flw
    refine List.mem_append_left _ (List.mem_map.2 ⟨y.toNat, List.mem_filter.2 ⟨List.mem_range.2 (by omega), ?_⟩, rfl⟩)
    rw [show ((y.toNat : Nat) : Int) = y by omega]; exact hfr
  cases r with
  | nil =>
    rw [encW_one]
    have : (baseW T y).extract 0 T.n.toNat = baseW T y := by
      rw [show T.n.toNat = (baseW T y).size by omega]; simp
    rw [this]; exact hbase
  | cons z r =>
    cases hs : swapW T.swaps y z with
    | none =>
      rw [encW_base hs, ext_pre2 _ _ _ (by omega)]
      have : (baseW T y).extract 0 T.n.toNat = baseW T y := by
        rw [show T.n.toNat = (baseW T y).size by omega]; simp
      rw [this]; exact hbase
    | some w =>
      have hw := swapW_size hf hs
      obtain ⟨k, hk, h1, h2, h3⟩ := swapW_mem hs
      rw [encW_swap hs, ext_pre2 _ _ _ (by have := fmd_bd hf; omega)]
      unfold flw
      refine List.mem_append_right _ (List.mem_map.2 ⟨T.swaps[k], List.mem_filter.2 ⟨List.getElem_mem hk, ?_⟩, by rw [h3]⟩)
      rw [h1]; exact hfr
theorem dec_enc {T : Tb} (hf : fmd T = true) (hr : rdbl T = true) : ∀ (m : Nat) (l : List Int), l.length ≤ m → l.any (outB T.base.length) = false → decF T (encW T l) = some l
  | _, [], _, _ => by rw [encW_nil]; exact decF_nil T rfl
  | _, [x], _, ho => by
    have hx := outB_f (any_f ho 0 (by simp))
    simp only [List.getElem_cons_zero] at hx
    have hb := fmd_bd hf
    have hbs := base_size hf x hx.1 hx.2
    rw [encW_one]
    have he : (baseW T x).extract 0 T.n.toNat = baseW T x := by
      rw [show T.n.toNat = (baseW T x).size by omega]; simp
    have hrd : rdF T (baseW T x) = some [x] := by
      have := rd_base_hit hf (s := baseW T x) (by omega) (k := x.toNat) (by omega) rfl
      rw [this, show ((x.toNat : Nat) : Int) = x by omega]
    have hst : stepS T (baseW T x) = some ([x], T.n.toNat) := by
      rw [step_base (fun h => by omega), he, hrd]; rfl
    rw [decF_step (by omega) (by omega) (by omega) hst, decF_nil T (by rw [ext_size]; omega)]
    rfl
  | 0, x :: y :: r, hn, _ => by simp at hn
  | m + 1, x :: y :: r, hn, ho => by
    have hx := outB_f (any_f ho 0 (by simp))
    simp only [List.getElem_cons_zero] at hx
    have hb := fmd_bd hf
    have ho1 : (y :: r).any (outB T.base.length) = false := by rw [List.any_cons] at ho; simp at ho ⊢; exact ho.2
    have ho2 : r.any (outB T.base.length) = false := by rw [List.any_cons] at ho1; simp at ho1 ⊢; exact ho1.2
    cases hs : swapW T.swaps x y with
    | none =>
      have ih := dec_enc hf hr m (y :: r) (by simp at hn ⊢; omega) ho1
      have hbs := base_size hf x hx.1 hx.2
      have hfl := head_flw hf ho1 hs
      rw [encW_base hs]
      generalize encW T (y :: r) = e at *
      have hz : (baseW T x).size = T.n.toNat := by omega
      have he : (baseW T x ++ e).extract 0 T.n.toNat = baseW T x := by rw [← hz, ext_pre]
      have he2 : (baseW T x ++ e).extract 0 (2 * T.n.toNat) = baseW T x ++ e.extract 0 T.n.toNat := by
        rw [show 2 * T.n.toNat = T.n.toNat + T.n.toNat by omega, ext_two _ _ _ _ hz]
      have hrd : rdF T (baseW T x) = some [x] := by
        have := rd_base_hit hf (s := baseW T x) (by omega) (k := x.toNat) (by omega) rfl
        rw [this, show ((x.toNat : Nat) : Int) = x by omega]
      have hst : stepS T (baseW T x ++ e) = some ([x], T.n.toNat) := by
        rw [step_base (fun h => ?_), he, hrd]; rfl
        rw [ByteArray.size_append] at h
        rw [he2]
        refine rd_swap_miss hf ?_ (fun j hj e1 => ?_)
        · rw [ByteArray.size_append]; simp; omega
        · rw [sget_eq _ _ hj] at e1
          have hxe : ((x.toNat : Nat) : Int) = x := by omega
          exact rdbl_get hr (i := x.toNat) (by omega) (b := e.extract 0 T.n.toNat) (by rw [hxe]; exact hfl) _ (List.getElem_mem hj) e1
      have hrest : (baseW T x ++ e).extract T.n.toNat (baseW T x ++ e).size = e := by
        rw [← hz]; exact ext_suf _ _
      rw [decF_step (by omega) (by rw [ByteArray.size_append]; omega) (by omega) hst, hrest, ih]
      rfl
    | some w =>
      have ih := dec_enc hf hr m r (by simp at hn ⊢; omega) ho2
      have hw := swapW_size hf hs
      obtain ⟨k, hk, h1, h2, h3⟩ := swapW_mem hs
      rw [encW_swap hs]
      generalize encW T r = e at *
      have hz : w.size = 2 * T.n.toNat := by omega
      have he : (w ++ e).extract 0 (2 * T.n.toNat) = w := by rw [← hz, ext_pre]
      have hrd : rdF T w = some [x, y] := by
        have := rd_swap_hit hf (s := w) (k := k) hk (by rw [sget_eq _ _ hk]; exact h3)
        rw [this, sget_eq _ _ hk, h1, h2]
      have hst : stepS T (w ++ e) = some ([x, y], 2 * T.n.toNat) := step_swap (by rw [ByteArray.size_append]; omega) (by rw [he]; exact hrd)
      have hrest : (w ++ e).extract (2 * T.n.toNat) (w ++ e).size = e := by
        rw [← hz]; exact ext_suf _ _
      rw [decF_step (by omega) (by rw [ByteArray.size_append]; omega) (by omega) hst, hrest, ih]
      rfl

/-! ### The places that encoding reaches -/
abbrev Pl := Int × List Int
/-- A place is noted behind a word. -/
def wrP (G : Gr) (q : List Pl) (p : Pl) (w : ByteArray) (last : Int) : List Pl × Int :=
  if endA G p.2 (ltr w) = [] then (q, 13) else if (last, endA G p.2 (ltr w)) ∈ q then (q, 0) else if q.length = 1024 then (q, 4) else (q ++ [(last, endA G p.2 (ltr w))], 0)
def bsP (T : Tb) (G : Gr) (p : Pl) (x : List Pl × Int) (j : Nat) : List Pl × Int :=
  if x.2 ≠ 0 then x else if frW T p.1 (j : Int) = true then wrP G x.1 p (bget T.base j) (j : Int) else x
def ssP (T : Tb) (G : Gr) (p : Pl) (x : List Pl × Int) (s : Sw) : List Pl × Int :=
  if x.2 ≠ 0 then x else if frW T p.1 s.i = true then wrP G x.1 p s.wd (-1) else x
def rB (T : Tb) (G : Gr) (p : Pl) (q : List Pl) (k : Nat) : List Pl × Int := (List.range k).foldl (bsP T G p) (q, 0)
def rS (T : Tb) (G : Gr) (p : Pl) (x : List Pl × Int) (k : Nat) : List Pl × Int := (T.swaps.take k).foldl (ssP T G p) x
def rndP (T : Tb) (G : Gr) (p : Pl) (q : List Pl) : List Pl × Int := rS T G p (rB T G p q T.base.length) T.swaps.length
def kpN (T : Tb) (G : Gr) : Nat → Nat → List Pl → Int
  | 0, _, _ => 0
  | f + 1, i, q => if h : i < q.length then (if (rndP T G q[i] q).2 ≠ 0 then (rndP T G q[i] q).2 else kpN T G f (i + 1) (rndP T G q[i] q).1) else 0
def stP (G : Gr) : Pl := (-1, upto G.n.toNat)
/-- Why a table does not keep a graph. -/
def kpA (T : Tb) (G : Gr) : Int := kpN T G 1025 0 [stP G]
/-- What Check answers. -/
def chkL (T : Tb) (G : Gr) : Int := if fmd T = false ∨ chkG G ≠ 0 then 1 else if G.q ≠ T.q then 11 else if rdbl T = false then 14 else kpA T G
theorem rB_succ (T : Tb) (G : Gr) (p : Pl) (q : List Pl) (k : Nat) : rB T G p q (k + 1) = bsP T G p (rB T G p q k) k := by
  unfold rB; rw [List.range_succ, List.foldl_append]; rfl
theorem rS_succ (T : Tb) (G : Gr) (p : Pl) (x : List Pl × Int) (k : Nat) (h : k < T.swaps.length) : rS T G p x (k + 1) = ssP T G p (rS T G p x k) T.swaps[k] := by
  unfold rS; rw [List.take_succ_eq_append_getElem h, List.foldl_append]; rfl
/-- The queue grows, and stays short. -/
structure Grw (q q' : List Pl) : Prop where
  pre : q <+: q'
  len : q.length ≤ 1024 → q'.length ≤ 1024
theorem Grw.refl (q : List Pl) : Grw q q := ⟨List.prefix_refl _, id⟩
theorem Grw.trans {a b c : List Pl} (h : Grw a b) (k : Grw b c) : Grw a c := ⟨h.pre.trans k.pre, fun e => k.len (h.len e)⟩
theorem wrP_grw (G : Gr) (q : List Pl) (p : Pl) (w : ByteArray) (last : Int) : Grw q (wrP G q p w last).1 := by
  unfold wrP
  split
  · exact Grw.refl _
  · split
    · exact Grw.refl _
    · split
      · exact Grw.refl _
      · exact ⟨List.prefix_append _ _, fun h => by simp; omega⟩
theorem wrP_ok {G : Gr} {q : List Pl} {p : Pl} {w : ByteArray} {last : Int} (h : (wrP G q p w last).2 = 0) : endA G p.2 (ltr w) ≠ [] ∧ (last, endA G p.2 (ltr w)) ∈ (wrP G q p w last).1 := by
  unfold wrP at h ⊢
  split at h
  · simp at h
  · rename_i h0
    rw [if_neg h0]
    refine ⟨h0, ?_⟩
    split at h
    · rename_i h1; rw [if_pos h1]; exact h1
    · rename_i h1
      split at h
      · simp at h
      · rename_i h2; rw [if_neg h1, if_neg h2]; simp
theorem bsP_grw (T : Tb) (G : Gr) (p : Pl) (x : List Pl × Int) (j : Nat) : Grw x.1 (bsP T G p x j).1 := by
  unfold bsP; split
  · exact Grw.refl _
  · split
    · exact wrP_grw _ _ _ _ _
    · exact Grw.refl _
theorem ssP_grw (T : Tb) (G : Gr) (p : Pl) (x : List Pl × Int) (s : Sw) : Grw x.1 (ssP T G p x s).1 := by
  unfold ssP; split
  · exact Grw.refl _
  · split
    · exact wrP_grw _ _ _ _ _
    · exact Grw.refl _
theorem rB_grw (T : Tb) (G : Gr) (p : Pl) (q : List Pl) : ∀ k, Grw q (rB T G p q k).1
  | 0 => Grw.refl _
  | k + 1 => by rw [rB_succ]; exact (rB_grw T G p q k).trans (bsP_grw _ _ _ _ _)
theorem rS_grw (T : Tb) (G : Gr) (p : Pl) (x : List Pl × Int) : ∀ k, k ≤ T.swaps.length → Grw x.1 (rS T G p x k).1
  | 0, _ => by unfold rS; rw [List.take_zero]; exact Grw.refl _
  | k + 1, h => by rw [rS_succ _ _ _ _ _ (by omega)]; exact (rS_grw T G p x k (by omega)).trans (ssP_grw _ _ _ _ _)
/-- All that follows a place is there. -/
def FolB (T : Tb) (G : Gr) (p : Pl) (q : List Pl) (k : Nat) : Prop := ∀ j, j < k → frW T p.1 (j : Int) = true → endA G p.2 (ltr (bget T.base j)) ≠ [] ∧ ((j : Int), endA G p.2 (ltr (bget T.base j))) ∈ q
def FolS (T : Tb) (G : Gr) (p : Pl) (q : List Pl) (k : Nat) : Prop := ∀ j (h : j < T.swaps.length), j < k → frW T p.1 T.swaps[j].i = true → endA G p.2 (ltr T.swaps[j].wd) ≠ [] ∧ ((-1 : Int), endA G p.2 (ltr T.swaps[j].wd)) ∈ q
theorem rB_ok {T : Tb} {G : Gr} {p : Pl} {q : List Pl} : ∀ {k}, (rB T G p q k).2 = 0 → FolB T G p (rB T G p q k).1 k
  | 0, _ => fun j hj => by omega
  | k + 1, h => by
    rw [rB_succ] at h ⊢
    have h0 : (rB T G p q k).2 = 0 := by
      unfold bsP at h
      split at h
      · rename_i h1; exact absurd h h1
      · rename_i h1; simpa using h1
    have ih := rB_ok h0
    have hg := bsP_grw T G p (rB T G p q k) k
    intro j hj hfr
    rcases Nat.lt_succ_iff_lt_or_eq.1 hj with h2 | h2
    · have := ih j h2 hfr; exact ⟨this.1, hg.pre.subset this.2⟩
    · subst h2
      unfold bsP at h ⊢
      rw [if_neg (by simpa using h0), if_pos hfr] at h ⊢
      exact wrP_ok h
theorem rS_ok {T : Tb} {G : Gr} {p : Pl} {x : List Pl × Int} : ∀ {k}, k ≤ T.swaps.length → (rS T G p x k).2 = 0 → x.2 = 0 ∧ FolS T G p (rS T G p x k).1 k
  | 0, _, h => ⟨by unfold rS at h; rw [List.take_zero] at h; exact h, fun j _ hj => by omega⟩
  | k + 1, hk, h => by
    rw [rS_succ _ _ _ _ _ (by omega)] at h ⊢
    have h0 : (rS T G p x k).2 = 0 := by
      unfold ssP at h
      split at h
      · rename_i h1; exact absurd h h1
      · rename_i h1; simpa using h1
    obtain ⟨hx, ih⟩ := rS_ok (by omega) h0
    have hg := ssP_grw T G p (rS T G p x k) T.swaps[k]
    refine ⟨hx, fun j hj1 hj hfr => ?_⟩
    rcases Nat.lt_succ_iff_lt_or_eq.1 hj with h2 | h2
    · have := ih j hj1 h2 hfr; exact ⟨this.1, hg.pre.subset this.2⟩
    · subst h2
      unfold ssP at h ⊢
      rw [if_neg (by simpa using h0), if_pos hfr] at h ⊢
      exact wrP_ok h
theorem rnd_grw (T : Tb) (G : Gr) (p : Pl) (q : List Pl) : Grw q (rndP T G p q).1 := (rB_grw T G p q _).trans (rS_grw T G p _ _ (Nat.le_refl _))
theorem rnd_ok {T : Tb} {G : Gr} {p : Pl} {q : List Pl} (h : (rndP T G p q).2 = 0) : FolB T G p (rndP T G p q).1 T.base.length ∧ FolS T G p (rndP T G p q).1 T.swaps.length := by
  obtain ⟨h1, h2⟩ := rS_ok (Nat.le_refl _) h
  refine ⟨fun j hj hfr => ?_, h2⟩
  have := rB_ok h1 j hj hfr
  exact ⟨this.1, (rS_grw T G p _ _ (Nat.le_refl _)).pre.subset this.2⟩
/-- A set of places that holds all that follows them. -/
def Clo (T : Tb) (G : Gr) (q : List Pl) : Prop := ∀ p ∈ q, FolB T G p q T.base.length ∧ FolS T G p q T.swaps.length
theorem kpN_ok {T : Tb} {G : Gr} : ∀ (f i : Nat) (q : List Pl), q.length ≤ 1024 → 1025 ≤ f + i → i ≤ q.length → (∀ j (h : j < q.length), j < i → FolB T G q[j] q T.base.length ∧ FolS T G q[j] q T.swaps.length) → kpN T G f i q = 0 → ∃ q', q <+: q' ∧ Clo T G q'
  | 0, i, q, hl, hf, hi, _, _ => by omega
  | f + 1, i, q, hl, hf, hi, hcl, h => by
    rw [kpN] at h
    by_cases hlt : i < q.length
    · rw [dif_pos hlt] at h
      by_cases he : (rndP T G q[i] q).2 = 0
      · rw [if_neg (by simpa using he)] at h
        have hg := rnd_grw T G q[i] q
        have hr := rnd_ok he
        generalize (rndP T G q[i] q).1 = q' at *
        have hlen := hg.pre.length_le
        obtain ⟨q'', hp, hc⟩ := kpN_ok f (i + 1) q' (hg.len hl) (by omega) (by omega) (fun j hj hji => by
          have hjq : j < q.length := by omega
          have heq : q'[j] = q[j] := (hg.pre.getElem hjq).symm
          rw [heq]
          rcases Nat.lt_succ_iff_lt_or_eq.1 hji with h2 | h2
          · obtain ⟨a, b⟩ := hcl j hjq h2
            exact ⟨fun k hk hfr => ⟨(a k hk hfr).1, hg.pre.subset (a k hk hfr).2⟩, fun k h3 hk hfr => ⟨(b k h3 hk hfr).1, hg.pre.subset (b k h3 hk hfr).2⟩⟩
          · subst h2; exact hr) h
        exact ⟨q'', hg.pre.trans hp, hc⟩
      · rw [if_pos he] at h; exact absurd h he
    · refine ⟨q, List.prefix_refl _, fun p hp => ?_⟩
      obtain ⟨j, hj, rfl⟩ := List.getElem_of_mem hp
      exact hcl j hj (by omega)
theorem kp_clo {T : Tb} {G : Gr} (h : kpA T G = 0) : ∃ q, stP G ∈ q ∧ Clo T G q := by
  obtain ⟨q, hp, hc⟩ := kpN_ok 1025 0 [stP G] (by simp) (by omega) (by omega) (fun j _ hj => by omega) h
  exact ⟨q, hp.subset (by simp), hc⟩
theorem ltr_app (a b : ByteArray) : ltr (a ++ b) = ltr a ++ ltr b := by
  unfold ltr; rw [ByteArray.data_append, Array.toList_append, List.map_append]
theorem endA_app (G : Gr) (st : List Int) (a b : List Int) : endA G st (a ++ b) = endA G (endA G st a) b := by unfold endA; rw [List.foldl_append]
/-- What is written is spelled by the graph. -/
theorem clo_acc {T : Tb} {G : Gr} (hf : fmd T = true) {q : List Pl} (hc : Clo T G q) : ∀ (m : Nat) (l : List Int), l.length ≤ m → l.any (outB T.base.length) = false → ∀ p ∈ q, p.2 ≠ [] → (∀ y, l.head? = some y → frW T p.1 y = true) → endA G p.2 (ltr (encW T l)) ≠ []
  | _, [], _, _, p, _, hp, _ => by
    rw [encW_nil, show ltr (⟨#[]⟩ : ByteArray) = [] from rfl]; exact hp
  | _, [x], _, ho, p, hq, _, hfr => by
    have hx := outB_f (any_f ho 0 (by simp))
    simp only [List.getElem_cons_zero] at hx
    rw [encW_one]
    have h1 := (hc p hq).1 x.toNat (by omega) (by rw [show ((x.toNat : Nat) : Int) = x by omega]; exact hfr x rfl)
    exact h1.1
  | 0, x :: y :: r, hn, _, _, _, _, _ => by simp at hn
  | m + 1, x :: y :: r, hn, ho, p, hq, _, hfr => by
    have hx := outB_f (any_f ho 0 (by simp))
    simp only [List.getElem_cons_zero] at hx
    have ho1 : (y :: r).any (outB T.base.length) = false := by rw [List.any_cons] at ho; simp at ho ⊢; exact ho.2
    have ho2 : r.any (outB T.base.length) = false := by rw [List.any_cons] at ho1; simp at ho1 ⊢; exact ho1.2
    have hxe : ((x.toNat : Nat) : Int) = x := by omega
    cases hs : swapW T.swaps x y with
    | none =>
      have h1 := (hc p hq).1 x.toNat (by omega) (by rw [hxe]; exact hfr x rfl)
      rw [hxe] at h1
      rw [encW_base hs, ltr_app, endA_app]
      exact clo_acc hf hc m (y :: r) (by simp at hn ⊢; omega) ho1 _ h1.2 h1.1 (fun z hz => by
        have : z = y := by simpa using hz.symm
        subst this
        unfold frW; rw [hs]; rfl)
    | some w =>
      obtain ⟨k, hk, e1, e2, e3⟩ := swapW_mem hs
      have h1 := (hc p hq).2 k hk hk (by rw [e1]; exact hfr x rfl)
      rw [e3] at h1
      rw [encW_swap hs, ltr_app, endA_app]
      exact clo_acc hf hc m r (by simp at hn ⊢; omega) ho2 _ h1.2 h1.1 (fun z _ => frW_start hf z)
theorem clo_st {T : Tb} {G : Gr} (hf : fmd T = true) {q : List Pl} (hc : Clo T G q) (hs : stP G ∈ q) : upto G.n.toNat ≠ [] := fun e => by
  have hN := (pre_base hf)
  have h1 := (hc _ hs).1 0 hN (frW_start hf _)
  apply h1.1
  show endA G (upto G.n.toNat) _ = []
  rw [e, endA_nil]
/-- LookaheadInverse. -/
theorem inv_law {T : Tb} {G : Gr} (h : chkL T G = 0) {l : List Int} (ho : l.any (outB T.base.length) = false) : decF T (encW T l) = some l ∧ accA G (encW T l) = true := by
  have hf : fmd T = true := by
    unfold chkL at h
    split at h
    · cases h
    · rename_i h1
      cases hx : fmd T
      · exact absurd (.inl hx) h1
      · rfl
  have hr : rdbl T = true ∧ kpA T G = 0 := by
    unfold chkL at h
    split at h
    · cases h
    · split at h
      · cases h
      · split at h
        · cases h
        · rename_i h1; exact ⟨by simpa using h1, h⟩
  refine ⟨dec_enc hf hr.1 l.length l (Nat.le_refl _) ho, ?_⟩
  obtain ⟨q, hs, hc⟩ := kp_clo hr.2
  have := clo_acc hf hc l.length l (Nat.le_refl _) ho _ hs (clo_st hf hc hs) (fun y _ => frW_start hf y)
  unfold accA
  rw [decide_eq_true_eq]
  exact List.length_pos_iff.2 this
/-- LookaheadPairs: without swaps all pairs of Base words are words. -/
theorem pair_law {T : Tb} {G : Gr} (h : chkL T G = 0) (h0 : T.swaps = []) {i j : Nat} (hi : i < T.base.length) (hj : j < T.base.length) : accA G (bget T.base i ++ bget T.base j) = true := by
  have ho : [(i : Int), (j : Int)].any (outB T.base.length) = false := by simp [outB]; omega
  have := (inv_law h ho).2
  have hs : swapW T.swaps (i : Int) (j : Int) = none := by rw [h0]; rfl
  rw [encW_base hs, encW_one] at this
  exact this
end Go.Proofs.YtdhkdampdlhdoaaGreat
namespace Go.Proofs.YtdhkdampdlhdoaaGreat
open Go.RowKit

/-- A table, as it comes in. -/
def tbV (T : Tb) (p1 p2 : Option Addr) (c1 c2 : Nat) : Value := .agg #[.int .i64 T.q, .int .i64 T.n, .slice p1 T.base.length c1, .slice p2 T.swaps.length c2]
def greatT (T : Tb) : Bool := decide (5 < T.base.length) || (decide (8 < T.swaps.length) || ((decide (3 < T.n) && decide (T.n ≤ 8)) || (decide (3 < T.q) && decide (T.q ≤ 16))))

set_option maxHeartbeats 400000 in
theorem cmpI_any (x y : Int) (w : World) : Calls Tryz.prog 69 #[.int .i64 x, .int .i64 y] w fun e w' => e = .returned (.int .i64 (cmpI x y)) ∧ w' = w := by
  refine (Tryz.cmp_Compare_int x y w).mono ?_
  rintro e w' ⟨rfl, rfl⟩
  exact ⟨ret_int (by unfold Lib.compareInt cmpI; rfl), rfl⟩

def orI (x y : Int) : Int := if x ≠ 0 then x else y
set_option maxHeartbeats 400000 in
theorem cmpOr2_any (x y : Int) (B : Nat) (w : World) (h0 : w.cell? ⟨B, 0, none⟩ = some (.int .i64 x)) (h1 : w.cell? ⟨B, 1, none⟩ = some (.int .i64 y)) :
    Calls Tryz.prog 68 #[.slice (some ⟨B, 0, none⟩) 2 2] w fun e w' => e = .returned (.int .i64 (orI x y)) ∧ w' = w := by
  by_cases hx : x = 0
  · have hxb : (x == 0) = true := by simpa using hx
    by_cases hy : y = 0
    · have hyb : (y == 0) = true := by simpa using hy
      have HR : Hid (orI x y = 0) := by simp [Hid, orI, hx, hy]
      clear hx hy
      go_enter Tryz.func68, Tryz.ntmps68
      go_wp2
      refine wp_loop_rounds 3 ?_
      rw [rounds_succ]
      go_wp2
      rw [rounds_succ]
      go_wp2
      rw [rounds_succ]
      go_wp2
      go_ret
      exact ⟨ret_int HR.out.symm, rfl⟩
    · have hyb : (y == 0) = false := by simpa using hy
      have HR : Hid (orI x y = y) := by simp [Hid, orI, hx]
      clear hx hy
      go_enter Tryz.func68, Tryz.ntmps68
      go_wp2
      refine wp_loop_rounds 3 ?_
      rw [rounds_succ]
      go_wp2
      rw [rounds_succ]
      go_wp2
      go_ret
      exact ⟨ret_int HR.out.symm, rfl⟩
  · have hxb : (x == 0) = false := by simpa using hx
    have HR : Hid (orI x y = x) := by simp [Hid, orI, hx]
    clear hx
    go_enter Tryz.func68, Tryz.ntmps68
    go_wp2
    refine wp_loop_rounds 3 ?_
    rw [rounds_succ]
    go_wp2
    go_ret
    exact ⟨ret_int HR.out.symm, rfl⟩

/-! ### Lists of strings -/
end Go.Proofs.YtdhkdampdlhdoaaGreat
namespace Go.Proofs.YtdhkdampdlhdoaaGreat
open Go.RowKit

/-! ### Keys -/
def k2 (x : Int × Int) : Value := .agg #[.int .i64 x.1, .int .i64 x.2]
def ok2 (x : Int × Int) : Prop := (Lit.int .i64 x.1).wf = true ∧ (Lit.int .i64 x.2).wf = true
theorem zeroStr (w : World) : (zeroValue 9).run Tryz.prog w = .ok (.string ⟨#[]⟩) w := by kernel_rfl
/-- A map of the swaps, in block b. -/
def SwM (l : List Sw) (w : World) (b : Nat) : Prop := Mp k2 ok2 Value.string w b (swapF l)
theorem SwM.nil (w : World) : SwM [] (w.alloc (.map #[] 0)) w.heap.size := Mp.made w

end Go.Proofs.YtdhkdampdlhdoaaGreat
namespace Go.Proofs.YtdhkdampdlhdoaaGreat
open Go.RowKit

/-- A table's lists, as they lie in memory. -/
structure TbIn (w : World) (T : Tb) (p1 p2 : Option Addr) (c1 c2 : Nat) : Prop where
  base : Sl w Value.string p1 T.base
  swaps : Sg 3 w swE p2 T.swaps
  cap1 : T.base.length ≤ c1
  l1 : T.base.length ≤ 9223372036854775807
  l2 : T.swaps.length ≤ 9223372036854775807
  z1 : ∀ j (h : j < T.base.length), T.base[j].size ≤ maxLen
  z2 : ∀ j (h : j < T.swaps.length), T.swaps[j].wd.size ≤ maxLen
theorem TbIn.below {w w' : World} {T : Tb} {p1 p2 : Option Addr} {c1 c2 : Nat} (h : TbIn w T p1 p2 c1 c2) (hB : Below w.heap.size w w') : TbIn w' T p1 p2 c1 c2 :=
  ⟨h.base.below hB, h.swaps.below hB, h.cap1, h.l1, h.l2, h.z1, h.z2⟩
theorem infoStr : (Tryz.prog.info? 9).map (fun i => (i.zero, i.size, i.bytes)) = some (some (.string ⟨#[]⟩), 1, 16) := by kernel_rfl
theorem pre_all {T : Tb} (h : preB T = true) : 2 ≤ T.q ∧ T.q ≤ 16 ∧ 1 ≤ T.n ∧ T.n ≤ 8 ∧ 2 ≤ T.base.length ∧ T.base.length ≤ 16 ∧ T.swaps.length ≤ 64 := of_decide_eq_true h
theorem pre_mk {T : Tb} (h : 2 ≤ T.q ∧ T.q ≤ 16 ∧ 1 ≤ T.n ∧ T.n ≤ 8 ∧ 2 ≤ T.base.length ∧ T.base.length ≤ 16 ∧ T.swaps.length ≤ 64) : preB T = true := decide_eq_true h

end Go.Proofs.YtdhkdampdlhdoaaGreat
namespace Go.Proofs.YtdhkdampdlhdoaaGreat
open Go.RowKit Go.Sort Go.Shelf Go.Lib

def fitA (T : Tb) (G : Gr) : Int := if fmd T = false ∨ chkG G ≠ 0 then 1 else if G.q ≠ T.q then 11 else 0

end Go.Proofs.YtdhkdampdlhdoaaGreat
namespace Go.Proofs.YtdhkdampdlhdoaaGreat
open Go.RowKit

def keyL : List Int → List UInt8
  | [] => []
  | s :: l => Lib.decDigits s.toNat ++ 32 :: keyL l
theorem dg_no : ∀ i, i < 100 → (32 : UInt8) ∉ Lib.decDigits i := by decide +kernel
theorem dg_inj : ∀ i, i < 100 → ∀ j, j < 100 → Lib.decDigits i = Lib.decDigits j → i = j := by decide +kernel
theorem sep_inj {c : UInt8} : ∀ {a b r r' : List UInt8}, c ∉ a → c ∉ b → a ++ c :: r = b ++ c :: r' → a = b ∧ r = r'
  | [], [], r, r', _, _, h => by simp at h; exact ⟨rfl, h⟩
  | [], y :: b, r, r', _, hb, h => by simp at h; exact absurd (by simp [h.1]) hb
  | x :: a, [], r, r', ha, _, h => by simp at h; exact absurd (by simp [h.1]) ha
  | x :: a, y :: b, r, r', ha, hb, h => by
    simp only [List.cons_append, List.cons.injEq] at h
    obtain ⟨h1, h2⟩ := sep_inj (fun hm => ha (List.mem_cons_of_mem _ hm)) (fun hm => hb (List.mem_cons_of_mem _ hm)) h.2
    exact ⟨by rw [h.1, h1], h2⟩
/-- The key tells sets apart. -/
theorem keyL_inj : ∀ {l m : List Int}, (∀ x ∈ l, 0 ≤ x ∧ x < 100) → (∀ x ∈ m, 0 ≤ x ∧ x < 100) → keyL l = keyL m → l = m
  | [], [], _, _, _ => rfl
  | [], y :: m, _, _, h => by simp [keyL] at h
  | x :: l, [], _, _, h => by simp [keyL] at h
  | x :: l, y :: m, hl, hm, h => by
    have h1 := hl x (by simp)
    have h2 := hm y (by simp)
    obtain ⟨k1, k2⟩ := sep_inj (dg_no x.toNat (by omega)) (dg_no y.toNat (by omega)) h
    have e := dg_inj x.toNat (by omega) y.toNat (by omega) k1
    have e2 : x = y := by omega
    rw [e2, keyL_inj (fun z hz => hl z (by simp [hz])) (fun z hz => hm z (by simp [hz])) k2]
theorem keyL_snoc : ∀ (l : List Int) (s : Int), keyL (l ++ [s]) = keyL l ++ (Lib.decDigits s.toNat ++ [32])
  | [], s => by simp [keyL]
  | x :: l, s => by simp [keyL, keyL_snoc l s]
theorem dit_small : ∀ i, i < 100 → (Lib.decDigits i).length ≤ 2 := by decide +kernel
theorem keyL_len : ∀ {l : List Int}, (∀ x ∈ l, 0 ≤ x ∧ x < 100) → (keyL l).length ≤ 3 * l.length
  | [], _ => Nat.le_refl _
  | x :: l, h => by
    have h1 := dit_small x.toNat (by have := h x (by simp); omega)
    have h2 := keyL_len (l := l) (fun y hy => h y (by simp [hy]))
    simp only [keyL, List.length_append, List.length_cons]
    omega
end Go.Proofs.YtdhkdampdlhdoaaGreat
namespace Go.Proofs.YtdhkdampdlhdoaaGreat
open Go.RowKit Go.Sort Go.Shelf Go.Lib

/-- The table of powers of ten reads as the program lays it. -/
def T10 (w : World) : Prop := Lib.TabIs Tryz.prog w "internal/strconv.uint64pow10" .u64 Lib.pow10Tab
theorem T10.below {w w' : World} (h : T10 w) (hB : RowKit.Below w.heap.size w w') : T10 w' := Lib.tabBelow_of_tabIs h w' hB

def tailK (st : List Int) : List UInt8 := st.flatMap (fun s => 32 :: Lib.decDigits s.toNat)
/-- The key of a place. -/
def keyB (l : Int) (st : List Int) : List UInt8 := Lib.itoa l ++ tailK st
theorem tailK_snoc (st : List Int) (s : Int) : tailK (st ++ [s]) = tailK st ++ (32 :: Lib.decDigits s.toNat) := by simp [tailK]
theorem tailK_end : ∀ st : List Int, tailK st ++ [32] = 32 :: keyL st
  | [] => rfl
  | s :: st => by
    have ih := tailK_end st
    show (32 :: Lib.decDigits s.toNat) ++ tailK st ++ [32] = 32 :: (Lib.decDigits s.toNat ++ 32 :: keyL st)
    rw [List.append_assoc, ih]; rfl
theorem itoa_no : ∀ n : Nat, n < 17 → (32 : UInt8) ∉ Lib.itoa ((n : Int) - 1) := by decide +kernel
theorem itoa_inj : ∀ n : Nat, n < 17 → ∀ m : Nat, m < 17 → Lib.itoa ((n : Int) - 1) = Lib.itoa ((m : Int) - 1) → n = m := by decide +kernel
theorem itoa_len : ∀ n : Nat, n < 17 → (Lib.itoa ((n : Int) - 1)).length ≤ 2 := by decide +kernel
theorem keyB_inj {l l' : Int} {st st' : List Int} (h1 : -1 ≤ l ∧ l < 16) (h2 : -1 ≤ l' ∧ l' < 16) (h3 : ∀ x ∈ st, 0 ≤ x ∧ x < 100) (h4 : ∀ x ∈ st', 0 ≤ x ∧ x < 100) (e : keyB l st = keyB l' st') : l = l' ∧ st = st' := by
  obtain ⟨n, hn⟩ : ∃ n : Nat, (n : Int) - 1 = l := ⟨(l + 1).toNat, by omega⟩
  obtain ⟨m, hm⟩ : ∃ m : Nat, (m : Int) - 1 = l' := ⟨(l' + 1).toNat, by omega⟩
  have e2 : Lib.itoa l ++ 32 :: keyL st = Lib.itoa l' ++ 32 :: keyL st' := by
    have := congrArg (· ++ [(32 : UInt8)]) e
    simpa only [keyB, List.append_assoc, tailK_end] using this
  rw [← hn, ← hm] at e2
  obtain ⟨k1, k2⟩ := sep_inj (itoa_no n (by omega)) (itoa_no m (by omega)) e2
  exact ⟨by rw [← hn, ← hm, itoa_inj n (by omega) m (by omega) k1], keyL_inj h3 h4 k2⟩
theorem tailK_len : ∀ {st : List Int}, (∀ x ∈ st, 0 ≤ x ∧ x < 100) → (tailK st).length ≤ 3 * st.length
  | [], _ => Nat.le_refl _
  | s :: st, h => by
    have h1 := dit_small s.toNat (by have := h s (by simp); omega)
    have h2 := tailK_len (st := st) (fun y hy => h y (by simp [hy]))
    show ((32 :: Lib.decDigits s.toNat) ++ tailK st).length ≤ 3 * (st.length + 1)
    rw [List.length_append, List.length_cons]; omega
theorem keyB_len {l : Int} {st : List Int} (h1 : -1 ≤ l ∧ l < 16) (h3 : ∀ x ∈ st, 0 ≤ x ∧ x < 100) : (keyB l st).length ≤ 2 + 3 * st.length := by
  have h := itoa_len (l + 1).toNat (by omega)
  rw [show (((l + 1).toNat : Nat) : Int) - 1 = l by omega] at h
  have := tailK_len h3
  unfold keyB; rw [List.length_append]; omega
end Go.Proofs.YtdhkdampdlhdoaaGreat
namespace Go.Proofs.YtdhkdampdlhdoaaGreat
open Go.RowKit

theorem check07_q (q : Int) (s : ByteArray) (w : World) (hs : s.size ≤ maxLen) :
    Calls Tryz.prog 88 #[.int .i64 q, .string s] w fun e w' => e = .returned (.int .i64 (wchk q s.data.toList)) ∧ w' = w := (check07_any q s w hs).mono fun _ _ ⟨a, b⟩ => ⟨a, b.symm⟩

theorem check07_r (q : Int) (s : ByteArray) (r : Int) (w : World) (hs : s.size ≤ maxLen) (hr : wchk q s.data.toList = r) :
    Calls Tryz.prog 88 #[.int .i64 q, .string s] w fun e w' => e = .returned (.int .i64 r) ∧ w' = w := by subst hr; exact check07_q q s w hs

end Go.Proofs.YtdhkdampdlhdoaaGreat
namespace Go.Proofs.YtdhkdampdlhdoaaGreat
open Go.RowKit

theorem ret_str {a b : ByteArray} (h : a = b) : Ending.returned (.string a) = .returned (.string b) := by rw [h]
def swS (l : List Sw) (i j : Int) : ByteArray := (swapW l i j).getD ⟨#[]⟩
/-! ### Lists of numbers, asked by a function that only reads -/
end Go.Proofs.YtdhkdampdlhdoaaGreat
namespace Go.Proofs.YtdhkdampdlhdoaaGreat
open Go.RowKit

theorem ret_si {a a' : ByteArray} {b b' : Int} (h : (a', b') = (a, b)) : Ending.returned (.tuple #[.string a, .int .i64 b]) = .returned (.tuple #[.string a', .int .i64 b']) := by
  obtain ⟨rfl, rfl⟩ := Prod.mk.inj h; rfl
def slLnF : Value → Nat | .slice _ n _ => n | _ => 0
theorem sl_drop1 {α : Type} {w : World} {enc : α → Value} {b off : Nat} {l : List α} (h : Sl w enc (some ⟨b, off, none⟩) l) (k : Nat) (hl : k < l.length) : Sl w enc (some ⟨b, off + k, none⟩) (l.drop k) := by
  obtain ⟨b', off', hp, hb, hc⟩ := h.get 0 (by omega)
  cases hp
  exact .inr ⟨b, off + k, rfl, hb, fun i hi => by rw [Nat.add_assoc, hc (k + i) (by rw [List.length_drop] at hi; omega)]; simp⟩
theorem sl_adv {α : Type} {w : World} {enc : α → Value} {b off : Nat} {l : List α} {m : Nat} (h : Sl w enc (some ⟨b, off, none⟩) (l.drop m)) (k : Nat) : Sl w enc (some ⟨b, off + k, none⟩) (l.drop (m + k)) := by
  by_cases hl : k < (l.drop m).length
  · have := sl_drop1 h k hl
    rwa [List.drop_drop] at this
  · exact .inl (List.drop_eq_nil_of_le (by rw [List.length_drop] at hl; omega))
theorem sl_nil' {α : Type} {w : World} {enc : α → Value} {p : Option Addr} {l : List α} {m : Nat} (h : l.length ≤ m) : Sl w enc p (l.drop m) := .inl (List.drop_eq_nil_of_le h)
theorem isb_dr {T e : TypeId} {B b : Nat} {bs : List Value} {w w' : World} (h : Lib.IsBuilderF T e B b bs w) (hD : Dr w w') : Lib.IsBuilderF T e B b bs w' := by obtain ⟨k, rfl⟩ := hD; exact h
theorem bc_app (o : List UInt8) (s : ByteArray) : Lib.byteCells o ++ Lib.strCells s = Lib.byteCells (o ++ s.data.toList) := by simp [Lib.byteCells, Lib.strCells]
theorem swaps_ok2 {T : Tb} (h : fmd T = true) : ∀ j (hj : j < T.swaps.length), ok2 (T.swaps[j].i, T.swaps[j].j) := by
  intro j hj
  have h1 := allB_get (fmd_split h).2.1 j hj
  unfold sOk at h1
  rw [sget_eq _ _ hj] at h1
  have h2 := (Bool.and_eq_true_iff.1 h1).1
  simp [inB] at h2
  have hp := of_decide_eq_true (show preB T = true from (fmd_split h).1)
  exact ⟨WalkArith.wf_i64 (by simp; omega), WalkArith.wf_i64 (by simp; omega)⟩

end Go.Proofs.YtdhkdampdlhdoaaGreat
namespace Go.Proofs.YtdhkdampdlhdoaaGreat
open Go.RowKit Go.Shelf
attribute [local go_sem] Oper.semAt_some

/-- A map of the swaps, with its entries' numbers. -/
def SwB (l : List Sw) (w : World) (b : Nat) : Prop := MpB k2 ok2 Value.string w b (swapF l)
theorem MpB.alloc {α β : Type} {kv : α → Value} {ok : α → Prop} {vv : β → Value} {w : World} {b : Nat} {f : α → Option β} (h : MpB kv ok vv w b f) (o : Obj) : MpB kv ok vv (w.alloc o) b f := h.same (Below.heap_alloc w o b h.lt)
/-! ### The sequence -/
abbrev SubN := {u : ByteArray // u.size ≤ 16}
def encNf (u : SubN) : Array Value := #[.string u.1]
def fl1 (T : Tb) (i : Int) (k : Nat) : List ByteArray := ((List.range k).filter (fun (j : Nat) => frW T i (j : Int))).map (fun j => bget T.base j)
def fl2 (T : Tb) (i : Int) (k : Nat) : List ByteArray := ((T.swaps.take k).filter (fun s => frW T i s.i)).map (fun s => s.wd.extract 0 T.n.toNat)
theorem flw_eq (T : Tb) (i : Int) : flw T i = fl1 T i T.base.length ++ fl2 T i T.swaps.length := by unfold flw fl1 fl2; rw [List.take_length]
theorem fl1_succ (T : Tb) (i : Int) (k : Nat) : fl1 T i (k + 1) = fl1 T i k ++ (if frW T i (k : Int) = true then [bget T.base k] else []) := by
  unfold fl1
  rw [List.range_succ, List.filter_append, List.map_append]
  congr 1
  cases h : frW T i (k : Int) <;> simp [h]
theorem fl2_succ (T : Tb) (i : Int) (k : Nat) (h : k < T.swaps.length) : fl2 T i (k + 1) = fl2 T i k ++ (if frW T i T.swaps[k].i = true then [T.swaps[k].wd.extract 0 T.n.toNat] else []) := by
  unfold fl2
  rw [List.take_succ_eq_append_getElem h, List.filter_append, List.map_append]
  congr 1
  cases hh : frW T i T.swaps[k].i <;> simp [hh]
theorem fl1_len (T : Tb) (i : Int) (k : Nat) : (fl1 T i k).length ≤ k := by
  unfold fl1; rw [List.length_map]; exact Nat.le_trans (List.length_filter_le _ _) (by simp)
theorem fl2_len (T : Tb) (i : Int) (k : Nat) : (fl2 T i k).length ≤ k := by
  unfold fl2; rw [List.length_map]; exact Nat.le_trans (List.length_filter_le _ _) (by rw [List.length_take]; omega)
theorem fl1_sub {T : Tb} {i : Int} {k : Nat} (hk : k ≤ T.base.length) {u : ByteArray} (h : u ∈ fl1 T i k) : u ∈ flw T i := by
  rw [flw_eq]
  refine List.mem_append_left _ ?_
  unfold fl1 at *
  obtain ⟨j, hj, rfl⟩ := List.mem_map.1 h
  obtain ⟨h1, h2⟩ := List.mem_filter.1 hj
  exact List.mem_map.2 ⟨j, List.mem_filter.2 ⟨List.mem_range.2 (by have := List.mem_range.1 h1; omega), h2⟩, rfl⟩
theorem fl2_sub {T : Tb} {i : Int} {k : Nat} {u : ByteArray} (h : u ∈ fl2 T i k) : u ∈ flw T i := by
  rw [flw_eq]
  refine List.mem_append_right _ ?_
  unfold fl2 at *
  obtain ⟨s, hs, rfl⟩ := List.mem_map.1 h
  obtain ⟨h1, h2⟩ := List.mem_filter.1 hs
  exact List.mem_map.2 ⟨s, List.mem_filter.2 ⟨by rw [List.take_length]; exact List.mem_of_mem_take h1, h2⟩, rfl⟩
theorem pre_sub {T : Tb} {i : Int} {l : List ByteArray} {pre : List SubN} {x : SubN} (h1 : pre.map (·.1) ++ [x.1] = l) (h2 : ∀ u ∈ l, u ∈ flw T i) : ∀ u ∈ pre ++ [x], u.1 ∈ flw T i := fun u hu => by
  apply h2
  rw [← h1]
  rcases List.mem_append.1 hu with h | h
  · exact List.mem_append_left _ (List.mem_map_of_mem h)
  · rw [List.mem_singleton.1 h]; simp
/-- Words in memory, in a block below n. -/
def SlB (n : Nat) (w : World) (p : Option Addr) (l : List ByteArray) : Prop :=
  l = [] ∨ ∃ b off, p = some ⟨b, off, none⟩ ∧ b < n ∧ b < w.heap.size ∧ ∀ i (h : i < l.length), w.cell? ⟨b, off + i, none⟩ = some (.string l[i])
def SwpB (n : Nat) (w : World) (p : Option Addr) (l : List Sw) : Prop :=
  l = [] ∨ ∃ b off, p = some ⟨b, off, none⟩ ∧ b < n ∧ b < w.heap.size ∧ ∀ i (h : i < l.length) j, j < 3 → w.cell? ⟨b, off + i * 3 + j, none⟩ = (swE l[i])[j]?
theorem SlB.of {n : Nat} {w : World} {p : Option Addr} {l : List ByteArray} (h : Sl w Value.string p l) (hn : w.heap.size ≤ n) : SlB n w p l := by
  rcases h with h | ⟨b, off, h1, h2, h3⟩
  · exact .inl h
  · exact .inr ⟨b, off, h1, by omega, h2, h3⟩
theorem SlB.sl {n : Nat} {w : World} {p : Option Addr} {l : List ByteArray} (h : SlB n w p l) : Sl w Value.string p l := by
  rcases h with h | ⟨b, off, h1, _, h2, h3⟩
  · exact .inl h
  · exact .inr ⟨b, off, h1, h2, h3⟩
theorem lt_kept {n b : Nat} {w w' : World} (hk : ∀ i, i < n → w'.heap[i]? = w.heap[i]?) (h1 : b < n) (h2 : b < w.heap.size) : b < w'.heap.size := by
  have e := hk b h1
  rcases Nat.lt_or_ge b w'.heap.size with h' | h'
  · exact h'
  · rw [Array.getElem?_eq_none h', Array.getElem?_eq_getElem h2] at e; cases e
theorem SlB.kept {n : Nat} {w w' : World} {p : Option Addr} {l : List ByteArray} (h : SlB n w p l) (hk : ∀ i, i < n → w'.heap[i]? = w.heap[i]?) : SlB n w' p l := by
  rcases h with h | ⟨b, off, h1, h2, h3, h4⟩
  · exact .inl h
  · exact .inr ⟨b, off, h1, h2, lt_kept hk h2 h3, fun i hi => (World.cell?_of_block (w := w) (a := ⟨b, off + i, none⟩) (hk b h2)).trans (h4 i hi)⟩
theorem SwpB.of {n : Nat} {w : World} {p : Option Addr} {l : List Sw} (h : Sg 3 w swE p l) (hn : w.heap.size ≤ n) : SwpB n w p l := by
  rcases h with h | ⟨b, off, h1, h2, h3⟩
  · exact .inl h
  · exact .inr ⟨b, off, h1, by omega, h2, h3⟩
theorem SwpB.sg {n : Nat} {w : World} {p : Option Addr} {l : List Sw} (h : SwpB n w p l) : Sg 3 w swE p l := by
  rcases h with h | ⟨b, off, h1, _, h2, h3⟩
  · exact .inl h
  · exact .inr ⟨b, off, h1, h2, h3⟩
theorem SwpB.kept {n : Nat} {w w' : World} {p : Option Addr} {l : List Sw} (h : SwpB n w p l) (hk : ∀ i, i < n → w'.heap[i]? = w.heap[i]?) : SwpB n w' p l := by
  rcases h with h | ⟨b, off, h1, h2, h3, h4⟩
  · exact .inl h
  · exact .inr ⟨b, off, h1, h2, lt_kept hk h2 h3, fun i hi j hj => (World.cell?_of_block (w := w) (a := ⟨b, off + i * 3 + j, none⟩) (hk b h2)).trans (h4 i hi j hj)⟩
end Go.Proofs.YtdhkdampdlhdoaaGreat
namespace Go.Proofs.YtdhkdampdlhdoaaGreat
open Go.RowKit

theorem any_t {α : Type} {f : α → Bool} {l : List α} (k : Nat) (hk : k < l.length) (h : f l[k] = true) : l.any f = true := List.any_eq_true.2 ⟨l[k], List.getElem_mem hk, h⟩
theorem any_n {α : Type} {f : α → Bool} {l : List α} (h : ∀ k (hk : k < l.length), f l[k] = false) : l.any f = false := by
  rw [List.any_eq_false]; intro x hx
  obtain ⟨k, hk, rfl⟩ := List.mem_iff_getElem.1 hx
  simp [h k hk]
theorem outB_lo {N : Nat} {a : Int} (h : a < 0) : outB N a = true := by simp [outB, h]
theorem outB_hi {N : Nat} {a : Int} (h : (N : Int) ≤ a) : outB N a = true := by simp [outB, h]
theorem outB_in {N : Nat} {a : Int} (h : 0 ≤ a) (h2 : a < N) : outB N a = false := by simp [outB]; omega

theorem ne_empty {s : ByteArray} (h : 0 < s.size) : s.toList.isEmpty = false := by
  cases hh : s.toList with
  | nil =>
    have : (s.toList == (⟨#[]⟩ : ByteArray).toList) = true := by rw [hh]; decide +kernel
    have := (Lib.bytes_beq_iff _ _).1 this
    subst this; exact absurd h (by decide)
  | cons a b => rfl

end Go.Proofs.YtdhkdampdlhdoaaGreat
namespace Go.Proofs.YtdhkdampdlhdoaaGreat
open Go.RowKit

def okS (s : ByteArray) : Prop := s.size ≤ maxLen
theorem keySl : KeyBy Tryz.prog 9 Value.string okS where
  law := Maps.string_keyed Tryz.underlying9
  reads := fun a ha => ⟨.string a.data.toList, by simp [keyOf, mapKey, Tryz.underlying9]; exact ha⟩
  inj := fun a b _ _ h => by simpa using h
theorem zeroSlI (w : World) : (zeroValue 55).run Tryz.prog w = .ok (.slice none 0 0) w := by kernel_rfl
theorem infoI : (Tryz.prog.info? 3).map (fun i => (i.zero, i.size, i.bytes)) = some (some (.int .i64 0), 1, 8) := by kernel_rfl

theorem cell_turn {W w1 : World} {b : Nat} (h : W.mapTurned w1 b) {p : Addr} {v : Value} (hc : W.cell? p = some v) : w1.cell? p = some v := by
  obtain ⟨es, clock, es', clock', hb, rfl⟩ := h
  by_cases e : p.block = b
  · simp [World.cell?, e, hb] at hc
  · exact (World.cell?_of_block (ChangeMaps.heap_setBlock_other hb _ e)).trans hc
theorem Sl.turn {α : Type} {W w1 : World} {b : Nat} {enc : α → Value} {p : Option Addr} {l : List α} (h : Sl W enc p l) (ht : W.mapTurned w1 b) : Sl w1 enc p l := by
  rcases h with h | ⟨b', off, hp, hb, hc⟩
  · exact .inl h
  · exact .inr ⟨b', off, hp, Nat.lt_of_lt_of_le hb ht.grown.size, fun i hi => cell_turn ht (hc i hi)⟩
/-- Block b is a map of words to lists of numbers that answers as rd does. -/
def MapRd (b : Nat) (rd : ByteArray → Option (List Int)) (w : World) : Prop :=
  ∃ f : ByteArray → Option Value, Mp Value.string okS (fun v => v) w b f ∧ ∀ s, (rd s = none ∧ f s = none) ∨ ∃ l p c, rd s = some l ∧ f s = some (.slice p l.length c) ∧ Sl w (Value.int .i64) p l
theorem MapRd.made (w : World) : MapRd w.heap.size (fun _ => none) (w.alloc (.map #[] 0)) := ⟨_, Mp.made w, fun _ => .inl ⟨rfl, rfl⟩⟩
theorem MapRd.congr {b : Nat} {rd rd' : ByteArray → Option (List Int)} {w : World} (h : MapRd b rd w) (e : ∀ s, rd s = rd' s) : MapRd b rd' w := by
  have : rd = rd' := funext e
  exact this ▸ h
theorem MapRd.below {b : Nat} {rd : ByteArray → Option (List Int)} {w w' : World} (h : MapRd b rd w) (hB : Below w.heap.size w w') : MapRd b rd w' := by
  obtain ⟨f, hM, hf⟩ := h
  refine ⟨f, hM.below hB hM.lt, fun s => ?_⟩
  rcases hf s with h | ⟨l, p, c, h1, h2, h3⟩
  · exact .inl h
  · exact .inr ⟨l, p, c, h1, h2, h3.below hB⟩
theorem MapRd.put {b : Nat} {rd : ByteArray → Option (List Int)} {w w1 : World} {f : ByteArray → Option Value} (hf : ∀ s, (rd s = none ∧ f s = none) ∨ ∃ l p c, rd s = some l ∧ f s = some (.slice p l.length c) ∧ Sl w (Value.int .i64) p l)
    (k : ByteArray) {l : List Int} {p : Option Addr} {c : Nat} (hM : Mp Value.string okS (fun v => v) w1 b (mset f k (.slice p l.length c))) (ht : w.mapTurned w1 b) (hs : Sl w (Value.int .i64) p l) :
    MapRd b (fun s => if s = k then some l else rd s) w1 := by
  refine ⟨_, hM, fun s => ?_⟩
  by_cases e : s = k
  · exact .inr ⟨l, p, c, by simp [e], by simp [mset, e], hs.turn ht⟩
  · rcases hf s with h | ⟨l', p', c', h1, h2, h3⟩
    · exact .inl ⟨by simp [e, h.1], by simp [mset, e, h.2]⟩
    · exact .inr ⟨l', p', c', by simp [e, h1], by simp [mset, e, h2], h3.turn ht⟩
def rdB (T : Tb) (k : Nat) (s : ByteArray) : Option (List Int) := (baseF T.base s k).map (fun k => [k])
theorem rdB_succ (T : Tb) (k : Nat) (s : ByteArray) : (if s = bget T.base k then some [(k : Int)] else rdB T k s) = rdB T (k + 1) s := by
  unfold rdB; rw [baseF]; split <;> rfl
def rdS (T : Tb) (k : Nat) (s : ByteArray) : Option (List Int) := swF T.swaps s (bOf T s) k
theorem rdS_succ (T : Tb) (k : Nat) (s : ByteArray) : (if s = (sget T.swaps k).wd then some [(sget T.swaps k).i, (sget T.swaps k).j] else rdS T k s) = rdS T (k + 1) s := by
  unfold rdS; rw [swF]

theorem mod_nat {a : Nat} {n : Int} (hn : 1 ≤ n) (h : (a : Int) % n = 0) : a % n.toNat = 0 := by
  obtain ⟨m, rfl⟩ : ∃ m : Nat, n = m := ⟨n.toNat, by omega⟩
  rw [Int.toNat_natCast]; omega
theorem mod_nat_ne {a : Nat} {n : Int} (hn : 1 ≤ n) (h : (a : Int) % n ≠ 0) : a % n.toNat ≠ 0 := by
  obtain ⟨m, rfl⟩ : ∃ m : Nat, n = m := ⟨n.toNat, by omega⟩
  rw [Int.toNat_natCast]; omega
theorem news_sl {w : World} {b off : Nat} {l : List Int} (h : ∀ i (hi : i < l.length), w.cell? ⟨b, off + i, none⟩ = some (.int .i64 l[i])) : ∀ (j : Nat) (u : Value), (l.map (Value.int .i64))[j]? = some u → w.cell? ((⟨b, off, none⟩ : Addr).add j) = some u := by
  intro j u hu
  rw [List.getElem?_map, Option.map_eq_some_iff] at hu
  obtain ⟨x, hx, rfl⟩ := hu
  obtain ⟨hj, rfl⟩ := List.getElem?_eq_some_iff.1 hx
  rw [show ((⟨b, off, none⟩ : Addr).add j) = ⟨b, off + j, none⟩ from by unfold Addr.add; split <;> simp_all]; exact h j hj
theorem MapRd.look_hit {b : Nat} {rd : ByteArray → Option (List Int)} {w : World} (h : MapRd b rd w) (s : ByteArray) (hs : okS s) {l : List Int} (hl : rd s = some l) :
    ∃ p c, (Instr.lookup 74 (.map (some b)) (.string s) true).run Tryz.prog w = .ok (.tuple #[.slice p l.length c, .bool true]) w ∧ Sl w (Value.int .i64) p l := by
  obtain ⟨f, hM, hf⟩ := h
  rcases hf s with h | ⟨l', p, c, h1, h2, h3⟩
  · rw [h.1] at hl; cases hl
  · rw [h1] at hl; cases hl
    refine ⟨p, c, ?_, h3⟩
    have := Mp.look hM keySl Tryz.underlying74 (zeroSlI w) s hs true
    rw [h2] at this; exact this
theorem MapRd.look_miss {b : Nat} {rd : ByteArray → Option (List Int)} {w : World} (h : MapRd b rd w) (s : ByteArray) (hs : okS s) (hl : rd s = none) :
    (Instr.lookup 74 (.map (some b)) (.string s) true).run Tryz.prog w = .ok (.tuple #[.slice none 0 0, .bool false]) w := by
  obtain ⟨f, hM, hf⟩ := h
  rcases hf s with h | ⟨l', p, c, h1, h2, h3⟩
  · have := Mp.look hM keySl Tryz.underlying74 (zeroSlI w) s hs true
    rw [h.2] at this; exact this
  · rw [h1] at hl; cases hl
/-- A slice of numbers, and an error number, in memory of the call's own. -/
def RetSlI (r : List Int) (k : Int) (w : World) (e : Ending) (w' : World) : Prop :=
  ∃ q d, e = .returned (.tuple #[.slice q r.length d, .int .i64 k]) ∧ Sl w' (Value.int .i64) q r ∧ Below w.heap.size w w'
theorem RetSlI.mk {x : List Int × Int} {r' : List Int} {k' : Int} {w w' : World} {q : Option Addr} {d : Nat} (hr : x = (r', k')) (hs : Sl w' (Value.int .i64) q r') (hB : Below w.heap.size w w') :
    RetSlI x.1 x.2 w (.returned (.tuple #[.slice q r'.length d, .int .i64 k'])) w' := by
  subst hr; exact ⟨q, d, rfl, hs, hB⟩
theorem RetSlI.nil {x : List Int × Int} {k' : Int} {w w' : World} {q : Option Addr} {d : Nat} (hr : x = ([], k')) (hB : Below w.heap.size w w') :
    RetSlI x.1 x.2 w (.returned (.tuple #[.slice q 0 d, .int .i64 k'])) w' := by
  subst hr; exact ⟨q, d, rfl, Sl.nil _ _ _, hB⟩
theorem cur_one {a : Nat} {n : Int} (hn : 1 ≤ n) (h : (a : Int) % n = 0) (h0 : a ≠ 0) (h2 : ¬ 2 * n ≤ (a : Int)) : a = n.toNat := by
  have hd := Int.mul_ediv_add_emod (a : Int) n
  rw [h] at hd
  have h1 : 0 ≤ (a : Int) / n := Int.ediv_nonneg (by omega) (by omega)
  by_cases q : (a : Int) / n = 1
  · rw [q] at hd; omega
  · by_cases q0 : (a : Int) / n = 0
    · rw [q0] at hd; omega
    · have : n * 2 ≤ n * ((a : Int) / n) := Int.mul_le_mul_of_nonneg_left (by omega) (by omega)
      omega
def strLen : Value → Nat | .string s => s.size | _ => 0
end Go.Proofs.YtdhkdampdlhdoaaGreat
namespace Go.Proofs.YtdhkdampdlhdoaaGreat
open Go.RowKit Go.Shelf Go.ChangeMaps Go.MapKept Go.Maps
attribute [local go_sem] Oper.semAt_some

/-! ### The words of the swaps, as the map holds them -/
def takF (S : List Sw) (ks : List (Int × Int)) (u : ByteArray) : Option Bool := if ks.any (fun x => decide (swapF S x = some u)) = true then some true else none
theorem takF_nil (S : List Sw) (u : ByteArray) : takF S [] u = none := rfl
theorem takF_snoc {S : List Sw} {ks : List (Int × Int)} {x : Int × Int} {y : ByteArray} (h : swapF S x = some y) (u : ByteArray) : mset (takF S ks) y true u = takF S (ks ++ [x]) u := by
  unfold mset takF
  rw [List.any_append]
  by_cases e : u = y
  · subst e; simp [h]
  · have : decide (swapF S x = some u) = false := decide_eq_false (fun e' => e (by rw [h] at e'; cases e'; rfl))
    rw [List.any_cons, List.any_nil, this, Bool.or_false, Bool.or_false, if_neg e]
theorem swapW_at {T : Tb} (hf : fmd T = true) {s : Sw} (hs : s ∈ T.swaps) : swapW T.swaps s.i s.j = some s.wd := by
  unfold swapW
  cases h : T.swaps.find? (fun x => decide (x.i = s.i) && decide (x.j = s.j)) with
  | none =>
    have := List.find?_eq_none.1 h s hs
    simp at this
  | some x =>
    have hm := List.mem_of_find?_eq_some h
    have hp := List.find?_some h
    simp only [Bool.and_eq_true, decide_eq_true_eq] at hp
    have hss : allB T.swaps.length (sOk T.base.length T.swaps) = true := (fmd_split hf).2.1
    rw [swap_uniq hss hm hs hp.1 hp.2]; rfl
theorem takF_all {T : Tb} (hf : fmd T = true) {ks : List (Int × Int)} (hk : ∀ x y, ok2 x → swapF T.swaps x = some y → x ∈ ks) (u : ByteArray) : (takF T.swaps ks u).getD false = tkn T u := by
  have key : ks.any (fun x => decide (swapF T.swaps x = some u)) = tkn T u := by
    unfold tkn
    rw [Bool.eq_iff_iff, List.any_eq_true, List.any_eq_true]
    constructor
    · rintro ⟨⟨i, j⟩, _, hx⟩
      have hx := of_decide_eq_true hx
      rw [swapF_eq hf] at hx
      obtain ⟨k, hk, _, _, e⟩ := swapW_mem hx
      exact ⟨_, List.getElem_mem hk, eqb_t e⟩
    · rintro ⟨s, hs, he⟩
      have e := eqb_iff.1 he
      have hx : swapF T.swaps (s.i, s.j) = some u := by rw [swapF_eq hf, swapW_at hf hs, e]
      have hin := swaps_in hf hs
      have hN := pre_all (fmd_split hf).1
      exact ⟨(s.i, s.j), hk _ _ ⟨WalkArith.wf_i64 (by simp; omega), WalkArith.wf_i64 (by simp; omega)⟩ hx, decide_eq_true hx⟩
  unfold takF
  rw [key]
  cases tkn T u <;> rfl
/-- The map of what is taken. -/
def TkM (T : Tb) (w : World) (b : Nat) : Prop := ∃ f : ByteArray → Option Bool, Mp Value.string okS Value.bool w b f ∧ ∀ u, (f u).getD false = tkn T u
theorem TkM.same {T : Tb} {w w' : World} {b : Nat} (h : TkM T w b) (hb : w'.heap[b]? = w.heap[b]?) : TkM T w' b := by
  obtain ⟨f, h1, h2⟩ := h
  exact ⟨f, h1.same hb, h2⟩
theorem TkM.look {T : Tb} {w : World} {b : Nat} (h : TkM T w b) (u : ByteArray) (hu : u.size ≤ maxLen) : (Instr.lookup 47 (.map (some b)) (.string u) false).run Tryz.prog w = .ok (.bool (tkn T u)) w := by
  obtain ⟨f, h1, h2⟩ := h
  have := h1.look (t := 47) keySl Tryz.underlying47 (z := .bool false) (by kernel_rfl) u hu false
  rw [← h2 u]
  cases hf : f u <;> rw [hf] at this <;> exact this
theorem TkM.lt {T : Tb} {w : World} {b : Nat} (h : TkM T w b) : b < w.heap.size := by obtain ⟨f, h1, _⟩ := h; exact h1.lt

theorem ownFrom_keepsR {β : Type} (W0 : World) : OwnFrom W0.heap.size (fun (_ : β) W => KeepsOthers W0 W) := fun _ X Y row hs hg hr =>
  ⟨Nat.le_trans hs.size hg.size, fun i o hi ho => by
    have hlt := (Array.getElem?_eq_some_iff.1 hi).1
    exact (hg.block i (Nat.lt_of_lt_of_le hlt hs.size) (fun e => by have := (hr i e.symm).1; omega)).trans (hs.same i o hi ho)⟩
theorem ownFrom_kxR {β : Type} {a : Nat} (W0 : World) : OwnFrom W0.heap.size (fun (_ : β) W => W0.heap.size ≤ W.heap.size ∧ KX a W0.heap.size W0 W) := fun _ X Y row hs hg hr =>
  ⟨Nat.le_trans hs.1 hg.size, fun i h1 h2 => (hg.block i (by have := hs.1; omega) (fun e => by have := (hr i e.symm).1; omega)).trans (hs.2 i h1 h2)⟩
/-! ### Readable up to an input -/
def rdTo (T : Tb) (k : Nat) : Bool := (List.range k).all (fun (i : Nat) => (flw T (i : Int)).all (fun b => !tkn T (bget T.base i ++ b)))
theorem rdTo_succ (T : Tb) (k : Nat) : rdTo T (k + 1) = (rdTo T k && (flw T (k : Int)).all (fun b => !tkn T (bget T.base k ++ b))) := by simp [rdTo, List.range_succ]
theorem rdTo_all (T : Tb) : rdTo T T.base.length = rdbl T := rfl
/-- No block that has come makes a word that is taken. -/
def clrL (T : Tb) (x : ByteArray) (pre : List SubN) : Bool := pre.all (fun u => !tkn T (x ++ u.1))
theorem clr_flw {T : Tb} {x : ByteArray} {i : Int} {ys : List SubN} (h : ys.map (·.1) = flw T i) : (flw T i).all (fun b => !tkn T (x ++ b)) = clrL T x ys := by
  rw [← h]; unfold clrL; rw [List.all_map]; rfl
theorem rd_false {T : Tb} {k : Nat} (hk : k < T.base.length) {u : ByteArray} (hu : u ∈ flw T (k : Int)) (ht : tkn T (bget T.base k ++ u) = true) : rdbl T = false := by
  rw [Bool.eq_false_iff]
  intro h
  have h1 := List.all_eq_true.1 h k (List.mem_range.2 hk)
  have h2 := List.all_eq_true.1 h1 u hu
  rw [ht] at h2; cases h2
def rdmu (T : Tb) (a : Act) : Nat := T.base.length - (intOf (a.tmps.getD 24 undef)).toNat

end Go.Proofs.YtdhkdampdlhdoaaGreat
namespace Go.Proofs.YtdhkdampdlhdoaaGreat
open Go.RowKit Go.Sort Go.Shelf Go.Lib

/-! ### Blocks of one type are kept -/
/-- All blocks of one type, but one, are kept. -/
def KX1 (t : TypeId) (b : Nat) (W W' : World) : Prop := ∀ (i : Nat) (cur : Array Value) (fz : Nat × Nat), i ≠ b → W.heap[i]? = some (.cells cur t fz) → W'.heap[i]? = some (.cells cur t fz)
/-- All blocks of one type are kept. -/
def KX0 (t : TypeId) (W W' : World) : Prop := ∀ (i : Nat) (cur : Array Value) (fz : Nat × Nat), W.heap[i]? = some (.cells cur t fz) → W'.heap[i]? = some (.cells cur t fz)
section
variable {t t' : TypeId} {b : Nat} {X Y Z : World}
theorem KX0.refl (t : TypeId) (X : World) : KX0 t X X := fun _ _ _ h => h
theorem KX0.trans (h : KX0 t X Y) (k : KX0 t Y Z) : KX0 t X Z := fun i c f e => k i c f (h i c f e)
theorem KX1.trans (h : KX1 t b X Y) (k : KX1 t b Y Z) : KX1 t b X Z := fun i c f hn e => k i c f hn (h i c f hn e)
theorem KX0.one (h : KX0 t X Y) (b : Nat) : KX1 t b X Y := fun i c f _ e => h i c f e
theorem KX0.below (h : RowKit.Below X.heap.size X Y) : KX0 t X Y := fun i _ _ e => (h.block i (Array.getElem?_eq_some_iff.1 e).1).trans e
theorem KX0.turn (h : X.mapTurned Y b) : KX0 t X Y := fun i c f e => by
  obtain ⟨es, clock, es', clock', hb, rfl⟩ := h
  by_cases hi : i = b
  · subst hi; rw [hb] at e; cases e
  · exact (ChangeMaps.heap_setBlock_other hb _ hi).trans e
theorem KX0.grown {r : Option Nat} (h : X.grownBy Y r) (hr : ∀ k, r = some k → ∃ cur fz, X.heap[k]? = some (.cells cur t' fz)) (hne : t ≠ t') : KX0 t X Y := fun i c f e =>
  (h.block i (Array.getElem?_eq_some_iff.1 e).1 (fun er => by
    obtain ⟨c', f', e'⟩ := hr i er.symm
    rw [e] at e'; cases e'; exact hne rfl)).trans e
theorem KX0.set {cur : Array Value} {fz : Nat × Nat} (hb : X.heap[b]? = some (.cells cur t' fz)) (k : Nat) (v : Value) (hne : t ≠ t') : KX0 t X (X.setCell ⟨b, k, none⟩ v) := fun i c z e => by
  have hn : i ≠ b := by rintro rfl; rw [hb] at e; cases e; exact hne rfl
  exact (Below.heap_setCell _ _ _ _ hn).trans e
theorem KX1.set (t : TypeId) (b : Nat) (X : World) (k : Nat) (v : Value) : KX1 t b X (X.setCell ⟨b, k, none⟩ v) := fun _ _ _ hn e => (Below.heap_setCell _ _ _ _ hn).trans e
theorem KX0.vrow {l : List Value} (h : KX0 t X Y) (r : VRow X b t l) : VRow Y b t l := h _ _ _ r
theorem KX1.vrow {l : List Value} {i : Nat} (h : KX1 t b X Y) (r : VRow X i t l) (hn : i ≠ b) : VRow Y i t l := h _ _ _ hn r
theorem KX0.own {B n s : Nat} {v : Value} {xs : List Value} (h : KX0 t X Y) (ho : X.ownsRow B t s v n xs) : Y.ownsRow B t s v n xs := by
  refine ⟨ho.1, ho.2.imp id ?_⟩
  rintro ⟨g, cap, cur, e1, e2, e3, e4⟩
  exact ⟨g, cap, cur, e1, e2, h _ _ _ e3, e4⟩
theorem own_typed {B n s : Nat} {v : Value} {xs : List Value} (ho : X.ownsRow B t s v n xs) : ∀ k, v.ownBlock = some k → ∃ cur fz, X.heap[k]? = some (.cells cur t fz) := by
  intro k hk
  rcases ho.2 with ⟨rfl, _⟩ | ⟨g, cap, cur, rfl, _, hg, _⟩
  · cases hk
  · cases hk; exact ⟨_, _, hg⟩
end

/-- All maps are kept. -/
def KXm (W W' : World) : Prop := ∀ (i : Nat) (es : Array MapEntry) (cl : Nat), W.heap[i]? = some (.map es cl) → W'.heap[i]? = some (.map es cl)
section
variable {t' : TypeId} {b : Nat} {X Y Z : World}
theorem KXm.trans (h : KXm X Y) (k : KXm Y Z) : KXm X Z := fun i c f e => k i c f (h i c f e)
theorem KXm.below (h : RowKit.Below X.heap.size X Y) : KXm X Y := fun i _ _ e => (h.block i (Array.getElem?_eq_some_iff.1 e).1).trans e
theorem KXm.grown {r : Option Nat} (h : X.grownBy Y r) (hr : ∀ k, r = some k → ∃ cur fz, X.heap[k]? = some (.cells cur t' fz)) : KXm X Y := fun i c f e =>
  (h.block i (Array.getElem?_eq_some_iff.1 e).1 (fun er => by
    obtain ⟨c', f', e'⟩ := hr i er.symm
    rw [e] at e'; cases e')).trans e
theorem KXm.set {cur : Array Value} {fz : Nat × Nat} (hb : X.heap[b]? = some (.cells cur t' fz)) (k : Nat) (v : Value) : KXm X (X.setCell ⟨b, k, none⟩ v) := fun i c z e => by
  have hn : i ≠ b := by rintro rfl; rw [hb] at e; cases e
  exact (Below.heap_setCell _ _ _ _ hn).trans e
end


/-! ### Lists of numbers in blocks of their type -/
def SlT (w : World) (p : Option Addr) (l : List Int) : Prop := Sl w (Value.int .i64) p l ∧ ∀ b o z, p = some ⟨b, o, z⟩ → ∃ cur fz, w.heap[b]? = some (.cells cur 3 fz)
theorem SlT.keep {w w' : World} {p : Option Addr} {l : List Int} (h : SlT w p l) (k : KX0 3 w w') : SlT w' p l := by
  obtain ⟨h1, h2⟩ := h
  refine ⟨?_, fun b o z e => ?_⟩
  · rcases h1 with h1 | ⟨b, off, rfl, hb, hc⟩
    · exact .inl h1
    · obtain ⟨cur, fz, e⟩ := h2 b off none rfl
      have e' := k _ _ _ e
      exact .inr ⟨b, off, rfl, (Array.getElem?_eq_some_iff.1 e').1, fun i hi => (World.cell?_of_block (w := w) (a := ⟨b, off + i, none⟩) (e'.trans e.symm)).trans (hc i hi)⟩
  · obtain ⟨cur, fz, e⟩ := h2 b o z e
    exact ⟨cur, fz, k _ _ _ e⟩
theorem SlT.below {w w' : World} {p : Option Addr} {l : List Int} (h : SlT w p l) (hB : RowKit.Below w.heap.size w w') : SlT w' p l := h.keep (KX0.below hB)
theorem own_slT {w : World} {B n : Nat} {v : Value} {l : List Int} (h : w.ownsRow B 3 1 v n (l.map (Value.int .i64))) : ∃ p c, v = .slice p l.length c ∧ SlT w p l := by
  obtain ⟨p, c, rfl, hs⟩ := own_sl h
  refine ⟨p, c, rfl, hs, fun b o z e => ?_⟩
  rcases h.2 with ⟨e1, _⟩ | ⟨g, cap, cur, e1, _, hg, _⟩
  · simp only [Value.slice.injEq] at e1; rw [e1.1] at e; cases e
  · simp only [Value.slice.injEq] at e1; rw [e1.1] at e; cases e; exact ⟨_, _, hg⟩
def LsT (l : List Int) (w : World) (e : Ending) (w' : World) : Prop := ∃ q d, e = .returned (.slice q l.length d) ∧ SlT w' q l ∧ RowKit.Below w.heap.size w w'

/-! ### Rows of places -/
abbrev QE := Pl × (Option Addr × Nat)
def qeE (x : QE) : List Value := [.int .i64 x.1.1, .slice x.2.1 x.1.2.length x.2.2]
def catQ (l : List QE) : List Value := l.flatMap qeE
theorem catQ_len (l : List QE) : (catQ l).length = l.length * 2 := by
  induction l with
  | nil => rfl
  | cons x l ih =>
    have e : catQ (x :: l) = qeE x ++ catQ l := rfl
    have e2 : (qeE x).length = 2 := rfl
    rw [e, List.length_append, ih, e2, List.length_cons]; omega
theorem catQ_app (a b : List QE) : catQ (a ++ b) = catQ a ++ catQ b := List.flatMap_append
theorem catQ_get : ∀ (l : List QE) (k : Nat) (h : k < l.length) (j : Nat), j < 2 → (catQ l)[k * 2 + j]? = (qeE l[k])[j]?
  | [], k, h, j, hj => by simp at h
  | x :: l, 0, h, j, hj => by
    show (qeE x ++ catQ l)[0 * 2 + j]? = _
    rw [Nat.zero_mul, Nat.zero_add, List.getElem?_append_left (by show j < 2; exact hj)]; rfl
  | x :: l, k + 1, h, j, hj => by
    show (qeE x ++ catQ l)[(k + 1) * 2 + j]? = _
    rw [List.getElem?_append_right (by show 2 ≤ _; omega), show (k + 1) * 2 + j - (qeE x).length = k * 2 + j by show (k + 1) * 2 + j - 2 = _; omega]
    exact catQ_get l k (by simpa using h) j hj
theorem catQ_one (l : List QE) : ∀ v ∈ catQ l, v.oneCell' = true := by
  intro v hv
  obtain ⟨x, _, hx⟩ := List.mem_flatMap.1 hv
  simp only [qeE, List.mem_cons, List.not_mem_nil, or_false] at hx
  rcases hx with rfl | rfl <;> rfl
theorem ownQ_cell {w : World} {B e n cap g : Nat} {l : List QE} (h : w.ownsRow B e 2 (.slice (some ⟨g, 0, none⟩) n cap) n (catQ l)) (k : Nat) (hk : k < l.length) (j : Nat) (hj : j < 2) : w.cell? ⟨g, k * 2 + j, none⟩ = (qeE l[k])[j]? := by
  have hn : l.length = n := by have := h.1; rw [catQ_len] at this; omega
  rcases h.2 with ⟨e0, _⟩ | ⟨g', cap', cur, e0, hg, hh, hc, hm, hs, ht⟩
  · cases e0
  · cases e0
    rw [← catQ_get l k hk j hj, ← ht]
    have hlt : k * 2 + j < n * 2 := by omega
    simp only [World.cell?, hh]
    rw [List.getElem?_take, if_pos hlt, Array.getElem?_toList]
    simp
theorem ownQ_shape {w : World} {B e n : Nat} {v : Value} {xs : List Value} (h : w.ownsRow B e 2 v n xs) (hn : 0 < n) : ∃ g cap, v = .slice (some ⟨g, 0, none⟩) n cap := by
  rcases h.2 with ⟨rfl, h0⟩ | ⟨g, cap, cur, rfl, _⟩
  · omega
  · exact ⟨g, cap, rfl⟩
/-! ### Places that were seen -/
def okP (p : Pl) : Prop := (-1 ≤ p.1 ∧ p.1 < 16) ∧ (∀ x ∈ p.2, 0 ≤ x ∧ x < 100) ∧ p.2.length ≤ 64
def kP (p : Pl) : Value := .string ⟨(keyB p.1 p.2).toArray⟩
theorem keyP : KeyBy Tryz.prog 9 kP okP where
  law := Maps.string_keyed Tryz.underlying9
  reads := fun a ha => ⟨.string (keyB a.1 a.2), by
    have h1 := keyB_len ha.1 ha.2.1
    have h2 := ha.2.2
    have h3 : (⟨(keyB a.1 a.2).toArray⟩ : ByteArray).size ≤ maxLen := by show (keyB a.1 a.2).toArray.size ≤ maxLen; rw [List.size_toArray]; unfold maxLen; omega
    simp [keyOf, mapKey, kP, Tryz.underlying9]; exact h3⟩
  inj := fun a b ha hb h => by
    obtain ⟨h1, h2⟩ := keyB_inj ha.1 hb.1 ha.2.1 hb.2.1 (by simpa [kP] using h)
    exact Prod.ext h1 h2
theorem zeroBo (w : World) : (zeroValue 4).run Tryz.prog w = .ok (.bool false) w := by kernel_rfl
def seenP (q : List Pl) (p : Pl) : Option Bool := if p ∈ q then some true else none
theorem seenP_snoc (q : List Pl) (x : Pl) (p : Pl) : mset (seenP q) x true p = seenP (q ++ [x]) p := by
  unfold seenP mset
  by_cases h : p = x
  · subst h; simp
  · rw [if_neg h]; simp [h]
theorem seen_look {w : World} {b : Nat} {q : List Pl} (h : Mp kP okP Value.bool w b (seenP q)) {p : Pl} (hp : okP p) :
    (Instr.lookup 47 (.map (some b)) (kP p) false).run Tryz.prog w = .ok (.bool (decide (p ∈ q))) w := by
  have := h.look keyP Tryz.underlying47 (zeroBo w) p hp false
  unfold seenP at this
  by_cases hm : p ∈ q
  · rw [if_pos hm] at this; rw [decide_eq_true hm]; exact this
  · rw [if_neg hm] at this; rw [decide_eq_false hm]; exact this

/-! ### The queue, and what was seen -/
/-- All but three blocks are kept. -/
structure KW (bq ms g : Nat) (W W' : World) : Prop where
  sz : W.heap.size ≤ W'.heap.size
  blk : ∀ i, i < W.heap.size → i ≠ bq → i ≠ ms → i ≠ g → W'.heap[i]? = W.heap[i]?
theorem KW.trans {bq ms g : Nat} {X Y Z : World} (h : KW bq ms g X Y) (k : KW bq ms g Y Z) : KW bq ms g X Z :=
  ⟨Nat.le_trans h.sz k.sz, fun i a b c d => (k.blk i (Nat.lt_of_lt_of_le a h.sz) b c d).trans (h.blk i a b c d)⟩
theorem KW.below {bq ms g : Nat} {X Y : World} (h : RowKit.Below X.heap.size X Y) : KW bq ms g X Y := ⟨h.size, fun i a _ _ _ => h.block i a⟩
theorem KW.turn {bq ms g : Nat} {X Y : World} (h : X.mapTurned Y ms) : KW bq ms g X Y := ⟨h.grown.size, fun i a _ c _ => h.grown.block i a (fun e => c (by cases e; rfl))⟩
theorem KW.grown {bq ms g : Nat} {X Y : World} (h : X.grownBy Y (some g)) : KW bq ms g X Y := ⟨h.size, fun i a _ _ d => h.block i a (fun e => d (by cases e; rfl))⟩
theorem KW.set {bq ms g : Nat} (X : World) (k : Nat) (v : Value) : KW bq ms g X (X.setCell ⟨bq, k, none⟩ v) := ⟨by simp, fun i _ b _ _ => Below.heap_setCell _ _ _ _ b⟩
theorem KW.vrow {bq ms g i : Nat} {t : TypeId} {l : List Value} {W W' : World} (h : KW bq ms g W W') (r : VRow W i t l) (h1 : i ≠ bq) (h2 : i ≠ ms) (h3 : i ≠ g) : VRow W' i t l := (h.blk i r.lt h1 h2 h3).trans r
theorem below_al2 (w : World) (o : Obj) : RowKit.Below w.heap.size w (w.alloc o) := (RowKit.Below.refl _ _).alloc (Nat.le_refl _) o
end Go.Proofs.YtdhkdampdlhdoaaGreat
