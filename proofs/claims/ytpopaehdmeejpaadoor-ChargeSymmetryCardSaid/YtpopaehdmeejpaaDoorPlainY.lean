/-
  Plain Lean, no program in sight: the ranges of a word, of the reversed and of the inverted one.
-/
import Derived.Test.YtpopaehdmeejpaaDoorPlain
import Derived.Lib.MapLaws
import Derived.Lib.TrimAscii
namespace Go.Proofs.YtpopaehdmeejpaaDoor
open Go.RowKit

theorem Hi_spec (v : Nat → Int) : ∀ n, (∀ k, k ≤ n → Su v k ≤ Hi v n) ∧ ∃ k, k ≤ n ∧ Hi v n = Su v k
  | 0 => ⟨fun k hk => by obtain rfl : k = 0 := by omega
                         simp [Su, Hi], 0, by omega, rfl⟩
  | n + 1 => by
    obtain ⟨h1, k, hk, h2⟩ := Hi_spec v n
    have e : Hi v (n + 1) = max (Hi v n) (Su v (n + 1)) := rfl
    refine ⟨fun j hj => ?_, ?_⟩
    · by_cases hj' : j ≤ n
      · have := h1 j hj'; omega
      · obtain rfl : j = n + 1 := by omega
        omega
    · by_cases h : Su v (n + 1) ≤ Hi v n
      · exact ⟨k, by omega, by omega⟩
      · exact ⟨n + 1, by omega, by omega⟩
theorem Lo_spec (v : Nat → Int) : ∀ n, (∀ k, k ≤ n → Lo v n ≤ Su v k) ∧ ∃ k, k ≤ n ∧ Lo v n = Su v k
  | 0 => ⟨fun k hk => by obtain rfl : k = 0 := by omega
                         simp [Su, Lo], 0, by omega, rfl⟩
  | n + 1 => by
    obtain ⟨h1, k, hk, h2⟩ := Lo_spec v n
    have e : Lo v (n + 1) = min (Lo v n) (Su v (n + 1)) := rfl
    refine ⟨fun j hj => ?_, ?_⟩
    · by_cases hj' : j ≤ n
      · have := h1 j hj'; omega
      · obtain rfl : j = n + 1 := by omega
        omega
    · by_cases h : Lo v n ≤ Su v (n + 1)
      · exact ⟨k, by omega, by omega⟩
      · exact ⟨n + 1, by omega, by omega⟩
theorem Su_neg {v v' : Nat → Int} {n : Nat} (h : ∀ i, i < n → v' i = -v i) : ∀ k, k ≤ n → Su v' k = -Su v k
  | 0, _ => rfl
  | k + 1, hk => by
    have h1 := Su_neg h k (by omega)
    have h2 := h k (by omega)
    simp only [Su]; omega
theorem range_neg {v v' : Nat → Int} {n : Nat} (h : ∀ i, i < n → v' i = -v i) : Hi v' n - Lo v' n = Hi v n - Lo v n := by
  obtain ⟨a1, a, ha, a2⟩ := Hi_spec v n
  obtain ⟨b1, b, hb, b2⟩ := Lo_spec v n
  obtain ⟨c1, c, hc, c2⟩ := Hi_spec v' n
  obtain ⟨d1, d, hd, d2⟩ := Lo_spec v' n
  have e1 := Su_neg h a ha; have e2 := Su_neg h b hb; have e3 := Su_neg h c hc; have e4 := Su_neg h d hd
  have f1 := c1 b hb; have f2 := d1 a ha; have f3 := b1 c hc; have f4 := a1 d hd
  omega
theorem Su_rev {v v' : Nat → Int} {n : Nat} (h : ∀ i, i < n → v' i = v (n - 1 - i)) : ∀ k, k ≤ n → Su v' k = Su v n - Su v (n - k)
  | 0, _ => by simp [Su]
  | k + 1, hk => by
    have h1 := Su_rev h k (by omega)
    have h2 := h k (by omega)
    have h3 : Su v (n - k) = Su v (n - (k + 1)) + v (n - 1 - k) := by
      rw [show n - k = (n - 1 - k) + 1 by omega, show n - (k + 1) = n - 1 - k by omega]; rfl
    simp only [Su]; omega
theorem range_rev {v v' : Nat → Int} {n : Nat} (h : ∀ i, i < n → v' i = v (n - 1 - i)) : Hi v' n - Lo v' n = Hi v n - Lo v n := by
  obtain ⟨a1, a, ha, a2⟩ := Hi_spec v n
  obtain ⟨b1, b, hb, b2⟩ := Lo_spec v n
  obtain ⟨c1, c, hc, c2⟩ := Hi_spec v' n
  obtain ⟨d1, d, hd, d2⟩ := Lo_spec v' n
  have e1 := Su_rev h (n - a) (by omega); have e2 := Su_rev h (n - b) (by omega); have e3 := Su_rev h c hc; have e4 := Su_rev h d hd
  rw [show n - (n - a) = a by omega] at e1
  rw [show n - (n - b) = b by omega] at e2
  have f1 := c1 (n - b) (by omega); have f2 := d1 (n - a) (by omega); have f3 := b1 (n - c) (by omega); have f4 := a1 (n - d) (by omega)
  omega
theorem size_toList (s : ByteArray) : s.data.toList.length = s.size := by simp
theorem byteAt_rev {s s' : ByteArray} (hs : s'.data.toList = s.data.toList.reverse) {i : Nat} (hi : i < s.size) : byteAt s' i = byteAt s (s.size - 1 - i) := by
  unfold byteAt
  rw [hs, List.getElem?_reverse (by rw [size_toList]; exact hi), size_toList]
theorem size_rev {s s' : ByteArray} (hs : s'.data.toList = s.data.toList.reverse) : s'.size = s.size := by
  rw [← size_toList s', ← size_toList s, hs, List.length_reverse]
/-- The range of the reversed word. -/
theorem wid_rev (t : Bool) {s s' : ByteArray} (hs : s'.data.toList = s.data.toList.reverse) : wid t s' = wid t s := by
  unfold wid
  rw [size_rev hs]
  cases t
  · exact range_rev (fun i hi => by unfold vAt; rw [byteAt_rev hs hi]; rfl)
  · by_cases hp : s.size % 2 = 1
    · refine range_rev (fun i hi => ?_)
      unfold vAt
      rw [byteAt_rev hs hi]
      have : decide (i % 2 = 1) = decide ((s.size - 1 - i) % 2 = 1) := decide_eq_decide.2 (by omega)
      rw [this]
    · have h1 : Hi (vAt true s') s.size - Lo (vAt true s') s.size = Hi (fun i => -vAt true s i) s.size - Lo (fun i => -vAt true s i) s.size := by
        refine range_rev (fun i hi => ?_)
        unfold vAt
        rw [byteAt_rev hs hi]
        by_cases h : i % 2 = 1
        · have h2 : ¬ ((s.size - 1 - i) % 2 = 1) := by omega
          simp [h, h2]
        · have h2 : (s.size - 1 - i) % 2 = 1 := by omega
          simp [h, h2]
      rw [h1]
      exact range_neg (fun i _ => rfl)
theorem okc2_tab : ∀ c, c < 256 → okc 2 (UInt8.ofNat c) = true → c = 48 ∨ c = 49 := by decide +kernel
theorem okc2 {c : UInt8} (h : okc 2 c = true) : c = 48 ∨ c = 49 := by
  have h1 : UInt8.ofNat c.toNat = c := by simp
  rw [← h1] at h
  rcases okc2_tab c.toNat c.toNat_lt h with e | e <;> rw [e] at h1 <;> rw [← h1]
  · exact .inl rfl
  · exact .inr rfl
theorem okw_rev {l : List UInt8} (h : okw 2 l = true) : okw 2 l.reverse = true := by
  unfold okw at *; rw [List.all_reverse]; exact h
theorem okw_turn {l : List UInt8} (h : okw 2 l = true) : okw 2 (l.map (· ^^^ 1)) = true := by
  unfold okw at *
  rw [List.all_eq_true] at *
  intro c hc
  obtain ⟨x, hx, rfl⟩ := List.mem_map.1 hc
  rcases okc2 (h x hx) with rfl | rfl <;> decide
theorem size_turn {s s' : ByteArray} (hs : s'.data.toList = s.data.toList.map (· ^^^ 1)) : s'.size = s.size := by
  rw [← size_toList s', ← size_toList s, hs, List.length_map]
/-- The range of the inverted word. -/
theorem wid_turn (t : Bool) {s s' : ByteArray} (hs : s'.data.toList = s.data.toList.map (· ^^^ 1)) (hb : okw 2 s.data.toList = true) : wid t s' = wid t s := by
  unfold wid
  rw [size_turn hs]
  refine range_neg (fun i hi => ?_)
  have hv : val1 (byteAt s' i) = -val1 (byteAt s i) := by
    have hi' : i < s.data.toList.length := by rw [size_toList]; exact hi
    unfold byteAt
    rw [hs, List.getElem?_map, List.getElem?_eq_getElem hi']
    have hx := List.all_eq_true.1 hb _ (List.getElem_mem hi')
    generalize s.data.toList[i] = c at *
    rcases okc2 hx with rfl | rfl <;> decide
  unfold vAt
  rw [hv]
  split <;> rfl
theorem map_turn {f : Int → Int} (h0 : f 48 = 49) (h1 : f 49 = 48) : ∀ {l : List UInt8}, okw 2 l = true → Lib.mapD f l = l.map (· ^^^ 1)
  | [], _ => rfl
  | c :: l, h => by
    have hh : okc 2 c = true ∧ okw 2 l = true := by simpa [okw] using h
    have ih := map_turn h0 h1 hh.2
    rcases okc2 hh.1 with rfl | rfl
    · rw [Lib.mapD_step f _ (by simp), Lib.decodeL_ascii 48 l (by decide), List.drop_succ_cons, List.drop_zero, ih]
      show (if 0 ≤ f 48 then Lib.encodeRune (f 48) else []) ++ _ = _
      rw [h0]; rfl
    · rw [Lib.mapD_step f _ (by simp), Lib.decodeL_ascii 49 l (by decide), List.drop_succ_cons, List.drop_zero, ih]
      show (if 0 ≤ f 49 then Lib.encodeRune (f 49) else []) ++ _ = _
      rw [h1]; rfl
theorem wchk_bin {l : List UInt8} (h : wchk 2 l = 0) : okw 2 l = true ∧ l.length ≤ 65536 := by
  unfold wchk at h
  rw [if_neg (by omega)] at h
  split at h
  · simp at h
  · split at h
    · exact ⟨by assumption, by omega⟩
    · simp at h
theorem wchk_mk {l : List UInt8} (h : okw 2 l = true) (hl : l.length ≤ 65536) : wchk 2 l = 0 := wchk_ok 2 l (by omega) (by omega) hl h
/-- What Valid and NullValid answer of the reversed word. -/
theorem vld_rev (t : Bool) (top n : Int) {s s' : ByteArray} (h : wchk 2 s.data.toList = 0) (hs : s'.data.toList = s.data.toList.reverse) : vld t top n s' = vld t top n s := by
  have hb := wchk_bin h
  have h' : wchk 2 s'.data.toList = 0 := by rw [hs]; exact wchk_mk (okw_rev hb.1) (by rw [List.length_reverse]; exact hb.2)
  unfold vld
  rw [h, h', wid_rev t hs]
theorem vld_turn (t : Bool) (top n : Int) {s s' : ByteArray} (h : wchk 2 s.data.toList = 0) (hs : s'.data.toList = s.data.toList.map (· ^^^ 1)) : vld t top n s' = vld t top n s := by
  have hb := wchk_bin h
  have h' : wchk 2 s'.data.toList = 0 := by rw [hs]; exact wchk_mk (okw_turn hb.1) (by rw [List.length_map]; exact hb.2)
  unfold vld
  rw [h, h', wid_turn t hs hb.1]
end Go.Proofs.YtpopaehdmeejpaaDoor
